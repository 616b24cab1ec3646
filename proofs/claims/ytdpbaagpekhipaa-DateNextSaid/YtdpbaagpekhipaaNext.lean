/- DateNext's walk: called with any number, the law returns true and turns nothing that was there. No condition. -/
import Derived.Test.YtdpbaagpekhipaaDays
open Go Go.RowKit Go.Proofs.YtdpbaagpekhipaaW.PrintWords Go.Proofs.YtdpbaagpekhipaaW.PrintLast
set_option linter.unusedVariables false
namespace Go.Proofs.Ytdpbaagpekhipaa.PDateDays
set_option maxHeartbeats 1000000 in
set_option maxRecDepth 100000 in
theorem next_in (n y m d a b c v x : Int) (w : World) (H1 : -719162 ≤ n) (H2 : n < 2932896)
    (e0 : Aside0 (missivelaw10_days.f 1 = some true)) (e1 : Aside0 (date_Civil.f n = some (y, m, d, 0))) (e2 : Aside0 (date_Civil.f (n + 1) = some (a, b, c, 0)))
    (e3 : Aside0 (date_Weekday.f n = some (v, 0))) (e4 : Aside0 (date_Weekday.f (n + 1) = some (x, 0)))
    (y1 : 1 ≤ y) (y2 : y ≤ 9999) (m1 : 1 ≤ m) (m2 : m ≤ 12) (d1 : 1 ≤ d) (d2 : d ≤ 31) (a1 : 1 ≤ a) (a2 : a ≤ 9999) (b1 : 1 ≤ b) (b2 : b ≤ 12) (c1 : 1 ≤ c) (c2 : c ≤ 31)
    (v1 : 0 ≤ v) (v2 : v ≤ 6) (x1 : 0 ≤ x) (x2 : x ≤ 6)
    (ks : (a ≤ y ∧ y ≤ a ∧ b ≤ m ∧ m ≤ b ∧ c ≤ d + 1 ∧ d + 1 ≤ c) ∨ (a ≤ y ∧ y ≤ a ∧ b ≤ m + 1 ∧ m + 1 ≤ b ∧ c ≤ 1 ∧ 28 ≤ d) ∨ (a ≤ y + 1 ∧ y + 1 ≤ a ∧ 12 ≤ m ∧ b ≤ 1 ∧ 31 ≤ d ∧ c ≤ 1))
    (kv : (x ≤ v + 1 ∧ v + 1 ≤ x) ∨ (6 ≤ v ∧ x ≤ 0)) :
    Calls Try.prog 4 #[.int .i64 n] w fun e w' => e = .returned (.bool true) ∧ Drawn0 w w' := by
  rcases ks with ⟨k1, k2, k3, k4, k5, k6⟩ | ⟨k1, k2, k3, k4, k5, k6⟩ | ⟨k1, k2, k3, k4, k5, k6⟩
  all_goals rcases kv with ⟨g1, g2⟩ | ⟨g1, g2⟩
  all_goals
    go_enter Try.func4, Try.ntmps4
    go_wp2_with (first | (go_at_call 11; (with_reducible refine (missivelaw10_days.calls 1 true _ e0.out).mono ?_); rintro e w' ⟨rfl, ⟨nd, rfl⟩⟩) | (go_at_call 7; first | ((with_reducible refine (date_Civil.calls n y m d 0 _ e1.out).mono ?_); rintro e w' ⟨rfl, ⟨nd, rfl⟩⟩) | ((with_reducible refine (date_Civil.calls (n + 1) a b c 0 _ e2.out).mono ?_); rintro e w' ⟨rfl, ⟨nd, rfl⟩⟩)) | (go_at_call 9; first | ((with_reducible refine (date_Weekday.calls n v 0 _ e3.out).mono ?_); rintro e w' ⟨rfl, ⟨nd, rfl⟩⟩) | ((with_reducible refine (date_Weekday.calls (n + 1) x 0 _ e4.out).mono ?_); rintro e w' ⟨rfl, ⟨nd, rfl⟩⟩)))
    go_ret
    exact ⟨by first | rfl | (simp; done) | (simp; omega) | (simp [*]; done), by repeat (first | exact Drawn0.refl _ | apply Drawn0.step)⟩
set_option maxHeartbeats 1000000 in
set_option maxRecDepth 100000 in
theorem next_out (n : Int) (w : World) (e0 : Aside0 (missivelaw10_days.f 1 = some true)) (e1 : Aside0 (date_Civil.f n = some (0, 0, 0, 1))) :
    Calls Try.prog 4 #[.int .i64 n] w fun e w' => e = .returned (.bool true) ∧ Drawn0 w w' := by
  go_enter Try.func4, Try.ntmps4
  go_wp2_with (first | (go_at_call 11; (with_reducible refine (missivelaw10_days.calls 1 true _ e0.out).mono ?_); rintro e w' ⟨rfl, ⟨nd, rfl⟩⟩) | (go_at_call 7; (with_reducible refine (date_Civil.calls n 0 0 0 1 _ e1.out).mono ?_); rintro e w' ⟨rfl, ⟨nd, rfl⟩⟩))
  go_ret
  exact ⟨by first | rfl | (simp; done) | (simp [*]; done), by repeat (first | exact Drawn0.refl _ | apply Drawn0.step)⟩
set_option maxHeartbeats 1000000 in
set_option maxRecDepth 100000 in
theorem next_last (w : World) (e0 : Aside0 (missivelaw10_days.f 1 = some true)) (e1 : Aside0 (date_Civil.f 2932896 = some (9999, 12, 31, 0))) :
    Calls Try.prog 4 #[.int .i64 2932896] w fun e w' => e = .returned (.bool true) ∧ Drawn0 w w' := by
  go_enter Try.func4, Try.ntmps4
  go_wp2_with (first | (go_at_call 11; (with_reducible refine (missivelaw10_days.calls 1 true _ e0.out).mono ?_); rintro e w' ⟨rfl, ⟨nd, rfl⟩⟩) | (go_at_call 7; (with_reducible refine (date_Civil.calls 2932896 9999 12 31 0 _ e1.out).mono ?_); rintro e w' ⟨rfl, ⟨nd, rfl⟩⟩))
  go_ret
  exact ⟨by first | rfl | (simp; done) | (simp [*]; done), by repeat (first | exact Drawn0.refl _ | apply Drawn0.step)⟩
theorem next_walk (n : Int) (w : World) : Calls Try.prog 4 #[.int .i64 n] w fun e w' => e = .returned (.bool true) ∧ Below w.heap.size w w' := by
  have e0 := Aside0.mk (days_right 0)
  have all : Calls Try.prog 4 #[.int .i64 n] w fun e w' => e = .returned (.bool true) ∧ Drawn0 w w' := by
    by_cases g : -719162 ≤ n ∧ n ≤ 2932896
    · by_cases l : n = 2932896
      · subst l
        exact next_last w e0 (Aside0.mk (by decide +kernel))
      · obtain ⟨y, m, d, a, b, c, f1, f2, h⟩ := next_right n g.1 (by omega)
        obtain ⟨y1, y2, m1, m2, d1, d2, a1, a2, b1, b2, c1, c2, ks⟩ := h
        refine next_in n y m d a b c ((n + 719163) % 7) ((n + 1 + 719163) % 7) w g.1 (by omega) e0 (Aside0.mk f1) (Aside0.mk f2) (Aside0.mk (weekday_right n g.1 g.2)) (Aside0.mk (weekday_right (n + 1) (by omega) (by omega)))
          y1 y2 m1 m2 d1 d2 a1 a2 b1 b2 c1 c2 (by omega) (by omega) (by omega) (by omega) (by omega) (by omega)
    · obtain ⟨r, e, hr⟩ := Civil_right n
      have := hr.2 g
      subst this
      exact next_out n w e0 (Aside0.mk e)
  refine all.mono fun e w' ⟨he, hd⟩ => ⟨he, hd.below⟩
end Go.Proofs.Ytdpbaagpekhipaa.PDateDays
