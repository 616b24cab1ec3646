/- missiveref10.ParseTime: a client's time by the document. Condition: the zone's hours are not astronomic. -/
import Derived.Test.YtdpbaagpekhipaaGreatDoorKZRefTimeA
import Derived.Test.YtdpbaagpekhipaaGreatDoorKZRefTimeF
namespace Go.Proofs.YtdpbaagpekhipaaGreatDoor
open Go.RowKit Go.Proofs.YtdpbaagpekhipaaGreatDoorW.PrintWords Go.Proofs.YtdpbaagpekhipaaGreatDoorW.PrintLast
open PAll
set_option linter.unusedVariables false
set_option linter.unusedSimpArgs false
set_option maxHeartbeats 1000000 in
theorem rt_short (s : ByteArray) (w : World) (hs : ¬ s.size = 26) (hs2 : s.size ≤ 2000000) :
    Calls Tryz.prog 15 #[.string s] w fun e w' => e = .returned (.tuple #[.agg #[.int .i64 0, .int .i64 0, .int .i64 0], .int .i64 7]) ∧ Below w.heap.size w w' := by
  have e26 : ((s.size : Int) != 26) = true := by simp; omega
  have HW := Aside0.mk (RW.start w)
  go_enter Tryz.func15, Tryz.ntmps15
  go_wp2_with fail
  obtain ⟨q0, q1, q2⟩ := blk3 HW.out.1 (.int .i64 0) (.int .i64 0) (.int .i64 0)
  refine bodyPost_ret (v := .tuple #[.agg #[.int .i64 0, .int .i64 0, .int .i64 0], .int .i64 7]) (by simp [results, Tryz.results15, go_sem, q0, q1, q2]) rfl ⟨rfl, ?_⟩
  have hb := HW.out.2
  repeat (first | exact hb | refine Below.setCell ?_ (by simp; try omega) _)
set_option linter.unusedSimpArgs false
set_option maxHeartbeats 1000000 in
theorem missiveref10_ParseTime.calls (a0 : ByteArray) (v0 v1 v2 v3 : Int) (w : World) (h : missiveref10_ParseTime.f a0 = some (v0, v1, v2, v3)) :
    Calls Tryz.prog 15 #[.string a0] w fun e w' => e = .returned (.tuple #[.agg #[.int .i64 v0, .int .i64 v1, .int .i64 v2], .int .i64 v3]) ∧ Below w.heap.size w w' := by
  unfold missiveref10_ParseTime.f at h
  by_cases h1 : a0.size ≤ 2000000
  · rw [if_pos h1] at h
    by_cases h2 : a0.size = 26
    · rw [if_pos h2] at h
      obtain ⟨⟨n, why⟩, e0, h⟩ := Option.bind_eq_some_iff.mp h
      obtain ⟨hh, e1, h⟩ := Option.bind_eq_some_iff.mp h
      obtain ⟨m, e2, h⟩ := Option.bind_eq_some_iff.mp h
      obtain ⟨x, e3, h⟩ := Option.bind_eq_some_iff.mp h
      obtain ⟨zh, e4, h⟩ := Option.bind_eq_some_iff.mp h
      obtain ⟨zm, e5, h⟩ := Option.bind_eq_some_iff.mp h
      by_cases hz : zh ≤ 1000000
      · rw [if_pos hz] at h
        have hP : Aside0 (∀ W, RW w W → Calls Tryz.prog 8 #[.string (rtx a0)] W fun e W' => e = .returned (.tuple #[.int .i64 n, .int .i64 why]) ∧ RW w W') :=
          ⟨fun W hW => (missiveref10_Parse.calls 60 _ _ _ W e0).mono fun e W' ⟨he, hb⟩ => ⟨he, hW.below hb⟩⟩
        have hR1 : Aside0 (rtOk a0 why hh m x zh zm → (Value.tuple #[.agg #[.int .i64 v0, .int .i64 v1, .int .i64 v2], .int .i64 v3]) = .tuple #[.agg #[.int .i64 n, .int .i64 (3600 * hh + 60 * m + x), .int .i64 (if bt a0 21 = 45 then -(60 * zh + zm) else 60 * zh + zm)], .int .i64 0]) := by
          refine ⟨fun hk => ?_⟩
          rw [if_pos hk] at h
          simp only [Option.some.injEq, Prod.mk.injEq] at h
          rw [← h.1, ← h.2.1, ← h.2.2.1, ← h.2.2.2]
        have hR2 : Aside0 (¬ rtOk a0 why hh m x zh zm → (Value.tuple #[.agg #[.int .i64 v0, .int .i64 v1, .int .i64 v2], .int .i64 v3]) = .tuple #[.agg #[.int .i64 0, .int .i64 0, .int .i64 0], .int .i64 7]) := by
          refine ⟨fun hk => ?_⟩
          rw [if_neg hk] at h
          simp only [Option.some.injEq, Prod.mk.injEq] at h
          rw [← h.1, ← h.2.1, ← h.2.2.1, ← h.2.2.2]
        exact rt_all a0 w n why hh m x zh zm _ h2 hz hP ⟨fun W => missiveref10_digits.calls 60 _ _ _ _ W e1⟩ ⟨fun W => missiveref10_digits.calls 60 _ _ _ _ W e2⟩ ⟨fun W => missiveref10_digits.calls 60 _ _ _ _ W e3⟩ ⟨fun W => missiveref10_digits.calls 60 _ _ _ _ W e4⟩ ⟨fun W => missiveref10_digits.calls 60 _ _ _ _ W e5⟩ hR1 hR2
      · rw [if_neg hz] at h
        exact absurd h (by simp)
    · rw [if_neg h2] at h
      simp only [Option.some.injEq, Prod.mk.injEq] at h
      rw [← h.1, ← h.2.1, ← h.2.2.1, ← h.2.2.2]
      exact rt_short a0 w h2 h1
  · rw [if_neg h1] at h
    exact absurd h (by simp)
end Go.Proofs.YtdpbaagpekhipaaGreatDoor

