/- Each printed function's call comes to what its plain Lean function says (a program of this session, made out of the kit's print, wrote these lines). Conditions: what each theorem names. -/
import Derived.Test.YtdpbaagpekhipaaGreatDoorKZPAllx0
import Derived.Test.YtdpbaagpekhipaaGreatDoorKZPAllx2
import Derived.Test.YtdpbaagpekhipaaGreatDoorKZPAllx5
import Derived.Test.YtdpbaagpekhipaaGreatDoorKZPAllx6
namespace Go.Proofs.YtdpbaagpekhipaaGreatDoor.PAll
open Go.RowKit Go.Proofs.YtdpbaagpekhipaaGreatDoorW.PrintWords Go.Proofs.YtdpbaagpekhipaaGreatDoorW.PrintLast Go.Proofs.YtdpbaagpekhipaaGreatDoorW.PrintMore
attribute [local go_sem] max2_int min2_int max_two min_two max_three min_three max_four min_four   -- for this text's walks alone
set_option linter.unusedVariables false
set_option linter.unusedSimpArgs false

mutual
def missiveref10_Parse.j0 : Nat → ByteArray → Bool → Option (Int × Int)
  | 0, _, _ => none
  | k + 1, x0, x17 => if x17 = true then (some (0, 7)) else (if 0 ≤ (wrap64 ((x0.size : Int) - 9)) then (if (wrap64 ((x0.size : Int) - 9)) ≤ (x0.size : Int) then ((missiveref10_digits.f k (x0.extract 0 ((wrap64 ((x0.size : Int) - 9)) : Int).toNat) 1 2).bind fun t158 => (if 0 ≤ (wrap64 ((wrap64 ((x0.size : Int) - 9)) + 1)) then (if (wrap64 ((wrap64 ((x0.size : Int) - 9)) + 1)) ≤ (wrap64 ((wrap64 ((x0.size : Int) - 9)) + 4)) then (if (wrap64 ((wrap64 ((x0.size : Int) - 9)) + 4)) ≤ (x0.size : Int) then ((missiveref10_month.f k (x0.extract ((wrap64 ((wrap64 ((x0.size : Int) - 9)) + 1)) : Int).toNat ((wrap64 ((wrap64 ((x0.size : Int) - 9)) + 4)) : Int).toNat)).bind fun t159 => (if 0 ≤ (wrap64 ((wrap64 ((x0.size : Int) - 9)) + 5)) then (if (wrap64 ((wrap64 ((x0.size : Int) - 9)) + 5)) ≤ (x0.size : Int) then ((missiveref10_digits.f k (x0.extract ((wrap64 ((wrap64 ((x0.size : Int) - 9)) + 5)) : Int).toNat x0.size) 4 4).bind fun t160 => (if (wrap64 ((x0.size : Int) - 9)) < (x0.size : Int) then (if (bt x0 (wrap64 ((x0.size : Int) - 9))) = 45 then (if 0 ≤ (wrap64 ((wrap64 ((x0.size : Int) - 9)) + 4)) then (if (wrap64 ((wrap64 ((x0.size : Int) - 9)) + 4)) < (x0.size : Int) then (if (bt x0 (wrap64 ((wrap64 ((x0.size : Int) - 9)) + 4))) = 45 then (if (wrap64 ((x0.size : Int) - 9)) = 2 then (if 0 < (x0.size : Int) then (missiveref10_Parse.j1 k t158 t159 t160 ((bt x0 0) == 48)) else (none)) else (missiveref10_Parse.j1 k t158 t159 t160 false)) else (missiveref10_Parse.j1 k t158 t159 t160 true)) else (none)) else (none)) else (missiveref10_Parse.j1 k t158 t159 t160 true)) else (none))) else (none)) else (none))) else (none)) else (none)) else (none))) else (none)) else (none))
def missiveref10_Parse.j1 : Nat → Int → Int → Int → Bool → Option (Int × Int)
  | 0, _, _, _, _ => none
  | k + 1, x5, x6, x7, x56 => if x56 = true then (some (0, 7)) else ((missiveref10_Day.f k x7 x6 x5).bind fun bt161 => (if bt161.2 = 0 then (some (bt161.1, 0)) else (some (0, 7))))
end
def missiveref10_Parse.f (k : Nat) (a0 : ByteArray) : Option (Int × Int) := if (a0.size : Int) < 10 then (missiveref10_Parse.j0 k a0 true) else (missiveref10_Parse.j0 k a0 (decide ((a0.size : Int) > 11)))
theorem missiveref10_Parse.mono_l : ∀ k, (∀ y0 y1, LeO (missiveref10_Parse.j0 k y0 y1) (missiveref10_Parse.j0 (k + 1) y0 y1)) ∧ (∀ y0 y1 y2 y3, LeO (missiveref10_Parse.j1 k y0 y1 y2 y3) (missiveref10_Parse.j1 (k + 1) y0 y1 y2 y3))
  | 0 => ⟨fun _ _ r h => by simp [missiveref10_Parse.j0] at h, fun _ _ _ _ r h => by simp [missiveref10_Parse.j1] at h⟩
  | k + 1 => by
    obtain ⟨ih0, ih1⟩ := missiveref10_Parse.mono_l k
    refine ⟨?_, ?_⟩
    · intro y0 y1
      unfold missiveref10_Parse.j0
      repeat' first
      | (with_reducible exact ih0 _ _)
      | (with_reducible exact ih1 _ _ _ _)
      | (with_reducible exact missiveref10_Day.mono _ _ _ _)
      | (with_reducible exact missiveref10_digits.mono _ _ _ _)
      | (with_reducible exact missiveref10_month.mono _ _)
      | (with_reducible exact LeO.refl _)
      | (with_reducible exact LeO.none _)
      | (with_reducible refine LeO.ite ?_ ?_)
      | (with_reducible refine LeO.bind ?_ (fun _ => ?_))
      | exact ih0 _ _
      | exact ih1 _ _ _ _
      | exact missiveref10_Day.mono _ _ _ _
      | exact missiveref10_digits.mono _ _ _ _
      | exact missiveref10_month.mono _ _
      | exact LeO.none _
      | refine LeO.ite ?_ ?_
      | refine LeO.bind ?_ (fun _ => ?_)
    · intro y0 y1 y2 y3
      unfold missiveref10_Parse.j1
      repeat' first
      | (with_reducible exact ih0 _ _)
      | (with_reducible exact ih1 _ _ _ _)
      | (with_reducible exact missiveref10_Day.mono _ _ _ _)
      | (with_reducible exact missiveref10_digits.mono _ _ _ _)
      | (with_reducible exact missiveref10_month.mono _ _)
      | (with_reducible exact LeO.refl _)
      | (with_reducible exact LeO.none _)
      | (with_reducible refine LeO.ite ?_ ?_)
      | (with_reducible refine LeO.bind ?_ (fun _ => ?_))
      | exact ih0 _ _
      | exact ih1 _ _ _ _
      | exact missiveref10_Day.mono _ _ _ _
      | exact missiveref10_digits.mono _ _ _ _
      | exact missiveref10_month.mono _ _
      | exact LeO.none _
      | refine LeO.ite ?_ ?_
      | refine LeO.bind ?_ (fun _ => ?_)
theorem missiveref10_Parse.mono : ∀ a0 k, LeO (missiveref10_Parse.f k a0) (missiveref10_Parse.f (k + 1) a0) := by
  intro a0 k
  obtain ⟨ih0, ih1⟩ := missiveref10_Parse.mono_l k
  unfold missiveref10_Parse.f
  repeat' first
      | (with_reducible exact ih0 _ _)
      | (with_reducible exact ih1 _ _ _ _)
      | (with_reducible exact missiveref10_Day.mono _ _ _ _)
      | (with_reducible exact missiveref10_digits.mono _ _ _ _)
      | (with_reducible exact missiveref10_month.mono _ _)
      | (with_reducible exact LeO.refl _)
      | (with_reducible exact LeO.none _)
      | (with_reducible refine LeO.ite ?_ ?_)
      | (with_reducible refine LeO.bind ?_ (fun _ => ?_))
      | exact ih0 _ _
      | exact ih1 _ _ _ _
      | exact missiveref10_Day.mono _ _ _ _
      | exact missiveref10_digits.mono _ _ _ _
      | exact missiveref10_month.mono _ _
      | exact LeO.none _
      | refine LeO.ite ?_ ?_
      | refine LeO.bind ?_ (fun _ => ?_)
def missiveref10_Parse.T4 : Bool × List (List Nat × List Nat) := (true, [([], []), ([], []), ([0, 1], [0, 1]), ([2], [2]), ([], []), ([], []), ([5], [5]), ([], []), ([7], [7]), ([4, 6, 8], [4, 6, 8]), ([9, 3], [9]), ([], []), ([], []), ([12], [12]), ([11, 13], [11, 13]), ([14, 10], [14]), ([3, 15, 0, 1, 2, 3], [3]), ([10, 16, 0, 1, 2, 3, 4, 5, 6, 7, 8, 9, 10, 16], [10]), ([15, 17, 0, 1, 2, 3, 4, 5, 6, 7, 8, 9, 10, 11, 12, 13, 14, 15, 16, 17], [15])])
def missiveref10_Parse.B4 : List Nat := [0, 0, 3, 7, 0, 0, 32, 0, 128, 496, 1023, 0, 0, 4096, 14336, 32767, 65535, 131071, 262143]
theorem missiveref10_Parse.tab4 : rtab .any (opsOf Tryz.f8 4) = missiveref10_Parse.T4 := by kernel_rfl
theorem missiveref10_Parse.bits4 : waitsOk missiveref10_Parse.T4.2 missiveref10_Parse.B4 = true := by kernel_rfl
set_option maxHeartbeats 8000000 in
set_option maxRecDepth 100000 in
theorem missiveref10_Parse.calls (k : Nat) (a0 : ByteArray) (r1 : Int) (r2 : Int) (w : World) (h : missiveref10_Parse.f k a0 = some (r1, r2)) :
    Calls Tryz.prog 8 #[.string a0] w fun e w' => e = .returned (.tuple #[.int .i64 r1, .int .i64 r2]) ∧ Below w.heap.size w w' := by
  have HB := Aside0.mk (Below.refl w.heap.size w)
  have H : (if (a0.size : Int) < 10 then (missiveref10_Parse.j0 k a0 true) else (missiveref10_Parse.j0 k a0 (decide ((a0.size : Int) > 11)))) = some (r1, r2) := h
  clear h
  have HC2 := Aside0.mk H
  clear H
  go_enter Tryz.func8, Tryz.ntmps8
  go_upto_region 1 with (fail)
  go_cut [17] (fun v17 wc => ∃ (kq : Nat) (x17_1 : Bool), v17 = .bool x17_1 ∧ Aside0 (missiveref10_Parse.j0 kq a0 x17_1 = some (r1, r2)) ∧ Aside0 (kq ≤ k) ∧ Aside0 (Below w.heap.size w wc))
  case first =>
    have H := HC2.out
    clear HC2
    by_cases c3 : (a0.size : Int) < 10
    · rw [if_pos c3] at H
      have c3b0 : decide ((a0.size : Int) < 10) = true := decide_eq_true c3
      have c3b1 : decide (a0.size < 10) = true := decide_eq_true (by omega)
      clear c3
      (first | rw [c3b0] | (simp only [i64_w, i32_w]; rw [c3b0]) | skip)
      have H' := Aside0.mk H
      clear H
      go_wp2
      go_meet
      case rel => exact ⟨_, (true), (by first | rfl | (simp; done) | (simp [*]; done)), H', ⟨by first | omega | exact Nat.le_refl _⟩, ⟨by repeat (first | (with_reducible first | exact HB.out | apply below_alloc | apply pw_below_drewN | apply below_drew1) | exact HB.out)⟩⟩
    · rw [if_neg c3] at H
      have c3b0 : decide ((a0.size : Int) < 10) = false := decide_eq_false c3
      have c3b1 : decide (a0.size < 10) = false := decide_eq_false (by omega)
      clear c3
      (first | rw [c3b0] | (simp only [i64_w, i32_w]; rw [c3b0]) | skip)
      have H' := Aside0.mk H
      clear H
      go_wp2
      go_meet
      case rel => exact ⟨_, (decide ((a0.size : Int) > 11)), (by first | rfl | (simp; done) | (simp [*]; done)), H', ⟨by first | omega | exact Nat.le_refl _⟩, ⟨by repeat (first | (with_reducible first | exact HB.out | apply below_alloc | apply pw_below_drewN | apply below_drew1) | exact HB.out)⟩⟩
  case rest =>
    clear HC2
    try clear p2
    try clear c3
    try clear c3b0
    try clear c3b1
    obtain ⟨kq, x17_1, rfl, HA, HJ1, HB⟩ := hcut
    cases kq with
    | zero => exact absurd HA.out (by simp [missiveref10_Parse.j0])
    | succ kj1 =>
      have H := HA.out
      clear HA
      simp only [missiveref10_Parse.j0] at H
      by_cases c4 : x17_1 = true
      · subst c4
        have H1 : (some (0, 7)) = some (r1, r2) := by rw [if_pos rfl] at H; exact H
        clear H
        have H := H1
        clear H1
        simp only [Option.some.injEq, Prod.mk.injEq] at H
        obtain ⟨rfl, rfl⟩ := H
        go_wp2
        go_ret2
        exact ⟨by first | rfl | (simp [errW_none, errW_some] <;> rfl) | (simp [*, errW_none, errW_some] <;> rfl), by repeat (first | (with_reducible first | exact HB.out | apply below_alloc | apply pw_below_drewN | apply below_drew1) | exact HB.out)⟩
      · replace c4 := Bool.eq_false_iff.mpr c4
        subst c4
        have H1 : (if 0 ≤ (wrap64 ((a0.size : Int) - 9)) then (if (wrap64 ((a0.size : Int) - 9)) ≤ (a0.size : Int) then ((missiveref10_digits.f kj1 (a0.extract 0 ((wrap64 ((a0.size : Int) - 9)) : Int).toNat) 1 2).bind fun t158 => (if 0 ≤ (wrap64 ((wrap64 ((a0.size : Int) - 9)) + 1)) then (if (wrap64 ((wrap64 ((a0.size : Int) - 9)) + 1)) ≤ (wrap64 ((wrap64 ((a0.size : Int) - 9)) + 4)) then (if (wrap64 ((wrap64 ((a0.size : Int) - 9)) + 4)) ≤ (a0.size : Int) then ((missiveref10_month.f kj1 (a0.extract ((wrap64 ((wrap64 ((a0.size : Int) - 9)) + 1)) : Int).toNat ((wrap64 ((wrap64 ((a0.size : Int) - 9)) + 4)) : Int).toNat)).bind fun t159 => (if 0 ≤ (wrap64 ((wrap64 ((a0.size : Int) - 9)) + 5)) then (if (wrap64 ((wrap64 ((a0.size : Int) - 9)) + 5)) ≤ (a0.size : Int) then ((missiveref10_digits.f kj1 (a0.extract ((wrap64 ((wrap64 ((a0.size : Int) - 9)) + 5)) : Int).toNat a0.size) 4 4).bind fun t160 => (if (wrap64 ((a0.size : Int) - 9)) < (a0.size : Int) then (if (bt a0 (wrap64 ((a0.size : Int) - 9))) = 45 then (if 0 ≤ (wrap64 ((wrap64 ((a0.size : Int) - 9)) + 4)) then (if (wrap64 ((wrap64 ((a0.size : Int) - 9)) + 4)) < (a0.size : Int) then (if (bt a0 (wrap64 ((wrap64 ((a0.size : Int) - 9)) + 4))) = 45 then (if (wrap64 ((a0.size : Int) - 9)) = 2 then (if 0 < (a0.size : Int) then (missiveref10_Parse.j1 kj1 t158 t159 t160 ((bt a0 0) == 48)) else (none)) else (missiveref10_Parse.j1 kj1 t158 t159 t160 false)) else (missiveref10_Parse.j1 kj1 t158 t159 t160 true)) else (none)) else (none)) else (missiveref10_Parse.j1 kj1 t158 t159 t160 true)) else (none))) else (none)) else (none))) else (none)) else (none)) else (none))) else (none)) else (none)) = some (r1, r2) := by rw [if_neg (show ¬ (false = true) by decide)] at H; exact H
        clear H
        have H := H1
        clear H1
        obtain ⟨ji5, hji5⟩ : ∃ j_ : Int, (wrap64 ((a0.size : Int) - 9)) = j_ := ⟨_, rfl⟩
        replace H : (if 0 ≤ (ji5) then (if (ji5) ≤ (a0.size : Int) then ((missiveref10_digits.f kj1 (a0.extract 0 ((ji5) : Int).toNat) 1 2).bind fun t158 => (if 0 ≤ (wrap64 ((ji5) + 1)) then (if (wrap64 ((ji5) + 1)) ≤ (wrap64 ((ji5) + 4)) then (if (wrap64 ((ji5) + 4)) ≤ (a0.size : Int) then ((missiveref10_month.f kj1 (a0.extract ((wrap64 ((ji5) + 1)) : Int).toNat ((wrap64 ((ji5) + 4)) : Int).toNat)).bind fun t159 => (if 0 ≤ (wrap64 ((ji5) + 5)) then (if (wrap64 ((ji5) + 5)) ≤ (a0.size : Int) then ((missiveref10_digits.f kj1 (a0.extract ((wrap64 ((ji5) + 5)) : Int).toNat a0.size) 4 4).bind fun t160 => (if (ji5) < (a0.size : Int) then (if (bt a0 (ji5)) = 45 then (if 0 ≤ (wrap64 ((ji5) + 4)) then (if (wrap64 ((ji5) + 4)) < (a0.size : Int) then (if (bt a0 (wrap64 ((ji5) + 4))) = 45 then (if (ji5) = 2 then (if 0 < (a0.size : Int) then (missiveref10_Parse.j1 kj1 t158 t159 t160 ((bt a0 0) == 48)) else (none)) else (missiveref10_Parse.j1 kj1 t158 t159 t160 false)) else (missiveref10_Parse.j1 kj1 t158 t159 t160 true)) else (none)) else (none)) else (missiveref10_Parse.j1 kj1 t158 t159 t160 true)) else (none))) else (none)) else (none))) else (none)) else (none)) else (none))) else (none)) else (none)) = some (r1, r2) := by first | (rw [hji5] at H; exact H) | (simp only [hji5] at H ⊢; exact H)
        have hji5w : (IntKind.i64.wrap ((a0.size : Int) - 9)) = ji5 := (i64_w _).trans hji5
        by_cases c6 : 0 ≤ (ji5)
        · rw [if_pos c6] at H
          have c6b0 := eq_true c6
          have c6b1 : decide (0 ≤ (ji5)) = true := decide_eq_true c6
          clear c6
          by_cases c7 : (ji5) ≤ (a0.size : Int)
          · rw [if_pos c7] at H
            have c7b0 := eq_true c7
            have c7b1 : decide ((ji5) ≤ (a0.size : Int)) = true := decide_eq_true c7
            clear c7
            replace H := Option.bind_eq_some_iff.mp H
            obtain ⟨t158, A80, H⟩ := H
            replace H : (if 0 ≤ (wrap64 ((ji5) + 1)) then (if (wrap64 ((ji5) + 1)) ≤ (wrap64 ((ji5) + 4)) then (if (wrap64 ((ji5) + 4)) ≤ (a0.size : Int) then ((missiveref10_month.f kj1 (a0.extract ((wrap64 ((ji5) + 1)) : Int).toNat ((wrap64 ((ji5) + 4)) : Int).toNat)).bind fun t159 => (if 0 ≤ (wrap64 ((ji5) + 5)) then (if (wrap64 ((ji5) + 5)) ≤ (a0.size : Int) then ((missiveref10_digits.f kj1 (a0.extract ((wrap64 ((ji5) + 5)) : Int).toNat a0.size) 4 4).bind fun t160 => (if (ji5) < (a0.size : Int) then (if (bt a0 (ji5)) = 45 then (if 0 ≤ (wrap64 ((ji5) + 4)) then (if (wrap64 ((ji5) + 4)) < (a0.size : Int) then (if (bt a0 (wrap64 ((ji5) + 4))) = 45 then (if (ji5) = 2 then (if 0 < (a0.size : Int) then (missiveref10_Parse.j1 kj1 t158 t159 t160 ((bt a0 0) == 48)) else (none)) else (missiveref10_Parse.j1 kj1 t158 t159 t160 false)) else (missiveref10_Parse.j1 kj1 t158 t159 t160 true)) else (none)) else (none)) else (missiveref10_Parse.j1 kj1 t158 t159 t160 true)) else (none))) else (none)) else (none))) else (none)) else (none)) else (none)) = some (r1, r2) := H
            have A8 := Aside0.mk A80
            clear A80
            obtain ⟨ji9, hji9⟩ : ∃ j_ : Int, (wrap64 ((ji5) + 1)) = j_ := ⟨_, rfl⟩
            replace H : (if 0 ≤ (ji9) then (if (ji9) ≤ (wrap64 ((ji5) + 4)) then (if (wrap64 ((ji5) + 4)) ≤ (a0.size : Int) then ((missiveref10_month.f kj1 (a0.extract ((ji9) : Int).toNat ((wrap64 ((ji5) + 4)) : Int).toNat)).bind fun t159 => (if 0 ≤ (wrap64 ((ji5) + 5)) then (if (wrap64 ((ji5) + 5)) ≤ (a0.size : Int) then ((missiveref10_digits.f kj1 (a0.extract ((wrap64 ((ji5) + 5)) : Int).toNat a0.size) 4 4).bind fun t160 => (if (ji5) < (a0.size : Int) then (if (bt a0 (ji5)) = 45 then (if 0 ≤ (wrap64 ((ji5) + 4)) then (if (wrap64 ((ji5) + 4)) < (a0.size : Int) then (if (bt a0 (wrap64 ((ji5) + 4))) = 45 then (if (ji5) = 2 then (if 0 < (a0.size : Int) then (missiveref10_Parse.j1 kj1 t158 t159 t160 ((bt a0 0) == 48)) else (none)) else (missiveref10_Parse.j1 kj1 t158 t159 t160 false)) else (missiveref10_Parse.j1 kj1 t158 t159 t160 true)) else (none)) else (none)) else (missiveref10_Parse.j1 kj1 t158 t159 t160 true)) else (none))) else (none)) else (none))) else (none)) else (none)) else (none)) = some (r1, r2) := by first | (rw [hji9] at H; exact H) | (simp only [hji9] at H ⊢; exact H)
            (try rw [hji9] at A8)
            have hji9w : (IntKind.i64.wrap ((ji5) + 1)) = ji9 := (i64_w _).trans hji9
            by_cases c10 : 0 ≤ (ji9)
            · rw [if_pos c10] at H
              have c10b0 := eq_true c10
              have c10b1 : decide (0 ≤ (ji9)) = true := decide_eq_true c10
              clear c10
              by_cases c11 : (ji9) ≤ (wrap64 ((ji5) + 4))
              · rw [if_pos c11] at H
                have c11b0 := eq_true c11
                have c11b1 : decide ((ji9) ≤ (wrap64 ((ji5) + 4))) = true := decide_eq_true c11
                by_cases c12 : (wrap64 ((ji5) + 4)) ≤ (a0.size : Int)
                · rw [if_pos c12] at H
                  have c12b0 := eq_true c12
                  have c12b1 : decide ((wrap64 ((ji5) + 4)) ≤ (a0.size : Int)) = true := decide_eq_true c12
                  replace H := Option.bind_eq_some_iff.mp H
                  obtain ⟨t159, A130, H⟩ := H
                  replace H : (if 0 ≤ (wrap64 ((ji5) + 5)) then (if (wrap64 ((ji5) + 5)) ≤ (a0.size : Int) then ((missiveref10_digits.f kj1 (a0.extract ((wrap64 ((ji5) + 5)) : Int).toNat a0.size) 4 4).bind fun t160 => (if (ji5) < (a0.size : Int) then (if (bt a0 (ji5)) = 45 then (if 0 ≤ (wrap64 ((ji5) + 4)) then (if (wrap64 ((ji5) + 4)) < (a0.size : Int) then (if (bt a0 (wrap64 ((ji5) + 4))) = 45 then (if (ji5) = 2 then (if 0 < (a0.size : Int) then (missiveref10_Parse.j1 kj1 t158 t159 t160 ((bt a0 0) == 48)) else (none)) else (missiveref10_Parse.j1 kj1 t158 t159 t160 false)) else (missiveref10_Parse.j1 kj1 t158 t159 t160 true)) else (none)) else (none)) else (missiveref10_Parse.j1 kj1 t158 t159 t160 true)) else (none))) else (none)) else (none)) = some (r1, r2) := H
                  have A13 := Aside0.mk A130
                  clear A130
                  obtain ⟨ji14, hji14⟩ : ∃ j_ : Int, (wrap64 ((ji5) + 5)) = j_ := ⟨_, rfl⟩
                  replace H : (if 0 ≤ (ji14) then (if (ji14) ≤ (a0.size : Int) then ((missiveref10_digits.f kj1 (a0.extract ((ji14) : Int).toNat a0.size) 4 4).bind fun t160 => (if (ji5) < (a0.size : Int) then (if (bt a0 (ji5)) = 45 then (if 0 ≤ (wrap64 ((ji5) + 4)) then (if (wrap64 ((ji5) + 4)) < (a0.size : Int) then (if (bt a0 (wrap64 ((ji5) + 4))) = 45 then (if (ji5) = 2 then (if 0 < (a0.size : Int) then (missiveref10_Parse.j1 kj1 t158 t159 t160 ((bt a0 0) == 48)) else (none)) else (missiveref10_Parse.j1 kj1 t158 t159 t160 false)) else (missiveref10_Parse.j1 kj1 t158 t159 t160 true)) else (none)) else (none)) else (missiveref10_Parse.j1 kj1 t158 t159 t160 true)) else (none))) else (none)) else (none)) = some (r1, r2) := by first | (rw [hji14] at H; exact H) | (simp only [hji14] at H ⊢; exact H)
                  (try rw [hji14] at A8)
                  (try rw [hji14] at A13)
                  have hji14w : (IntKind.i64.wrap ((ji5) + 5)) = ji14 := (i64_w _).trans hji14
                  by_cases c15 : 0 ≤ (ji14)
                  · rw [if_pos c15] at H
                    have c15b0 := eq_true c15
                    have c15b1 : decide (0 ≤ (ji14)) = true := decide_eq_true c15
                    clear c15
                    by_cases c16 : (ji14) ≤ (a0.size : Int)
                    · rw [if_pos c16] at H
                      have c16b0 := eq_true c16
                      have c16b1 : decide ((ji14) ≤ (a0.size : Int)) = true := decide_eq_true c16
                      clear c16
                      replace H := Option.bind_eq_some_iff.mp H
                      obtain ⟨t160, A170, H⟩ := H
                      replace H : (if (ji5) < (a0.size : Int) then (if (bt a0 (ji5)) = 45 then (if 0 ≤ (wrap64 ((ji5) + 4)) then (if (wrap64 ((ji5) + 4)) < (a0.size : Int) then (if (bt a0 (wrap64 ((ji5) + 4))) = 45 then (if (ji5) = 2 then (if 0 < (a0.size : Int) then (missiveref10_Parse.j1 kj1 t158 t159 t160 ((bt a0 0) == 48)) else (none)) else (missiveref10_Parse.j1 kj1 t158 t159 t160 false)) else (missiveref10_Parse.j1 kj1 t158 t159 t160 true)) else (none)) else (none)) else (missiveref10_Parse.j1 kj1 t158 t159 t160 true)) else (none)) = some (r1, r2) := H
                      have A17 := Aside0.mk A170
                      clear A170
                      have HC18 := Aside0.mk H
                      clear H
                      try go_wp2
                      have n0_ := Aside0.mk (below_drew1 HB.out)
                      clear HB
                      have HB := n0_
                      clear n0_
                      refine start_ (n := 19) (S := fun w' => True) (ds := []) #[false, false, false, false, false, false, false, false, false, false, false, false, false, false, false, false, false, false, false] (by kernel_rfl) rfl rfl trivial (fun hHeld => ?_); refine with_tabW missiveref10_Parse.tab4 missiveref10_Parse.bits4 (fun HT_ HW_ => ?_)
                      generalize wc.drew = w19 at HB hHeld ⊢
                      refine pure_ (i := 0) (N := some 21) (v := ?_) (a' := ?_) #[true, false, false, false, false, false, false, false, false, false, false, false, false, false, false, false, false, false, false] rfl rfl (any_of HT_.out (by kernel_rfl)) (fun _ _ _ h => h) (Or.inl ⟨by rfl, ?_⟩) ?_ ?_
                      rotate_left
                      · intro w'
                        go_simp
                        with_reducible rfl
                      rotate_left
                      · simp only [Act.put, List.setIfInBounds_toArray, List.set_cons_zero, List.set_cons_succ, i64_w, i32_w]
                        rfl
                      refine pure_ (i := 1) (N := some 22) (v := ?_) (a' := ?_) #[true, true, false, false, false, false, false, false, false, false, false, false, false, false, false, false, false, false, false] rfl rfl (any_of HT_.out (by kernel_rfl)) (fun _ _ _ h => h) (Or.inl ⟨by rfl, ?_⟩) ?_ ?_
                      rotate_left
                      · intro w'
                        go_simp
                        with_reducible rfl
                      rotate_left
                      · simp only [Act.put, List.setIfInBounds_toArray, List.set_cons_zero, List.set_cons_succ, i64_w, i32_w]
                        rfl
                      refine pure_ (i := 2) (N := some 23) (v := ?_) (a' := ?_) #[true, true, true, false, false, false, false, false, false, false, false, false, false, false, false, false, false, false, false] rfl rfl (any_of HT_.out (by kernel_rfl)) (fun _ _ _ h => h) (Or.inl ⟨by rfl, ?_⟩) ?_ ?_
                      rotate_left
                      · intro w'
                        go_simp
                        with_reducible rfl
                      rotate_left
                      · simp only [Act.put, List.setIfInBounds_toArray, List.set_cons_zero, List.set_cons_succ, i64_w, i32_w]
                        rfl
                      refine pure_ (i := 4) (N := some 25) (v := ?_) (a' := ?_) #[true, true, true, false, true, false, false, false, false, false, false, false, false, false, false, false, false, false, false] rfl rfl (any_of HT_.out (by kernel_rfl)) (fun _ _ _ h => h) (Or.inl ⟨by rfl, ?_⟩) ?_ ?_
                      rotate_left
                      · intro w'
                        go_simp
                        with_reducible rfl
                      rotate_left
                      · simp only [Act.put, List.setIfInBounds_toArray, List.set_cons_zero, List.set_cons_succ, i64_w, i32_w]
                        rfl
                      refine pure_ (i := 5) (N := some 26) (v := ?_) (a' := ?_) #[true, true, true, false, true, true, false, false, false, false, false, false, false, false, false, false, false, false, false] rfl rfl (any_of HT_.out (by kernel_rfl)) (fun _ _ _ h => h) (Or.inl ⟨by rfl, ?_⟩) ?_ ?_
                      rotate_left
                      · intro w'
                        go_simp
                        with_reducible rfl
                      rotate_left
                      · simp only [Act.put, List.setIfInBounds_toArray, List.set_cons_zero, List.set_cons_succ, i64_w, i32_w]
                        rfl
                      refine pure_ (i := 6) (N := some 27) (v := ?_) (a' := ?_) #[true, true, true, false, true, true, true, false, false, false, false, false, false, false, false, false, false, false, false] rfl rfl (any_of HT_.out (by kernel_rfl)) (fun _ _ _ h => h) (Or.inl ⟨by rfl, ?_⟩) ?_ ?_
                      rotate_left
                      · intro w'
                        go_simp
                        with_reducible rfl
                      rotate_left
                      · simp only [Act.put, List.setIfInBounds_toArray, List.set_cons_zero, List.set_cons_succ, i64_w, i32_w]
                        rfl
                      refine pure_ (i := 7) (N := some 28) (v := ?_) (a' := ?_) #[true, true, true, false, true, true, true, true, false, false, false, false, false, false, false, false, false, false, false] rfl rfl (any_of HT_.out (by kernel_rfl)) (fun _ _ _ h => h) (Or.inl ⟨by rfl, ?_⟩) ?_ ?_
                      rotate_left
                      · intro w'
                        go_simp
                        with_reducible rfl
                      rotate_left
                      · simp only [Act.put, List.setIfInBounds_toArray, List.set_cons_zero, List.set_cons_succ, i64_w, i32_w]
                        rfl
                      refine pure_ (i := 8) (N := some 29) (v := ?_) (a' := ?_) #[true, true, true, false, true, true, true, true, true, false, false, false, false, false, false, false, false, false, false] rfl rfl (any_of HT_.out (by kernel_rfl)) (fun _ _ _ h => h) (Or.inl ⟨by rfl, ?_⟩) ?_ ?_
                      rotate_left
                      · intro w'
                        go_simp
                        with_reducible rfl
                      rotate_left
                      · simp only [Act.put, List.setIfInBounds_toArray, List.set_cons_zero, List.set_cons_succ, i64_w, i32_w]
                        rfl
                      refine pure_ (i := 9) (N := some 30) (v := ?_) (a' := ?_) #[true, true, true, false, true, true, true, true, true, true, false, false, false, false, false, false, false, false, false] rfl rfl (any_of HT_.out (by kernel_rfl)) (fun _ _ _ h => h) (Or.inl ⟨by rfl, ?_⟩) ?_ ?_
                      rotate_left
                      · intro w'
                        go_simp
                        with_reducible rfl
                      rotate_left
                      · simp only [Act.put, List.setIfInBounds_toArray, List.set_cons_zero, List.set_cons_succ, i64_w, i32_w]
                        rfl
                      refine pure_ (i := 11) (N := some 32) (v := ?_) (a' := ?_) #[true, true, true, false, true, true, true, true, true, true, false, true, false, false, false, false, false, false, false] rfl rfl (any_of HT_.out (by kernel_rfl)) (fun _ _ _ h => h) (Or.inl ⟨by rfl, ?_⟩) ?_ ?_
                      rotate_left
                      · intro w'
                        go_simp
                        with_reducible rfl
                      rotate_left
                      · simp only [Act.put, List.setIfInBounds_toArray, List.set_cons_zero, List.set_cons_succ, i64_w, i32_w]
                        rfl
                      refine pure_ (i := 12) (N := some 33) (v := ?_) (a' := ?_) #[true, true, true, false, true, true, true, true, true, true, false, true, true, false, false, false, false, false, false] rfl rfl (any_of HT_.out (by kernel_rfl)) (fun _ _ _ h => h) (Or.inl ⟨by rfl, ?_⟩) ?_ ?_
                      rotate_left
                      · intro w'
                        go_simp
                        with_reducible rfl
                      rotate_left
                      · simp only [Act.put, List.setIfInBounds_toArray, List.set_cons_zero, List.set_cons_succ, i64_w, i32_w]
                        rfl
                      refine pure_ (i := 13) (N := some 34) (v := ?_) (a' := ?_) #[true, true, true, false, true, true, true, true, true, true, false, true, true, true, false, false, false, false, false] rfl rfl (any_of HT_.out (by kernel_rfl)) (fun _ _ _ h => h) (Or.inl ⟨by rfl, ?_⟩) ?_ ?_
                      rotate_left
                      · intro w'
                        go_simp
                        with_reducible rfl
                      rotate_left
                      · simp only [Act.put, List.setIfInBounds_toArray, List.set_cons_zero, List.set_cons_succ, i64_w, i32_w]
                        rfl
                      refine pure_ (i := 14) (N := some 35) (v := ?_) (a' := ?_) #[true, true, true, false, true, true, true, true, true, true, false, true, true, true, true, false, false, false, false] rfl rfl (any_of HT_.out (by kernel_rfl)) (fun _ _ _ h => h) (Or.inl ⟨by rfl, ?_⟩) ?_ ?_
                      rotate_left
                      · intro w'
                        go_simp
                        with_reducible rfl
                      rotate_left
                      · simp only [Act.put, List.setIfInBounds_toArray, List.set_cons_zero, List.set_cons_succ, i64_w, i32_w]
                        rfl
                      refine one_ (i := 3) (N := some 24) #[true, true, true, true, true, true, true, true, true, true, false, true, true, true, true, false, false, false, false] rfl rfl (one_of HT_.out (by kernel_rfl)) (by decide) (fun K hK => ?_)
                      refine goes_ Tryz.func25 (by kernel_rfl) rfl #[.string (a0.extract 0 ((ji5) : Int).toNat), .int .i64 1, .int .i64 2] (by rfl) rfl rfl (by (try simp only [List.map_toArray, List.map_cons, List.map_nil]); first | done | (simp only [hji5]; rfl) | rfl | (simp only [List.length_drop, List.length_take]; rfl)) ?_
                      with_reducible refine (missiveref10_digits.calls kj1 (a0.extract 0 ((ji5) : Int).toNat) 1 2 t158 _ A8.out).mono ?_
                      rintro e w' ⟨rfl, ⟨nd, rfl⟩⟩
                      refine ⟨_, rfl, ?_⟩
                      refine hK.out _ _ trivial (fun hHeld => ?_)
                      clear hK K
                      refine norm_ (a' := ?_) ?_ ?_
                      rotate_left
                      · show Act.put _ (some 24) _ = _
                        simp only [Act.put, List.setIfInBounds_toArray, List.set_cons_zero, List.set_cons_succ, i64_w, i32_w]
                        rfl
                      refine one_ (i := 10) (N := some 31) #[true, true, true, true, true, true, true, true, true, true, true, true, true, true, true, false, false, false, false] rfl rfl (one_of HT_.out (by kernel_rfl)) (by decide) (fun K hK => ?_)
                      refine goes_ Tryz.func26 (by kernel_rfl) rfl #[.string (a0.extract ((ji9) : Int).toNat ((wrap64 ((ji5) + 4)) : Int).toNat)] (by rfl) rfl rfl (by (try simp only [List.map_toArray, List.map_cons, List.map_nil]); first | done | (simp only [hji5, hji9]; rfl) | rfl | (simp only [List.length_drop, List.length_take]; rfl)) ?_
                      with_reducible refine (missiveref10_month.calls kj1 (a0.extract ((ji9) : Int).toNat ((wrap64 ((ji5) + 4)) : Int).toNat) t159 _ A13.out).mono ?_
                      rintro e w20 ⟨rfl, hb⟩
                      refine ⟨_, rfl, ?_⟩
                      have n0_ := Aside0.mk (below_step (by repeat (first | (with_reducible first | exact HB.out | apply below_alloc | apply pw_below_drewN | apply below_drew1) | exact HB.out)) hb)
                      clear HB
                      have HB := n0_
                      clear n0_
                      (try clear hb)
                      (try clear hb2)
                      (try clear hk)
                      (try clear hi)
                      refine hK.out _ _ trivial (fun hHeld => ?_)
                      clear hK K
                      refine norm_ (a' := ?_) ?_ ?_
                      rotate_left
                      · show Act.put _ (some 31) _ = _
                        simp only [Act.put, List.setIfInBounds_toArray, List.set_cons_zero, List.set_cons_succ, i64_w, i32_w]
                        rfl
                      refine one_ (i := 15) (N := some 36) #[true, true, true, true, true, true, true, true, true, true, true, true, true, true, true, true, false, false, false] rfl rfl (one_of HT_.out (by kernel_rfl)) (by decide) (fun K hK => ?_)
                      refine goes_ Tryz.func25 (by kernel_rfl) rfl #[.string (a0.extract ((ji14) : Int).toNat a0.size), .int .i64 4, .int .i64 4] (by rfl) rfl rfl (by (try simp only [List.map_toArray, List.map_cons, List.map_nil]); first | done | (simp only [hji14]; rfl) | rfl | (simp only [List.length_drop, List.length_take]; rfl)) ?_
                      with_reducible refine (missiveref10_digits.calls kj1 (a0.extract ((ji14) : Int).toNat a0.size) 4 4 t160 _ A17.out).mono ?_
                      rintro e w' ⟨rfl, ⟨nd, rfl⟩⟩
                      refine ⟨_, rfl, ?_⟩
                      refine hK.out _ _ trivial (fun hHeld => ?_)
                      clear hK K
                      refine norm_ (a' := ?_) ?_ ?_
                      rotate_left
                      · show Act.put _ (some 36) _ = _
                        simp only [Act.put, List.setIfInBounds_toArray, List.set_cons_zero, List.set_cons_succ, i64_w, i32_w]
                        rfl
                      refine pure_ (i := 16) (N := some 5) (v := ?_) (a' := ?_) #[true, true, true, true, true, true, true, true, true, true, true, true, true, true, true, true, true, false, false] rfl rfl (any_of HT_.out (by kernel_rfl)) (fun _ _ _ h => h) (Or.inl ⟨by rfl, ?_⟩) ?_ ?_
                      rotate_left
                      · intro w'
                        go_simp
                        with_reducible rfl
                      rotate_left
                      · simp only [Act.put, List.setIfInBounds_toArray, List.set_cons_zero, List.set_cons_succ, i64_w, i32_w]
                        rfl
                      refine pure_ (i := 17) (N := some 6) (v := ?_) (a' := ?_) #[true, true, true, true, true, true, true, true, true, true, true, true, true, true, true, true, true, true, false] rfl rfl (any_of HT_.out (by kernel_rfl)) (fun _ _ _ h => h) (Or.inl ⟨by rfl, ?_⟩) ?_ ?_
                      rotate_left
                      · intro w'
                        go_simp
                        with_reducible rfl
                      rotate_left
                      · simp only [Act.put, List.setIfInBounds_toArray, List.set_cons_zero, List.set_cons_succ, i64_w, i32_w]
                        rfl
                      refine pure_ (i := 18) (N := some 7) (v := ?_) (a' := ?_) #[true, true, true, true, true, true, true, true, true, true, true, true, true, true, true, true, true, true, true] rfl rfl (any_of HT_.out (by kernel_rfl)) (fun _ _ _ h => h) (Or.inl ⟨by rfl, ?_⟩) ?_ ?_
                      rotate_left
                      · intro w'
                        go_simp
                        with_reducible rfl
                      rotate_left
                      · simp only [Act.put, List.setIfInBounds_toArray, List.set_cons_zero, List.set_cons_succ, i64_w, i32_w]
                        rfl
                      refine done_ (done_of HT_.out (by kernel_rfl)) ?_
                      go_upto_region 5 with (fail)
                      go_cut [56] (fun v56 wc => ∃ (kq : Nat) (x56_17 : Bool), v56 = .bool x56_17 ∧ Aside0 (missiveref10_Parse.j1 kq t158 t159 t160 x56_17 = some (r1, r2)) ∧ Aside0 (kq ≤ kj1) ∧ Aside0 (Below w.heap.size w wc))
                      case first =>
                        have H := HC18.out
                        clear HC18
                        by_cases c21 : (ji5) < (a0.size : Int)
                        · rw [if_pos c21] at H
                          have c21b0 : decide ((ji5) < (a0.size : Int)) = true := decide_eq_true c21
                          clear c21
                          (first | rw [c21b0] | (simp only [i64_w, i32_w]; rw [c21b0]) | skip)
                          by_cases c23 : (bt a0 (ji5)) = 45
                          · rw [if_pos c23] at H
                            have c23b0 : ((bt a0 (ji5)) == 45) = true := beq_iff_eq.mpr c23
                            have c23b1 : ((bt a0 (ji5)) != 45) = false := bne_eq_false_iff_eq.mpr c23
                            clear c23
                            obtain ⟨ji24, hji24⟩ : ∃ j_ : Int, (wrap64 ((ji5) + 4)) = j_ := ⟨_, rfl⟩
                            replace H : (if 0 ≤ (ji24) then (if (ji24) < (a0.size : Int) then (if (bt a0 (ji24)) = 45 then (if (ji5) = 2 then (if 0 < (a0.size : Int) then (missiveref10_Parse.j1 kj1 t158 t159 t160 ((bt a0 0) == 48)) else (none)) else (missiveref10_Parse.j1 kj1 t158 t159 t160 false)) else (missiveref10_Parse.j1 kj1 t158 t159 t160 true)) else (none)) else (none)) = some (r1, r2) := by first | (rw [hji24] at H; exact H) | (simp only [hji24] at H ⊢; exact H)
                            (try rw [hji24] at c11b0)
                            (try rw [hji24] at c11b1)
                            (try rw [hji24] at c11)
                            (try rw [hji24] at c12b0)
                            (try rw [hji24] at c12b1)
                            (try rw [hji24] at c12)
                            have hji24w : (IntKind.i64.wrap ((ji5) + 4)) = ji24 := (i64_w _).trans hji24
                            by_cases c25 : 0 ≤ (ji24)
                            · rw [if_pos c25] at H
                              have c25b0 : decide (0 ≤ (ji24)) = true := decide_eq_true c25
                              clear c25
                              by_cases c26 : (ji24) < (a0.size : Int)
                              · rw [if_pos c26] at H
                                have c26b0 : decide ((ji24) < (a0.size : Int)) = true := decide_eq_true c26
                                clear c26
                                by_cases c28 : (bt a0 (ji24)) = 45
                                · rw [if_pos c28] at H
                                  have c28b0 : ((bt a0 (ji24)) == 45) = true := beq_iff_eq.mpr c28
                                  have c28b1 : ((bt a0 (ji24)) != 45) = false := bne_eq_false_iff_eq.mpr c28
                                  clear c28
                                  by_cases c29 : (ji5) = 2
                                  · rw [if_pos c29] at H
                                    have c29b0 : ((ji5) == 2) = true := beq_iff_eq.mpr c29
                                    have c29b1 : ((ji5) != 2) = false := bne_eq_false_iff_eq.mpr c29
                                    clear c29
                                    by_cases c30 : 0 < (a0.size : Int)
                                    · rw [if_pos c30] at H
                                      have c30b0 : decide (0 < (a0.size : Int)) = true := decide_eq_true c30
                                      have c30b1 : decide (0 < a0.size) = true := decide_eq_true (by omega)
                                      clear c30
                                      have H' := Aside0.mk H
                                      clear H
                                      have p22 : 0 ≤ ((ji5) : Int) := of_decide_eq_true (by first | (with_reducible assumption) | assumption)
                                      have q22 : (ji5) < (a0.size : Int) := of_decide_eq_true (by first | (with_reducible assumption) | assumption)
                                      have hx22 := bt_at a0 (ji5)
                                      replace p22 := eq_true p22
                                      replace q22 := eq_true q22
                                      have p27 : 0 ≤ ((ji24) : Int) := of_decide_eq_true (by first | (with_reducible assumption) | assumption)
                                      have q27 : (ji24) < (a0.size : Int) := of_decide_eq_true (by first | (with_reducible assumption) | assumption)
                                      have hx27 := bt_at a0 (ji24)
                                      replace p27 := eq_true p27
                                      replace q27 := eq_true q27
                                      have p31 : 0 ≤ (0 : Int) := (by omega)
                                      have q31 : 0 < a0.size := (by have : (0 : Int) < (a0.size : Int) := of_decide_eq_true (by first | (with_reducible assumption) | assumption); omega)
                                      have hx31 : ∀ h : 0 < a0.size, ((a0[0]'h).toNat : Int) = bt a0 0 := bt_at a0 0
                                      clear p31
                                      have qi31 : (0 < (a0.size : Int)) = True := eq_true (of_decide_eq_true (by first | (with_reducible assumption) | assumption))
                                      replace q31 := eq_true q31
                                      go_wp2
                                      go_meet
                                      case rel => exact ⟨_, (((bt a0 0) == 48)), (by first | rfl | (simp; done) | (simp [*]; done)), H', ⟨by have := HJ1.out; first | omega | exact Nat.le_refl _⟩, ⟨by repeat (first | (with_reducible first | exact HB.out | apply below_alloc | apply pw_below_drewN | apply below_drew1) | exact HB.out)⟩⟩
                                    · rw [if_neg c30] at H
                                      exact absurd H (by simp)
                                  · rw [if_neg c29] at H
                                    have c29b0 : ((ji5) == 2) = false := beq_eq_false_iff_ne.mpr c29
                                    have c29b1 : ((ji5) != 2) = true := bne_iff_ne.mpr c29
                                    have H' := Aside0.mk H
                                    clear H
                                    have p22 : 0 ≤ ((ji5) : Int) := of_decide_eq_true (by first | (with_reducible assumption) | assumption)
                                    have q22 : (ji5) < (a0.size : Int) := of_decide_eq_true (by first | (with_reducible assumption) | assumption)
                                    have hx22 := bt_at a0 (ji5)
                                    replace p22 := eq_true p22
                                    replace q22 := eq_true q22
                                    have p27 : 0 ≤ ((ji24) : Int) := of_decide_eq_true (by first | (with_reducible assumption) | assumption)
                                    have q27 : (ji24) < (a0.size : Int) := of_decide_eq_true (by first | (with_reducible assumption) | assumption)
                                    have hx27 := bt_at a0 (ji24)
                                    replace p27 := eq_true p27
                                    replace q27 := eq_true q27
                                    go_wp2
                                    go_meet
                                    case rel => exact ⟨_, (false), (by first | rfl | (simp; done) | (simp [*]; done)), H', ⟨by have := HJ1.out; first | omega | exact Nat.le_refl _⟩, ⟨by repeat (first | (with_reducible first | exact HB.out | apply below_alloc | apply pw_below_drewN | apply below_drew1) | exact HB.out)⟩⟩
                                · rw [if_neg c28] at H
                                  have c28b0 : ((bt a0 (ji24)) == 45) = false := beq_eq_false_iff_ne.mpr c28
                                  have c28b1 : ((bt a0 (ji24)) != 45) = true := bne_iff_ne.mpr c28
                                  have H' := Aside0.mk H
                                  clear H
                                  have p22 : 0 ≤ ((ji5) : Int) := of_decide_eq_true (by first | (with_reducible assumption) | assumption)
                                  have q22 : (ji5) < (a0.size : Int) := of_decide_eq_true (by first | (with_reducible assumption) | assumption)
                                  have hx22 := bt_at a0 (ji5)
                                  replace p22 := eq_true p22
                                  replace q22 := eq_true q22
                                  have p27 : 0 ≤ ((ji24) : Int) := of_decide_eq_true (by first | (with_reducible assumption) | assumption)
                                  have q27 : (ji24) < (a0.size : Int) := of_decide_eq_true (by first | (with_reducible assumption) | assumption)
                                  have hx27 := bt_at a0 (ji24)
                                  replace p27 := eq_true p27
                                  replace q27 := eq_true q27
                                  go_wp2
                                  go_meet
                                  case rel => exact ⟨_, (true), (by first | rfl | (simp; done) | (simp [*]; done)), H', ⟨by have := HJ1.out; first | omega | exact Nat.le_refl _⟩, ⟨by repeat (first | (with_reducible first | exact HB.out | apply below_alloc | apply pw_below_drewN | apply below_drew1) | exact HB.out)⟩⟩
                              · rw [if_neg c26] at H
                                exact absurd H (by simp)
                            · rw [if_neg c25] at H
                              exact absurd H (by simp)
                          · rw [if_neg c23] at H
                            have c23b0 : ((bt a0 (ji5)) == 45) = false := beq_eq_false_iff_ne.mpr c23
                            have c23b1 : ((bt a0 (ji5)) != 45) = true := bne_iff_ne.mpr c23
                            have H' := Aside0.mk H
                            clear H
                            have p22 : 0 ≤ ((ji5) : Int) := of_decide_eq_true (by first | (with_reducible assumption) | assumption)
                            have q22 : (ji5) < (a0.size : Int) := of_decide_eq_true (by first | (with_reducible assumption) | assumption)
                            have hx22 := bt_at a0 (ji5)
                            replace p22 := eq_true p22
                            replace q22 := eq_true q22
                            go_wp2
                            go_meet
                            case rel => exact ⟨_, (true), (by first | rfl | (simp; done) | (simp [*]; done)), H', ⟨by have := HJ1.out; first | omega | exact Nat.le_refl _⟩, ⟨by repeat (first | (with_reducible first | exact HB.out | apply below_alloc | apply pw_below_drewN | apply below_drew1) | exact HB.out)⟩⟩
                        · rw [if_neg c21] at H
                          exact absurd H (by simp)
                      case rest =>
                        clear HC18
                        try clear c1
                        try clear c2
                        try clear p2
                        try clear q2
                        try clear hx2
                        try clear c3
                        try clear c3b0
                        try clear c3b1
                        try clear p3
                        try clear q3
                        try clear hx3
                        try clear qi3
                        try clear c4
                        try clear c6
                        try clear c6b0
                        try clear c6b1
                        try clear p6
                        try clear c7
                        try clear c7b0
                        try clear c7b1
                        try clear c8
                        try clear c10
                        try clear c10b0
                        try clear c10b1
                        try clear c11
                        try clear c11b0
                        try clear c11b1
                        try clear c12
                        try clear c12b0
                        try clear c12b1
                        try clear c15
                        try clear c15b0
                        try clear c15b1
                        try clear c16
                        try clear c16b0
                        try clear c16b1
                        try clear c21
                        try clear c21b0
                        try clear p22
                        try clear q22
                        try clear hx22
                        try clear c23
                        try clear c23b0
                        try clear c23b1
                        try clear c25
                        try clear c25b0
                        try clear c26
                        try clear c26b0
                        try clear p27
                        try clear q27
                        try clear hx27
                        try clear c28
                        try clear c28b0
                        try clear c28b1
                        try clear c29
                        try clear c29b0
                        try clear c29b1
                        try clear c30
                        try clear c30b0
                        try clear c30b1
                        try clear p31
                        try clear q31
                        try clear hx31
                        try clear qi31
                        try clear p2
                        try clear p22
                        try clear p27
                        try clear p31
                        try clear q22
                        try clear q27
                        try clear q31
                        obtain ⟨kq, x56_17, rfl, HA, HJ17, HB⟩ := hcut
                        cases kq with
                        | zero => exact absurd HA.out (by simp [missiveref10_Parse.j1])
                        | succ kj17 =>
                          have H := HA.out
                          clear HA
                          simp only [missiveref10_Parse.j1] at H
                          by_cases c32 : x56_17 = true
                          · subst c32
                            have H1 : (some (0, 7)) = some (r1, r2) := by rw [if_pos rfl] at H; exact H
                            clear H
                            have H := H1
                            clear H1
                            simp only [Option.some.injEq, Prod.mk.injEq] at H
                            obtain ⟨rfl, rfl⟩ := H
                            go_wp2
                            go_ret2
                            exact ⟨by first | rfl | (simp [errW_none, errW_some] <;> rfl) | (simp only [← hji5, ← hji9, ← hji14]; first | rfl | (simp [errW_none, errW_some] <;> rfl)) | (simp [*, errW_none, errW_some] <;> rfl), by repeat (first | (with_reducible first | exact HB.out | apply below_alloc | apply pw_below_drewN | apply below_drew1) | exact HB.out)⟩
                          · replace c32 := Bool.eq_false_iff.mpr c32
                            subst c32
                            have H1 : ((missiveref10_Day.f kj17 t160 t159 t158).bind fun bt161 => (if bt161.2 = 0 then (some (bt161.1, 0)) else (some (0, 7)))) = some (r1, r2) := by rw [if_neg (show ¬ (false = true) by decide)] at H; exact H
                            clear H
                            have H := H1
                            clear H1
                            replace H := Option.bind_eq_some_iff.mp H
                            obtain ⟨⟨t161, t162⟩, A330, H⟩ := H
                            replace H : (if t162 = 0 then (some (t161, 0)) else (some (0, 7))) = some (r1, r2) := H
                            have A33 := Aside0.mk A330
                            clear A330
                            by_cases c34 : t162 = 0
                            · rw [if_pos c34] at H
                              have c34b0 : (t162 == 0) = true := beq_iff_eq.mpr c34
                              have c34b1 : (t162 != 0) = false := bne_eq_false_iff_eq.mpr c34
                              clear c34
                              simp only [Option.some.injEq, Prod.mk.injEq] at H
                              obtain ⟨rfl, rfl⟩ := H
                              go_wp2_with (first | ((with_reducible refine gate_callee (f := 27) rfl ?_); refine goesL_ (some 61) rfl rfl Tryz.func27 (by kernel_rfl) rfl #[.int .i64 t160, .int .i64 t159, .int .i64 t158] rfl (by (try simp only [List.map_toArray, List.map_cons, List.map_nil]); first | done | rfl | (simp only [List.length_drop, List.length_take]; rfl)) ?_; (with_reducible refine (missiveref10_Day.calls kj17 t160 t159 t158 t161 t162 _ A33.out).mono ?_); rintro e w' ⟨rfl, ⟨nd, rfl⟩⟩; refine ⟨_, rfl, ?_⟩))
                              go_ret2
                              exact ⟨by first | rfl | (simp [errW_none, errW_some] <;> rfl) | (simp only [← hji5, ← hji9, ← hji14]; first | rfl | (simp [errW_none, errW_some] <;> rfl)) | (simp [*, errW_none, errW_some] <;> rfl), by repeat (first | (with_reducible first | exact HB.out | apply below_alloc | apply pw_below_drewN | apply below_drew1) | exact HB.out)⟩
                            · rw [if_neg c34] at H
                              have c34b0 : (t162 == 0) = false := beq_eq_false_iff_ne.mpr c34
                              have c34b1 : (t162 != 0) = true := bne_iff_ne.mpr c34
                              simp only [Option.some.injEq, Prod.mk.injEq] at H
                              obtain ⟨rfl, rfl⟩ := H
                              go_wp2_with (first | ((with_reducible refine gate_callee (f := 27) rfl ?_); refine goesL_ (some 61) rfl rfl Tryz.func27 (by kernel_rfl) rfl #[.int .i64 t160, .int .i64 t159, .int .i64 t158] rfl (by (try simp only [List.map_toArray, List.map_cons, List.map_nil]); first | done | rfl | (simp only [List.length_drop, List.length_take]; rfl)) ?_; (with_reducible refine (missiveref10_Day.calls kj17 t160 t159 t158 t161 t162 _ A33.out).mono ?_); rintro e w' ⟨rfl, ⟨nd, rfl⟩⟩; refine ⟨_, rfl, ?_⟩))
                              go_ret2
                              exact ⟨by first | rfl | (simp [errW_none, errW_some] <;> rfl) | (simp only [← hji5, ← hji9, ← hji14]; first | rfl | (simp [errW_none, errW_some] <;> rfl)) | (simp [*, errW_none, errW_some] <;> rfl), by repeat (first | (with_reducible first | exact HB.out | apply below_alloc | apply pw_below_drewN | apply below_drew1) | exact HB.out)⟩
                    · rw [if_neg c16] at H
                      exact absurd H (by simp)
                  · rw [if_neg c15] at H
                    exact absurd H (by simp)
                · rw [if_neg c12] at H
                  exact absurd H (by simp)
              · rw [if_neg c11] at H
                exact absurd H (by simp)
            · rw [if_neg c10] at H
              exact absurd H (by simp)
          · rw [if_neg c7] at H
            exact absurd H (by simp)
        · rw [if_neg c6] at H
          exact absurd H (by simp)

def date_there.f (a0 : Int) : Option (Bool) := if a0 ≥ (-719162) then (some (decide (a0 ≤ 2932896))) else (some false)
set_option maxHeartbeats 8000000 in
set_option maxRecDepth 100000 in
theorem date_there.calls (a0 : Int) (r : Bool) (w : World) (h : date_there.f a0 = some r) :
    Calls Tryz.prog 43 #[.int .i64 a0] w fun e w' => e = .returned (.bool r) ∧ Drawn0 w w' := by
  have H : (if a0 ≥ (-719162) then (some (decide (a0 ≤ 2932896))) else (some false)) = some r := h
  clear h
  by_cases c2 : a0 ≥ (-719162)
  · rw [if_pos c2] at H
    have c2b0 : decide ((-719162) ≤ a0) = true := decide_eq_true c2
    clear c2
    obtain rfl := Option.some.inj H
    go_enter Tryz.func43, Tryz.ntmps43
    go_wp2
    go_ret
    exact ⟨by first | rfl | (simp; done) | (simp [*]; done), by repeat (first | exact Drawn0.refl _ | apply Drawn0.step)⟩
  · rw [if_neg c2] at H
    have c2b0 : decide ((-719162) ≤ a0) = false := decide_eq_false c2
    clear c2
    obtain rfl := Option.some.inj H
    go_enter Tryz.func43, Tryz.ntmps43
    go_wp2
    go_ret
    exact ⟨by first | rfl | (simp; done) | (simp [*]; done), by repeat (first | exact Drawn0.refl _ | apply Drawn0.step)⟩

def date_Civil.f (a0 : Int) : Option (Int × Int × Int × Int) := (date_there.f a0).bind fun t163 => (if t163 = true then ((date_civil.f a0).bind fun bt164 => (some (bt164.1, bt164.2.1, bt164.2.2, 0))) else (some (0, 0, 0, 1)))
set_option maxHeartbeats 8000000 in
set_option maxRecDepth 100000 in
theorem date_Civil.calls (a0 : Int) (r1 : Int) (r2 : Int) (r3 : Int) (r4 : Int) (w : World) (h : date_Civil.f a0 = some (r1, r2, r3, r4)) :
    Calls Tryz.prog 20 #[.int .i64 a0] w fun e w' => e = .returned (.tuple #[.int .i64 r1, .int .i64 r2, .int .i64 r3, .int .i64 r4]) ∧ Drawn0 w w' := by
  have H : ((date_there.f a0).bind fun t163 => (if t163 = true then ((date_civil.f a0).bind fun bt164 => (some (bt164.1, bt164.2.1, bt164.2.2, 0))) else (some (0, 0, 0, 1)))) = some (r1, r2, r3, r4) := h
  clear h
  replace H := Option.bind_eq_some_iff.mp H
  obtain ⟨t163, A20, H⟩ := H
  replace H : (if t163 = true then ((date_civil.f a0).bind fun bt164 => (some (bt164.1, bt164.2.1, bt164.2.2, 0))) else (some (0, 0, 0, 1))) = some (r1, r2, r3, r4) := H
  have A2 := Aside0.mk A20
  clear A20
  by_cases c3 : t163 = true
  · subst c3
    have H1 : ((date_civil.f a0).bind fun bt164 => (some (bt164.1, bt164.2.1, bt164.2.2, 0))) = some (r1, r2, r3, r4) := by rw [if_pos rfl] at H; exact H
    clear H
    have H := H1
    clear H1
    replace H := Option.bind_eq_some_iff.mp H
    obtain ⟨⟨t164, t165, t166⟩, A40, H⟩ := H
    replace H : (some (t164, t165, t166, 0)) = some (r1, r2, r3, r4) := H
    have A4 := Aside0.mk A40
    clear A40
    simp only [Option.some.injEq, Prod.mk.injEq] at H
    obtain ⟨rfl, rfl, rfl, rfl⟩ := H
    go_enter Tryz.func20, Tryz.ntmps20
    go_wp2_with (first | ((with_reducible refine gate_callee (f := 43) rfl ?_); refine goesL_ (some 10) rfl rfl Tryz.func43 (by kernel_rfl) rfl #[.int .i64 a0] rfl (by (try simp only [List.map_toArray, List.map_cons, List.map_nil]); first | done | rfl | (simp only [List.length_drop, List.length_take]; rfl)) ?_; (with_reducible refine (date_there.calls a0 true _ A2.out).mono ?_); rintro e w' ⟨rfl, ⟨nd, rfl⟩⟩; refine ⟨_, rfl, ?_⟩) | ((with_reducible refine gate_callee (f := 42) rfl ?_); refine goesL_ (some 14) rfl rfl Tryz.func42 (by kernel_rfl) rfl #[.int .i64 a0] rfl (by (try simp only [List.map_toArray, List.map_cons, List.map_nil]); first | done | rfl | (simp only [List.length_drop, List.length_take]; rfl)) ?_; (with_reducible refine (date_civil.calls a0 t164 t165 t166 _ A4.out).mono ?_); rintro e w' ⟨rfl, ⟨nd, rfl⟩⟩; refine ⟨_, rfl, ?_⟩))
    refine bodyPost_ret (results_list (rs := [.tmp 2, .tmp 3, .tmp 4, .tmp 5]) rfl (by simp) (.tmp (.tmp (.tmp (.tmp .nil))))) rfl ?_
    exact ⟨by first | rfl | (simp; done) | (simp [*]; done), by repeat (first | exact Drawn0.refl _ | apply Drawn0.step)⟩
  · replace c3 := Bool.eq_false_iff.mpr c3
    subst c3
    have H1 : (some (0, 0, 0, 1)) = some (r1, r2, r3, r4) := by rw [if_neg (show ¬ (false = true) by decide)] at H; exact H
    clear H
    have H := H1
    clear H1
    simp only [Option.some.injEq, Prod.mk.injEq] at H
    obtain ⟨rfl, rfl, rfl, rfl⟩ := H
    go_enter Tryz.func20, Tryz.ntmps20
    go_wp2_with (first | ((with_reducible refine gate_callee (f := 43) rfl ?_); refine goesL_ (some 10) rfl rfl Tryz.func43 (by kernel_rfl) rfl #[.int .i64 a0] rfl (by (try simp only [List.map_toArray, List.map_cons, List.map_nil]); first | done | rfl | (simp only [List.length_drop, List.length_take]; rfl)) ?_; (with_reducible refine (date_there.calls a0 false _ A2.out).mono ?_); rintro e w' ⟨rfl, ⟨nd, rfl⟩⟩; refine ⟨_, rfl, ?_⟩))
    refine bodyPost_ret (results_list (rs := [.tmp 2, .tmp 3, .tmp 4, .tmp 5]) rfl (by simp) (.tmp (.tmp (.tmp (.tmp .nil))))) rfl ?_
    exact ⟨by first | rfl | (simp; done) | (simp [*]; done), by repeat (first | exact Drawn0.refl _ | apply Drawn0.step)⟩

end Go.Proofs.YtdpbaagpekhipaaGreatDoor.PAll

