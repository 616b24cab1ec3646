/- Each printed function's call comes to what its plain Lean function says (a program of this session, made out of the kit's print, wrote these lines). Conditions: what each theorem names. -/
import Derived.Test.YtdpbaagpekhipaaGreatDoorKTxPAllx0
import Derived.Test.YtdpbaagpekhipaaGreatDoorKTxPAllx5
import Derived.Test.YtdpbaagpekhipaaGreatDoorKTxPAllx6
import Derived.Test.YtdpbaagpekhipaaGreatDoorKTxPAllx9
namespace Go.Proofs.YtdpbaagpekhipaaGreatDoor.PAll
open Go.RowKit Go.Proofs.YtdpbaagpekhipaaGreatDoorW.PrintWords Go.Proofs.YtdpbaagpekhipaaGreatDoorW.PrintLast Go.Proofs.YtdpbaagpekhipaaGreatDoorW.PrintMore
attribute [local go_sem] max2_int min2_int max_two min_two max_three min_three max_four min_four   -- for this text's walks alone
set_option linter.unusedVariables false
set_option linter.unusedSimpArgs false

/-! ### missiveref10_Mail: function 12 -/
mutual
def missiveref10_Mail.j1 : Nat → ByteArray → Option (Int × Int)
  | 0, _ => none
  | k + 1, x0 => (missiveref10_words.f k x0).bind fun t194 => (if (t194.length : Int) < 3 then (some (0, 7)) else (if 0 < (t194.length : Int) then ((missiveref10_digits.f k (rdOf ByteArray.empty t194 0) 1 2).bind fun t198 => (if 1 < (t194.length : Int) then ((missiveref10_month.f k (rdOf ByteArray.empty t194 1)).bind fun t200 => (if 2 < (t194.length : Int) then ((missiveref10_digits.f k (rdOf ByteArray.empty t194 2) 2 4).bind fun t202 => (if ((rdOf ByteArray.empty t194 2).size : Int) = 2 then (if t202 ≥ 0 then (missiveref10_Mail.j2 k t194 t198 t200 t202 (decide (t202 < 50))) else (missiveref10_Mail.j2 k t194 t198 t200 t202 false)) else (missiveref10_Mail.j2 k t194 t198 t200 t202 false))) else (none))) else (none))) else (none)))
def missiveref10_Mail.j2 : Nat → List ByteArray → Int → Int → Int → Bool → Option (Int × Int)
  | 0, _, _, _, _, _ => none
  | k + 1, x5, x6, x7, x8, x54 => if x54 = true then ((missiveref10_Day.f k (wrap64 (x8 + 2000)) x7 x6).bind fun bt204 => (if bt204.2 = 0 then (some (bt204.1, 0)) else (some (0, 7)))) else (if 2 < (x5.length : Int) then (if ((rdOf ByteArray.empty x5 2).size : Int) < 4 then (missiveref10_Mail.j3 k x6 x7 x8 (decide (x8 ≥ 0))) else (missiveref10_Mail.j3 k x6 x7 x8 false)) else (none))
def missiveref10_Mail.j3 : Nat → Int → Int → Int → Bool → Option (Int × Int)
  | 0, _, _, _, _ => none
  | k + 1, x6, x7, x8, x65 => if x65 = true then ((missiveref10_Day.f k (wrap64 (x8 + 1900)) x7 x6).bind fun bt207 => (if bt207.2 = 0 then (some (bt207.1, 0)) else (some (0, 7)))) else ((missiveref10_Day.f k x8 x7 x6).bind fun bt209 => (if bt209.2 = 0 then (some (bt209.1, 0)) else (some (0, 7))))
def missiveref10_Mail.l0 : Nat → ByteArray → Int → Option (Int × Int)
  | 0, _, _ => none
  | k + 1, x0, x4 => if x4 < (x0.size : Int) then (if 0 ≤ x4 then (if (bt x0 x4) = 44 then (if 0 ≤ (wrap64 (x4 + 1)) then (if (wrap64 (x4 + 1)) ≤ (x0.size : Int) then (missiveref10_Mail.j1 k (x0.extract ((wrap64 (x4 + 1)) : Int).toNat x0.size)) else (none)) else (none)) else (missiveref10_Mail.l0 k x0 (wrap64 (x4 + 1)))) else (none)) else (missiveref10_Mail.j1 k x0)
end
def missiveref10_Mail.f (k : Nat) (a0 : ByteArray) : Option (Int × Int) := missiveref10_Mail.l0 k a0 0
theorem missiveref10_Mail.mono_l : ∀ k, (∀ y0, LeO (missiveref10_Mail.j1 k y0) (missiveref10_Mail.j1 (k + 1) y0)) ∧ (∀ y0 y1 y2 y3 y4, LeO (missiveref10_Mail.j2 k y0 y1 y2 y3 y4) (missiveref10_Mail.j2 (k + 1) y0 y1 y2 y3 y4)) ∧ (∀ y0 y1 y2 y3, LeO (missiveref10_Mail.j3 k y0 y1 y2 y3) (missiveref10_Mail.j3 (k + 1) y0 y1 y2 y3)) ∧ (∀ y0 y1, LeO (missiveref10_Mail.l0 k y0 y1) (missiveref10_Mail.l0 (k + 1) y0 y1))
  | 0 => ⟨fun _ r h => by simp [missiveref10_Mail.j1] at h, fun _ _ _ _ _ r h => by simp [missiveref10_Mail.j2] at h, fun _ _ _ _ r h => by simp [missiveref10_Mail.j3] at h, fun _ _ r h => by simp [missiveref10_Mail.l0] at h⟩
  | k + 1 => by
    obtain ⟨ih0, ih1, ih2, ih3⟩ := missiveref10_Mail.mono_l k
    refine ⟨?_, ?_, ?_, ?_⟩
    · intro y0
      unfold missiveref10_Mail.j1
      repeat' first
      | (with_reducible exact ih0 _)
      | (with_reducible exact ih1 _ _ _ _ _)
      | (with_reducible exact ih2 _ _ _ _)
      | (with_reducible exact ih3 _ _)
      | (with_reducible exact missiveref10_Day.mono _ _ _ _)
      | (with_reducible exact missiveref10_digits.mono _ _ _ _)
      | (with_reducible exact missiveref10_month.mono _ _)
      | (with_reducible exact missiveref10_words.mono _ _)
      | (with_reducible exact LeO.refl _)
      | (with_reducible exact LeO.none _)
      | (with_reducible refine LeO.ite ?_ ?_)
      | (with_reducible refine LeO.bind ?_ (fun _ => ?_))
      | exact ih0 _
      | exact ih1 _ _ _ _ _
      | exact ih2 _ _ _ _
      | exact ih3 _ _
      | exact missiveref10_Day.mono _ _ _ _
      | exact missiveref10_digits.mono _ _ _ _
      | exact missiveref10_month.mono _ _
      | exact missiveref10_words.mono _ _
      | exact LeO.none _
      | refine LeO.ite ?_ ?_
      | refine LeO.bind ?_ (fun _ => ?_)
    · intro y0 y1 y2 y3 y4
      unfold missiveref10_Mail.j2
      repeat' first
      | (with_reducible exact ih0 _)
      | (with_reducible exact ih1 _ _ _ _ _)
      | (with_reducible exact ih2 _ _ _ _)
      | (with_reducible exact ih3 _ _)
      | (with_reducible exact missiveref10_Day.mono _ _ _ _)
      | (with_reducible exact missiveref10_digits.mono _ _ _ _)
      | (with_reducible exact missiveref10_month.mono _ _)
      | (with_reducible exact missiveref10_words.mono _ _)
      | (with_reducible exact LeO.refl _)
      | (with_reducible exact LeO.none _)
      | (with_reducible refine LeO.ite ?_ ?_)
      | (with_reducible refine LeO.bind ?_ (fun _ => ?_))
      | exact ih0 _
      | exact ih1 _ _ _ _ _
      | exact ih2 _ _ _ _
      | exact ih3 _ _
      | exact missiveref10_Day.mono _ _ _ _
      | exact missiveref10_digits.mono _ _ _ _
      | exact missiveref10_month.mono _ _
      | exact missiveref10_words.mono _ _
      | exact LeO.none _
      | refine LeO.ite ?_ ?_
      | refine LeO.bind ?_ (fun _ => ?_)
    · intro y0 y1 y2 y3
      unfold missiveref10_Mail.j3
      repeat' first
      | (with_reducible exact ih0 _)
      | (with_reducible exact ih1 _ _ _ _ _)
      | (with_reducible exact ih2 _ _ _ _)
      | (with_reducible exact ih3 _ _)
      | (with_reducible exact missiveref10_Day.mono _ _ _ _)
      | (with_reducible exact missiveref10_digits.mono _ _ _ _)
      | (with_reducible exact missiveref10_month.mono _ _)
      | (with_reducible exact missiveref10_words.mono _ _)
      | (with_reducible exact LeO.refl _)
      | (with_reducible exact LeO.none _)
      | (with_reducible refine LeO.ite ?_ ?_)
      | (with_reducible refine LeO.bind ?_ (fun _ => ?_))
      | exact ih0 _
      | exact ih1 _ _ _ _ _
      | exact ih2 _ _ _ _
      | exact ih3 _ _
      | exact missiveref10_Day.mono _ _ _ _
      | exact missiveref10_digits.mono _ _ _ _
      | exact missiveref10_month.mono _ _
      | exact missiveref10_words.mono _ _
      | exact LeO.none _
      | refine LeO.ite ?_ ?_
      | refine LeO.bind ?_ (fun _ => ?_)
    · intro y0 y1
      unfold missiveref10_Mail.l0
      repeat' first
      | (with_reducible exact ih0 _)
      | (with_reducible exact ih1 _ _ _ _ _)
      | (with_reducible exact ih2 _ _ _ _)
      | (with_reducible exact ih3 _ _)
      | (with_reducible exact missiveref10_Day.mono _ _ _ _)
      | (with_reducible exact missiveref10_digits.mono _ _ _ _)
      | (with_reducible exact missiveref10_month.mono _ _)
      | (with_reducible exact missiveref10_words.mono _ _)
      | (with_reducible exact LeO.refl _)
      | (with_reducible exact LeO.none _)
      | (with_reducible refine LeO.ite ?_ ?_)
      | (with_reducible refine LeO.bind ?_ (fun _ => ?_))
      | exact ih0 _
      | exact ih1 _ _ _ _ _
      | exact ih2 _ _ _ _
      | exact ih3 _ _
      | exact missiveref10_Day.mono _ _ _ _
      | exact missiveref10_digits.mono _ _ _ _
      | exact missiveref10_month.mono _ _
      | exact missiveref10_words.mono _ _
      | exact LeO.none _
      | refine LeO.ite ?_ ?_
      | refine LeO.bind ?_ (fun _ => ?_)
theorem missiveref10_Mail.mono : ∀ a0 k, LeO (missiveref10_Mail.f k a0) (missiveref10_Mail.f (k + 1) a0) := by
  intro a0 k
  obtain ⟨ih0, ih1, ih2, ih3⟩ := missiveref10_Mail.mono_l k
  unfold missiveref10_Mail.f
  repeat' first
      | (with_reducible exact ih0 _)
      | (with_reducible exact ih1 _ _ _ _ _)
      | (with_reducible exact ih2 _ _ _ _)
      | (with_reducible exact ih3 _ _)
      | (with_reducible exact missiveref10_Day.mono _ _ _ _)
      | (with_reducible exact missiveref10_digits.mono _ _ _ _)
      | (with_reducible exact missiveref10_month.mono _ _)
      | (with_reducible exact missiveref10_words.mono _ _)
      | (with_reducible exact LeO.refl _)
      | (with_reducible exact LeO.none _)
      | (with_reducible refine LeO.ite ?_ ?_)
      | (with_reducible refine LeO.bind ?_ (fun _ => ?_))
      | exact ih0 _
      | exact ih1 _ _ _ _ _
      | exact ih2 _ _ _ _
      | exact ih3 _ _
      | exact missiveref10_Day.mono _ _ _ _
      | exact missiveref10_digits.mono _ _ _ _
      | exact missiveref10_month.mono _ _
      | exact missiveref10_words.mono _ _
      | exact LeO.none _
      | refine LeO.ite ?_ ?_
      | refine LeO.bind ?_ (fun _ => ?_)
def missiveref10_Mail.T9 : Bool × List (List Nat × List Nat) := (true, [([], []), ([0], [0]), ([1], [1]), ([2], [2]), ([], []), ([4], [4]), ([5], [5]), ([6, 3], [6]), ([], []), ([8], [8]), ([9], [9]), ([10, 7], [10]), ([3, 11, 0, 1, 2, 3], [3]), ([7, 12, 0, 1, 2, 3, 4, 5, 6, 7, 12], [7]), ([11, 13, 0, 1, 2, 3, 4, 5, 6, 7, 8, 9, 10, 11, 12, 13], [11])])
def missiveref10_Mail.B9 : List Nat := [0, 1, 3, 7, 0, 16, 48, 127, 0, 256, 768, 2047, 4095, 8191, 16383]
theorem missiveref10_Mail.tab9 : rtab .any (opsOf Tryz.f12 9) = missiveref10_Mail.T9 := by kernel_rfl
theorem missiveref10_Mail.bits9 : waitsOk missiveref10_Mail.T9.2 missiveref10_Mail.B9 = true := by kernel_rfl
set_option maxHeartbeats 8000000 in
set_option maxRecDepth 100000 in
theorem missiveref10_Mail.calls (k : Nat) (a0 : ByteArray) (r1 : Int) (r2 : Int) (w : World) (h : missiveref10_Mail.f k a0 = some (r1, r2)) :
    Calls Tryz.prog 12 #[.string a0] w fun e w' => e = .returned (.tuple #[.int .i64 r1, .int .i64 r2]) ∧ Below w.heap.size w w' := by
  have HB := Aside0.mk (Below.refl w.heap.size w)
  have H : (missiveref10_Mail.l0 k a0 0) = some (r1, r2) := h
  clear h
  have HC2 := Aside0.mk H
  clear H
  go_enter Tryz.func12, Tryz.ntmps12
  go_upto_block 0 with (fail)
  go_cut [0] (fun v0 wc => ∃ (kq : Nat) (x0_1 : ByteArray), v0 = .string x0_1 ∧ Aside0 (missiveref10_Mail.j1 kq x0_1 = some (r1, r2)) ∧ Aside0 (kq ≤ k) ∧ Aside0 (Below w.heap.size w wc))
  case first =>
    have H := HC2.out
    clear HC2
    have H' := Aside0.mk H
    clear H
    go_wp2
    go_loopg [0, 4] k (fun kq v0 v4 w' => ∃ (x0_1 : ByteArray) (x4_1 : Int), v0 = .string x0_1 ∧ v4 = .int .i64 x4_1 ∧ Aside0 (missiveref10_Mail.l0 kq x0_1 x4_1 = some (r1, r2)) ∧ Aside0 (kq ≤ k) ∧ Aside0 (Below w.heap.size w w'))
    case atStart => exact ⟨(a0), (0), (by first | rfl | (simp; done) | (simp [*]; done)), (by first | rfl | (simp; done) | (simp [*]; done)), H', ⟨Nat.le_refl _⟩, ⟨by repeat (first | (with_reducible first | exact HB.out | apply below_alloc | apply pw_below_drewN | apply below_drew1) | exact HB.out)⟩⟩
    case round =>
      clear H'
      try clear c1
      try clear p2
      obtain ⟨x0_1, x4_1, rfl, rfl, HA, HK1, HB⟩ := hrel
      cases gk with
      | zero => exact absurd HA.out (by simp [missiveref10_Mail.l0])
      | succ k1 =>
        have H := HA.out
        clear HA
        simp only [missiveref10_Mail.l0] at H
        by_cases c3 : x4_1 < (x0_1.size : Int)
        · rw [if_pos c3] at H
          have c3b0 : decide (x4_1 < (x0_1.size : Int)) = true := decide_eq_true c3
          clear c3
          (first | rw [c3b0] | (simp only [i64_w, i32_w]; rw [c3b0]) | skip)
          by_cases c4 : 0 ≤ x4_1
          · rw [if_pos c4] at H
            have c4b0 : decide (0 ≤ x4_1) = true := decide_eq_true c4
            clear c4
            by_cases c6 : (bt x0_1 x4_1) = 44
            · rw [if_pos c6] at H
              have c6b0 : ((bt x0_1 x4_1) == 44) = true := beq_iff_eq.mpr c6
              have c6b1 : ((bt x0_1 x4_1) != 44) = false := bne_eq_false_iff_eq.mpr c6
              clear c6
              obtain ⟨ji7, hji7⟩ : ∃ j_ : Int, (wrap64 (x4_1 + 1)) = j_ := ⟨_, rfl⟩
              replace H : (if 0 ≤ (ji7) then (if (ji7) ≤ (x0_1.size : Int) then (missiveref10_Mail.j1 k1 (x0_1.extract ((ji7) : Int).toNat x0_1.size)) else (none)) else (none)) = some (r1, r2) := by first | (rw [hji7] at H; exact H) | (simp only [hji7] at H ⊢; exact H)
              have hji7w : (IntKind.i64.wrap (x4_1 + 1)) = ji7 := (i64_w _).trans hji7
              by_cases c8 : 0 ≤ (ji7)
              · rw [if_pos c8] at H
                have c8b0 := eq_true c8
                have c8b1 : decide (0 ≤ (ji7)) = true := decide_eq_true c8
                clear c8
                by_cases c9 : (ji7) ≤ (x0_1.size : Int)
                · rw [if_pos c9] at H
                  have c9b0 := eq_true c9
                  have c9b1 : decide ((ji7) ≤ (x0_1.size : Int)) = true := decide_eq_true c9
                  clear c9
                  have H' := Aside0.mk H
                  clear H
                  have p5 : 0 ≤ (x4_1 : Int) := of_decide_eq_true (by first | (with_reducible assumption) | assumption)
                  have q5 : x4_1 < (x0_1.size : Int) := of_decide_eq_true (by first | (with_reducible assumption) | assumption)
                  have hx5 := bt_at x0_1 x4_1
                  replace p5 := eq_true p5
                  replace q5 := eq_true q5
                  go_wp2
                  go_meet
                  case rel => exact ⟨_, (x0_1.extract ((ji7) : Int).toNat x0_1.size), (by first | rfl | (simp; done) | (simp only [← hji7] <;> (first | rfl | simp)) | (simp [*]; done)), H', ⟨by have := HK1.out; first | omega | exact Nat.le_refl _⟩, ⟨by repeat (first | (with_reducible first | exact HB.out | apply below_alloc | apply pw_below_drewN | apply below_drew1) | exact HB.out)⟩⟩
                · rw [if_neg c9] at H
                  exact absurd H (by simp)
              · rw [if_neg c8] at H
                exact absurd H (by simp)
            · rw [if_neg c6] at H
              have c6b0 : ((bt x0_1 x4_1) == 44) = false := beq_eq_false_iff_ne.mpr c6
              have c6b1 : ((bt x0_1 x4_1) != 44) = true := bne_iff_ne.mpr c6
              have H' := Aside0.mk H
              clear H
              have p5 : 0 ≤ (x4_1 : Int) := of_decide_eq_true (by first | (with_reducible assumption) | assumption)
              have q5 : x4_1 < (x0_1.size : Int) := of_decide_eq_true (by first | (with_reducible assumption) | assumption)
              have hx5 := bt_at x0_1 x4_1
              replace p5 := eq_true p5
              replace q5 := eq_true q5
              go_wp2
              go_roundg k1
              case measure => have := HK1.out; omega
              case rel => exact ⟨(x0_1), (wrap64 (x4_1 + 1)), (by first | rfl | (simp; done) | (simp [*]; done)), (by first | rfl | (simp; done) | (simp [*]; done)), H', ⟨by have := HK1.out; omega⟩, ⟨by repeat (first | (with_reducible first | exact HB.out | apply below_alloc | apply pw_below_drewN | apply below_drew1) | exact HB.out)⟩⟩
          · rw [if_neg c4] at H
            exact absurd H (by simp)
        · rw [if_neg c3] at H
          have c3b0 : decide (x4_1 < (x0_1.size : Int)) = false := decide_eq_false c3
          clear c3
          (first | rw [c3b0] | (simp only [i64_w, i32_w]; rw [c3b0]) | skip)
          have H' := Aside0.mk H
          clear H
          go_wp2
          go_meet
          case rel => exact ⟨_, (x0_1), (by first | rfl | (simp; done) | (simp [*]; done)), H', ⟨by have := HK1.out; first | omega | exact Nat.le_refl _⟩, ⟨by repeat (first | (with_reducible first | exact HB.out | apply below_alloc | apply pw_below_drewN | apply below_drew1) | exact HB.out)⟩⟩
  case rest =>
    clear HC2
    try clear c1
    try clear p2
    try clear c3
    try clear c3b0
    try clear c4
    try clear c4b0
    try clear p5
    try clear q5
    try clear hx5
    try clear c6
    try clear c6b0
    try clear c6b1
    try clear p6
    try clear c8
    try clear c8b0
    try clear c8b1
    try clear c9
    try clear c9b0
    try clear c9b1
    try clear p2
    try clear p5
    try clear q5
    obtain ⟨kq, x0_1, rfl, HA, HJ1, HB⟩ := hcut
    cases kq with
    | zero => exact absurd HA.out (by simp [missiveref10_Mail.j1])
    | succ kj1 =>
      have H := HA.out
      clear HA
      simp only [missiveref10_Mail.j1] at H
      replace H := Option.bind_eq_some_iff.mp H
      obtain ⟨t194, A100, H⟩ := H
      replace H : (if (t194.length : Int) < 3 then (some (0, 7)) else (if 0 < (t194.length : Int) then ((missiveref10_digits.f kj1 (rdOf ByteArray.empty t194 0) 1 2).bind fun t198 => (if 1 < (t194.length : Int) then ((missiveref10_month.f kj1 (rdOf ByteArray.empty t194 1)).bind fun t200 => (if 2 < (t194.length : Int) then ((missiveref10_digits.f kj1 (rdOf ByteArray.empty t194 2) 2 4).bind fun t202 => (if ((rdOf ByteArray.empty t194 2).size : Int) = 2 then (if t202 ≥ 0 then (missiveref10_Mail.j2 kj1 t194 t198 t200 t202 (decide (t202 < 50))) else (missiveref10_Mail.j2 kj1 t194 t198 t200 t202 false)) else (missiveref10_Mail.j2 kj1 t194 t198 t200 t202 false))) else (none))) else (none))) else (none))) = some (r1, r2) := H
      have A10 := Aside0.mk A100
      clear A100
      by_cases c11 : (t194.length : Int) < 3
      · rw [if_pos c11] at H
        have c11b0 : decide ((t194.length : Int) < 3) = true := decide_eq_true c11
        have c11b1 : decide (t194.length < 3) = true := decide_eq_true (by omega)
        clear c11
        simp only [Option.some.injEq, Prod.mk.injEq] at H
        obtain ⟨rfl, rfl⟩ := H
        go_wp2_with (first | ((with_reducible refine gate_callee (f := 34) rfl ?_); refine goesL_ (some 26) rfl rfl Tryz.func34 (by kernel_rfl) rfl #[.string x0_1] rfl (by (try simp only [List.map_toArray, List.map_cons, List.map_nil]); first | done | rfl | (simp only [List.length_drop, List.length_take]; rfl)) ?_; (with_reducible refine (missiveref10_words.calls kj1 x0_1 t194 _ A10.out).mono ?_); rintro e w12 ⟨v195, rfl, ho0, hb⟩; refine ⟨_, rfl, ?_⟩; have n0_ := Aside0.mk (Kd.R_lower ho0 (below_size (by repeat (first | (with_reducible first | exact HB.out | apply below_alloc | apply pw_below_drewN | apply below_drew1) | exact HB.out)))); have n1_ := Aside0.mk (below_step (by repeat (first | (with_reducible first | exact HB.out | apply below_alloc | apply pw_below_drewN | apply below_drew1) | exact HB.out)) hb); clear HB; have HO196 := n0_; have HB := n1_; clear n0_ n1_; (try clear hb); (try clear hb2); (try clear hk); (try clear hi); (try clear ho0); obtain ⟨Ao13, co13, eo13⟩ := Kd.R_slice HO196.out; subst eo13))
        go_ret2
        exact ⟨by first | rfl | (simp [errW_none, errW_some] <;> rfl) | (simp [*, errW_none, errW_some] <;> rfl), by repeat (first | (with_reducible first | exact HB.out | apply below_alloc | apply pw_below_drewN | apply below_drew1) | exact HB.out)⟩
      · rw [if_neg c11] at H
        have c11b0 : decide ((t194.length : Int) < 3) = false := decide_eq_false c11
        have c11b1 : decide (t194.length < 3) = false := decide_eq_false (by omega)
        clear c11
        by_cases c14 : 0 < (t194.length : Int)
        · rw [if_pos c14] at H
          have c14b0 : decide (0 < (t194.length : Int)) = true := decide_eq_true c14
          have c14b1 : decide (0 < t194.length) = true := decide_eq_true (by omega)
          clear c14
          replace H := Option.bind_eq_some_iff.mp H
          obtain ⟨t198, A150, H⟩ := H
          replace H : (if 1 < (t194.length : Int) then ((missiveref10_month.f kj1 (rdOf ByteArray.empty t194 1)).bind fun t200 => (if 2 < (t194.length : Int) then ((missiveref10_digits.f kj1 (rdOf ByteArray.empty t194 2) 2 4).bind fun t202 => (if ((rdOf ByteArray.empty t194 2).size : Int) = 2 then (if t202 ≥ 0 then (missiveref10_Mail.j2 kj1 t194 t198 t200 t202 (decide (t202 < 50))) else (missiveref10_Mail.j2 kj1 t194 t198 t200 t202 false)) else (missiveref10_Mail.j2 kj1 t194 t198 t200 t202 false))) else (none))) else (none)) = some (r1, r2) := H
          have A15 := Aside0.mk A150
          clear A150
          by_cases c16 : 1 < (t194.length : Int)
          · rw [if_pos c16] at H
            have c16b0 : decide (1 < (t194.length : Int)) = true := decide_eq_true c16
            have c16b1 : decide (1 < t194.length) = true := decide_eq_true (by omega)
            clear c16
            replace H := Option.bind_eq_some_iff.mp H
            obtain ⟨t200, A170, H⟩ := H
            replace H : (if 2 < (t194.length : Int) then ((missiveref10_digits.f kj1 (rdOf ByteArray.empty t194 2) 2 4).bind fun t202 => (if ((rdOf ByteArray.empty t194 2).size : Int) = 2 then (if t202 ≥ 0 then (missiveref10_Mail.j2 kj1 t194 t198 t200 t202 (decide (t202 < 50))) else (missiveref10_Mail.j2 kj1 t194 t198 t200 t202 false)) else (missiveref10_Mail.j2 kj1 t194 t198 t200 t202 false))) else (none)) = some (r1, r2) := H
            have A17 := Aside0.mk A170
            clear A170
            by_cases c18 : 2 < (t194.length : Int)
            · rw [if_pos c18] at H
              have c18b0 : decide (2 < (t194.length : Int)) = true := decide_eq_true c18
              have c18b1 : decide (2 < t194.length) = true := decide_eq_true (by omega)
              clear c18
              replace H := Option.bind_eq_some_iff.mp H
              obtain ⟨t202, A190, H⟩ := H
              replace H : (if ((rdOf ByteArray.empty t194 2).size : Int) = 2 then (if t202 ≥ 0 then (missiveref10_Mail.j2 kj1 t194 t198 t200 t202 (decide (t202 < 50))) else (missiveref10_Mail.j2 kj1 t194 t198 t200 t202 false)) else (missiveref10_Mail.j2 kj1 t194 t198 t200 t202 false)) = some (r1, r2) := H
              have A19 := Aside0.mk A190
              clear A190
              have HC20 := Aside0.mk H
              clear H
              try go_wp2_with (first | ((with_reducible refine gate_callee (f := 34) rfl ?_); refine goesL_ (some 26) rfl rfl Tryz.func34 (by kernel_rfl) rfl #[.string x0_1] rfl (by (try simp only [List.map_toArray, List.map_cons, List.map_nil]); first | done | rfl | (simp only [List.length_drop, List.length_take]; rfl)) ?_; (with_reducible refine (missiveref10_words.calls kj1 x0_1 t194 _ A10.out).mono ?_); rintro e w21 ⟨v195, rfl, ho0, hb⟩; refine ⟨_, rfl, ?_⟩; have n0_ := Aside0.mk (Kd.R_lower ho0 (below_size (by repeat (first | (with_reducible first | exact HB.out | apply below_alloc | apply pw_below_drewN | apply below_drew1) | exact HB.out)))); have n1_ := Aside0.mk (below_step (by repeat (first | (with_reducible first | exact HB.out | apply below_alloc | apply pw_below_drewN | apply below_drew1) | exact HB.out)) hb); clear HB; have HO196 := n0_; have HB := n1_; clear n0_ n1_; (try clear hb); (try clear hb2); (try clear hk); (try clear hi); (try clear ho0); obtain ⟨Ao22, co22, eo22⟩ := Kd.R_slice HO196.out; subst eo22))
              have n0_ := Aside0.mk (Kd.R_drew HO196.out)
              have n1_ := Aside0.mk (below_drew1 HB.out)
              clear HO196
              clear HB
              have HO196 := n0_
              have HB := n1_
              clear n0_ n1_
              have p197 : 0 ≤ (0 : Int) := (by omega)
              have q197 : 0 < (t194.length : Int) := of_decide_eq_true (by first | (with_reducible assumption) | assumption)
              obtain ⟨ad197, e197, hx197_0⟩ := Kd.at_string (Kd.R_reads' HO196.out).2.2 0 p197 q197
              cases e197
              have qi197 : (0 < t194.length) = True := eq_true (by omega)
              (try rw [show ((0 : Int)).toNat = 0 from rfl] at hx197_0)
              (try rw [Addr.add_zero'] at hx197_0)
              replace p197 := eq_true p197
              replace q197 := eq_true q197
              have p199 : 0 ≤ (1 : Int) := (by omega)
              have q199 : 1 < (t194.length : Int) := of_decide_eq_true (by first | (with_reducible assumption) | assumption)
              obtain ⟨ad199, e199, hx199_0⟩ := Kd.at_string (Kd.R_reads' HO196.out).2.2 1 p199 q199
              obtain rfl : ad197 = ad199 := (by injection e199)
              (try simp only [show (1 : Int).toNat = 1 from rfl, Nat.reduceMul, Nat.reduceEqDiff, Go.Addr.add, ↓reduceIte] at hx199_0)
              have qi199 : (1 < t194.length) = True := eq_true (by omega)
              (try rw [show ((1 : Int)).toNat = 1 from rfl] at hx199_0)
              replace p199 := eq_true p199
              replace q199 := eq_true q199
              have p201 : 0 ≤ (2 : Int) := (by omega)
              have q201 : 2 < (t194.length : Int) := of_decide_eq_true (by first | (with_reducible assumption) | assumption)
              obtain ⟨ad201, e201, hx201_0⟩ := Kd.at_string (Kd.R_reads' HO196.out).2.2 2 p201 q201
              obtain rfl : ad197 = ad201 := (by injection e201)
              (try simp only [show (2 : Int).toNat = 2 from rfl, Nat.reduceMul, Nat.reduceEqDiff, Go.Addr.add, ↓reduceIte] at hx201_0)
              have qi201 : (2 < t194.length) = True := eq_true (by omega)
              (try rw [show ((2 : Int)).toNat = 2 from rfl] at hx201_0)
              replace p201 := eq_true p201
              replace q201 := eq_true q201
              refine start_ (n := 15) (S := fun w' => w'.cell? ad197 = some (.string (rdOf ByteArray.empty t194 0)) ∧ w'.cell? ⟨ad197.block, ad197.off + 1, none⟩ = some (.string (rdOf ByteArray.empty t194 1)) ∧ w'.cell? ⟨ad197.block, ad197.off + 2, none⟩ = some (.string (rdOf ByteArray.empty t194 2))) (ds := []) #[false, false, false, false, false, false, false, false, false, false, false, false, false, false, false] (by kernel_rfl) rfl rfl ⟨hx197_0, hx199_0, hx201_0⟩ (fun hHeld => ?_); refine with_tabW missiveref10_Mail.tab9 missiveref10_Mail.bits9 (fun HT_ HW_ => ?_)
              generalize w21.drew = w23 at HO196 HB hx197_0 hx199_0 hx201_0 hHeld ⊢
              refine pure_ (i := 0) (N := some 30) (v := ?_) (a' := ?_) #[true, false, false, false, false, false, false, false, false, false, false, false, false, false, false] rfl rfl (any_of HT_.out (by kernel_rfl)) (fun _ _ _ h => h) (Or.inl ⟨by rfl, ?_⟩) ?_ ?_
              rotate_left
              · intro w'
                go_simp
                with_reducible rfl
              rotate_left
              · simp only [Act.put, List.setIfInBounds_toArray, List.set_cons_zero, List.set_cons_succ, i64_w, i32_w]
                rfl
              refine pure_ (i := 1) (N := some 31) (v := ?_) (a' := ?_) #[true, true, false, false, false, false, false, false, false, false, false, false, false, false, false] rfl rfl (any_of HT_.out (by kernel_rfl)) (fun _ _ _ h => h) (Or.inl ⟨by rfl, ?_⟩) ?_ ?_
              rotate_left
              · intro w'
                go_simp
                with_reducible rfl
              rotate_left
              · simp only [Act.put, List.setIfInBounds_toArray, List.set_cons_zero, List.set_cons_succ, i64_w, i32_w]
                rfl
              refine pure_ (i := 4) (N := some 34) (v := ?_) (a' := ?_) #[true, true, false, false, true, false, false, false, false, false, false, false, false, false, false] rfl rfl (any_of HT_.out (by kernel_rfl)) (fun _ _ _ h => h) (Or.inl ⟨by rfl, ?_⟩) ?_ ?_
              rotate_left
              · intro w'
                go_simp
                with_reducible rfl
              rotate_left
              · simp only [Act.put, List.setIfInBounds_toArray, List.set_cons_zero, List.set_cons_succ, i64_w, i32_w]
                rfl
              refine pure_ (i := 5) (N := some 35) (v := ?_) (a' := ?_) #[true, true, false, false, true, true, false, false, false, false, false, false, false, false, false] rfl rfl (any_of HT_.out (by kernel_rfl)) (fun _ _ _ h => h) (Or.inl ⟨by rfl, ?_⟩) ?_ ?_
              rotate_left
              · intro w'
                go_simp
                with_reducible rfl
              rotate_left
              · simp only [Act.put, List.setIfInBounds_toArray, List.set_cons_zero, List.set_cons_succ, i64_w, i32_w]
                rfl
              refine pure_ (i := 8) (N := some 38) (v := ?_) (a' := ?_) #[true, true, false, false, true, true, false, false, true, false, false, false, false, false, false] rfl rfl (any_of HT_.out (by kernel_rfl)) (fun _ _ _ h => h) (Or.inl ⟨by rfl, ?_⟩) ?_ ?_
              rotate_left
              · intro w'
                go_simp
                with_reducible rfl
              rotate_left
              · simp only [Act.put, List.setIfInBounds_toArray, List.set_cons_zero, List.set_cons_succ, i64_w, i32_w]
                rfl
              refine pure_ (i := 9) (N := some 39) (v := ?_) (a' := ?_) #[true, true, false, false, true, true, false, false, true, true, false, false, false, false, false] rfl rfl (any_of HT_.out (by kernel_rfl)) (fun _ _ _ h => h) (Or.inl ⟨by rfl, ?_⟩) ?_ ?_
              rotate_left
              · intro w'
                go_simp
                with_reducible rfl
              rotate_left
              · simp only [Act.put, List.setIfInBounds_toArray, List.set_cons_zero, List.set_cons_succ, i64_w, i32_w]
                rfl
              refine take_ (i := 2) (N := some 32) (v := ?_) (a' := ?_) #[true, true, true, false, true, true, false, false, true, true, false, false, false, false, false] rfl rfl (take_ofW HT_.out HW_.out (by kernel_rfl)) (fun _ _ _ h => h) (Or.inl ⟨by rfl, ?_⟩) hHeld ?_ ?_
              rotate_left
              · rintro w' ⟨s0, s1, s2⟩
                go_simp
                with_reducible rfl
              rotate_left
              · simp only [Act.put, List.setIfInBounds_toArray, List.set_cons_zero, List.set_cons_succ, i64_w, i32_w]
                rfl
              refine take_ (i := 6) (N := some 36) (v := ?_) (a' := ?_) #[true, true, true, false, true, true, true, false, true, true, false, false, false, false, false] rfl rfl (take_ofW HT_.out HW_.out (by kernel_rfl)) (fun _ _ _ h => h) (Or.inl ⟨by rfl, ?_⟩) hHeld ?_ ?_
              rotate_left
              · rintro w' ⟨s0, s1, s2⟩
                go_simp
                with_reducible rfl
              rotate_left
              · simp only [Act.put, List.setIfInBounds_toArray, List.set_cons_zero, List.set_cons_succ, i64_w, i32_w]
                rfl
              refine take_ (i := 10) (N := some 40) (v := ?_) (a' := ?_) #[true, true, true, false, true, true, true, false, true, true, true, false, false, false, false] rfl rfl (take_ofW HT_.out HW_.out (by kernel_rfl)) (fun _ _ _ h => h) (Or.inl ⟨by rfl, ?_⟩) hHeld ?_ ?_
              rotate_left
              · rintro w' ⟨s0, s1, s2⟩
                go_simp
                with_reducible rfl
              rotate_left
              · simp only [Act.put, List.setIfInBounds_toArray, List.set_cons_zero, List.set_cons_succ, i64_w, i32_w]
                rfl
              refine one_ (i := 3) (N := some 33) #[true, true, true, true, true, true, true, false, true, true, true, false, false, false, false] rfl rfl (one_of HT_.out (by kernel_rfl)) (by decide) (fun K hK => ?_)
              refine goes_ Tryz.func25 (by kernel_rfl) rfl #[.string (rdOf ByteArray.empty t194 0), .int .i64 1, .int .i64 2] (by rfl) rfl rfl (by (try simp only [List.map_toArray, List.map_cons, List.map_nil]); first | done | rfl | (simp only [List.length_drop, List.length_take]; rfl)) ?_
              with_reducible refine (missiveref10_digits.calls kj1 (rdOf ByteArray.empty t194 0) 1 2 t198 _ A15.out).mono ?_
              rintro e w' ⟨rfl, ⟨nd, rfl⟩⟩
              refine ⟨_, rfl, ?_⟩
              refine hK.out _ _ ⟨hHeld.1, hHeld.2.1, hHeld.2.2⟩ (fun hHeld => ?_)
              clear hK K
              refine norm_ (a' := ?_) ?_ ?_
              rotate_left
              · show Act.put _ (some 33) _ = _
                simp only [Act.put, List.setIfInBounds_toArray, List.set_cons_zero, List.set_cons_succ, i64_w, i32_w]
                rfl
              refine one_ (i := 7) (N := some 37) #[true, true, true, true, true, true, true, true, true, true, true, false, false, false, false] rfl rfl (one_of HT_.out (by kernel_rfl)) (by decide) (fun K hK => ?_)
              refine goes_ Tryz.func26 (by kernel_rfl) rfl #[.string (rdOf ByteArray.empty t194 1)] (by rfl) rfl rfl (by (try simp only [List.map_toArray, List.map_cons, List.map_nil]); first | done | rfl | (simp only [List.length_drop, List.length_take]; rfl)) ?_
              with_reducible refine (missiveref10_month.calls kj1 (rdOf ByteArray.empty t194 1) t200 _ A17.out).mono ?_
              rintro e w24 ⟨rfl, hb⟩
              have HS0_ := (hb.cell (World.block_lt_of_cell? _ _ (hHeld.1))).trans (hHeld.1)
              have HS1_ := (hb.cell (World.block_lt_of_cell? _ _ (hHeld.2.1))).trans (hHeld.2.1)
              have HS2_ := (hb.cell (World.block_lt_of_cell? _ _ (hHeld.2.2))).trans (hHeld.2.2)
              refine ⟨_, rfl, ?_⟩
              have n0_ := Aside0.mk (Kd.R_below (by (with_reducible repeat (first | apply Kd.R_alloc | apply Kd.R_drewN | apply Kd.R_drew)); exact HO196.out) hb)
              have n1_ := Aside0.mk (below_step (by repeat (first | (with_reducible first | exact HB.out | apply below_alloc | apply pw_below_drewN | apply below_drew1) | exact HB.out)) hb)
              clear HO196
              clear HB
              have HO196 := n0_
              have HB := n1_
              clear n0_ n1_
              (try clear hb)
              (try clear hb2)
              (try clear hk)
              (try clear hi)
              refine hK.out _ _ ⟨HS0_, HS1_, HS2_⟩ (fun hHeld => ?_)
              clear hK K
              refine norm_ (a' := ?_) ?_ ?_
              rotate_left
              · show Act.put _ (some 37) _ = _
                simp only [Act.put, List.setIfInBounds_toArray, List.set_cons_zero, List.set_cons_succ, i64_w, i32_w]
                rfl
              refine one_ (i := 11) (N := some 41) #[true, true, true, true, true, true, true, true, true, true, true, true, false, false, false] rfl rfl (one_of HT_.out (by kernel_rfl)) (by decide) (fun K hK => ?_)
              refine goes_ Tryz.func25 (by kernel_rfl) rfl #[.string (rdOf ByteArray.empty t194 2), .int .i64 2, .int .i64 4] (by rfl) rfl rfl (by (try simp only [List.map_toArray, List.map_cons, List.map_nil]); first | done | rfl | (simp only [List.length_drop, List.length_take]; rfl)) ?_
              with_reducible refine (missiveref10_digits.calls kj1 (rdOf ByteArray.empty t194 2) 2 4 t202 _ A19.out).mono ?_
              rintro e w' ⟨rfl, ⟨nd, rfl⟩⟩
              refine ⟨_, rfl, ?_⟩
              refine hK.out _ _ ⟨hHeld.1, hHeld.2.1, hHeld.2.2⟩ (fun hHeld => ?_)
              clear hK K
              refine norm_ (a' := ?_) ?_ ?_
              rotate_left
              · show Act.put _ (some 41) _ = _
                simp only [Act.put, List.setIfInBounds_toArray, List.set_cons_zero, List.set_cons_succ, i64_w, i32_w]
                rfl
              refine pure_ (i := 12) (N := some 6) (v := ?_) (a' := ?_) #[true, true, true, true, true, true, true, true, true, true, true, true, true, false, false] rfl rfl (any_of HT_.out (by kernel_rfl)) (fun _ _ _ h => h) (Or.inl ⟨by rfl, ?_⟩) ?_ ?_
              rotate_left
              · intro w'
                go_simp
                with_reducible rfl
              rotate_left
              · simp only [Act.put, List.setIfInBounds_toArray, List.set_cons_zero, List.set_cons_succ, i64_w, i32_w]
                rfl
              refine pure_ (i := 13) (N := some 7) (v := ?_) (a' := ?_) #[true, true, true, true, true, true, true, true, true, true, true, true, true, true, false] rfl rfl (any_of HT_.out (by kernel_rfl)) (fun _ _ _ h => h) (Or.inl ⟨by rfl, ?_⟩) ?_ ?_
              rotate_left
              · intro w'
                go_simp
                with_reducible rfl
              rotate_left
              · simp only [Act.put, List.setIfInBounds_toArray, List.set_cons_zero, List.set_cons_succ, i64_w, i32_w]
                rfl
              refine pure_ (i := 14) (N := some 8) (v := ?_) (a' := ?_) #[true, true, true, true, true, true, true, true, true, true, true, true, true, true, true] rfl rfl (any_of HT_.out (by kernel_rfl)) (fun _ _ _ h => h) (Or.inl ⟨by rfl, ?_⟩) ?_ ?_
              rotate_left
              · intro w'
                go_simp
                with_reducible rfl
              rotate_left
              · simp only [Act.put, List.setIfInBounds_toArray, List.set_cons_zero, List.set_cons_succ, i64_w, i32_w]
                rfl
              refine done_ (done_of HT_.out (by kernel_rfl)) ?_
              go_upto_region 10 with (fail)
              go_cut [54] (fun v54 wc => ∃ (kq : Nat) (x54_19 : Bool), v54 = .bool x54_19 ∧ Aside0 (missiveref10_Mail.j2 kq t194 t198 t200 t202 x54_19 = some (r1, r2)) ∧ Aside0 (kq ≤ kj1) ∧ Aside0 (Kd.R Kd.string 9 wc w.heap.size (fun _ => True) (.slice (some ad197) t194.length co22) t194) ∧ Aside0 (Below w.heap.size w wc))
              case first =>
                have H := HC20.out
                clear HC20
                by_cases c25 : ((rdOf ByteArray.empty t194 2).size : Int) = 2
                · rw [if_pos c25] at H
                  have c25b0 : (((rdOf ByteArray.empty t194 2).size : Int) == 2) = true := beq_iff_eq.mpr c25
                  have c25b1 : (((rdOf ByteArray.empty t194 2).size : Int) != 2) = false := bne_eq_false_iff_eq.mpr c25
                  clear c25
                  (first | rw [c25b0] | (simp only [i64_w, i32_w]; rw [c25b0]) | skip)
                  by_cases c26 : t202 ≥ 0
                  · rw [if_pos c26] at H
                    have c26b0 : decide (0 ≤ t202) = true := decide_eq_true c26
                    clear c26
                    have H' := Aside0.mk H
                    clear H
                    have p203 : 0 ≤ (2 : Int) := (by omega)
                    have q203 : 2 < (t194.length : Int) := of_decide_eq_true (by first | (with_reducible assumption) | assumption)
                    obtain ⟨ad203, e203, hx203_0⟩ := Kd.at_string (Kd.R_reads' HO196.out).2.2 2 p203 q203
                    obtain rfl : ad197 = ad203 := (by injection e203)
                    (try simp only [show (2 : Int).toNat = 2 from rfl, Nat.reduceMul, Nat.reduceEqDiff, Go.Addr.add, ↓reduceIte] at hx203_0)
                    have qi203 : (2 < t194.length) = True := eq_true (by omega)
                    (try rw [show ((2 : Int)).toNat = 2 from rfl] at hx203_0)
                    replace p203 := eq_true p203
                    replace q203 := eq_true q203
                    go_wp2
                    go_meet
                    case rel => exact ⟨_, (decide (t202 < 50)), (by first | rfl | (simp; done) | (simp [*]; done)), H', ⟨by have := HJ1.out; first | omega | exact Nat.le_refl _⟩, ⟨by (with_reducible repeat (first | apply Kd.R_alloc | apply Kd.R_drewN | apply Kd.R_drew)); exact HO196.out⟩, ⟨by repeat (first | (with_reducible first | exact HB.out | apply below_alloc | apply pw_below_drewN | apply below_drew1) | exact HB.out)⟩⟩
                  · rw [if_neg c26] at H
                    have c26b0 : decide (0 ≤ t202) = false := decide_eq_false c26
                    clear c26
                    have H' := Aside0.mk H
                    clear H
                    have p203 : 0 ≤ (2 : Int) := (by omega)
                    have q203 : 2 < (t194.length : Int) := of_decide_eq_true (by first | (with_reducible assumption) | assumption)
                    obtain ⟨ad203, e203, hx203_0⟩ := Kd.at_string (Kd.R_reads' HO196.out).2.2 2 p203 q203
                    obtain rfl : ad197 = ad203 := (by injection e203)
                    (try simp only [show (2 : Int).toNat = 2 from rfl, Nat.reduceMul, Nat.reduceEqDiff, Go.Addr.add, ↓reduceIte] at hx203_0)
                    have qi203 : (2 < t194.length) = True := eq_true (by omega)
                    (try rw [show ((2 : Int)).toNat = 2 from rfl] at hx203_0)
                    replace p203 := eq_true p203
                    replace q203 := eq_true q203
                    go_wp2
                    go_meet
                    case rel => exact ⟨_, (false), (by first | rfl | (simp; done) | (simp [*]; done)), H', ⟨by have := HJ1.out; first | omega | exact Nat.le_refl _⟩, ⟨by (with_reducible repeat (first | apply Kd.R_alloc | apply Kd.R_drewN | apply Kd.R_drew)); exact HO196.out⟩, ⟨by repeat (first | (with_reducible first | exact HB.out | apply below_alloc | apply pw_below_drewN | apply below_drew1) | exact HB.out)⟩⟩
                · rw [if_neg c25] at H
                  have c25b0 : (((rdOf ByteArray.empty t194 2).size : Int) == 2) = false := beq_eq_false_iff_ne.mpr c25
                  have c25b1 : (((rdOf ByteArray.empty t194 2).size : Int) != 2) = true := bne_iff_ne.mpr c25
                  (first | rw [c25b0] | (simp only [i64_w, i32_w]; rw [c25b0]) | skip)
                  have H' := Aside0.mk H
                  clear H
                  have p203 : 0 ≤ (2 : Int) := (by omega)
                  have q203 : 2 < (t194.length : Int) := of_decide_eq_true (by first | (with_reducible assumption) | assumption)
                  obtain ⟨ad203, e203, hx203_0⟩ := Kd.at_string (Kd.R_reads' HO196.out).2.2 2 p203 q203
                  obtain rfl : ad197 = ad203 := (by injection e203)
                  (try simp only [show (2 : Int).toNat = 2 from rfl, Nat.reduceMul, Nat.reduceEqDiff, Go.Addr.add, ↓reduceIte] at hx203_0)
                  have qi203 : (2 < t194.length) = True := eq_true (by omega)
                  (try rw [show ((2 : Int)).toNat = 2 from rfl] at hx203_0)
                  replace p203 := eq_true p203
                  replace q203 := eq_true q203
                  go_wp2
                  go_meet
                  case rel => exact ⟨_, (false), (by first | rfl | (simp; done) | (simp [*]; done)), H', ⟨by have := HJ1.out; first | omega | exact Nat.le_refl _⟩, ⟨by (with_reducible repeat (first | apply Kd.R_alloc | apply Kd.R_drewN | apply Kd.R_drew)); exact HO196.out⟩, ⟨by repeat (first | (with_reducible first | exact HB.out | apply below_alloc | apply pw_below_drewN | apply below_drew1) | exact HB.out)⟩⟩
              case rest =>
                clear HC20
                try clear c1
                try clear p1
                try clear q1
                try clear hx1
                try clear qi1
                try clear c2
                try clear p2
                try clear q2
                try clear hx2
                try clear qi2
                try clear c3
                try clear c3b0
                try clear c4
                try clear c4b0
                try clear p5
                try clear q5
                try clear hx5
                try clear c6
                try clear c6b0
                try clear c6b1
                try clear p6
                try clear c8
                try clear c8b0
                try clear c8b1
                try clear c9
                try clear c9b0
                try clear c9b1
                try clear c11
                try clear c11b0
                try clear c11b1
                try clear c12
                try clear c14
                try clear c14b0
                try clear c14b1
                try clear c16
                try clear c16b0
                try clear c16b1
                try clear c18
                try clear c18b0
                try clear c18b1
                try clear p19
                try clear q19
                try clear hx19
                try clear qi19
                try clear p20
                try clear q20
                try clear hx20
                try clear qi20
                try clear c25
                try clear c25b0
                try clear c25b1
                try clear c26
                try clear c26b0
                try clear hx197_0
                try clear hx199_0
                try clear hx201_0
                try clear hx203_0
                try clear p197
                try clear p199
                try clear p2
                try clear p201
                try clear p203
                try clear p5
                try clear p6
                try clear q197
                try clear q199
                try clear q201
                try clear q203
                try clear q5
                obtain ⟨kq, x54_19, rfl, HA, HJ19, HO_5, HB⟩ := hcut
                cases kq with
                | zero => exact absurd HA.out (by simp [missiveref10_Mail.j2])
                | succ kj19 =>
                  have H := HA.out
                  clear HA
                  simp only [missiveref10_Mail.j2] at H
                  by_cases c27 : x54_19 = true
                  · subst c27
                    have H1 : ((missiveref10_Day.f kj19 (wrap64 (t202 + 2000)) t200 t198).bind fun bt204 => (if bt204.2 = 0 then (some (bt204.1, 0)) else (some (0, 7)))) = some (r1, r2) := by rw [if_pos rfl] at H; exact H
                    clear H
                    have H := H1
                    clear H1
                    replace H := Option.bind_eq_some_iff.mp H
                    obtain ⟨⟨t204, t205⟩, A280, H⟩ := H
                    replace H : (if t205 = 0 then (some (t204, 0)) else (some (0, 7))) = some (r1, r2) := H
                    have A28 := Aside0.mk A280
                    clear A280
                    by_cases c29 : t205 = 0
                    · rw [if_pos c29] at H
                      have c29b0 : (t205 == 0) = true := beq_iff_eq.mpr c29
                      have c29b1 : (t205 != 0) = false := bne_eq_false_iff_eq.mpr c29
                      clear c29
                      simp only [Option.some.injEq, Prod.mk.injEq] at H
                      obtain ⟨rfl, rfl⟩ := H
                      go_wp2_with (first | ((with_reducible refine gate_callee (f := 27) rfl ?_); refine goesL_ (some 72) rfl rfl Tryz.func27 (by kernel_rfl) rfl #[.int .i64 (wrap64 (t202 + 2000)), .int .i64 t200, .int .i64 t198] rfl (by (try simp only [List.map_toArray, List.map_cons, List.map_nil]); first | done | rfl | (simp only [List.length_drop, List.length_take]; rfl)) ?_; (with_reducible refine (missiveref10_Day.calls kj19 (wrap64 (t202 + 2000)) t200 t198 t204 t205 _ A28.out).mono ?_); rintro e w' ⟨rfl, ⟨nd, rfl⟩⟩; refine ⟨_, rfl, ?_⟩))
                      go_ret2
                      exact ⟨by first | rfl | (simp [errW_none, errW_some] <;> rfl) | (simp [*, errW_none, errW_some] <;> rfl), by repeat (first | (with_reducible first | exact HB.out | apply below_alloc | apply pw_below_drewN | apply below_drew1) | exact HB.out)⟩
                    · rw [if_neg c29] at H
                      have c29b0 : (t205 == 0) = false := beq_eq_false_iff_ne.mpr c29
                      have c29b1 : (t205 != 0) = true := bne_iff_ne.mpr c29
                      simp only [Option.some.injEq, Prod.mk.injEq] at H
                      obtain ⟨rfl, rfl⟩ := H
                      go_wp2_with (first | ((with_reducible refine gate_callee (f := 27) rfl ?_); refine goesL_ (some 72) rfl rfl Tryz.func27 (by kernel_rfl) rfl #[.int .i64 (wrap64 (t202 + 2000)), .int .i64 t200, .int .i64 t198] rfl (by (try simp only [List.map_toArray, List.map_cons, List.map_nil]); first | done | rfl | (simp only [List.length_drop, List.length_take]; rfl)) ?_; (with_reducible refine (missiveref10_Day.calls kj19 (wrap64 (t202 + 2000)) t200 t198 t204 t205 _ A28.out).mono ?_); rintro e w' ⟨rfl, ⟨nd, rfl⟩⟩; refine ⟨_, rfl, ?_⟩))
                      go_ret2
                      exact ⟨by first | rfl | (simp [errW_none, errW_some] <;> rfl) | (simp [*, errW_none, errW_some] <;> rfl), by repeat (first | (with_reducible first | exact HB.out | apply below_alloc | apply pw_below_drewN | apply below_drew1) | exact HB.out)⟩
                  · replace c27 := Bool.eq_false_iff.mpr c27
                    subst c27
                    have H1 : (if 2 < (t194.length : Int) then (if ((rdOf ByteArray.empty t194 2).size : Int) < 4 then (missiveref10_Mail.j3 kj19 t198 t200 t202 (decide (t202 ≥ 0))) else (missiveref10_Mail.j3 kj19 t198 t200 t202 false)) else (none)) = some (r1, r2) := by rw [if_neg (show ¬ (false = true) by decide)] at H; exact H
                    clear H
                    have H := H1
                    clear H1
                    have HC30 := Aside0.mk H
                    clear H
                    go_upto_region 12 with (fail)
                    go_cut [65] (fun v65 wc => ∃ (kq : Nat) (x65_29 : Bool), v65 = .bool x65_29 ∧ Aside0 (missiveref10_Mail.j3 kq t198 t200 t202 x65_29 = some (r1, r2)) ∧ Aside0 (kq ≤ kj19) ∧ Aside0 (Below w.heap.size w wc))
                    case first =>
                      have H := HC30.out
                      clear HC30
                      by_cases c31 : 2 < (t194.length : Int)
                      · rw [if_pos c31] at H
                        have c31b0 : decide (2 < (t194.length : Int)) = true := decide_eq_true c31
                        have c31b1 : decide (2 < t194.length) = true := decide_eq_true (by omega)
                        clear c31
                        (first | rw [c31b0] | (simp only [i64_w, i32_w]; rw [c31b0]) | skip)
                        by_cases c32 : ((rdOf ByteArray.empty t194 2).size : Int) < 4
                        · rw [if_pos c32] at H
                          have c32b0 : decide (((rdOf ByteArray.empty t194 2).size : Int) < 4) = true := decide_eq_true c32
                          have c32b1 : decide ((rdOf ByteArray.empty t194 2).size < 4) = true := decide_eq_true (by omega)
                          clear c32
                          have H' := Aside0.mk H
                          clear H
                          have p206 : 0 ≤ (2 : Int) := (by omega)
                          have q206 : 2 < (t194.length : Int) := of_decide_eq_true (by first | (with_reducible assumption) | assumption)
                          obtain ⟨ad206, e206, hx206_0⟩ := Kd.at_string (Kd.R_reads' HO_5.out).2.2 2 p206 q206
                          obtain rfl : ad197 = ad206 := (by injection e206)
                          (try simp only [show (2 : Int).toNat = 2 from rfl, Nat.reduceMul, Nat.reduceEqDiff, Go.Addr.add, ↓reduceIte] at hx206_0)
                          have qi206 : (2 < t194.length) = True := eq_true (by omega)
                          (try rw [show ((2 : Int)).toNat = 2 from rfl] at hx206_0)
                          replace p206 := eq_true p206
                          replace q206 := eq_true q206
                          go_wp2
                          go_meet
                          case rel => exact ⟨_, (decide (t202 ≥ 0)), (by first | rfl | (simp; done) | (simp [*]; done)), H', ⟨by have := HJ1.out; have := HJ19.out; first | omega | exact Nat.le_refl _⟩, ⟨by repeat (first | (with_reducible first | exact HB.out | apply below_alloc | apply pw_below_drewN | apply below_drew1) | exact HB.out)⟩⟩
                        · rw [if_neg c32] at H
                          have c32b0 : decide (((rdOf ByteArray.empty t194 2).size : Int) < 4) = false := decide_eq_false c32
                          have c32b1 : decide ((rdOf ByteArray.empty t194 2).size < 4) = false := decide_eq_false (by omega)
                          clear c32
                          have H' := Aside0.mk H
                          clear H
                          have p206 : 0 ≤ (2 : Int) := (by omega)
                          have q206 : 2 < (t194.length : Int) := of_decide_eq_true (by first | (with_reducible assumption) | assumption)
                          obtain ⟨ad206, e206, hx206_0⟩ := Kd.at_string (Kd.R_reads' HO_5.out).2.2 2 p206 q206
                          obtain rfl : ad197 = ad206 := (by injection e206)
                          (try simp only [show (2 : Int).toNat = 2 from rfl, Nat.reduceMul, Nat.reduceEqDiff, Go.Addr.add, ↓reduceIte] at hx206_0)
                          have qi206 : (2 < t194.length) = True := eq_true (by omega)
                          (try rw [show ((2 : Int)).toNat = 2 from rfl] at hx206_0)
                          replace p206 := eq_true p206
                          replace q206 := eq_true q206
                          go_wp2
                          go_meet
                          case rel => exact ⟨_, (false), (by first | rfl | (simp; done) | (simp [*]; done)), H', ⟨by have := HJ1.out; have := HJ19.out; first | omega | exact Nat.le_refl _⟩, ⟨by repeat (first | (with_reducible first | exact HB.out | apply below_alloc | apply pw_below_drewN | apply below_drew1) | exact HB.out)⟩⟩
                      · rw [if_neg c31] at H
                        exact absurd H (by simp)
                    case rest =>
                      clear HC30
                      try clear c1
                      try clear p1
                      try clear q1
                      try clear hx1
                      try clear qi1
                      try clear c2
                      try clear p2
                      try clear q2
                      try clear hx2
                      try clear qi2
                      try clear c3
                      try clear c3b0
                      try clear c4
                      try clear c4b0
                      try clear p5
                      try clear q5
                      try clear hx5
                      try clear c6
                      try clear c6b0
                      try clear c6b1
                      try clear p6
                      try clear c8
                      try clear c8b0
                      try clear c8b1
                      try clear c9
                      try clear c9b0
                      try clear c9b1
                      try clear c11
                      try clear c11b0
                      try clear c11b1
                      try clear c12
                      try clear c14
                      try clear c14b0
                      try clear c14b1
                      try clear c16
                      try clear c16b0
                      try clear c16b1
                      try clear c18
                      try clear c18b0
                      try clear c18b1
                      try clear p19
                      try clear q19
                      try clear hx19
                      try clear qi19
                      try clear p20
                      try clear q20
                      try clear hx20
                      try clear qi20
                      try clear c25
                      try clear c25b0
                      try clear c25b1
                      try clear c26
                      try clear c26b0
                      try clear c27
                      try clear c29
                      try clear c29b0
                      try clear c29b1
                      try clear c31
                      try clear c31b0
                      try clear c31b1
                      try clear c32
                      try clear c32b0
                      try clear c32b1
                      try clear hx197_0
                      try clear hx199_0
                      try clear hx201_0
                      try clear hx203_0
                      try clear hx206_0
                      try clear p1
                      try clear p19
                      try clear p197
                      try clear p199
                      try clear p2
                      try clear p20
                      try clear p201
                      try clear p203
                      try clear p206
                      try clear p5
                      try clear p6
                      try clear q1
                      try clear q19
                      try clear q197
                      try clear q199
                      try clear q2
                      try clear q20
                      try clear q201
                      try clear q203
                      try clear q206
                      try clear q5
                      obtain ⟨kq, x65_29, rfl, HA, HJ29, HB⟩ := hcut
                      cases kq with
                      | zero => exact absurd HA.out (by simp [missiveref10_Mail.j3])
                      | succ kj29 =>
                        have H := HA.out
                        clear HA
                        simp only [missiveref10_Mail.j3] at H
                        by_cases c33 : x65_29 = true
                        · subst c33
                          have H1 : ((missiveref10_Day.f kj29 (wrap64 (t202 + 1900)) t200 t198).bind fun bt207 => (if bt207.2 = 0 then (some (bt207.1, 0)) else (some (0, 7)))) = some (r1, r2) := by rw [if_pos rfl] at H; exact H
                          clear H
                          have H := H1
                          clear H1
                          replace H := Option.bind_eq_some_iff.mp H
                          obtain ⟨⟨t207, t208⟩, A340, H⟩ := H
                          replace H : (if t208 = 0 then (some (t207, 0)) else (some (0, 7))) = some (r1, r2) := H
                          have A34 := Aside0.mk A340
                          clear A340
                          by_cases c35 : t208 = 0
                          · rw [if_pos c35] at H
                            have c35b0 : (t208 == 0) = true := beq_iff_eq.mpr c35
                            have c35b1 : (t208 != 0) = false := bne_eq_false_iff_eq.mpr c35
                            clear c35
                            simp only [Option.some.injEq, Prod.mk.injEq] at H
                            obtain ⟨rfl, rfl⟩ := H
                            go_wp2_with (first | ((with_reducible refine gate_callee (f := 27) rfl ?_); refine goesL_ (some 72) rfl rfl Tryz.func27 (by kernel_rfl) rfl #[.int .i64 (wrap64 (t202 + 1900)), .int .i64 t200, .int .i64 t198] rfl (by (try simp only [List.map_toArray, List.map_cons, List.map_nil]); first | done | rfl | (simp only [List.length_drop, List.length_take]; rfl)) ?_; (with_reducible refine (missiveref10_Day.calls kj29 (wrap64 (t202 + 1900)) t200 t198 t207 t208 _ A34.out).mono ?_); rintro e w' ⟨rfl, ⟨nd, rfl⟩⟩; refine ⟨_, rfl, ?_⟩))
                            go_ret2
                            exact ⟨by first | rfl | (simp [errW_none, errW_some] <;> rfl) | (simp [*, errW_none, errW_some] <;> rfl), by repeat (first | (with_reducible first | exact HB.out | apply below_alloc | apply pw_below_drewN | apply below_drew1) | exact HB.out)⟩
                          · rw [if_neg c35] at H
                            have c35b0 : (t208 == 0) = false := beq_eq_false_iff_ne.mpr c35
                            have c35b1 : (t208 != 0) = true := bne_iff_ne.mpr c35
                            simp only [Option.some.injEq, Prod.mk.injEq] at H
                            obtain ⟨rfl, rfl⟩ := H
                            go_wp2_with (first | ((with_reducible refine gate_callee (f := 27) rfl ?_); refine goesL_ (some 72) rfl rfl Tryz.func27 (by kernel_rfl) rfl #[.int .i64 (wrap64 (t202 + 1900)), .int .i64 t200, .int .i64 t198] rfl (by (try simp only [List.map_toArray, List.map_cons, List.map_nil]); first | done | rfl | (simp only [List.length_drop, List.length_take]; rfl)) ?_; (with_reducible refine (missiveref10_Day.calls kj29 (wrap64 (t202 + 1900)) t200 t198 t207 t208 _ A34.out).mono ?_); rintro e w' ⟨rfl, ⟨nd, rfl⟩⟩; refine ⟨_, rfl, ?_⟩))
                            go_ret2
                            exact ⟨by first | rfl | (simp [errW_none, errW_some] <;> rfl) | (simp [*, errW_none, errW_some] <;> rfl), by repeat (first | (with_reducible first | exact HB.out | apply below_alloc | apply pw_below_drewN | apply below_drew1) | exact HB.out)⟩
                        · replace c33 := Bool.eq_false_iff.mpr c33
                          subst c33
                          have H1 : ((missiveref10_Day.f kj29 t202 t200 t198).bind fun bt209 => (if bt209.2 = 0 then (some (bt209.1, 0)) else (some (0, 7)))) = some (r1, r2) := by rw [if_neg (show ¬ (false = true) by decide)] at H; exact H
                          clear H
                          have H := H1
                          clear H1
                          replace H := Option.bind_eq_some_iff.mp H
                          obtain ⟨⟨t209, t210⟩, A360, H⟩ := H
                          replace H : (if t210 = 0 then (some (t209, 0)) else (some (0, 7))) = some (r1, r2) := H
                          have A36 := Aside0.mk A360
                          clear A360
                          by_cases c37 : t210 = 0
                          · rw [if_pos c37] at H
                            have c37b0 : (t210 == 0) = true := beq_iff_eq.mpr c37
                            have c37b1 : (t210 != 0) = false := bne_eq_false_iff_eq.mpr c37
                            clear c37
                            simp only [Option.some.injEq, Prod.mk.injEq] at H
                            obtain ⟨rfl, rfl⟩ := H
                            go_wp2_with (first | ((with_reducible refine gate_callee (f := 27) rfl ?_); refine goesL_ (some 72) rfl rfl Tryz.func27 (by kernel_rfl) rfl #[.int .i64 t202, .int .i64 t200, .int .i64 t198] rfl (by (try simp only [List.map_toArray, List.map_cons, List.map_nil]); first | done | rfl | (simp only [List.length_drop, List.length_take]; rfl)) ?_; (with_reducible refine (missiveref10_Day.calls kj29 t202 t200 t198 t209 t210 _ A36.out).mono ?_); rintro e w' ⟨rfl, ⟨nd, rfl⟩⟩; refine ⟨_, rfl, ?_⟩))
                            go_ret2
                            exact ⟨by first | rfl | (simp [errW_none, errW_some] <;> rfl) | (simp [*, errW_none, errW_some] <;> rfl), by repeat (first | (with_reducible first | exact HB.out | apply below_alloc | apply pw_below_drewN | apply below_drew1) | exact HB.out)⟩
                          · rw [if_neg c37] at H
                            have c37b0 : (t210 == 0) = false := beq_eq_false_iff_ne.mpr c37
                            have c37b1 : (t210 != 0) = true := bne_iff_ne.mpr c37
                            simp only [Option.some.injEq, Prod.mk.injEq] at H
                            obtain ⟨rfl, rfl⟩ := H
                            go_wp2_with (first | ((with_reducible refine gate_callee (f := 27) rfl ?_); refine goesL_ (some 72) rfl rfl Tryz.func27 (by kernel_rfl) rfl #[.int .i64 t202, .int .i64 t200, .int .i64 t198] rfl (by (try simp only [List.map_toArray, List.map_cons, List.map_nil]); first | done | rfl | (simp only [List.length_drop, List.length_take]; rfl)) ?_; (with_reducible refine (missiveref10_Day.calls kj29 t202 t200 t198 t209 t210 _ A36.out).mono ?_); rintro e w' ⟨rfl, ⟨nd, rfl⟩⟩; refine ⟨_, rfl, ?_⟩))
                            go_ret2
                            exact ⟨by first | rfl | (simp [errW_none, errW_some] <;> rfl) | (simp [*, errW_none, errW_some] <;> rfl), by repeat (first | (with_reducible first | exact HB.out | apply below_alloc | apply pw_below_drewN | apply below_drew1) | exact HB.out)⟩
            · rw [if_neg c18] at H
              exact absurd H (by simp)
          · rw [if_neg c16] at H
            exact absurd H (by simp)
        · rw [if_neg c14] at H
          exact absurd H (by simp)

end Go.Proofs.YtdpbaagpekhipaaGreatDoor.PAll

