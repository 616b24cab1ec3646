/- Each printed function's call comes to what its plain Lean function says (a program of this session, made out of the kit's print, wrote these lines). Conditions: what each theorem names. -/
import Derived.Test.YtdpbaagpekhipaaGreatDoorKZPAllx0
import Derived.Test.YtdpbaagpekhipaaGreatDoorKZPAllx8
import Derived.Test.YtdpbaagpekhipaaGreatDoorKZPAllx9
namespace Go.Proofs.YtdpbaagpekhipaaGreatDoor.PAll
open Go.RowKit Go.Proofs.YtdpbaagpekhipaaGreatDoorW.PrintWords Go.Proofs.YtdpbaagpekhipaaGreatDoorW.PrintLast Go.Proofs.YtdpbaagpekhipaaGreatDoorW.PrintMore
attribute [local go_sem] max2_int min2_int max_two min_two max_three min_three max_four min_four   -- for this text's walks alone
set_option linter.unusedVariables false
set_option linter.unusedSimpArgs false

def missiveref10_right.f (a0_0 : Int) (a0_1 : Int) (a0_2 : Int) : Option (Bool) := if a0_0 ≥ (-719162) then (if a0_0 ≤ 2932896 then (if a0_1 ≥ 0 then (if a0_1 < 86400 then (if a0_2 ≥ (-5999) then (some (decide (a0_2 ≤ 5999))) else (some false)) else (some false)) else (some false)) else (some false)) else (some false)
set_option maxHeartbeats 8000000 in
set_option maxRecDepth 100000 in
theorem missiveref10_right.calls (a0_0 : Int) (a0_1 : Int) (a0_2 : Int) (r : Bool) (w : World) (h : missiveref10_right.f a0_0 a0_1 a0_2 = some r) :
    Calls Tryz.prog 39 #[.agg #[.int .i64 a0_0, .int .i64 a0_1, .int .i64 a0_2]] w fun e w' => e = .returned (.bool r) ∧ Below w.heap.size w w' := by
  have hu30 := Tryz.underlying30
  have HB := Aside0.mk (Below.refl w.heap.size w)
  have H : (if a0_0 ≥ (-719162) then (if a0_0 ≤ 2932896 then (if a0_1 ≥ 0 then (if a0_1 < 86400 then (if a0_2 ≥ (-5999) then (some (decide (a0_2 ≤ 5999))) else (some false)) else (some false)) else (some false)) else (some false)) else (some false)) = some r := h
  clear h
  by_cases c2 : a0_0 ≥ (-719162)
  · rw [if_pos c2] at H
    have c2b0 : decide ((-719162) ≤ a0_0) = true := decide_eq_true c2
    clear c2
    by_cases c3 : a0_0 ≤ 2932896
    · rw [if_pos c3] at H
      have c3b0 : decide (a0_0 ≤ 2932896) = true := decide_eq_true c3
      clear c3
      by_cases c4 : a0_1 ≥ 0
      · rw [if_pos c4] at H
        have c4b0 : decide (0 ≤ a0_1) = true := decide_eq_true c4
        clear c4
        by_cases c5 : a0_1 < 86400
        · rw [if_pos c5] at H
          have c5b0 : decide (a0_1 < 86400) = true := decide_eq_true c5
          clear c5
          by_cases c6 : a0_2 ≥ (-5999)
          · rw [if_pos c6] at H
            have c6b0 : decide ((-5999) ≤ a0_2) = true := decide_eq_true c6
            clear c6
            obtain rfl := Option.some.inj H
            go_enter Tryz.func39, Tryz.ntmps39
            go_wp2_with (first | ((with_reducible refine gate_dst (N := 1) rfl ?_); refine box_event ?hg (N := 1) ?hd (cs := #[.int .i64 a0_0, .int .i64 a0_1, .int .i64 a0_2]) (t := 30) ?hr ?_; (case hd => rfl); (case hg => rfl); (case hr => first | (go_simp; done) | (go_simp; rfl)); intro gb272 hg w7 hbox hb; have n0_ := Aside0.mk (below_step (by repeat (first | (with_reducible first | exact HB.out | apply below_alloc | apply pw_below_drewN | apply below_drew1) | exact HB.out)) hb); have n1_ := Aside0.mk (hbox); have n2_ := Aside0.mk ((by rw [hg]; exact (below_size (by repeat (first | (with_reducible first | exact HB.out | apply below_alloc | apply pw_below_drewN | apply below_drew1) | exact HB.out))) : w.heap.size ≤ gb272)); have n3_ := Aside0.mk ((by rw [hg]; exact (below_size (by repeat (first | (with_reducible first | exact HB.out | apply below_alloc | apply pw_below_drewN | apply below_drew1) | exact HB.out))) : w.heap.size ≤ gb272)); clear HB; have HB := n0_; have BK272 := n1_; have GW272 := n2_; have GE272 := n3_; clear n0_ n1_ n2_ n3_; clear hb hbox hg; have hcz8_0 : w7.cell? ⟨gb272, 0, none⟩ = some (.int .i64 a0_0) := (blk_cell BK272.out 0).trans rfl; have hcz8_1 : w7.cell? ⟨gb272, 1, none⟩ = some (.int .i64 a0_1) := (blk_cell BK272.out 1).trans rfl; have hcz8_2 : w7.cell? ⟨gb272, 2, none⟩ = some (.int .i64 a0_2) := (blk_cell BK272.out 2).trans rfl; have hfz8_0 := blk_frozen BK272.out 0; have hfz8_1 := blk_frozen BK272.out 1; have hfz8_2 := blk_frozen BK272.out 2))
            go_ret
            exact ⟨by first | rfl | (simp [errW_none, errW_some] <;> rfl) | (simp [*, errW_none, errW_some] <;> rfl), by repeat (first | (with_reducible first | exact HB.out | apply below_alloc | apply pw_below_drewN | apply below_drew1 | refine below_set ?_ GE272.out) | exact HB.out)⟩
          · rw [if_neg c6] at H
            have c6b0 : decide ((-5999) ≤ a0_2) = false := decide_eq_false c6
            clear c6
            obtain rfl := Option.some.inj H
            go_enter Tryz.func39, Tryz.ntmps39
            go_wp2_with (first | ((with_reducible refine gate_dst (N := 1) rfl ?_); refine box_event ?hg (N := 1) ?hd (cs := #[.int .i64 a0_0, .int .i64 a0_1, .int .i64 a0_2]) (t := 30) ?hr ?_; (case hd => rfl); (case hg => rfl); (case hr => first | (go_simp; done) | (go_simp; rfl)); intro gb272 hg w9 hbox hb; have n0_ := Aside0.mk (below_step (by repeat (first | (with_reducible first | exact HB.out | apply below_alloc | apply pw_below_drewN | apply below_drew1) | exact HB.out)) hb); have n1_ := Aside0.mk (hbox); have n2_ := Aside0.mk ((by rw [hg]; exact (below_size (by repeat (first | (with_reducible first | exact HB.out | apply below_alloc | apply pw_below_drewN | apply below_drew1) | exact HB.out))) : w.heap.size ≤ gb272)); have n3_ := Aside0.mk ((by rw [hg]; exact (below_size (by repeat (first | (with_reducible first | exact HB.out | apply below_alloc | apply pw_below_drewN | apply below_drew1) | exact HB.out))) : w.heap.size ≤ gb272)); clear HB; have HB := n0_; have BK272 := n1_; have GW272 := n2_; have GE272 := n3_; clear n0_ n1_ n2_ n3_; clear hb hbox hg; have hcz10_0 : w9.cell? ⟨gb272, 0, none⟩ = some (.int .i64 a0_0) := (blk_cell BK272.out 0).trans rfl; have hcz10_1 : w9.cell? ⟨gb272, 1, none⟩ = some (.int .i64 a0_1) := (blk_cell BK272.out 1).trans rfl; have hcz10_2 : w9.cell? ⟨gb272, 2, none⟩ = some (.int .i64 a0_2) := (blk_cell BK272.out 2).trans rfl; have hfz10_0 := blk_frozen BK272.out 0; have hfz10_1 := blk_frozen BK272.out 1; have hfz10_2 := blk_frozen BK272.out 2))
            go_ret
            exact ⟨by first | rfl | (simp [errW_none, errW_some] <;> rfl) | (simp [*, errW_none, errW_some] <;> rfl), by repeat (first | (with_reducible first | exact HB.out | apply below_alloc | apply pw_below_drewN | apply below_drew1 | refine below_set ?_ GE272.out) | exact HB.out)⟩
        · rw [if_neg c5] at H
          have c5b0 : decide (a0_1 < 86400) = false := decide_eq_false c5
          clear c5
          obtain rfl := Option.some.inj H
          go_enter Tryz.func39, Tryz.ntmps39
          go_wp2_with (first | ((with_reducible refine gate_dst (N := 1) rfl ?_); refine box_event ?hg (N := 1) ?hd (cs := #[.int .i64 a0_0, .int .i64 a0_1, .int .i64 a0_2]) (t := 30) ?hr ?_; (case hd => rfl); (case hg => rfl); (case hr => first | (go_simp; done) | (go_simp; rfl)); intro gb272 hg w11 hbox hb; have n0_ := Aside0.mk (below_step (by repeat (first | (with_reducible first | exact HB.out | apply below_alloc | apply pw_below_drewN | apply below_drew1) | exact HB.out)) hb); have n1_ := Aside0.mk (hbox); have n2_ := Aside0.mk ((by rw [hg]; exact (below_size (by repeat (first | (with_reducible first | exact HB.out | apply below_alloc | apply pw_below_drewN | apply below_drew1) | exact HB.out))) : w.heap.size ≤ gb272)); have n3_ := Aside0.mk ((by rw [hg]; exact (below_size (by repeat (first | (with_reducible first | exact HB.out | apply below_alloc | apply pw_below_drewN | apply below_drew1) | exact HB.out))) : w.heap.size ≤ gb272)); clear HB; have HB := n0_; have BK272 := n1_; have GW272 := n2_; have GE272 := n3_; clear n0_ n1_ n2_ n3_; clear hb hbox hg; have hcz12_0 : w11.cell? ⟨gb272, 0, none⟩ = some (.int .i64 a0_0) := (blk_cell BK272.out 0).trans rfl; have hcz12_1 : w11.cell? ⟨gb272, 1, none⟩ = some (.int .i64 a0_1) := (blk_cell BK272.out 1).trans rfl; have hcz12_2 : w11.cell? ⟨gb272, 2, none⟩ = some (.int .i64 a0_2) := (blk_cell BK272.out 2).trans rfl; have hfz12_0 := blk_frozen BK272.out 0; have hfz12_1 := blk_frozen BK272.out 1; have hfz12_2 := blk_frozen BK272.out 2))
          go_ret
          exact ⟨by first | rfl | (simp [errW_none, errW_some] <;> rfl) | (simp [*, errW_none, errW_some] <;> rfl), by repeat (first | (with_reducible first | exact HB.out | apply below_alloc | apply pw_below_drewN | apply below_drew1 | refine below_set ?_ GE272.out) | exact HB.out)⟩
      · rw [if_neg c4] at H
        have c4b0 : decide (0 ≤ a0_1) = false := decide_eq_false c4
        clear c4
        obtain rfl := Option.some.inj H
        go_enter Tryz.func39, Tryz.ntmps39
        go_wp2_with (first | ((with_reducible refine gate_dst (N := 1) rfl ?_); refine box_event ?hg (N := 1) ?hd (cs := #[.int .i64 a0_0, .int .i64 a0_1, .int .i64 a0_2]) (t := 30) ?hr ?_; (case hd => rfl); (case hg => rfl); (case hr => first | (go_simp; done) | (go_simp; rfl)); intro gb272 hg w13 hbox hb; have n0_ := Aside0.mk (below_step (by repeat (first | (with_reducible first | exact HB.out | apply below_alloc | apply pw_below_drewN | apply below_drew1) | exact HB.out)) hb); have n1_ := Aside0.mk (hbox); have n2_ := Aside0.mk ((by rw [hg]; exact (below_size (by repeat (first | (with_reducible first | exact HB.out | apply below_alloc | apply pw_below_drewN | apply below_drew1) | exact HB.out))) : w.heap.size ≤ gb272)); have n3_ := Aside0.mk ((by rw [hg]; exact (below_size (by repeat (first | (with_reducible first | exact HB.out | apply below_alloc | apply pw_below_drewN | apply below_drew1) | exact HB.out))) : w.heap.size ≤ gb272)); clear HB; have HB := n0_; have BK272 := n1_; have GW272 := n2_; have GE272 := n3_; clear n0_ n1_ n2_ n3_; clear hb hbox hg; have hcz14_0 : w13.cell? ⟨gb272, 0, none⟩ = some (.int .i64 a0_0) := (blk_cell BK272.out 0).trans rfl; have hcz14_1 : w13.cell? ⟨gb272, 1, none⟩ = some (.int .i64 a0_1) := (blk_cell BK272.out 1).trans rfl; have hcz14_2 : w13.cell? ⟨gb272, 2, none⟩ = some (.int .i64 a0_2) := (blk_cell BK272.out 2).trans rfl; have hfz14_0 := blk_frozen BK272.out 0; have hfz14_1 := blk_frozen BK272.out 1; have hfz14_2 := blk_frozen BK272.out 2))
        go_ret
        exact ⟨by first | rfl | (simp [errW_none, errW_some] <;> rfl) | (simp [*, errW_none, errW_some] <;> rfl), by repeat (first | (with_reducible first | exact HB.out | apply below_alloc | apply pw_below_drewN | apply below_drew1 | refine below_set ?_ GE272.out) | exact HB.out)⟩
    · rw [if_neg c3] at H
      have c3b0 : decide (a0_0 ≤ 2932896) = false := decide_eq_false c3
      clear c3
      obtain rfl := Option.some.inj H
      go_enter Tryz.func39, Tryz.ntmps39
      go_wp2_with (first | ((with_reducible refine gate_dst (N := 1) rfl ?_); refine box_event ?hg (N := 1) ?hd (cs := #[.int .i64 a0_0, .int .i64 a0_1, .int .i64 a0_2]) (t := 30) ?hr ?_; (case hd => rfl); (case hg => rfl); (case hr => first | (go_simp; done) | (go_simp; rfl)); intro gb272 hg w15 hbox hb; have n0_ := Aside0.mk (below_step (by repeat (first | (with_reducible first | exact HB.out | apply below_alloc | apply pw_below_drewN | apply below_drew1) | exact HB.out)) hb); have n1_ := Aside0.mk (hbox); have n2_ := Aside0.mk ((by rw [hg]; exact (below_size (by repeat (first | (with_reducible first | exact HB.out | apply below_alloc | apply pw_below_drewN | apply below_drew1) | exact HB.out))) : w.heap.size ≤ gb272)); have n3_ := Aside0.mk ((by rw [hg]; exact (below_size (by repeat (first | (with_reducible first | exact HB.out | apply below_alloc | apply pw_below_drewN | apply below_drew1) | exact HB.out))) : w.heap.size ≤ gb272)); clear HB; have HB := n0_; have BK272 := n1_; have GW272 := n2_; have GE272 := n3_; clear n0_ n1_ n2_ n3_; clear hb hbox hg; have hcz16_0 : w15.cell? ⟨gb272, 0, none⟩ = some (.int .i64 a0_0) := (blk_cell BK272.out 0).trans rfl; have hcz16_1 : w15.cell? ⟨gb272, 1, none⟩ = some (.int .i64 a0_1) := (blk_cell BK272.out 1).trans rfl; have hcz16_2 : w15.cell? ⟨gb272, 2, none⟩ = some (.int .i64 a0_2) := (blk_cell BK272.out 2).trans rfl; have hfz16_0 := blk_frozen BK272.out 0; have hfz16_1 := blk_frozen BK272.out 1; have hfz16_2 := blk_frozen BK272.out 2))
      go_ret
      exact ⟨by first | rfl | (simp [errW_none, errW_some] <;> rfl) | (simp [*, errW_none, errW_some] <;> rfl), by repeat (first | (with_reducible first | exact HB.out | apply below_alloc | apply pw_below_drewN | apply below_drew1 | refine below_set ?_ GE272.out) | exact HB.out)⟩
  · rw [if_neg c2] at H
    have c2b0 : decide ((-719162) ≤ a0_0) = false := decide_eq_false c2
    clear c2
    obtain rfl := Option.some.inj H
    go_enter Tryz.func39, Tryz.ntmps39
    go_wp2_with (first | ((with_reducible refine gate_dst (N := 1) rfl ?_); refine box_event ?hg (N := 1) ?hd (cs := #[.int .i64 a0_0, .int .i64 a0_1, .int .i64 a0_2]) (t := 30) ?hr ?_; (case hd => rfl); (case hg => rfl); (case hr => first | (go_simp; done) | (go_simp; rfl)); intro gb272 hg w17 hbox hb; have n0_ := Aside0.mk (below_step (by repeat (first | (with_reducible first | exact HB.out | apply below_alloc | apply pw_below_drewN | apply below_drew1) | exact HB.out)) hb); have n1_ := Aside0.mk (hbox); have n2_ := Aside0.mk ((by rw [hg]; exact (below_size (by repeat (first | (with_reducible first | exact HB.out | apply below_alloc | apply pw_below_drewN | apply below_drew1) | exact HB.out))) : w.heap.size ≤ gb272)); have n3_ := Aside0.mk ((by rw [hg]; exact (below_size (by repeat (first | (with_reducible first | exact HB.out | apply below_alloc | apply pw_below_drewN | apply below_drew1) | exact HB.out))) : w.heap.size ≤ gb272)); clear HB; have HB := n0_; have BK272 := n1_; have GW272 := n2_; have GE272 := n3_; clear n0_ n1_ n2_ n3_; clear hb hbox hg; have hcz18_0 : w17.cell? ⟨gb272, 0, none⟩ = some (.int .i64 a0_0) := (blk_cell BK272.out 0).trans rfl; have hcz18_1 : w17.cell? ⟨gb272, 1, none⟩ = some (.int .i64 a0_1) := (blk_cell BK272.out 1).trans rfl; have hcz18_2 : w17.cell? ⟨gb272, 2, none⟩ = some (.int .i64 a0_2) := (blk_cell BK272.out 2).trans rfl; have hfz18_0 := blk_frozen BK272.out 0; have hfz18_1 := blk_frozen BK272.out 1; have hfz18_2 := blk_frozen BK272.out 2))
    go_ret
    exact ⟨by first | rfl | (simp [errW_none, errW_some] <;> rfl) | (simp [*, errW_none, errW_some] <;> rfl), by repeat (first | (with_reducible first | exact HB.out | apply below_alloc | apply pw_below_drewN | apply below_drew1 | refine below_set ?_ GE272.out) | exact HB.out)⟩

mutual
def missiveref10_WriteTime.j0 : Nat → ByteArray → Int → Int → Int → Option (ByteArray × Int)
  | 0, _, _, _, _ => none
  | k + 1, x4, x274000, x274001, x274002 => if x274002 < 0 then (missiveref10_WriteTime.j1 k x4 (wrap64 (-x274002)) (⟨#[45]⟩ : ByteArray) x274000 x274001 x274002) else (missiveref10_WriteTime.j1 k x4 x274002 (⟨#[43]⟩ : ByteArray) x274000 x274001 x274002)
def missiveref10_WriteTime.j1 : Nat → ByteArray → Int → ByteArray → Int → Int → Int → Option (ByteArray × Int)
  | 0, _, _, _, _, _, _ => none
  | k + 1, x4, x6, x7, x274000, x274001, x274002 => if x4.size + 1 ≤ 9223372036854775807 then ((missiveref10_wide.f k (wrap64 (Int.tdiv x274001 3600)) 2).bind fun t277 => (if (x4 ++ (⟨#[32]⟩ : ByteArray)).size + t277.size ≤ 9223372036854775807 then (if ((x4 ++ (⟨#[32]⟩ : ByteArray)) ++ t277).size + 1 ≤ 9223372036854775807 then ((missiveref10_wide.f k (Int.tmod (wrap64 (Int.tdiv x274001 60)) 60) 2).bind fun t278 => (if (((x4 ++ (⟨#[32]⟩ : ByteArray)) ++ t277) ++ (⟨#[58]⟩ : ByteArray)).size + t278.size ≤ 9223372036854775807 then (if ((((x4 ++ (⟨#[32]⟩ : ByteArray)) ++ t277) ++ (⟨#[58]⟩ : ByteArray)) ++ t278).size + 1 ≤ 9223372036854775807 then ((missiveref10_wide.f k (Int.tmod x274001 60) 2).bind fun t279 => (if (((((x4 ++ (⟨#[32]⟩ : ByteArray)) ++ t277) ++ (⟨#[58]⟩ : ByteArray)) ++ t278) ++ (⟨#[58]⟩ : ByteArray)).size + t279.size ≤ 9223372036854775807 then (if ((((((x4 ++ (⟨#[32]⟩ : ByteArray)) ++ t277) ++ (⟨#[58]⟩ : ByteArray)) ++ t278) ++ (⟨#[58]⟩ : ByteArray)) ++ t279).size + 1 ≤ 9223372036854775807 then (if (((((((x4 ++ (⟨#[32]⟩ : ByteArray)) ++ t277) ++ (⟨#[58]⟩ : ByteArray)) ++ t278) ++ (⟨#[58]⟩ : ByteArray)) ++ t279) ++ (⟨#[32]⟩ : ByteArray)).size + x7.size ≤ 9223372036854775807 then ((missiveref10_wide.f k (wrap64 (Int.tdiv x6 60)) 2).bind fun t280 => (if ((((((((x4 ++ (⟨#[32]⟩ : ByteArray)) ++ t277) ++ (⟨#[58]⟩ : ByteArray)) ++ t278) ++ (⟨#[58]⟩ : ByteArray)) ++ t279) ++ (⟨#[32]⟩ : ByteArray)) ++ x7).size + t280.size ≤ 9223372036854775807 then ((missiveref10_wide.f k (Int.tmod x6 60) 2).bind fun t281 => (if (((((((((x4 ++ (⟨#[32]⟩ : ByteArray)) ++ t277) ++ (⟨#[58]⟩ : ByteArray)) ++ t278) ++ (⟨#[58]⟩ : ByteArray)) ++ t279) ++ (⟨#[32]⟩ : ByteArray)) ++ x7) ++ t280).size + t281.size ≤ 9223372036854775807 then (some ((((((((((x4 ++ (⟨#[32]⟩ : ByteArray)) ++ t277) ++ (⟨#[58]⟩ : ByteArray)) ++ t278) ++ (⟨#[58]⟩ : ByteArray)) ++ t279) ++ (⟨#[32]⟩ : ByteArray)) ++ x7) ++ t280) ++ t281, 0)) else (none))) else (none))) else (none)) else (none)) else (none))) else (none)) else (none))) else (none)) else (none))) else (none)
end
def missiveref10_WriteTime.f (k : Nat) (a0_0 : Int) (a0_1 : Int) (a0_2 : Int) : Option (ByteArray × Int) := (missiveref10_right.f a0_0 a0_1 a0_2).bind fun t274 => (if t274 = true then ((missiveref10_Write.f k a0_0).bind fun bt275 => (if (bt275.1.size : Int) = 10 then (if 1 + bt275.1.size ≤ 9223372036854775807 then (missiveref10_WriteTime.j0 k ((⟨#[32]⟩ : ByteArray) ++ bt275.1) a0_0 a0_1 a0_2) else (none)) else (missiveref10_WriteTime.j0 k bt275.1 a0_0 a0_1 a0_2))) else (some ((⟨#[]⟩ : ByteArray), 2)))
theorem missiveref10_WriteTime.mono_l : ∀ k, (∀ y0 y1 y2 y3, LeO (missiveref10_WriteTime.j0 k y0 y1 y2 y3) (missiveref10_WriteTime.j0 (k + 1) y0 y1 y2 y3)) ∧ (∀ y0 y1 y2 y3 y4 y5, LeO (missiveref10_WriteTime.j1 k y0 y1 y2 y3 y4 y5) (missiveref10_WriteTime.j1 (k + 1) y0 y1 y2 y3 y4 y5))
  | 0 => ⟨fun _ _ _ _ r h => by simp [missiveref10_WriteTime.j0] at h, fun _ _ _ _ _ _ r h => by simp [missiveref10_WriteTime.j1] at h⟩
  | k + 1 => by
    obtain ⟨ih0, ih1⟩ := missiveref10_WriteTime.mono_l k
    refine ⟨?_, ?_⟩
    · intro y0 y1 y2 y3
      unfold missiveref10_WriteTime.j0
      repeat' first
      | (with_reducible exact ih0 _ _ _ _)
      | (with_reducible exact ih1 _ _ _ _ _ _)
      | (with_reducible exact missiveref10_Write.mono _ _)
      | (with_reducible exact missiveref10_wide.mono _ _ _)
      | (with_reducible exact LeO.refl _)
      | (with_reducible exact LeO.none _)
      | (with_reducible refine LeO.ite ?_ ?_)
      | (with_reducible refine LeO.bind ?_ (fun _ => ?_))
      | exact ih0 _ _ _ _
      | exact ih1 _ _ _ _ _ _
      | exact missiveref10_Write.mono _ _
      | exact missiveref10_wide.mono _ _ _
      | exact LeO.none _
      | refine LeO.ite ?_ ?_
      | refine LeO.bind ?_ (fun _ => ?_)
    · intro y0 y1 y2 y3 y4 y5
      unfold missiveref10_WriteTime.j1
      repeat' first
      | (with_reducible exact ih0 _ _ _ _)
      | (with_reducible exact ih1 _ _ _ _ _ _)
      | (with_reducible exact missiveref10_Write.mono _ _)
      | (with_reducible exact missiveref10_wide.mono _ _ _)
      | (with_reducible exact LeO.refl _)
      | (with_reducible exact LeO.none _)
      | (with_reducible refine LeO.ite ?_ ?_)
      | (with_reducible refine LeO.bind ?_ (fun _ => ?_))
      | exact ih0 _ _ _ _
      | exact ih1 _ _ _ _ _ _
      | exact missiveref10_Write.mono _ _
      | exact missiveref10_wide.mono _ _ _
      | exact LeO.none _
      | refine LeO.ite ?_ ?_
      | refine LeO.bind ?_ (fun _ => ?_)
theorem missiveref10_WriteTime.mono : ∀ a0 a1 a2 k, LeO (missiveref10_WriteTime.f k a0 a1 a2) (missiveref10_WriteTime.f (k + 1) a0 a1 a2) := by
  intro a0 a1 a2 k
  obtain ⟨ih0, ih1⟩ := missiveref10_WriteTime.mono_l k
  unfold missiveref10_WriteTime.f
  repeat' first
      | (with_reducible exact ih0 _ _ _ _)
      | (with_reducible exact ih1 _ _ _ _ _ _)
      | (with_reducible exact missiveref10_Write.mono _ _)
      | (with_reducible exact missiveref10_wide.mono _ _ _)
      | (with_reducible exact LeO.refl _)
      | (with_reducible exact LeO.none _)
      | (with_reducible refine LeO.ite ?_ ?_)
      | (with_reducible refine LeO.bind ?_ (fun _ => ?_))
      | exact ih0 _ _ _ _
      | exact ih1 _ _ _ _ _ _
      | exact missiveref10_Write.mono _ _
      | exact missiveref10_wide.mono _ _ _
      | exact LeO.none _
      | refine LeO.ite ?_ ?_
      | refine LeO.bind ?_ (fun _ => ?_)
def missiveref10_WriteTime.T9 : Bool × List (List Nat × List Nat) := (true, [([], []), ([0], [0]), ([], []), ([2], [2]), ([3], [3]), ([4], [4]), ([1, 5], [1, 5]), ([6], [6]), ([], []), ([8], [8]), ([9], [9]), ([10], [10]), ([11, 5], [11]), ([7, 12], [7, 12]), ([13], [13]), ([], []), ([15], [15]), ([16], [16]), ([17, 12], [17]), ([14, 18], [14, 18]), ([19], [19]), ([], []), ([20, 21], [20, 21]), ([], []), ([23], [23]), ([24, 18], [24]), ([22, 25], [22, 25]), ([], []), ([27], [27]), ([28, 25], [28]), ([26, 29], [26, 29]), ([30, 29, 0, 1, 2, 3, 4, 5, 6, 7, 8, 9, 10, 11, 12, 13, 14, 15, 16, 17, 18, 19, 20, 21, 22, 23, 24, 25, 26, 27, 28, 29, 30], [30]), ([31, 0, 1, 2, 3, 4, 5, 6, 7, 8, 9, 10, 11, 12, 13, 14, 15, 16, 17, 18, 19, 20, 21, 22, 23, 24, 25, 26, 27, 28, 29, 30, 31], [])])
def missiveref10_WriteTime.B9 : List Nat := [0, 1, 0, 4, 12, 28, 63, 127, 0, 256, 768, 1792, 3900, 8191, 16383, 0, 32768, 98304, 237372, 524287, 1048575, 0, 4194303, 0, 8388608, 25665340, 67108863, 0, 134217728, 461872956, 1073741823, 2147483647, 4294967295]
theorem missiveref10_WriteTime.tab9 : rtab .any (opsOf Tryz.f17 9) = missiveref10_WriteTime.T9 := by kernel_rfl
theorem missiveref10_WriteTime.bits9 : waitsOk missiveref10_WriteTime.T9.2 missiveref10_WriteTime.B9 = true := by kernel_rfl
set_option maxHeartbeats 8000000 in
set_option maxRecDepth 100000 in
theorem missiveref10_WriteTime.calls (k : Nat) (a0_0 : Int) (a0_1 : Int) (a0_2 : Int) (r1 : ByteArray) (r2 : Int) (w : World) (h : missiveref10_WriteTime.f k a0_0 a0_1 a0_2 = some (r1, r2)) :
    Calls Tryz.prog 17 #[.agg #[.int .i64 a0_0, .int .i64 a0_1, .int .i64 a0_2]] w fun e w' => e = .returned (.tuple #[.string r1, .int .i64 r2]) ∧ Below w.heap.size w w' := by
  have hu30 := Tryz.underlying30
  have HB := Aside0.mk (Below.refl w.heap.size w)
  have H : ((missiveref10_right.f a0_0 a0_1 a0_2).bind fun t274 => (if t274 = true then ((missiveref10_Write.f k a0_0).bind fun bt275 => (if (bt275.1.size : Int) = 10 then (if 1 + bt275.1.size ≤ 9223372036854775807 then (missiveref10_WriteTime.j0 k ((⟨#[32]⟩ : ByteArray) ++ bt275.1) a0_0 a0_1 a0_2) else (none)) else (missiveref10_WriteTime.j0 k bt275.1 a0_0 a0_1 a0_2))) else (some ((⟨#[]⟩ : ByteArray), 2)))) = some (r1, r2) := h
  clear h
  replace H := Option.bind_eq_some_iff.mp H
  obtain ⟨t274, A20, H⟩ := H
  replace H : (if t274 = true then ((missiveref10_Write.f k a0_0).bind fun bt275 => (if (bt275.1.size : Int) = 10 then (if 1 + bt275.1.size ≤ 9223372036854775807 then (missiveref10_WriteTime.j0 k ((⟨#[32]⟩ : ByteArray) ++ bt275.1) a0_0 a0_1 a0_2) else (none)) else (missiveref10_WriteTime.j0 k bt275.1 a0_0 a0_1 a0_2))) else (some ((⟨#[]⟩ : ByteArray), 2))) = some (r1, r2) := H
  have A2 := Aside0.mk A20
  clear A20
  by_cases c3 : t274 = true
  · subst c3
    have H1 : ((missiveref10_Write.f k a0_0).bind fun bt275 => (if (bt275.1.size : Int) = 10 then (if 1 + bt275.1.size ≤ 9223372036854775807 then (missiveref10_WriteTime.j0 k ((⟨#[32]⟩ : ByteArray) ++ bt275.1) a0_0 a0_1 a0_2) else (none)) else (missiveref10_WriteTime.j0 k bt275.1 a0_0 a0_1 a0_2))) = some (r1, r2) := by rw [if_pos rfl] at H; exact H
    clear H
    have H := H1
    clear H1
    replace H := Option.bind_eq_some_iff.mp H
    obtain ⟨⟨t275, t276⟩, A40, H⟩ := H
    replace H : (if (t275.size : Int) = 10 then (if 1 + t275.size ≤ 9223372036854775807 then (missiveref10_WriteTime.j0 k ((⟨#[32]⟩ : ByteArray) ++ t275) a0_0 a0_1 a0_2) else (none)) else (missiveref10_WriteTime.j0 k t275 a0_0 a0_1 a0_2)) = some (r1, r2) := H
    have A4 := Aside0.mk A40
    clear A40
    have HC5 := Aside0.mk H
    clear H
    go_enter Tryz.func17, Tryz.ntmps17
    go_upto_if 19 with (first | ((with_reducible refine gate_dst (N := 1) rfl ?_); refine box_event ?hg (N := 1) ?hd (cs := #[.int .i64 a0_0, .int .i64 a0_1, .int .i64 a0_2]) (t := 30) ?hr ?_; (case hd => rfl); (case hg => rfl); (case hr => first | (go_simp; done) | (go_simp; rfl)); intro gb273 hg w6 hbox hb; have n0_ := Aside0.mk (below_step (by repeat (first | (with_reducible first | exact HB.out | apply below_alloc | apply pw_below_drewN | apply below_drew1) | exact HB.out)) hb); have n1_ := Aside0.mk (hbox); have n2_ := Aside0.mk ((by rw [hg]; exact (below_size (by repeat (first | (with_reducible first | exact HB.out | apply below_alloc | apply pw_below_drewN | apply below_drew1) | exact HB.out))) : w.heap.size ≤ gb273)); have n3_ := Aside0.mk ((by rw [hg]; exact (below_size (by repeat (first | (with_reducible first | exact HB.out | apply below_alloc | apply pw_below_drewN | apply below_drew1) | exact HB.out))) : w.heap.size ≤ gb273)); clear HB; have HB := n0_; have BK273 := n1_; have GW273 := n2_; have GE273 := n3_; clear n0_ n1_ n2_ n3_; clear hb hbox hg; have hcz7_0 : w6.cell? ⟨gb273, 0, none⟩ = some (.int .i64 a0_0) := (blk_cell BK273.out 0).trans rfl; have hcz7_1 : w6.cell? ⟨gb273, 1, none⟩ = some (.int .i64 a0_1) := (blk_cell BK273.out 1).trans rfl; have hcz7_2 : w6.cell? ⟨gb273, 2, none⟩ = some (.int .i64 a0_2) := (blk_cell BK273.out 2).trans rfl; have hfz7_0 := blk_frozen BK273.out 0; have hfz7_1 := blk_frozen BK273.out 1; have hfz7_2 := blk_frozen BK273.out 2) | ((with_reducible refine gate_callee (f := 39) rfl ?_); refine goesL_ (some 9) rfl rfl Tryz.func39 (by kernel_rfl) rfl #[.agg #[.int .i64 a0_0, .int .i64 a0_1, .int .i64 a0_2]] rfl (by (try simp only [List.map_toArray, List.map_cons, List.map_nil]); first | done | rfl | (simp only [List.length_drop, List.length_take]; rfl)) ?_; (with_reducible refine (missiveref10_right.calls a0_0 a0_1 a0_2 true _ A2.out).mono ?_); rintro e w8 ⟨rfl, hb⟩; refine ⟨_, rfl, ?_⟩; have n0_ := Aside0.mk (blk_below (g := gb273) (o := .cells #[.int .i64 a0_0, .int .i64 a0_1, .int .i64 a0_2] 30 (0, 0)) (by (with_reducible repeat (first | refine blk_drewN ?_ _ | refine blk_drew ?_ | refine blk_alloc ?_ _)); exact BK273.out) hb); have n1_ := Aside0.mk (below_step (by repeat (first | (with_reducible first | exact HB.out | apply below_alloc | apply pw_below_drewN | apply below_drew1 | refine below_set ?_ GE273.out) | exact HB.out)) hb); clear BK273; clear HB; have BK273 := n0_; have HB := n1_; clear n0_ n1_; (try clear hb); (try clear hb2); (try clear hk); (try clear hi); have hcz9_0 : w8.cell? ⟨gb273, 0, none⟩ = some (.int .i64 a0_0) := (blk_cell BK273.out 0).trans rfl; have hcz9_1 : w8.cell? ⟨gb273, 1, none⟩ = some (.int .i64 a0_1) := (blk_cell BK273.out 1).trans rfl; have hcz9_2 : w8.cell? ⟨gb273, 2, none⟩ = some (.int .i64 a0_2) := (blk_cell BK273.out 2).trans rfl; have hfz9_0 := blk_frozen BK273.out 0; have hfz9_1 := blk_frozen BK273.out 1; have hfz9_2 := blk_frozen BK273.out 2) | ((with_reducible refine gate_callee (f := 10) rfl ?_); refine goesL_ (some 14) rfl rfl Tryz.func10 (by kernel_rfl) rfl #[.int .i64 a0_0] rfl (by (try simp only [List.map_toArray, List.map_cons, List.map_nil]); first | done | rfl | (simp only [List.length_drop, List.length_take]; rfl)) ?_; (with_reducible refine (missiveref10_Write.calls k a0_0 t275 t276 _ A4.out).mono ?_); rintro e w10 ⟨rfl, hb⟩; refine ⟨_, rfl, ?_⟩; have n0_ := Aside0.mk (blk_below (g := gb273) (o := .cells #[.int .i64 a0_0, .int .i64 a0_1, .int .i64 a0_2] 30 (0, 0)) (by (with_reducible repeat (first | refine blk_drewN ?_ _ | refine blk_drew ?_ | refine blk_alloc ?_ _)); exact BK273.out) hb); have n1_ := Aside0.mk (below_step (by repeat (first | (with_reducible first | exact HB.out | apply below_alloc | apply pw_below_drewN | apply below_drew1 | refine below_set ?_ GE273.out) | exact HB.out)) hb); clear BK273; clear HB; have BK273 := n0_; have HB := n1_; clear n0_ n1_; (try clear hb); (try clear hb2); (try clear hk); (try clear hi)))
    (try simp only [Act.put, List.setIfInBounds_toArray, List.set_cons_zero, List.set_cons_succ])
    go_cut [4] (fun v4 wc => ∃ (kq : Nat) (x4_4 : ByteArray), v4 = .string x4_4 ∧ Aside0 (missiveref10_WriteTime.j0 kq x4_4 a0_0 a0_1 a0_2 = some (r1, r2)) ∧ Aside0 (kq ≤ k) ∧ Aside0 (wc.heap[gb273]? = some (.cells #[.int .i64 a0_0, .int .i64 a0_1, .int .i64 a0_2] 30 (0, 0))) ∧ Aside0 (Below w.heap.size w wc))
    case first =>
      have H := HC5.out
      clear HC5
      by_cases c11 : (t275.size : Int) = 10
      · rw [if_pos c11] at H
        have c11b0 : ((t275.size : Int) == 10) = true := beq_iff_eq.mpr c11
        have c11b1 : ((t275.size : Int) != 10) = false := bne_eq_false_iff_eq.mpr c11
        clear c11
        (first | rw [c11b0] | (simp only [i64_w, i32_w]; rw [c11b0]) | skip)
        by_cases c12 : 1 + t275.size ≤ 9223372036854775807
        · rw [if_pos c12] at H
          have c12b0 := eq_true c12
          have c12b1 : decide (1 + t275.size ≤ 9223372036854775807) = true := decide_eq_true c12
          try have c12b2 : (9223372036854775807 < 1 + t275.size) = False := eq_false (Nat.not_lt.2 c12)
          have H' := Aside0.mk H
          clear H
          go_wp2
          go_meet
          case rel => exact ⟨_, ((⟨#[32]⟩ : ByteArray) ++ t275), (by first | rfl | (simp; done) | (simp [*]; done)), H', ⟨by first | omega | exact Nat.le_refl _⟩, ⟨by (with_reducible repeat (first | refine blk_drewN ?_ _ | refine blk_drew ?_ | refine blk_alloc ?_ _)); exact BK273.out⟩, ⟨by repeat (first | (with_reducible first | exact HB.out | apply below_alloc | apply pw_below_drewN | apply below_drew1 | refine below_set ?_ GE273.out) | exact HB.out)⟩⟩
        · rw [if_neg c12] at H
          exact absurd H (by simp)
      · rw [if_neg c11] at H
        have c11b0 : ((t275.size : Int) == 10) = false := beq_eq_false_iff_ne.mpr c11
        have c11b1 : ((t275.size : Int) != 10) = true := bne_iff_ne.mpr c11
        (first | rw [c11b0] | (simp only [i64_w, i32_w]; rw [c11b0]) | skip)
        have H' := Aside0.mk H
        clear H
        go_wp2
        go_meet
        case rel => exact ⟨_, (t275), (by first | rfl | (simp; done) | (simp [*]; done)), H', ⟨by first | omega | exact Nat.le_refl _⟩, ⟨by (with_reducible repeat (first | refine blk_drewN ?_ _ | refine blk_drew ?_ | refine blk_alloc ?_ _)); exact BK273.out⟩, ⟨by repeat (first | (with_reducible first | exact HB.out | apply below_alloc | apply pw_below_drewN | apply below_drew1 | refine below_set ?_ GE273.out) | exact HB.out)⟩⟩
    case rest =>
      clear HC5
      try clear c1
      try clear p2
      try clear c3
      try clear c10
      try clear c11
      try clear c11b0
      try clear c11b1
      try clear c12
      try clear c12b0
      try clear c12b1
      try clear c12b2
      try clear hcz7_0
      try clear hcz7_1
      try clear hcz7_2
      try clear hcz9_0
      try clear hcz9_1
      try clear hcz9_2
      try clear hfz7_0
      try clear hfz7_1
      try clear hfz7_2
      try clear hfz9_0
      try clear hfz9_1
      try clear hfz9_2
      obtain ⟨kq, x4_4, rfl, HA, HJ4, BK273, HB⟩ := hcut
      cases kq with
      | zero => exact absurd HA.out (by simp [missiveref10_WriteTime.j0])
      | succ kj4 =>
        have H := HA.out
        clear HA
        simp only [missiveref10_WriteTime.j0] at H
        have HC13 := Aside0.mk H
        clear H
        have hcz14_0 : wc.cell? ⟨gb273, 0, none⟩ = some (.int .i64 a0_0) := (blk_cell BK273.out 0).trans rfl
        have hcz14_1 : wc.cell? ⟨gb273, 1, none⟩ = some (.int .i64 a0_1) := (blk_cell BK273.out 1).trans rfl
        have hcz14_2 : wc.cell? ⟨gb273, 2, none⟩ = some (.int .i64 a0_2) := (blk_cell BK273.out 2).trans rfl
        have hfz14_0 := blk_frozen BK273.out 0
        have hfz14_1 := blk_frozen BK273.out 1
        have hfz14_2 := blk_frozen BK273.out 2
        go_upto_if 25 with (fail)
        go_cut [6, 7] (fun v6 v7 wc => ∃ (kq : Nat) (x6_12 : Int) (x7_12 : ByteArray), v6 = .int .i64 x6_12 ∧ v7 = .string x7_12 ∧ Aside0 (missiveref10_WriteTime.j1 kq x4_4 x6_12 x7_12 a0_0 a0_1 a0_2 = some (r1, r2)) ∧ Aside0 (kq ≤ kj4) ∧ Aside0 (wc.heap[gb273]? = some (.cells #[.int .i64 a0_0, .int .i64 a0_1, .int .i64 a0_2] 30 (0, 0))) ∧ Aside0 (Below w.heap.size w wc))
        case first =>
          have H := HC13.out
          clear HC13
          by_cases c15 : a0_2 < 0
          · rw [if_pos c15] at H
            have c15b0 : decide (a0_2 < 0) = true := decide_eq_true c15
            clear c15
            (first | rw [c15b0] | (simp only [i64_w, i32_w]; rw [c15b0]) | skip)
            have H' := Aside0.mk H
            clear H
            go_wp2
            go_meet
            case rel => exact ⟨_, (wrap64 (-a0_2)), ((⟨#[45]⟩ : ByteArray)), (by first | rfl | (simp; done) | (simp [*]; done)), (by first | rfl | (simp; done) | (simp [*]; done)), H', ⟨by have := HJ4.out; first | omega | exact Nat.le_refl _⟩, ⟨by (with_reducible repeat (first | refine blk_drewN ?_ _ | refine blk_drew ?_ | refine blk_alloc ?_ _)); exact BK273.out⟩, ⟨by repeat (first | (with_reducible first | exact HB.out | apply below_alloc | apply pw_below_drewN | apply below_drew1 | refine below_set ?_ GE273.out) | exact HB.out)⟩⟩
          · rw [if_neg c15] at H
            have c15b0 : decide (a0_2 < 0) = false := decide_eq_false c15
            clear c15
            (first | rw [c15b0] | (simp only [i64_w, i32_w]; rw [c15b0]) | skip)
            have H' := Aside0.mk H
            clear H
            go_wp2
            go_meet
            case rel => exact ⟨_, (a0_2), ((⟨#[43]⟩ : ByteArray)), (by first | rfl | (simp; done) | (simp [*]; done)), (by first | rfl | (simp; done) | (simp [*]; done)), H', ⟨by have := HJ4.out; first | omega | exact Nat.le_refl _⟩, ⟨by (with_reducible repeat (first | refine blk_drewN ?_ _ | refine blk_drew ?_ | refine blk_alloc ?_ _)); exact BK273.out⟩, ⟨by repeat (first | (with_reducible first | exact HB.out | apply below_alloc | apply pw_below_drewN | apply below_drew1 | refine below_set ?_ GE273.out) | exact HB.out)⟩⟩
        case rest =>
          clear HC13
          try clear c1
          try clear p2
          try clear c3
          try clear p6
          try clear c10
          try clear c11
          try clear c11b0
          try clear c11b1
          try clear c12
          try clear c12b0
          try clear c12b1
          try clear c12b2
          try clear c15
          try clear c15b0
          try clear hcz14_0
          try clear hcz14_1
          try clear hcz14_2
          try clear hcz7_0
          try clear hcz7_1
          try clear hcz7_2
          try clear hcz9_0
          try clear hcz9_1
          try clear hcz9_2
          try clear hfz14_0
          try clear hfz14_1
          try clear hfz14_2
          try clear hfz7_0
          try clear hfz7_1
          try clear hfz7_2
          try clear hfz9_0
          try clear hfz9_1
          try clear hfz9_2
          try clear p2
          obtain ⟨kq, x6_12, x7_12, rfl, rfl, HA, HJ12, BK273, HB⟩ := hcut
          cases kq with
          | zero => exact absurd HA.out (by simp [missiveref10_WriteTime.j1])
          | succ kj12 =>
            have H := HA.out
            clear HA
            simp only [missiveref10_WriteTime.j1] at H
            by_cases c16 : x4_4.size + 1 ≤ 9223372036854775807
            · rw [if_pos c16] at H
              have c16b0 := eq_true c16
              have c16b1 : decide (x4_4.size + 1 ≤ 9223372036854775807) = true := decide_eq_true c16
              try have c16b2 : (9223372036854775807 < x4_4.size + 1) = False := eq_false (Nat.not_lt.2 c16)
              replace H := Option.bind_eq_some_iff.mp H
              obtain ⟨t277, A170, H⟩ := H
              replace H : (if (x4_4 ++ (⟨#[32]⟩ : ByteArray)).size + t277.size ≤ 9223372036854775807 then (if ((x4_4 ++ (⟨#[32]⟩ : ByteArray)) ++ t277).size + 1 ≤ 9223372036854775807 then ((missiveref10_wide.f kj12 (Int.tmod (wrap64 (Int.tdiv a0_1 60)) 60) 2).bind fun t278 => (if (((x4_4 ++ (⟨#[32]⟩ : ByteArray)) ++ t277) ++ (⟨#[58]⟩ : ByteArray)).size + t278.size ≤ 9223372036854775807 then (if ((((x4_4 ++ (⟨#[32]⟩ : ByteArray)) ++ t277) ++ (⟨#[58]⟩ : ByteArray)) ++ t278).size + 1 ≤ 9223372036854775807 then ((missiveref10_wide.f kj12 (Int.tmod a0_1 60) 2).bind fun t279 => (if (((((x4_4 ++ (⟨#[32]⟩ : ByteArray)) ++ t277) ++ (⟨#[58]⟩ : ByteArray)) ++ t278) ++ (⟨#[58]⟩ : ByteArray)).size + t279.size ≤ 9223372036854775807 then (if ((((((x4_4 ++ (⟨#[32]⟩ : ByteArray)) ++ t277) ++ (⟨#[58]⟩ : ByteArray)) ++ t278) ++ (⟨#[58]⟩ : ByteArray)) ++ t279).size + 1 ≤ 9223372036854775807 then (if (((((((x4_4 ++ (⟨#[32]⟩ : ByteArray)) ++ t277) ++ (⟨#[58]⟩ : ByteArray)) ++ t278) ++ (⟨#[58]⟩ : ByteArray)) ++ t279) ++ (⟨#[32]⟩ : ByteArray)).size + x7_12.size ≤ 9223372036854775807 then ((missiveref10_wide.f kj12 (wrap64 (Int.tdiv x6_12 60)) 2).bind fun t280 => (if ((((((((x4_4 ++ (⟨#[32]⟩ : ByteArray)) ++ t277) ++ (⟨#[58]⟩ : ByteArray)) ++ t278) ++ (⟨#[58]⟩ : ByteArray)) ++ t279) ++ (⟨#[32]⟩ : ByteArray)) ++ x7_12).size + t280.size ≤ 9223372036854775807 then ((missiveref10_wide.f kj12 (Int.tmod x6_12 60) 2).bind fun t281 => (if (((((((((x4_4 ++ (⟨#[32]⟩ : ByteArray)) ++ t277) ++ (⟨#[58]⟩ : ByteArray)) ++ t278) ++ (⟨#[58]⟩ : ByteArray)) ++ t279) ++ (⟨#[32]⟩ : ByteArray)) ++ x7_12) ++ t280).size + t281.size ≤ 9223372036854775807 then (some ((((((((((x4_4 ++ (⟨#[32]⟩ : ByteArray)) ++ t277) ++ (⟨#[58]⟩ : ByteArray)) ++ t278) ++ (⟨#[58]⟩ : ByteArray)) ++ t279) ++ (⟨#[32]⟩ : ByteArray)) ++ x7_12) ++ t280) ++ t281, 0)) else (none))) else (none))) else (none)) else (none)) else (none))) else (none)) else (none))) else (none)) else (none)) = some (r1, r2) := H
              have A17 := Aside0.mk A170
              clear A170
              by_cases c18 : (x4_4 ++ (⟨#[32]⟩ : ByteArray)).size + t277.size ≤ 9223372036854775807
              · rw [if_pos c18] at H
                have c18b0 := eq_true c18
                have c18b1 : decide ((x4_4 ++ (⟨#[32]⟩ : ByteArray)).size + t277.size ≤ 9223372036854775807) = true := decide_eq_true c18
                try have c18b2 : (9223372036854775807 < (x4_4 ++ (⟨#[32]⟩ : ByteArray)).size + t277.size) = False := eq_false (Nat.not_lt.2 c18)
                try have c18b3 : (9223372036854775807 < x4_4.size + 1 + t277.size) = False := by have z_ := c18; simp only [ByteArray.size_append, ByteArray.size_extract] at z_; (have zz_ : x4_4.size + 1 + t277.size ≤ 9223372036854775807 := z_); exact eq_false (by first | exact Nat.not_lt.2 zz_ | omega)
                by_cases c19 : ((x4_4 ++ (⟨#[32]⟩ : ByteArray)) ++ t277).size + 1 ≤ 9223372036854775807
                · rw [if_pos c19] at H
                  have c19b0 := eq_true c19
                  have c19b1 : decide (((x4_4 ++ (⟨#[32]⟩ : ByteArray)) ++ t277).size + 1 ≤ 9223372036854775807) = true := decide_eq_true c19
                  try have c19b2 : (9223372036854775807 < ((x4_4 ++ (⟨#[32]⟩ : ByteArray)) ++ t277).size + 1) = False := eq_false (Nat.not_lt.2 c19)
                  try have c19b3 : (9223372036854775807 < x4_4.size + 1 + t277.size + 1) = False := by have z_ := c19; simp only [ByteArray.size_append, ByteArray.size_extract] at z_; (have zz_ : x4_4.size + 1 + t277.size + 1 ≤ 9223372036854775807 := z_); exact eq_false (by first | exact Nat.not_lt.2 zz_ | omega)
                  replace H := Option.bind_eq_some_iff.mp H
                  obtain ⟨t278, A200, H⟩ := H
                  replace H : (if (((x4_4 ++ (⟨#[32]⟩ : ByteArray)) ++ t277) ++ (⟨#[58]⟩ : ByteArray)).size + t278.size ≤ 9223372036854775807 then (if ((((x4_4 ++ (⟨#[32]⟩ : ByteArray)) ++ t277) ++ (⟨#[58]⟩ : ByteArray)) ++ t278).size + 1 ≤ 9223372036854775807 then ((missiveref10_wide.f kj12 (Int.tmod a0_1 60) 2).bind fun t279 => (if (((((x4_4 ++ (⟨#[32]⟩ : ByteArray)) ++ t277) ++ (⟨#[58]⟩ : ByteArray)) ++ t278) ++ (⟨#[58]⟩ : ByteArray)).size + t279.size ≤ 9223372036854775807 then (if ((((((x4_4 ++ (⟨#[32]⟩ : ByteArray)) ++ t277) ++ (⟨#[58]⟩ : ByteArray)) ++ t278) ++ (⟨#[58]⟩ : ByteArray)) ++ t279).size + 1 ≤ 9223372036854775807 then (if (((((((x4_4 ++ (⟨#[32]⟩ : ByteArray)) ++ t277) ++ (⟨#[58]⟩ : ByteArray)) ++ t278) ++ (⟨#[58]⟩ : ByteArray)) ++ t279) ++ (⟨#[32]⟩ : ByteArray)).size + x7_12.size ≤ 9223372036854775807 then ((missiveref10_wide.f kj12 (wrap64 (Int.tdiv x6_12 60)) 2).bind fun t280 => (if ((((((((x4_4 ++ (⟨#[32]⟩ : ByteArray)) ++ t277) ++ (⟨#[58]⟩ : ByteArray)) ++ t278) ++ (⟨#[58]⟩ : ByteArray)) ++ t279) ++ (⟨#[32]⟩ : ByteArray)) ++ x7_12).size + t280.size ≤ 9223372036854775807 then ((missiveref10_wide.f kj12 (Int.tmod x6_12 60) 2).bind fun t281 => (if (((((((((x4_4 ++ (⟨#[32]⟩ : ByteArray)) ++ t277) ++ (⟨#[58]⟩ : ByteArray)) ++ t278) ++ (⟨#[58]⟩ : ByteArray)) ++ t279) ++ (⟨#[32]⟩ : ByteArray)) ++ x7_12) ++ t280).size + t281.size ≤ 9223372036854775807 then (some ((((((((((x4_4 ++ (⟨#[32]⟩ : ByteArray)) ++ t277) ++ (⟨#[58]⟩ : ByteArray)) ++ t278) ++ (⟨#[58]⟩ : ByteArray)) ++ t279) ++ (⟨#[32]⟩ : ByteArray)) ++ x7_12) ++ t280) ++ t281, 0)) else (none))) else (none))) else (none)) else (none)) else (none))) else (none)) else (none)) = some (r1, r2) := H
                  have A20 := Aside0.mk A200
                  clear A200
                  by_cases c21 : (((x4_4 ++ (⟨#[32]⟩ : ByteArray)) ++ t277) ++ (⟨#[58]⟩ : ByteArray)).size + t278.size ≤ 9223372036854775807
                  · rw [if_pos c21] at H
                    have c21b0 := eq_true c21
                    have c21b1 : decide ((((x4_4 ++ (⟨#[32]⟩ : ByteArray)) ++ t277) ++ (⟨#[58]⟩ : ByteArray)).size + t278.size ≤ 9223372036854775807) = true := decide_eq_true c21
                    try have c21b2 : (9223372036854775807 < (((x4_4 ++ (⟨#[32]⟩ : ByteArray)) ++ t277) ++ (⟨#[58]⟩ : ByteArray)).size + t278.size) = False := eq_false (Nat.not_lt.2 c21)
                    try have c21b3 : (9223372036854775807 < x4_4.size + 1 + t277.size + 1 + t278.size) = False := by have z_ := c21; simp only [ByteArray.size_append, ByteArray.size_extract] at z_; (have zz_ : x4_4.size + 1 + t277.size + 1 + t278.size ≤ 9223372036854775807 := z_); exact eq_false (by first | exact Nat.not_lt.2 zz_ | omega)
                    by_cases c22 : ((((x4_4 ++ (⟨#[32]⟩ : ByteArray)) ++ t277) ++ (⟨#[58]⟩ : ByteArray)) ++ t278).size + 1 ≤ 9223372036854775807
                    · rw [if_pos c22] at H
                      have c22b0 := eq_true c22
                      have c22b1 : decide (((((x4_4 ++ (⟨#[32]⟩ : ByteArray)) ++ t277) ++ (⟨#[58]⟩ : ByteArray)) ++ t278).size + 1 ≤ 9223372036854775807) = true := decide_eq_true c22
                      try have c22b2 : (9223372036854775807 < ((((x4_4 ++ (⟨#[32]⟩ : ByteArray)) ++ t277) ++ (⟨#[58]⟩ : ByteArray)) ++ t278).size + 1) = False := eq_false (Nat.not_lt.2 c22)
                      try have c22b3 : (9223372036854775807 < x4_4.size + 1 + t277.size + 1 + t278.size + 1) = False := by have z_ := c22; simp only [ByteArray.size_append, ByteArray.size_extract] at z_; (have zz_ : x4_4.size + 1 + t277.size + 1 + t278.size + 1 ≤ 9223372036854775807 := z_); exact eq_false (by first | exact Nat.not_lt.2 zz_ | omega)
                      replace H := Option.bind_eq_some_iff.mp H
                      obtain ⟨t279, A230, H⟩ := H
                      replace H : (if (((((x4_4 ++ (⟨#[32]⟩ : ByteArray)) ++ t277) ++ (⟨#[58]⟩ : ByteArray)) ++ t278) ++ (⟨#[58]⟩ : ByteArray)).size + t279.size ≤ 9223372036854775807 then (if ((((((x4_4 ++ (⟨#[32]⟩ : ByteArray)) ++ t277) ++ (⟨#[58]⟩ : ByteArray)) ++ t278) ++ (⟨#[58]⟩ : ByteArray)) ++ t279).size + 1 ≤ 9223372036854775807 then (if (((((((x4_4 ++ (⟨#[32]⟩ : ByteArray)) ++ t277) ++ (⟨#[58]⟩ : ByteArray)) ++ t278) ++ (⟨#[58]⟩ : ByteArray)) ++ t279) ++ (⟨#[32]⟩ : ByteArray)).size + x7_12.size ≤ 9223372036854775807 then ((missiveref10_wide.f kj12 (wrap64 (Int.tdiv x6_12 60)) 2).bind fun t280 => (if ((((((((x4_4 ++ (⟨#[32]⟩ : ByteArray)) ++ t277) ++ (⟨#[58]⟩ : ByteArray)) ++ t278) ++ (⟨#[58]⟩ : ByteArray)) ++ t279) ++ (⟨#[32]⟩ : ByteArray)) ++ x7_12).size + t280.size ≤ 9223372036854775807 then ((missiveref10_wide.f kj12 (Int.tmod x6_12 60) 2).bind fun t281 => (if (((((((((x4_4 ++ (⟨#[32]⟩ : ByteArray)) ++ t277) ++ (⟨#[58]⟩ : ByteArray)) ++ t278) ++ (⟨#[58]⟩ : ByteArray)) ++ t279) ++ (⟨#[32]⟩ : ByteArray)) ++ x7_12) ++ t280).size + t281.size ≤ 9223372036854775807 then (some ((((((((((x4_4 ++ (⟨#[32]⟩ : ByteArray)) ++ t277) ++ (⟨#[58]⟩ : ByteArray)) ++ t278) ++ (⟨#[58]⟩ : ByteArray)) ++ t279) ++ (⟨#[32]⟩ : ByteArray)) ++ x7_12) ++ t280) ++ t281, 0)) else (none))) else (none))) else (none)) else (none)) else (none)) = some (r1, r2) := H
                      have A23 := Aside0.mk A230
                      clear A230
                      by_cases c24 : (((((x4_4 ++ (⟨#[32]⟩ : ByteArray)) ++ t277) ++ (⟨#[58]⟩ : ByteArray)) ++ t278) ++ (⟨#[58]⟩ : ByteArray)).size + t279.size ≤ 9223372036854775807
                      · rw [if_pos c24] at H
                        have c24b0 := eq_true c24
                        have c24b1 : decide ((((((x4_4 ++ (⟨#[32]⟩ : ByteArray)) ++ t277) ++ (⟨#[58]⟩ : ByteArray)) ++ t278) ++ (⟨#[58]⟩ : ByteArray)).size + t279.size ≤ 9223372036854775807) = true := decide_eq_true c24
                        try have c24b2 : (9223372036854775807 < (((((x4_4 ++ (⟨#[32]⟩ : ByteArray)) ++ t277) ++ (⟨#[58]⟩ : ByteArray)) ++ t278) ++ (⟨#[58]⟩ : ByteArray)).size + t279.size) = False := eq_false (Nat.not_lt.2 c24)
                        try have c24b3 : (9223372036854775807 < x4_4.size + 1 + t277.size + 1 + t278.size + 1 + t279.size) = False := by have z_ := c24; simp only [ByteArray.size_append, ByteArray.size_extract] at z_; (have zz_ : x4_4.size + 1 + t277.size + 1 + t278.size + 1 + t279.size ≤ 9223372036854775807 := z_); exact eq_false (by first | exact Nat.not_lt.2 zz_ | omega)
                        by_cases c25 : ((((((x4_4 ++ (⟨#[32]⟩ : ByteArray)) ++ t277) ++ (⟨#[58]⟩ : ByteArray)) ++ t278) ++ (⟨#[58]⟩ : ByteArray)) ++ t279).size + 1 ≤ 9223372036854775807
                        · rw [if_pos c25] at H
                          have c25b0 := eq_true c25
                          have c25b1 : decide (((((((x4_4 ++ (⟨#[32]⟩ : ByteArray)) ++ t277) ++ (⟨#[58]⟩ : ByteArray)) ++ t278) ++ (⟨#[58]⟩ : ByteArray)) ++ t279).size + 1 ≤ 9223372036854775807) = true := decide_eq_true c25
                          try have c25b2 : (9223372036854775807 < ((((((x4_4 ++ (⟨#[32]⟩ : ByteArray)) ++ t277) ++ (⟨#[58]⟩ : ByteArray)) ++ t278) ++ (⟨#[58]⟩ : ByteArray)) ++ t279).size + 1) = False := eq_false (Nat.not_lt.2 c25)
                          try have c25b3 : (9223372036854775807 < x4_4.size + 1 + t277.size + 1 + t278.size + 1 + t279.size + 1) = False := by have z_ := c25; simp only [ByteArray.size_append, ByteArray.size_extract] at z_; (have zz_ : x4_4.size + 1 + t277.size + 1 + t278.size + 1 + t279.size + 1 ≤ 9223372036854775807 := z_); exact eq_false (by first | exact Nat.not_lt.2 zz_ | omega)
                          by_cases c26 : (((((((x4_4 ++ (⟨#[32]⟩ : ByteArray)) ++ t277) ++ (⟨#[58]⟩ : ByteArray)) ++ t278) ++ (⟨#[58]⟩ : ByteArray)) ++ t279) ++ (⟨#[32]⟩ : ByteArray)).size + x7_12.size ≤ 9223372036854775807
                          · rw [if_pos c26] at H
                            have c26b0 := eq_true c26
                            have c26b1 : decide ((((((((x4_4 ++ (⟨#[32]⟩ : ByteArray)) ++ t277) ++ (⟨#[58]⟩ : ByteArray)) ++ t278) ++ (⟨#[58]⟩ : ByteArray)) ++ t279) ++ (⟨#[32]⟩ : ByteArray)).size + x7_12.size ≤ 9223372036854775807) = true := decide_eq_true c26
                            try have c26b2 : (9223372036854775807 < (((((((x4_4 ++ (⟨#[32]⟩ : ByteArray)) ++ t277) ++ (⟨#[58]⟩ : ByteArray)) ++ t278) ++ (⟨#[58]⟩ : ByteArray)) ++ t279) ++ (⟨#[32]⟩ : ByteArray)).size + x7_12.size) = False := eq_false (Nat.not_lt.2 c26)
                            try have c26b3 : (9223372036854775807 < x4_4.size + 1 + t277.size + 1 + t278.size + 1 + t279.size + 1 + x7_12.size) = False := by have z_ := c26; simp only [ByteArray.size_append, ByteArray.size_extract] at z_; (have zz_ : x4_4.size + 1 + t277.size + 1 + t278.size + 1 + t279.size + 1 + x7_12.size ≤ 9223372036854775807 := z_); exact eq_false (by first | exact Nat.not_lt.2 zz_ | omega)
                            replace H := Option.bind_eq_some_iff.mp H
                            obtain ⟨t280, A270, H⟩ := H
                            replace H : (if ((((((((x4_4 ++ (⟨#[32]⟩ : ByteArray)) ++ t277) ++ (⟨#[58]⟩ : ByteArray)) ++ t278) ++ (⟨#[58]⟩ : ByteArray)) ++ t279) ++ (⟨#[32]⟩ : ByteArray)) ++ x7_12).size + t280.size ≤ 9223372036854775807 then ((missiveref10_wide.f kj12 (Int.tmod x6_12 60) 2).bind fun t281 => (if (((((((((x4_4 ++ (⟨#[32]⟩ : ByteArray)) ++ t277) ++ (⟨#[58]⟩ : ByteArray)) ++ t278) ++ (⟨#[58]⟩ : ByteArray)) ++ t279) ++ (⟨#[32]⟩ : ByteArray)) ++ x7_12) ++ t280).size + t281.size ≤ 9223372036854775807 then (some ((((((((((x4_4 ++ (⟨#[32]⟩ : ByteArray)) ++ t277) ++ (⟨#[58]⟩ : ByteArray)) ++ t278) ++ (⟨#[58]⟩ : ByteArray)) ++ t279) ++ (⟨#[32]⟩ : ByteArray)) ++ x7_12) ++ t280) ++ t281, 0)) else (none))) else (none)) = some (r1, r2) := H
                            have A27 := Aside0.mk A270
                            clear A270
                            by_cases c28 : ((((((((x4_4 ++ (⟨#[32]⟩ : ByteArray)) ++ t277) ++ (⟨#[58]⟩ : ByteArray)) ++ t278) ++ (⟨#[58]⟩ : ByteArray)) ++ t279) ++ (⟨#[32]⟩ : ByteArray)) ++ x7_12).size + t280.size ≤ 9223372036854775807
                            · rw [if_pos c28] at H
                              have c28b0 := eq_true c28
                              have c28b1 : decide (((((((((x4_4 ++ (⟨#[32]⟩ : ByteArray)) ++ t277) ++ (⟨#[58]⟩ : ByteArray)) ++ t278) ++ (⟨#[58]⟩ : ByteArray)) ++ t279) ++ (⟨#[32]⟩ : ByteArray)) ++ x7_12).size + t280.size ≤ 9223372036854775807) = true := decide_eq_true c28
                              try have c28b2 : (9223372036854775807 < ((((((((x4_4 ++ (⟨#[32]⟩ : ByteArray)) ++ t277) ++ (⟨#[58]⟩ : ByteArray)) ++ t278) ++ (⟨#[58]⟩ : ByteArray)) ++ t279) ++ (⟨#[32]⟩ : ByteArray)) ++ x7_12).size + t280.size) = False := eq_false (Nat.not_lt.2 c28)
                              try have c28b3 : (9223372036854775807 < x4_4.size + 1 + t277.size + 1 + t278.size + 1 + t279.size + 1 + x7_12.size + t280.size) = False := by have z_ := c28; simp only [ByteArray.size_append, ByteArray.size_extract] at z_; (have zz_ : x4_4.size + 1 + t277.size + 1 + t278.size + 1 + t279.size + 1 + x7_12.size + t280.size ≤ 9223372036854775807 := z_); exact eq_false (by first | exact Nat.not_lt.2 zz_ | omega)
                              replace H := Option.bind_eq_some_iff.mp H
                              obtain ⟨t281, A290, H⟩ := H
                              replace H : (if (((((((((x4_4 ++ (⟨#[32]⟩ : ByteArray)) ++ t277) ++ (⟨#[58]⟩ : ByteArray)) ++ t278) ++ (⟨#[58]⟩ : ByteArray)) ++ t279) ++ (⟨#[32]⟩ : ByteArray)) ++ x7_12) ++ t280).size + t281.size ≤ 9223372036854775807 then (some ((((((((((x4_4 ++ (⟨#[32]⟩ : ByteArray)) ++ t277) ++ (⟨#[58]⟩ : ByteArray)) ++ t278) ++ (⟨#[58]⟩ : ByteArray)) ++ t279) ++ (⟨#[32]⟩ : ByteArray)) ++ x7_12) ++ t280) ++ t281, 0)) else (none)) = some (r1, r2) := H
                              have A29 := Aside0.mk A290
                              clear A290
                              by_cases c30 : (((((((((x4_4 ++ (⟨#[32]⟩ : ByteArray)) ++ t277) ++ (⟨#[58]⟩ : ByteArray)) ++ t278) ++ (⟨#[58]⟩ : ByteArray)) ++ t279) ++ (⟨#[32]⟩ : ByteArray)) ++ x7_12) ++ t280).size + t281.size ≤ 9223372036854775807
                              · rw [if_pos c30] at H
                                have c30b0 := eq_true c30
                                have c30b1 : decide ((((((((((x4_4 ++ (⟨#[32]⟩ : ByteArray)) ++ t277) ++ (⟨#[58]⟩ : ByteArray)) ++ t278) ++ (⟨#[58]⟩ : ByteArray)) ++ t279) ++ (⟨#[32]⟩ : ByteArray)) ++ x7_12) ++ t280).size + t281.size ≤ 9223372036854775807) = true := decide_eq_true c30
                                try have c30b2 : (9223372036854775807 < (((((((((x4_4 ++ (⟨#[32]⟩ : ByteArray)) ++ t277) ++ (⟨#[58]⟩ : ByteArray)) ++ t278) ++ (⟨#[58]⟩ : ByteArray)) ++ t279) ++ (⟨#[32]⟩ : ByteArray)) ++ x7_12) ++ t280).size + t281.size) = False := eq_false (Nat.not_lt.2 c30)
                                try have c30b3 : (9223372036854775807 < x4_4.size + 1 + t277.size + 1 + t278.size + 1 + t279.size + 1 + x7_12.size + t280.size + t281.size) = False := by have z_ := c30; simp only [ByteArray.size_append, ByteArray.size_extract] at z_; (have zz_ : x4_4.size + 1 + t277.size + 1 + t278.size + 1 + t279.size + 1 + x7_12.size + t280.size + t281.size ≤ 9223372036854775807 := z_); exact eq_false (by first | exact Nat.not_lt.2 zz_ | omega)
                                simp only [Option.some.injEq, Prod.mk.injEq] at H
                                obtain ⟨rfl, rfl⟩ := H
                                try go_wp2
                                have n0_ := Aside0.mk (blk_drew BK273.out)
                                have n1_ := Aside0.mk (below_drew1 HB.out)
                                clear BK273
                                clear HB
                                have BK273 := n0_
                                have HB := n1_
                                clear n0_ n1_
                                refine start_ (n := 33) (S := fun w' => w'.cell? ⟨gb273, 0, none⟩ = some (.int .i64 a0_0) ∧ w'.cell? ⟨gb273, 1, none⟩ = some (.int .i64 a0_1) ∧ w'.cell? ⟨gb273, 2, none⟩ = some (.int .i64 a0_2)) (ds := []) #[false, false, false, false, false, false, false, false, false, false, false, false, false, false, false, false, false, false, false, false, false, false, false, false, false, false, false, false, false, false, false, false, false] (by kernel_rfl) rfl rfl ⟨(blk_cell BK273.out 0).trans rfl, (blk_cell BK273.out 1).trans rfl, (blk_cell BK273.out 2).trans rfl⟩ (fun hHeld => ?_); refine with_tabW missiveref10_WriteTime.tab9 missiveref10_WriteTime.bits9 (fun HT_ HW_ => ?_)
                                generalize wc.drew = w31 at BK273 HB hHeld ⊢
                                refine pure_ (i := 0) (N := some 28) (v := ?_) (a' := ?_) #[true, false, false, false, false, false, false, false, false, false, false, false, false, false, false, false, false, false, false, false, false, false, false, false, false, false, false, false, false, false, false, false, false] rfl rfl (any_of HT_.out (by kernel_rfl)) (fun _ _ _ h => h) (Or.inl ⟨by rfl, ?_⟩) ?_ ?_
                                rotate_left
                                · intro w'
                                  go_simp
                                  with_reducible rfl
                                rotate_left
                                · simp only [Act.put, List.setIfInBounds_toArray, List.set_cons_zero, List.set_cons_succ, i64_w, i32_w]
                                  rfl
                                refine pure_ (i := 1) (N := some 29) (v := ?_) (a' := ?_) #[true, true, false, false, false, false, false, false, false, false, false, false, false, false, false, false, false, false, false, false, false, false, false, false, false, false, false, false, false, false, false, false, false] rfl rfl (any_of HT_.out (by kernel_rfl)) (fun _ _ _ h => h) (Or.inl ⟨by rfl, ?_⟩) ?_ ?_
                                rotate_left
                                · intro w'
                                  go_simp
                                  with_reducible rfl
                                rotate_left
                                · simp only [Act.put, List.setIfInBounds_toArray, List.set_cons_zero, List.set_cons_succ, i64_w, i32_w]
                                  rfl
                                refine pure_ (i := 2) (N := some 30) (v := ?_) (a' := ?_) #[true, true, true, false, false, false, false, false, false, false, false, false, false, false, false, false, false, false, false, false, false, false, false, false, false, false, false, false, false, false, false, false, false] rfl rfl (any_of HT_.out (by kernel_rfl)) (fun _ _ _ h => h) (Or.inl ⟨by rfl, ?_⟩) ?_ ?_
                                rotate_left
                                · intro w'
                                  go_simp
                                  with_reducible rfl
                                rotate_left
                                · simp only [Act.put, List.setIfInBounds_toArray, List.set_cons_zero, List.set_cons_succ, i64_w, i32_w]
                                  rfl
                                refine pure_ (i := 8) (N := some 36) (v := ?_) (a' := ?_) #[true, true, true, false, false, false, false, false, true, false, false, false, false, false, false, false, false, false, false, false, false, false, false, false, false, false, false, false, false, false, false, false, false] rfl rfl (any_of HT_.out (by kernel_rfl)) (fun _ _ _ h => h) (Or.inl ⟨by rfl, ?_⟩) ?_ ?_
                                rotate_left
                                · intro w'
                                  go_simp
                                  with_reducible rfl
                                rotate_left
                                · simp only [Act.put, List.setIfInBounds_toArray, List.set_cons_zero, List.set_cons_succ, i64_w, i32_w]
                                  rfl
                                refine pure_ (i := 15) (N := some 43) (v := ?_) (a' := ?_) #[true, true, true, false, false, false, false, false, true, false, false, false, false, false, false, true, false, false, false, false, false, false, false, false, false, false, false, false, false, false, false, false, false] rfl rfl (any_of HT_.out (by kernel_rfl)) (fun _ _ _ h => h) (Or.inl ⟨by rfl, ?_⟩) ?_ ?_
                                rotate_left
                                · intro w'
                                  go_simp
                                  with_reducible rfl
                                rotate_left
                                · simp only [Act.put, List.setIfInBounds_toArray, List.set_cons_zero, List.set_cons_succ, i64_w, i32_w]
                                  rfl
                                refine pure_ (i := 21) (N := some 49) (v := ?_) (a' := ?_) #[true, true, true, false, false, false, false, false, true, false, false, false, false, false, false, true, false, false, false, false, false, true, false, false, false, false, false, false, false, false, false, false, false] rfl rfl (any_of HT_.out (by kernel_rfl)) (fun _ _ _ h => h) (Or.inl ⟨by rfl, ?_⟩) ?_ ?_
                                rotate_left
                                · intro w'
                                  go_simp
                                  with_reducible rfl
                                rotate_left
                                · simp only [Act.put, List.setIfInBounds_toArray, List.set_cons_zero, List.set_cons_succ, i64_w, i32_w]
                                  rfl
                                refine pure_ (i := 23) (N := some 51) (v := ?_) (a' := ?_) #[true, true, true, false, false, false, false, false, true, false, false, false, false, false, false, true, false, false, false, false, false, true, false, true, false, false, false, false, false, false, false, false, false] rfl rfl (any_of HT_.out (by kernel_rfl)) (fun _ _ _ h => h) (Or.inl ⟨by rfl, ?_⟩) ?_ ?_
                                rotate_left
                                · intro w'
                                  go_simp
                                  with_reducible rfl
                                rotate_left
                                · simp only [Act.put, List.setIfInBounds_toArray, List.set_cons_zero, List.set_cons_succ, i64_w, i32_w]
                                  rfl
                                refine pure_ (i := 24) (N := some 52) (v := ?_) (a' := ?_) #[true, true, true, false, false, false, false, false, true, false, false, false, false, false, false, true, false, false, false, false, false, true, false, true, true, false, false, false, false, false, false, false, false] rfl rfl (any_of HT_.out (by kernel_rfl)) (fun _ _ _ h => h) (Or.inl ⟨by rfl, ?_⟩) ?_ ?_
                                rotate_left
                                · intro w'
                                  go_simp
                                  with_reducible rfl
                                rotate_left
                                · simp only [Act.put, List.setIfInBounds_toArray, List.set_cons_zero, List.set_cons_succ, i64_w, i32_w]
                                  rfl
                                refine pure_ (i := 27) (N := some 55) (v := ?_) (a' := ?_) #[true, true, true, false, false, false, false, false, true, false, false, false, false, false, false, true, false, false, false, false, false, true, false, true, true, false, false, true, false, false, false, false, false] rfl rfl (any_of HT_.out (by kernel_rfl)) (fun _ _ _ h => h) (Or.inl ⟨by rfl, ?_⟩) ?_ ?_
                                rotate_left
                                · intro w'
                                  go_simp
                                  with_reducible rfl
                                rotate_left
                                · simp only [Act.put, List.setIfInBounds_toArray, List.set_cons_zero, List.set_cons_succ, i64_w, i32_w]
                                  rfl
                                refine pure_ (i := 28) (N := some 56) (v := ?_) (a' := ?_) #[true, true, true, false, false, false, false, false, true, false, false, false, false, false, false, true, false, false, false, false, false, true, false, true, true, false, false, true, true, false, false, false, false] rfl rfl (any_of HT_.out (by kernel_rfl)) (fun _ _ _ h => h) (Or.inl ⟨by rfl, ?_⟩) ?_ ?_
                                rotate_left
                                · intro w'
                                  go_simp
                                  with_reducible rfl
                                rotate_left
                                · simp only [Act.put, List.setIfInBounds_toArray, List.set_cons_zero, List.set_cons_succ, i64_w, i32_w]
                                  rfl
                                refine take_ (i := 3) (N := some 31) (v := ?_) (a' := ?_) #[true, true, true, true, false, false, false, false, true, false, false, false, false, false, false, true, false, false, false, false, false, true, false, true, true, false, false, true, true, false, false, false, false] rfl rfl (take_ofW HT_.out HW_.out (by kernel_rfl)) (fun _ _ _ h => h) (Or.inl ⟨by rfl, ?_⟩) hHeld ?_ ?_
                                rotate_left
                                · rintro w' ⟨s0, s1, s2⟩
                                  go_simp
                                  with_reducible rfl
                                rotate_left
                                · simp only [Act.put, List.setIfInBounds_toArray, List.set_cons_zero, List.set_cons_succ, i64_w, i32_w]
                                  rfl
                                refine pure_ (i := 4) (N := some 32) (v := ?_) (a' := ?_) #[true, true, true, true, true, false, false, false, true, false, false, false, false, false, false, true, false, false, false, false, false, true, false, true, true, false, false, true, true, false, false, false, false] rfl rfl (any_of HT_.out (by kernel_rfl)) (fun _ _ _ h => h) (Or.inl ⟨by rfl, ?_⟩) ?_ ?_
                                rotate_left
                                · intro w'
                                  go_simp
                                  with_reducible rfl
                                rotate_left
                                · simp only [Act.put, List.setIfInBounds_toArray, List.set_cons_zero, List.set_cons_succ, i64_w, i32_w]
                                  rfl
                                refine take_ (i := 9) (N := some 37) (v := ?_) (a' := ?_) #[true, true, true, true, true, false, false, false, true, true, false, false, false, false, false, true, false, false, false, false, false, true, false, true, true, false, false, true, true, false, false, false, false] rfl rfl (take_ofW HT_.out HW_.out (by kernel_rfl)) (fun _ _ _ h => h) (Or.inl ⟨by rfl, ?_⟩) hHeld ?_ ?_
                                rotate_left
                                · rintro w' ⟨s0, s1, s2⟩
                                  go_simp
                                  with_reducible rfl
                                rotate_left
                                · simp only [Act.put, List.setIfInBounds_toArray, List.set_cons_zero, List.set_cons_succ, i64_w, i32_w]
                                  rfl
                                refine pure_ (i := 10) (N := some 38) (v := ?_) (a' := ?_) #[true, true, true, true, true, false, false, false, true, true, true, false, false, false, false, true, false, false, false, false, false, true, false, true, true, false, false, true, true, false, false, false, false] rfl rfl (any_of HT_.out (by kernel_rfl)) (fun _ _ _ h => h) (Or.inl ⟨by rfl, ?_⟩) ?_ ?_
                                rotate_left
                                · intro w'
                                  go_simp
                                  with_reducible rfl
                                rotate_left
                                · simp only [Act.put, List.setIfInBounds_toArray, List.set_cons_zero, List.set_cons_succ, i64_w, i32_w]
                                  rfl
                                refine pure_ (i := 11) (N := some 39) (v := ?_) (a' := ?_) #[true, true, true, true, true, false, false, false, true, true, true, true, false, false, false, true, false, false, false, false, false, true, false, true, true, false, false, true, true, false, false, false, false] rfl rfl (any_of HT_.out (by kernel_rfl)) (fun _ _ _ h => h) (Or.inl ⟨by rfl, ?_⟩) ?_ ?_
                                rotate_left
                                · intro w'
                                  go_simp
                                  with_reducible rfl
                                rotate_left
                                · simp only [Act.put, List.setIfInBounds_toArray, List.set_cons_zero, List.set_cons_succ, i64_w, i32_w]
                                  rfl
                                refine take_ (i := 16) (N := some 44) (v := ?_) (a' := ?_) #[true, true, true, true, true, false, false, false, true, true, true, true, false, false, false, true, true, false, false, false, false, true, false, true, true, false, false, true, true, false, false, false, false] rfl rfl (take_ofW HT_.out HW_.out (by kernel_rfl)) (fun _ _ _ h => h) (Or.inl ⟨by rfl, ?_⟩) hHeld ?_ ?_
                                rotate_left
                                · rintro w' ⟨s0, s1, s2⟩
                                  go_simp
                                  with_reducible rfl
                                rotate_left
                                · simp only [Act.put, List.setIfInBounds_toArray, List.set_cons_zero, List.set_cons_succ, i64_w, i32_w]
                                  rfl
                                refine pure_ (i := 17) (N := some 45) (v := ?_) (a' := ?_) #[true, true, true, true, true, false, false, false, true, true, true, true, false, false, false, true, true, true, false, false, false, true, false, true, true, false, false, true, true, false, false, false, false] rfl rfl (any_of HT_.out (by kernel_rfl)) (fun _ _ _ h => h) (Or.inl ⟨by rfl, ?_⟩) ?_ ?_
                                rotate_left
                                · intro w'
                                  go_simp
                                  with_reducible rfl
                                rotate_left
                                · simp only [Act.put, List.setIfInBounds_toArray, List.set_cons_zero, List.set_cons_succ, i64_w, i32_w]
                                  rfl
                                refine one_ (i := 5) (N := some 33) #[true, true, true, true, true, true, false, false, true, true, true, true, false, false, false, true, true, true, false, false, false, true, false, true, true, false, false, true, true, false, false, false, false] rfl rfl (one_of HT_.out (by kernel_rfl)) (by decide) (fun K hK => ?_)
                                refine goes_ Tryz.func30 (by kernel_rfl) rfl #[.int .i64 (wrap64 (Int.tdiv a0_1 3600)), .int .i64 2] (by rfl) rfl rfl (by (try simp only [List.map_toArray, List.map_cons, List.map_nil]); first | done | rfl | (simp only [List.length_drop, List.length_take]; rfl)) ?_
                                with_reducible refine (missiveref10_wide.calls kj12 (wrap64 (Int.tdiv a0_1 3600)) 2 t277 _ A17.out).mono ?_
                                rintro e w32 ⟨rfl, hb⟩
                                refine ⟨_, rfl, ?_⟩
                                have n0_ := Aside0.mk (blk_below (g := gb273) (o := .cells #[.int .i64 a0_0, .int .i64 a0_1, .int .i64 a0_2] 30 (0, 0)) (by (with_reducible repeat (first | refine blk_drewN ?_ _ | refine blk_drew ?_ | refine blk_alloc ?_ _)); exact BK273.out) hb)
                                have n1_ := Aside0.mk (below_step (by repeat (first | (with_reducible first | exact HB.out | apply below_alloc | apply pw_below_drewN | apply below_drew1 | refine below_set ?_ GE273.out) | exact HB.out)) hb)
                                clear BK273
                                clear HB
                                have BK273 := n0_
                                have HB := n1_
                                clear n0_ n1_
                                (try clear hb)
                                (try clear hb2)
                                (try clear hk)
                                (try clear hi)
                                refine hK.out _ _ ⟨(blk_cell BK273.out 0).trans rfl, (blk_cell BK273.out 1).trans rfl, (blk_cell BK273.out 2).trans rfl⟩ (fun hHeld => ?_)
                                clear hK K
                                refine norm_ (a' := ?_) ?_ ?_
                                rotate_left
                                · show Act.put _ (some 33) _ = _
                                  simp only [Act.put, List.setIfInBounds_toArray, List.set_cons_zero, List.set_cons_succ, i64_w, i32_w]
                                  rfl
                                refine pure_ (i := 6) (N := some 34) (v := ?_) (a' := ?_) #[true, true, true, true, true, true, true, false, true, true, true, true, false, false, false, true, true, true, false, false, false, true, false, true, true, false, false, true, true, false, false, false, false] rfl rfl (any_of HT_.out (by kernel_rfl)) (fun _ _ _ h => h) (Or.inl ⟨by rfl, ?_⟩) ?_ ?_
                                rotate_left
                                · intro w'
                                  go_simp
                                  with_reducible rfl
                                rotate_left
                                · simp only [Act.put, List.setIfInBounds_toArray, List.set_cons_zero, List.set_cons_succ, i64_w, i32_w]
                                  rfl
                                refine pure_ (i := 7) (N := some 35) (v := ?_) (a' := ?_) #[true, true, true, true, true, true, true, true, true, true, true, true, false, false, false, true, true, true, false, false, false, true, false, true, true, false, false, true, true, false, false, false, false] rfl rfl (any_of HT_.out (by kernel_rfl)) (fun _ _ _ h => h) (Or.inl ⟨by rfl, ?_⟩) ?_ ?_
                                rotate_left
                                · intro w'
                                  go_simp
                                  with_reducible rfl
                                rotate_left
                                · simp only [Act.put, List.setIfInBounds_toArray, List.set_cons_zero, List.set_cons_succ, i64_w, i32_w]
                                  rfl
                                refine one_ (i := 12) (N := some 40) #[true, true, true, true, true, true, true, true, true, true, true, true, true, false, false, true, true, true, false, false, false, true, false, true, true, false, false, true, true, false, false, false, false] rfl rfl (one_of HT_.out (by kernel_rfl)) (by decide) (fun K hK => ?_)
                                refine goes_ Tryz.func30 (by kernel_rfl) rfl #[.int .i64 (Int.tmod (wrap64 (Int.tdiv a0_1 60)) 60), .int .i64 2] (by rfl) rfl rfl (by (try simp only [List.map_toArray, List.map_cons, List.map_nil]); first | done | rfl | (simp only [List.length_drop, List.length_take]; rfl)) ?_
                                with_reducible refine (missiveref10_wide.calls kj12 (Int.tmod (wrap64 (Int.tdiv a0_1 60)) 60) 2 t278 _ A20.out).mono ?_
                                rintro e w33 ⟨rfl, hb⟩
                                refine ⟨_, rfl, ?_⟩
                                have n0_ := Aside0.mk (blk_below (g := gb273) (o := .cells #[.int .i64 a0_0, .int .i64 a0_1, .int .i64 a0_2] 30 (0, 0)) (by (with_reducible repeat (first | refine blk_drewN ?_ _ | refine blk_drew ?_ | refine blk_alloc ?_ _)); exact BK273.out) hb)
                                have n1_ := Aside0.mk (below_step (by repeat (first | (with_reducible first | exact HB.out | apply below_alloc | apply pw_below_drewN | apply below_drew1 | refine below_set ?_ GE273.out) | exact HB.out)) hb)
                                clear BK273
                                clear HB
                                have BK273 := n0_
                                have HB := n1_
                                clear n0_ n1_
                                (try clear hb)
                                (try clear hb2)
                                (try clear hk)
                                (try clear hi)
                                refine hK.out _ _ ⟨(blk_cell BK273.out 0).trans rfl, (blk_cell BK273.out 1).trans rfl, (blk_cell BK273.out 2).trans rfl⟩ (fun hHeld => ?_)
                                clear hK K
                                refine norm_ (a' := ?_) ?_ ?_
                                rotate_left
                                · show Act.put _ (some 40) _ = _
                                  simp only [Act.put, List.setIfInBounds_toArray, List.set_cons_zero, List.set_cons_succ, i64_w, i32_w]
                                  rfl
                                refine pure_ (i := 13) (N := some 41) (v := ?_) (a' := ?_) #[true, true, true, true, true, true, true, true, true, true, true, true, true, true, false, true, true, true, false, false, false, true, false, true, true, false, false, true, true, false, false, false, false] rfl rfl (any_of HT_.out (by kernel_rfl)) (fun _ _ _ h => h) (Or.inl ⟨by rfl, ?_⟩) ?_ ?_
                                rotate_left
                                · intro w'
                                  go_simp
                                  with_reducible rfl
                                rotate_left
                                · simp only [Act.put, List.setIfInBounds_toArray, List.set_cons_zero, List.set_cons_succ, i64_w, i32_w]
                                  rfl
                                refine pure_ (i := 14) (N := some 42) (v := ?_) (a' := ?_) #[true, true, true, true, true, true, true, true, true, true, true, true, true, true, true, true, true, true, false, false, false, true, false, true, true, false, false, true, true, false, false, false, false] rfl rfl (any_of HT_.out (by kernel_rfl)) (fun _ _ _ h => h) (Or.inl ⟨by rfl, ?_⟩) ?_ ?_
                                rotate_left
                                · intro w'
                                  go_simp
                                  with_reducible rfl
                                rotate_left
                                · simp only [Act.put, List.setIfInBounds_toArray, List.set_cons_zero, List.set_cons_succ, i64_w, i32_w]
                                  rfl
                                refine one_ (i := 18) (N := some 46) #[true, true, true, true, true, true, true, true, true, true, true, true, true, true, true, true, true, true, true, false, false, true, false, true, true, false, false, true, true, false, false, false, false] rfl rfl (one_of HT_.out (by kernel_rfl)) (by decide) (fun K hK => ?_)
                                refine goes_ Tryz.func30 (by kernel_rfl) rfl #[.int .i64 (Int.tmod a0_1 60), .int .i64 2] (by rfl) rfl rfl (by (try simp only [List.map_toArray, List.map_cons, List.map_nil]); first | done | rfl | (simp only [List.length_drop, List.length_take]; rfl)) ?_
                                with_reducible refine (missiveref10_wide.calls kj12 (Int.tmod a0_1 60) 2 t279 _ A23.out).mono ?_
                                rintro e w34 ⟨rfl, hb⟩
                                refine ⟨_, rfl, ?_⟩
                                have n0_ := Aside0.mk (blk_below (g := gb273) (o := .cells #[.int .i64 a0_0, .int .i64 a0_1, .int .i64 a0_2] 30 (0, 0)) (by (with_reducible repeat (first | refine blk_drewN ?_ _ | refine blk_drew ?_ | refine blk_alloc ?_ _)); exact BK273.out) hb)
                                have n1_ := Aside0.mk (below_step (by repeat (first | (with_reducible first | exact HB.out | apply below_alloc | apply pw_below_drewN | apply below_drew1 | refine below_set ?_ GE273.out) | exact HB.out)) hb)
                                clear BK273
                                clear HB
                                have BK273 := n0_
                                have HB := n1_
                                clear n0_ n1_
                                (try clear hb)
                                (try clear hb2)
                                (try clear hk)
                                (try clear hi)
                                refine hK.out _ _ ⟨(blk_cell BK273.out 0).trans rfl, (blk_cell BK273.out 1).trans rfl, (blk_cell BK273.out 2).trans rfl⟩ (fun hHeld => ?_)
                                clear hK K
                                refine norm_ (a' := ?_) ?_ ?_
                                rotate_left
                                · show Act.put _ (some 46) _ = _
                                  simp only [Act.put, List.setIfInBounds_toArray, List.set_cons_zero, List.set_cons_succ, i64_w, i32_w]
                                  rfl
                                refine pure_ (i := 19) (N := some 47) (v := ?_) (a' := ?_) #[true, true, true, true, true, true, true, true, true, true, true, true, true, true, true, true, true, true, true, true, false, true, false, true, true, false, false, true, true, false, false, false, false] rfl rfl (any_of HT_.out (by kernel_rfl)) (fun _ _ _ h => h) (Or.inl ⟨by rfl, ?_⟩) ?_ ?_
                                rotate_left
                                · intro w'
                                  go_simp
                                  with_reducible rfl
                                rotate_left
                                · simp only [Act.put, List.setIfInBounds_toArray, List.set_cons_zero, List.set_cons_succ, i64_w, i32_w]
                                  rfl
                                refine pure_ (i := 20) (N := some 48) (v := ?_) (a' := ?_) #[true, true, true, true, true, true, true, true, true, true, true, true, true, true, true, true, true, true, true, true, true, true, false, true, true, false, false, true, true, false, false, false, false] rfl rfl (any_of HT_.out (by kernel_rfl)) (fun _ _ _ h => h) (Or.inl ⟨by rfl, ?_⟩) ?_ ?_
                                rotate_left
                                · intro w'
                                  go_simp
                                  with_reducible rfl
                                rotate_left
                                · simp only [Act.put, List.setIfInBounds_toArray, List.set_cons_zero, List.set_cons_succ, i64_w, i32_w]
                                  rfl
                                refine pure_ (i := 22) (N := some 50) (v := ?_) (a' := ?_) #[true, true, true, true, true, true, true, true, true, true, true, true, true, true, true, true, true, true, true, true, true, true, true, true, true, false, false, true, true, false, false, false, false] rfl rfl (any_of HT_.out (by kernel_rfl)) (fun _ _ _ h => h) (Or.inl ⟨by rfl, ?_⟩) ?_ ?_
                                rotate_left
                                · intro w'
                                  go_simp
                                  with_reducible rfl
                                rotate_left
                                · simp only [Act.put, List.setIfInBounds_toArray, List.set_cons_zero, List.set_cons_succ, i64_w, i32_w]
                                  rfl
                                refine one_ (i := 25) (N := some 53) #[true, true, true, true, true, true, true, true, true, true, true, true, true, true, true, true, true, true, true, true, true, true, true, true, true, true, false, true, true, false, false, false, false] rfl rfl (one_of HT_.out (by kernel_rfl)) (by decide) (fun K hK => ?_)
                                refine goes_ Tryz.func30 (by kernel_rfl) rfl #[.int .i64 (wrap64 (Int.tdiv x6_12 60)), .int .i64 2] (by rfl) rfl rfl (by (try simp only [List.map_toArray, List.map_cons, List.map_nil]); first | done | rfl | (simp only [List.length_drop, List.length_take]; rfl)) ?_
                                with_reducible refine (missiveref10_wide.calls kj12 (wrap64 (Int.tdiv x6_12 60)) 2 t280 _ A27.out).mono ?_
                                rintro e w35 ⟨rfl, hb⟩
                                refine ⟨_, rfl, ?_⟩
                                have n0_ := Aside0.mk (blk_below (g := gb273) (o := .cells #[.int .i64 a0_0, .int .i64 a0_1, .int .i64 a0_2] 30 (0, 0)) (by (with_reducible repeat (first | refine blk_drewN ?_ _ | refine blk_drew ?_ | refine blk_alloc ?_ _)); exact BK273.out) hb)
                                have n1_ := Aside0.mk (below_step (by repeat (first | (with_reducible first | exact HB.out | apply below_alloc | apply pw_below_drewN | apply below_drew1 | refine below_set ?_ GE273.out) | exact HB.out)) hb)
                                clear BK273
                                clear HB
                                have BK273 := n0_
                                have HB := n1_
                                clear n0_ n1_
                                (try clear hb)
                                (try clear hb2)
                                (try clear hk)
                                (try clear hi)
                                refine hK.out _ _ ⟨(blk_cell BK273.out 0).trans rfl, (blk_cell BK273.out 1).trans rfl, (blk_cell BK273.out 2).trans rfl⟩ (fun hHeld => ?_)
                                clear hK K
                                refine norm_ (a' := ?_) ?_ ?_
                                rotate_left
                                · show Act.put _ (some 53) _ = _
                                  simp only [Act.put, List.setIfInBounds_toArray, List.set_cons_zero, List.set_cons_succ, i64_w, i32_w]
                                  rfl
                                refine pure_ (i := 26) (N := some 54) (v := ?_) (a' := ?_) #[true, true, true, true, true, true, true, true, true, true, true, true, true, true, true, true, true, true, true, true, true, true, true, true, true, true, true, true, true, false, false, false, false] rfl rfl (any_of HT_.out (by kernel_rfl)) (fun _ _ _ h => h) (Or.inl ⟨by rfl, ?_⟩) ?_ ?_
                                rotate_left
                                · intro w'
                                  go_simp
                                  with_reducible rfl
                                rotate_left
                                · simp only [Act.put, List.setIfInBounds_toArray, List.set_cons_zero, List.set_cons_succ, i64_w, i32_w]
                                  rfl
                                refine one_ (i := 29) (N := some 57) #[true, true, true, true, true, true, true, true, true, true, true, true, true, true, true, true, true, true, true, true, true, true, true, true, true, true, true, true, true, true, false, false, false] rfl rfl (one_of HT_.out (by kernel_rfl)) (by decide) (fun K hK => ?_)
                                refine goes_ Tryz.func30 (by kernel_rfl) rfl #[.int .i64 (Int.tmod x6_12 60), .int .i64 2] (by rfl) rfl rfl (by (try simp only [List.map_toArray, List.map_cons, List.map_nil]); first | done | rfl | (simp only [List.length_drop, List.length_take]; rfl)) ?_
                                with_reducible refine (missiveref10_wide.calls kj12 (Int.tmod x6_12 60) 2 t281 _ A29.out).mono ?_
                                rintro e w36 ⟨rfl, hb⟩
                                refine ⟨_, rfl, ?_⟩
                                have n0_ := Aside0.mk (blk_below (g := gb273) (o := .cells #[.int .i64 a0_0, .int .i64 a0_1, .int .i64 a0_2] 30 (0, 0)) (by (with_reducible repeat (first | refine blk_drewN ?_ _ | refine blk_drew ?_ | refine blk_alloc ?_ _)); exact BK273.out) hb)
                                have n1_ := Aside0.mk (below_step (by repeat (first | (with_reducible first | exact HB.out | apply below_alloc | apply pw_below_drewN | apply below_drew1 | refine below_set ?_ GE273.out) | exact HB.out)) hb)
                                clear BK273
                                clear HB
                                have BK273 := n0_
                                have HB := n1_
                                clear n0_ n1_
                                (try clear hb)
                                (try clear hb2)
                                (try clear hk)
                                (try clear hi)
                                refine hK.out _ _ ⟨(blk_cell BK273.out 0).trans rfl, (blk_cell BK273.out 1).trans rfl, (blk_cell BK273.out 2).trans rfl⟩ (fun hHeld => ?_)
                                clear hK K
                                refine norm_ (a' := ?_) ?_ ?_
                                rotate_left
                                · show Act.put _ (some 57) _ = _
                                  simp only [Act.put, List.setIfInBounds_toArray, List.set_cons_zero, List.set_cons_succ, i64_w, i32_w]
                                  rfl
                                refine pure_ (i := 30) (N := some 58) (v := ?_) (a' := ?_) #[true, true, true, true, true, true, true, true, true, true, true, true, true, true, true, true, true, true, true, true, true, true, true, true, true, true, true, true, true, true, true, false, false] rfl rfl (any_of HT_.out (by kernel_rfl)) (fun _ _ _ h => h) (Or.inl ⟨by rfl, ?_⟩) ?_ ?_
                                rotate_left
                                · intro w'
                                  go_simp
                                  with_reducible rfl
                                rotate_left
                                · simp only [Act.put, List.setIfInBounds_toArray, List.set_cons_zero, List.set_cons_succ, i64_w, i32_w]
                                  rfl
                                refine pure_ (i := 31) (N := some 2) (v := ?_) (a' := ?_) #[true, true, true, true, true, true, true, true, true, true, true, true, true, true, true, true, true, true, true, true, true, true, true, true, true, true, true, true, true, true, true, true, false] rfl rfl (any_of HT_.out (by kernel_rfl)) (fun _ _ _ h => h) (Or.inl ⟨by rfl, ?_⟩) ?_ ?_
                                rotate_left
                                · intro w'
                                  go_simp
                                  with_reducible rfl
                                rotate_left
                                · simp only [Act.put, List.setIfInBounds_toArray, List.set_cons_zero, List.set_cons_succ, i64_w, i32_w]
                                  rfl
                                refine pure_ (i := 32) (N := some 3) (v := ?_) (a' := ?_) #[true, true, true, true, true, true, true, true, true, true, true, true, true, true, true, true, true, true, true, true, true, true, true, true, true, true, true, true, true, true, true, true, true] rfl rfl (any_of HT_.out (by kernel_rfl)) (fun _ _ _ h => h) (Or.inl ⟨by rfl, ?_⟩) ?_ ?_
                                rotate_left
                                · intro w'
                                  go_simp
                                  with_reducible rfl
                                rotate_left
                                · simp only [Act.put, List.setIfInBounds_toArray, List.set_cons_zero, List.set_cons_succ, i64_w, i32_w]
                                  rfl
                                refine done_ (done_of HT_.out (by kernel_rfl)) ?_
                                try go_wp2
                                go_ret2
                                exact ⟨by first | rfl | (simp [errW_none, errW_some] <;> rfl) | (simp [*, errW_none, errW_some] <;> rfl), by repeat (first | (with_reducible first | exact HB.out | apply below_alloc | apply pw_below_drewN | apply below_drew1 | refine below_set ?_ GE273.out) | exact HB.out)⟩
                              · rw [if_neg c30] at H
                                exact absurd H (by simp)
                            · rw [if_neg c28] at H
                              exact absurd H (by simp)
                          · rw [if_neg c26] at H
                            exact absurd H (by simp)
                        · rw [if_neg c25] at H
                          exact absurd H (by simp)
                      · rw [if_neg c24] at H
                        exact absurd H (by simp)
                    · rw [if_neg c22] at H
                      exact absurd H (by simp)
                  · rw [if_neg c21] at H
                    exact absurd H (by simp)
                · rw [if_neg c19] at H
                  exact absurd H (by simp)
              · rw [if_neg c18] at H
                exact absurd H (by simp)
            · rw [if_neg c16] at H
              exact absurd H (by simp)
  · replace c3 := Bool.eq_false_iff.mpr c3
    subst c3
    have H1 : (some ((⟨#[]⟩ : ByteArray), 2)) = some (r1, r2) := by rw [if_neg (show ¬ (false = true) by decide)] at H; exact H
    clear H
    have H := H1
    clear H1
    simp only [Option.some.injEq, Prod.mk.injEq] at H
    obtain ⟨rfl, rfl⟩ := H
    go_enter Tryz.func17, Tryz.ntmps17
    go_wp2_with (first | ((with_reducible refine gate_dst (N := 1) rfl ?_); refine box_event ?hg (N := 1) ?hd (cs := #[.int .i64 a0_0, .int .i64 a0_1, .int .i64 a0_2]) (t := 30) ?hr ?_; (case hd => rfl); (case hg => rfl); (case hr => first | (go_simp; done) | (go_simp; rfl)); intro gb273 hg w37 hbox hb; have n0_ := Aside0.mk (below_step (by repeat (first | (with_reducible first | exact HB.out | apply below_alloc | apply pw_below_drewN | apply below_drew1) | exact HB.out)) hb); have n1_ := Aside0.mk (hbox); have n2_ := Aside0.mk ((by rw [hg]; exact (below_size (by repeat (first | (with_reducible first | exact HB.out | apply below_alloc | apply pw_below_drewN | apply below_drew1) | exact HB.out))) : w.heap.size ≤ gb273)); have n3_ := Aside0.mk ((by rw [hg]; exact (below_size (by repeat (first | (with_reducible first | exact HB.out | apply below_alloc | apply pw_below_drewN | apply below_drew1) | exact HB.out))) : w.heap.size ≤ gb273)); clear HB; have HB := n0_; have BK273 := n1_; have GW273 := n2_; have GE273 := n3_; clear n0_ n1_ n2_ n3_; clear hb hbox hg; have hcz38_0 : w37.cell? ⟨gb273, 0, none⟩ = some (.int .i64 a0_0) := (blk_cell BK273.out 0).trans rfl; have hcz38_1 : w37.cell? ⟨gb273, 1, none⟩ = some (.int .i64 a0_1) := (blk_cell BK273.out 1).trans rfl; have hcz38_2 : w37.cell? ⟨gb273, 2, none⟩ = some (.int .i64 a0_2) := (blk_cell BK273.out 2).trans rfl; have hfz38_0 := blk_frozen BK273.out 0; have hfz38_1 := blk_frozen BK273.out 1; have hfz38_2 := blk_frozen BK273.out 2) | ((with_reducible refine gate_callee (f := 39) rfl ?_); refine goesL_ (some 9) rfl rfl Tryz.func39 (by kernel_rfl) rfl #[.agg #[.int .i64 a0_0, .int .i64 a0_1, .int .i64 a0_2]] rfl (by (try simp only [List.map_toArray, List.map_cons, List.map_nil]); first | done | rfl | (simp only [List.length_drop, List.length_take]; rfl)) ?_; (with_reducible refine (missiveref10_right.calls a0_0 a0_1 a0_2 false _ A2.out).mono ?_); rintro e w39 ⟨rfl, hb⟩; refine ⟨_, rfl, ?_⟩; have n0_ := Aside0.mk (blk_below (g := gb273) (o := .cells #[.int .i64 a0_0, .int .i64 a0_1, .int .i64 a0_2] 30 (0, 0)) (by (with_reducible repeat (first | refine blk_drewN ?_ _ | refine blk_drew ?_ | refine blk_alloc ?_ _)); exact BK273.out) hb); have n1_ := Aside0.mk (below_step (by repeat (first | (with_reducible first | exact HB.out | apply below_alloc | apply pw_below_drewN | apply below_drew1 | refine below_set ?_ GE273.out) | exact HB.out)) hb); clear BK273; clear HB; have BK273 := n0_; have HB := n1_; clear n0_ n1_; (try clear hb); (try clear hb2); (try clear hk); (try clear hi)))
    go_ret2
    exact ⟨by first | rfl | (simp [errW_none, errW_some] <;> rfl) | (simp [*, errW_none, errW_some] <;> rfl), by repeat (first | (with_reducible first | exact HB.out | apply below_alloc | apply pw_below_drewN | apply below_drew1 | refine below_set ?_ GE273.out) | exact HB.out)⟩

end Go.Proofs.YtdpbaagpekhipaaGreatDoor.PAll

