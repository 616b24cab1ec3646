/- DateTimes: for every input whose reading is of bulk at most 1048576, the law returns true, and the arguments read as they did; what the row lists is tied to the program's text. Condition: that bound. -/
import Derived.Test.YtdpbaagpekhipaaGreatDoorKZFrame
import Derived.Test.YtdpbaagpekhipaaGreatDoorKZPlain6
namespace Go.Proofs.YtdpbaagpekhipaaGreatDoor.dateTimes
open Go.ChangeShapes Go.WideShapes Go.ChangeAt Go.RowKit
open Go.ChangeMaps (open_string shut_string)
open PAll
set_option linter.unusedVariables false
theorem walk (a0 : ByteArray) (a1_0 : Int) (a1_1 : Int) (a1_2 : Int) (W : World) (hG : GlobOK W) (s0 : a0.size ≤ 2000000) :
    Calls Tryz.prog 4 #[.string a0, .agg #[.int .i64 a1_0, .int .i64 a1_1, .int .i64 a1_2]] W fun e w' => e = .returned (.bool true) ∧ Below W.heap.size W w' := by
  obtain ⟨k, hk⟩ := PAll.DateTimes a0 a1_0 a1_1 a1_2 s0
  exact PAll.missivelaw10_DateTimes.calls k a0 a1_0 a1_1 a1_2 true W hG hk
theorem globs {W : World} (hS : W.ShapedOpen Tryz.prog) (hL : laidMetH Tryz.prog Rows.dateTimesUptoRow.laid W) : GlobOK W := by
  have hL2 := laid_plain (l := Rows.dateTimesUptoRow.laid) (by kernel_rfl) hL
  have hd : Rows.laid_internal_strconv_uint64pow10 = Lib.tabData (H := Unit) .u64 Lib.pow10Tab := by kernel_rfl
  refine ⟨Nat.zero_le _, ?_, ?_⟩
  · exact tab_of_reads gPow (t := 125) (e := 71) (n := 20) (by kernel_rfl) Tryz.underlying125 Tryz.underlying71 (by kernel_rfl) (by kernel_rfl) (hd ▸ Lib.laidMet.reads hL2 (.tail _ (.tail _ (.head _))))
  · exact cell_of_shapedOpen_int (g := 0) (t := 3) (zero := #[.int .i64 0]) (k := .i64) hS (of_decide_eq_true (by kernel_rfl)) (by kernel_rfl) rfl (by kernel_rfl) (by kernel_rfl) Tryz.underlying3
set_option maxRecDepth 100000 in
theorem lifted (os : Os) (started : os.Started) (H : Type) (enc : TypeId × Value → H) (F : Stop.Interp) :
    ReturnsInHanded {} Tryz.checked os 4 .any ((Rows.OpenSpec.upto Rows.dateTimesSpec).preRow enc Tryz.prog Tryz.f4 Rows.dateTimesUptoRow.domain false Rows.dateTimesUptoRow.laid) (((Rows.OpenSpec.upto Rows.dateTimesSpec).at F).post enc Tryz.prog Tryz.f4 false true false false) := by
  have hx : ∃ places, DataW.whole enc Tryz.prog ((World.laidAll Tryz.prog os Rows.dateTimesUptoRow.laid).forCall (fun _ _ => 0) ⟨#[], #[.string ByteArray.empty, .agg #[.int .i64 0, .int .i64 0, .int .i64 0]], []⟩).memory Tryz.f4.params.toList Rows.dateTimesSpec.vars false (#[.string ByteArray.empty, .agg #[.int .i64 0, .int .i64 0, .int .i64 0]] : Array Value).toList 8 = some ([.lit (.string []), .agg [.lit (.int .i64 0), .lit (.int .i64 0), .lit (.int .i64 0)]], [], places) := ⟨[], by kernel_rfl⟩
  obtain ⟨places, hx⟩ := hx
  refine returnsInHanded_of_row (C := Tryz.checked) (s := (Rows.OpenSpec.upto Rows.dateTimesSpec)) own started (by kernel_rfl) Tryz.func4
    (witness_laid #[.string ByteArray.empty, .agg #[.int .i64 0, .int .i64 0, .int .i64 0]] (World.shaped_of_ZipB (by kernel_rfl) (by kernel_rfl)) (by kernel_rfl)
      (OpenSpec.preRow_of_cond 8 hx (by kernel_rfl) (fun k hk => by cases hk; kernel_rfl) (by kernel_rfl) (by rw [MakeChecks.laidMetH_plain _ _ _ (by kernel_rfl)]; exact laidMet_laidAll _ (by kernel_rfl) (by kernel_rfl)))) ?_
  intro W base args ds gs before hval0 hW _ hcond _ hL hS _
  have hval : ∀ (j : Nat) t v, Tryz.f4.params[j]? = some t → args[j]? = some v → Value.okWide Tryz.prog W .any base t v := hval0
  have hW' := hW
  obtain ⟨p, q, hA0, hV, rfl, hfz, hnd⟩ := hW
  have hA : DataW.TrodAll enc Tryz.prog W 0 (fun _ => true) true Tryz.f4.params.toList args.toList ds p := hA0
  rw [Tryz.params4] at hA hval
  obtain ⟨v0, vs0, d0, ds0, p0, q0, hargs, rfl, rfl, h0, r0⟩ := trodAll_cons hA
  obtain ⟨v1, vs1, d1, ds1, p1, q1, rfl, rfl, rfl, h1, r1⟩ := trodAll_cons r0
  obtain ⟨rfl, rfl, rfl⟩ := trodAll_nil r1
  obtain rfl : args = #[v0, v1] := by cases args; simp_all
  obtain ⟨rfl, rfl⟩ := trodVars_none hV
  obtain ⟨a0, rfl, rfl, rfl, y0⟩ := open_string Tryz.underlying9 (hval 0 9 v0 rfl rfl) h0
  have k1 := h1
  have hc1 : Tryz.prog.cellsOf 30 = 3 := by kernel_rfl
  obtain ⟨b0, b1, b2, y0, y1, y2, m, rfl, rfl, rfl, t0, t1, t2⟩ := Go.Joins.open_agg3 Tryz.underlying30 (by kernel_rfl) hc1 (hval 1 30 v1 rfl rfl) h1
  obtain ⟨a1_0, hb0, hy0, hw0⟩ := DataW.trod_int Tryz.underlying3 t0
  obtain rfl : b0 = .int .i64 a1_0 := by simpa using hb0
  subst hy0
  obtain ⟨a1_1, hb1, hy1, hw1⟩ := DataW.trod_int Tryz.underlying3 t1
  obtain rfl : b1 = .int .i64 a1_1 := by simpa using hb1
  subst hy1
  obtain ⟨a1_2, hb2, hy2, hw2⟩ := DataW.trod_int Tryz.underlying3 t2
  obtain rfl : b2 = .int .i64 a1_2 := by simpa using hb2
  subst hy2
  have k1' : ∀ (w1 : World) (sp : Nat → Bool), DataW.Trod enc Tryz.prog w1 0 sp true 30 (.agg #[.int .i64 a1_0, .int .i64 a1_1, .int .i64 a1_2]) (.agg [.lit (.int .i64 a1_0), .lit (.int .i64 a1_1), .lit (.int .i64 a1_2)]) [] := fun w1 sp => Go.Joins.shut_agg3 (y0 := (_, [])) (y1 := (_, [])) (y2 := (_, [])) Tryz.underlying30 (by kernel_rfl) hc1 (shut_int Tryz.underlying3 hw0) (shut_int Tryz.underlying3 hw1) (shut_int Tryz.underlying3 hw2)
  have hbk := bulk_bound (hcond _ rfl)
  have s0 : a0.size ≤ 2000000 := by
    have z : ∀ l : List (DataW H), Rows.uptoBulkAll l ≤ 1048576 → DataW.lit (.string a0.data.toList) ∈ l → a0.size ≤ 2000000 := by
      intro l hl hm
      have z2 := Nat.le_trans (bulk_part hm) hl
      rw [bulk_string, Array.length_toList] at z2
      exact Nat.le_trans (Nat.le_of_succ_le z2) (by decide)
    exact z _ hbk (by simp)
  clear hA0 hval0 hcond hbk
  refine (walk a0 a1_0 a1_1 a1_2 W (globs hS hL) s0).mono fun e W' ⟨he, bel⟩ => ?_
  subst he
  exact ⟨_, rfl, _, _, _, [], _, [], hW', trodAll_mk1 (shut_bool Tryz.underlying4 _), (trodAll_cons_mk (shut_string Tryz.underlying9 y0) (trodAll_cons_mk (k1' _ _) trodAll_mk0)), rfl, bel.frame _, fun h => by cases h⟩
theorem over : Rows.DateTimesUptoSaid :=
  OpenClaim.holds_of_cond 4 Tryz.f4 rfl rfl rfl rfl rfl rfl rfl ⟨rfl, rfl, rfl, rfl, rfl⟩ rfl rfl rfl rfl rfl (by kernel_rfl) Tryz.func4 (by kernel_rfl)
    (of_decide_eq_true (by kernel_rfl)) (by unfold Func.isWrapper; first | (rw [if_pos (by decide +kernel)]; kernel_rfl) | (rw [if_neg (by decide +kernel)]; exact ⟨rfl, rfl⟩))
    (fun os started H enc _ F => by rw [OpenClaim.pre_eq_preRow]; exact lifted os started H enc F)
theorem plain (f : FuncId) (fn : Func) (hf : Tryz.pinned.checked.prog.funcNamed "missive/missivelaw10.DateTimes" = some f) (hfn : Tryz.pinned.checked.prog.funcs[f]? = some fn) :
    true = Tryz.pinned.checked.prog.looks [] ∧ ∀ (j : Nat) t, fn.params[j]? = some t → Tryz.pinned.checked.prog.wantsStandIn t = false := by
  obtain rfl : f = 4 := Option.some.inj ((show Tryz.prog.funcNamed "missive/missivelaw10.DateTimes" = some 4 by kernel_rfl).symm.trans hf) |>.symm
  obtain rfl : fn = Tryz.f4 := (Option.some.inj (Tryz.func4.symm.trans hfn)).symm
  refine ⟨by kernel_rfl, fun j t ht => ?_⟩
  rw [Tryz.params4] at ht
  have hm : t ∈ [9, 30] := by simpa using Array.mem_of_getElem? ht
  have hall : ([9, 30].all fun u => !Tryz.prog.wantsStandIn u) = true := by kernel_rfl
  exact (show Tryz.prog.wantsStandIn t = false by simpa using List.all_eq_true.1 hall t hm)
theorem card : Rows.DateTimesUptoCardSaid :=
  Claim7.holds_tied_plain_at .later [] _ _ _ _ over (fun _ h => by cases h) (by kernel_rfl) (fun _ h => by cases h) dateTimesUpto_row_tie rfl ⟨rfl, rfl⟩ (by kernel_rfl) rfl plain (by kernel_rfl)
#print axioms card
end Go.Proofs.YtdpbaagpekhipaaGreatDoor.dateTimes
namespace Go.Proofs.YtdpbaagpekhipaaGreatDoor
/-- The card, under a short name, for the claim. -/
theorem dateTimes_holds : Rows.DateTimesUptoCardSaid := dateTimes.card
end Go.Proofs.YtdpbaagpekhipaaGreatDoor

