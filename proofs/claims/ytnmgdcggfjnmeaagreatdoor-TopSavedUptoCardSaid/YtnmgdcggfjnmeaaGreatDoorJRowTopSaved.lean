/- JRowTopSaved: several texts in one. Condition: each part's own. -/
import Derived.Test.YtnmgdcggfjnmeaaGreatDoorJTopSaved15
/- TopSaved: for every input whose reading is of bulk at most 1048576, the law returns true, and the arguments read as they did; what the row lists is tied to the program's text. Condition: that bound. -/
namespace Go.Proofs.YtnmgdcggfjnmeaaGreatDoor.topSaved
open Go.ChangeShapes Go.WideShapes Go.ChangeAt Go.RowKit
open Go.Proofs.YtnmgdcggfjnmeaaGreatDoor.Ev
set_option linter.unusedVariables false
theorem walk (W : World) (hS : W.ShapedOpen Tryz.prog) (hL : laidMetH Tryz.prog Rows.topSavedUptoRow.laid W) {args : Array Value} {qs : List PV} (hr : RepL (Held W) qs args) (ha : areArgs savSh qs = true) (hb : argsBulk qs ≤ 1048576) :
    Calls Tryz.prog 3 args W fun e w' => e = .returned (.bool true) ∧ Below W.heap.size W w' := by
  obtain ⟨m, t, fr, hG, hO⟩ := globsW hS hL
  exact walkArgs hG hO (sav_ok (m := m) (t := t) (fr := fr)) (sav_args ha hb) hr
set_option maxRecDepth 100000 in
theorem lifted (os : Os) (started : os.Started) (H : Type) (enc : TypeId × Value → H) (F : Stop.Interp) :
    ReturnsInHanded {} Tryz.checked os 3 .any ((Rows.OpenSpec.upto Rows.topSavedSpec).preRow enc Tryz.prog Tryz.f3 Rows.topSavedUptoRow.domain false Rows.topSavedUptoRow.laid) (((Rows.OpenSpec.upto Rows.topSavedSpec).at F).post enc Tryz.prog Tryz.f3 false true false false) := by
  have hx : ∃ places, DataW.whole enc Tryz.prog ((World.laidAll Tryz.prog os Rows.topSavedUptoRow.laid).forCall (fun _ _ => 0) ⟨#[], #[.slice none 0 0, .string ⟨#[]⟩, .slice none 0 0, .int .u32 0, .int .u32 0], []⟩).memory Tryz.f3.params.toList Rows.topSavedSpec.vars false (#[.slice none 0 0, .string ⟨#[]⟩, .slice none 0 0, .int .u32 0, .int .u32 0] : Array Value).toList 8 = some ([.nil, .lit (.string []), .nil, .lit (.int .u32 0), .lit (.int .u32 0)], [], places) := ⟨[], by kernel_rfl⟩
  obtain ⟨places, hx⟩ := hx
  refine returnsInHanded_of_row (C := Tryz.checked) (s := (Rows.OpenSpec.upto Rows.topSavedSpec)) own started (by kernel_rfl) Tryz.func3
    (witness_laid #[.slice none 0 0, .string ⟨#[]⟩, .slice none 0 0, .int .u32 0, .int .u32 0] (World.shaped_of_ZipB (by kernel_rfl) (by kernel_rfl)) (by kernel_rfl)
      (OpenSpec.preRow_of_cond 8 hx (by kernel_rfl) (fun k hk => by cases hk; kernel_rfl) (by kernel_rfl) (by rw [MakeChecks.laidMetH_plain _ _ _ (by kernel_rfl)]; exact laidMet_laidAll _ (by kernel_rfl) (by kernel_rfl)))) ?_
  intro W base args ds gs before hval0 hW _ hcond _ hL hS _
  have hval : ∀ (j : Nat) t v, Tryz.f3.params[j]? = some t → args[j]? = some v → Value.okWide Tryz.prog W .any base t v := hval0
  have hW' := hW
  obtain ⟨p, q, hA0, hV, rfl, hfz, hnd⟩ := hW
  have hA : DataW.TrodAll enc Tryz.prog W 0 (fun _ => true) true Tryz.f3.params.toList args.toList ds p := hA0
  obtain ⟨rfl, rfl⟩ := trodVars_none hV
  have hbk := bulk_bound (hcond _ rfl)
  rw [List.append_nil] at hbk
  obtain ⟨qs, ha, hr, hq⟩ := args_ok (l := savSh) (by kernel_rfl) (fun j t v hj hv => hval j t v (by simpa using hj) (by simpa using hv)) hA
  have hlt : ∀ x ∈ p, x.block < W.heap.size := fun x hx => by simpa using hW'.lt x (by simpa using hx)
  have hA2 := hA
  rw [Tryz.params3] at hA2
  obtain ⟨v0, vs0, d0, ds0, p0, q0, _, hds0, _, h0, r0⟩ := trodAll_cons hA2
  subst hds0
  obtain ⟨v1, vs1, d1, ds1, p1, q1, _, hds1, _, h1, r1⟩ := trodAll_cons r0
  subst hds1
  obtain ⟨v2, vs2, d2, ds2, p2, q2, _, hds2, _, h2, r2⟩ := trodAll_cons r1
  subst hds2
  obtain ⟨v3, vs3, d3, ds3, p3, q3, _, hds3, _, h3, r3⟩ := trodAll_cons r2
  subst hds3
  obtain ⟨v4, vs4, d4, ds4, p4, q4, _, hds4, _, h4, r4⟩ := trodAll_cons r3
  subst hds4
  obtain ⟨_, hdz, _⟩ := trodAll_nil r4
  subst hdz
  refine (walk W hS hL hr ha (Nat.le_trans hq hbk)).mono fun e W' ⟨he, bel⟩ => ?_
  subst he
  exact ⟨_, rfl, _, _, _, [], _, [], hW', trodAll_mk1 (shut_bool Tryz.underlying4 _), trodAll_stays (by kernel_rfl) bel (by kernel_rfl) hA hlt, rfl, bel.frame _, fun h => by cases h⟩
theorem over : Rows.TopSavedUptoSaid :=
  OpenClaim.holds_of_cond 3 Tryz.f3 rfl rfl rfl rfl rfl rfl rfl ⟨rfl, rfl, rfl, rfl, rfl⟩ rfl rfl rfl rfl rfl (by kernel_rfl) Tryz.func3 (by kernel_rfl)
    (of_decide_eq_true (by kernel_rfl)) (by unfold Func.isWrapper; first | (rw [if_pos (by decide +kernel)]; kernel_rfl) | (rw [if_neg (by decide +kernel)]; exact ⟨rfl, rfl⟩))
    (fun os started H enc _ F => by rw [OpenClaim.pre_eq_preRow]; exact lifted os started H enc F)
theorem plain (f : FuncId) (fn : Func) (hf : Tryz.pinned.checked.prog.funcNamed "missive/missivetop.TopSaved" = some f) (hfn : Tryz.pinned.checked.prog.funcs[f]? = some fn) :
    true = Tryz.pinned.checked.prog.looks [] ∧ ∀ (j : Nat) t, fn.params[j]? = some t → Tryz.pinned.checked.prog.wantsStandIn t = false := by
  obtain rfl : f = 3 := Option.some.inj ((show Tryz.prog.funcNamed "missive/missivetop.TopSaved" = some 3 by kernel_rfl).symm.trans hf) |>.symm
  obtain rfl : fn = Tryz.f3 := (Option.some.inj (Tryz.func3.symm.trans hfn)).symm
  refine ⟨by kernel_rfl, fun j t ht => ?_⟩
  rw [Tryz.params3] at ht
  have hm : t ∈ [22, 9, 23, 24, 24] := by simpa using Array.mem_of_getElem? ht
  have hall : ([22, 9, 23, 24, 24].all fun u => !Tryz.prog.wantsStandIn u) = true := by kernel_rfl
  exact (show Tryz.prog.wantsStandIn t = false by simpa using List.all_eq_true.1 hall t hm)
theorem card : Rows.TopSavedUptoCardSaid :=
  Claim7.holds_tied_plain_at .later [] _ _ _ _ over (fun _ h => by cases h) (by kernel_rfl) (fun _ h => by cases h) topSavedUpto_row_tie rfl ⟨rfl, rfl⟩ (by kernel_rfl) rfl plain (by kernel_rfl)
#print axioms card
end Go.Proofs.YtnmgdcggfjnmeaaGreatDoor.topSaved
namespace Go.Proofs.YtnmgdcggfjnmeaaGreatDoor
/-- The card, under a short name, for the claim. -/
theorem topSaved_holds : Rows.TopSavedUptoCardSaid := topSaved.card
end Go.Proofs.YtnmgdcggfjnmeaaGreatDoor
