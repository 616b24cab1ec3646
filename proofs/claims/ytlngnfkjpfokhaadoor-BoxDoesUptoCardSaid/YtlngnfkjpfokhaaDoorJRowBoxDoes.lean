/- JRowBoxDoes: several texts in one. Condition: each part's own. -/
import Derived.Test.YtlngnfkjpfokhaaDoorJBox21
import Derived.Test.YtlngnfkjpfokhaaDoorJBox20
/- BoxDoes: for every input whose reading is of bulk at most 1048576, the law returns true, and the arguments read as they did; what the row lists is tied to the program's text. Condition: that bound. -/
namespace Go.Proofs.YtlngnfkjpfokhaaDoor.boxDoes
open Go.ChangeShapes Go.WideShapes Go.ChangeAt Go.RowKit
open Go.Proofs.YtlngnfkjpfokhaaDoor.Ev
set_option linter.unusedVariables false
theorem walk (W : World) (hS : W.ShapedOpen Tryd.prog) (hL : laidMetH Tryd.prog Rows.boxDoesUptoRow.laid W) {args : Array Value} {qs : List PV} (hr : RepL (Held W) qs args) (ha : areArgs doesSh qs = true) (hb : argsBulk qs ≤ 1048576) :
    Calls Tryd.prog 3 args W fun e w' => e = .returned (.bool true) ∧ Below W.heap.size W w' := by
  obtain ⟨m, t, fr, hG, hO⟩ := globsW hS hL
  exact walkArgs hG hO (does_ok (m := m) (t := t) (fr := fr)) (does_args ha hb) hr
set_option maxRecDepth 100000 in
theorem lifted (os : Os) (started : os.Started) (H : Type) (enc : TypeId × Value → H) (F : Stop.Interp) :
    ReturnsInHanded {} Tryd.checked os 3 .any ((Rows.OpenSpec.upto Rows.boxDoesSpec).preRow enc Tryd.prog Tryd.f3 Rows.boxDoesUptoRow.domain false Rows.boxDoesUptoRow.laid) (((Rows.OpenSpec.upto Rows.boxDoesSpec).at F).post enc Tryd.prog Tryd.f3 false true false false) := by
  have hx : ∃ places, DataW.whole enc Tryd.prog ((World.laidAll Tryd.prog os Rows.boxDoesUptoRow.laid).forCall (fun _ _ => 0) ⟨#[], #[.agg #[.int .u32 0, .int .u64 0, .int .u32 0, .int .u32 0, .slice none 0 0], .agg #[.int .u8 0, .slice none 0 0, .int .u8 0, .int .i64 0, .int .i64 0, .int .i64 0, .string ByteArray.empty], .int .u32 0], []⟩).memory Tryd.f3.params.toList Rows.boxDoesSpec.vars false (#[.agg #[.int .u32 0, .int .u64 0, .int .u32 0, .int .u32 0, .slice none 0 0], .agg #[.int .u8 0, .slice none 0 0, .int .u8 0, .int .i64 0, .int .i64 0, .int .i64 0, .string ByteArray.empty], .int .u32 0] : Array Value).toList 8 = some ([.agg [.lit (.int .u32 0), .lit (.int .u64 0), .lit (.int .u32 0), .lit (.int .u32 0), .nil], .agg [.lit (.int .u8 0), .nil, .lit (.int .u8 0), .agg [.lit (.int .i64 0), .lit (.int .i64 0), .lit (.int .i64 0)], .lit (.string [])], .lit (.int .u32 0)], [], places) := ⟨[], by kernel_rfl⟩
  obtain ⟨places, hx⟩ := hx
  refine returnsInHanded_of_row (C := Tryd.checked) (s := (Rows.OpenSpec.upto Rows.boxDoesSpec)) own started (by kernel_rfl) Tryd.func3
    (witness_laid #[.agg #[.int .u32 0, .int .u64 0, .int .u32 0, .int .u32 0, .slice none 0 0], .agg #[.int .u8 0, .slice none 0 0, .int .u8 0, .int .i64 0, .int .i64 0, .int .i64 0, .string ByteArray.empty], .int .u32 0] (World.shaped_of_ZipB (by kernel_rfl) (by kernel_rfl)) (by kernel_rfl)
      (OpenSpec.preRow_of_cond 8 hx (by kernel_rfl) (fun k hk => by cases hk; kernel_rfl) (by kernel_rfl) (by rw [MakeChecks.laidMetH_plain _ _ _ (by kernel_rfl)]; exact laidMet_laidAll _ (by kernel_rfl) (by kernel_rfl)))) ?_
  intro W base args ds gs before hval0 hW _ hcond _ hL hS _
  have hval : ∀ (j : Nat) t v, Tryd.f3.params[j]? = some t → args[j]? = some v → Value.okWide Tryd.prog W .any base t v := hval0
  have hW' := hW
  obtain ⟨p, q, hA0, hV, rfl, hfz, hnd⟩ := hW
  have hA : DataW.TrodAll enc Tryd.prog W 0 (fun _ => true) true Tryd.f3.params.toList args.toList ds p := hA0
  obtain ⟨rfl, rfl⟩ := trodVars_none hV
  have hbk := bulk_bound (hcond _ rfl)
  rw [List.append_nil] at hbk
  obtain ⟨qs, ha, hr, hq⟩ := args_ok (l := doesSh) (by kernel_rfl) (fun j t v hj hv => hval j t v (by simpa using hj) (by simpa using hv)) hA
  have hlt : ∀ x ∈ p, x.block < W.heap.size := fun x hx => by simpa using hW'.lt x (by simpa using hx)
  have hA2 := hA
  rw [Tryd.params3] at hA2
  obtain ⟨v0, vs0, d0, ds0, p0, q0, _, hds0, _, h0, r0⟩ := trodAll_cons hA2
  subst hds0
  obtain ⟨v1, vs1, d1, ds1, p1, q1, _, hds1, _, h1, r1⟩ := trodAll_cons r0
  subst hds1
  obtain ⟨v2, vs2, d2, ds2, p2, q2, _, hds2, _, h2, r2⟩ := trodAll_cons r1
  subst hds2
  obtain ⟨_, hdz, _⟩ := trodAll_nil r2
  subst hdz
  refine (walk W hS hL hr ha (Nat.le_trans hq hbk)).mono fun e W' ⟨he, bel⟩ => ?_
  subst he
  exact ⟨_, rfl, _, _, _, [], _, [], hW', trodAll_mk1 (shut_bool Tryd.underlying4 _), trodAll_stays (by kernel_rfl) bel (by kernel_rfl) hA hlt, rfl, bel.frame _, fun h => by cases h⟩
theorem over : Rows.BoxDoesUptoSaid :=
  OpenClaim.holds_of_cond 3 Tryd.f3 rfl rfl rfl rfl rfl rfl rfl ⟨rfl, rfl, rfl, rfl, rfl⟩ rfl rfl rfl rfl rfl (by kernel_rfl) Tryd.func3 (by kernel_rfl)
    (of_decide_eq_true (by kernel_rfl)) (by unfold Func.isWrapper; first | (rw [if_pos (by decide +kernel)]; kernel_rfl) | (rw [if_neg (by decide +kernel)]; exact ⟨rfl, rfl⟩))
    (fun os started H enc _ F => by rw [OpenClaim.pre_eq_preRow]; exact lifted os started H enc F)
theorem plain (f : FuncId) (fn : Func) (hf : Tryd.pinned.checked.prog.funcNamed "missive/missivelaw19.BoxDoes" = some f) (hfn : Tryd.pinned.checked.prog.funcs[f]? = some fn) :
    false = Tryd.pinned.checked.prog.looks [] ∧ ∀ (j : Nat) t, fn.params[j]? = some t → Tryd.pinned.checked.prog.wantsStandIn t = false := by
  obtain rfl : f = 3 := Option.some.inj ((show Tryd.prog.funcNamed "missive/missivelaw19.BoxDoes" = some 3 by kernel_rfl).symm.trans hf) |>.symm
  obtain rfl : fn = Tryd.f3 := (Option.some.inj (Tryd.func3.symm.trans hfn)).symm
  refine ⟨by kernel_rfl, fun j t ht => ?_⟩
  rw [Tryd.params3] at ht
  have hm : t ∈ [26, 33, 22] := by simpa using Array.mem_of_getElem? ht
  have hall : ([26, 33, 22].all fun u => !Tryd.prog.wantsStandIn u) = true := by kernel_rfl
  exact (show Tryd.prog.wantsStandIn t = false by simpa using List.all_eq_true.1 hall t hm)
theorem card : Rows.BoxDoesUptoCardSaid :=
  Claim7.holds_tied_plain_at .later [] _ _ _ _ over (fun _ h => by cases h) (by kernel_rfl) (fun _ h => by cases h) boxDoesUpto_row_tie rfl ⟨rfl, rfl⟩ (by kernel_rfl) rfl plain (by kernel_rfl)
#print axioms card
end Go.Proofs.YtlngnfkjpfokhaaDoor.boxDoes
namespace Go.Proofs.YtlngnfkjpfokhaaDoor
/-- The card, under a short name, for the claim. -/
theorem boxDoes_holds : Rows.BoxDoesUptoCardSaid := boxDoes.card
end Go.Proofs.YtlngnfkjpfokhaaDoor
