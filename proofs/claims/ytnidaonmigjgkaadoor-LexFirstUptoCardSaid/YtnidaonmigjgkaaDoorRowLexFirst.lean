/- LexFirst: for every input whose reading is of bulk at most 1048576, the law returns true, and the arguments read as they did; what the row lists is tied to the program's text. Condition: that bound. -/
import Derived.Test.YtnidaonmigjgkaaDoorLxG
import Derived.Test.YtnidaonmigjgkaaDoorLxP
namespace Go.Proofs.YtnidaonmigjgkaaDoor.lexFirst
open Go.ChangeShapes Go.WideShapes Go.ChangeAt Go.RowKit
open Go.ChangeMaps (open_string shut_string)
open Go.Proofs.YtnidaonmigjgkaaDoor.Ev
set_option linter.unusedVariables false
theorem walk (a0 : ByteArray) (a1 : ByteArray) (W : World) (hS : W.ShapedOpen Tryd.prog) (hL : laidMetH Tryd.prog Rows.lexFirstUptoRow.laid W) (s0 : a0.size ≤ 2000000) (s1 : a1.size ≤ 2000000) :
    Calls Tryd.prog 5 #[.string a0, .string a1] W fun e w' => e = .returned (.bool true) ∧ Below W.heap.size W w' := by
  obtain ⟨m, t, fr, hG, hO⟩ := globsW hS hL
  have o0 : smallS a0 = true := Nat.ble_eq_true_of_le s0
  have o1 : smallS a1 = true := Nat.ble_eq_true_of_le s1
  exact walkTrue hG hO (lexFirst_ok (m := m) (t := t) (fr := fr)) (ps := [.lit (.string a0), .lit (.string a1)]) (by simp [trueStr2, Tr.run, o0, o1]) (RepL.ofLits [.string a0, .string a1])
set_option maxRecDepth 100000 in
theorem lifted (os : Os) (started : os.Started) (H : Type) (enc : TypeId × Value → H) (F : Stop.Interp) :
    ReturnsInHanded {} Tryd.checked os 5 .any ((Rows.OpenSpec.upto Rows.lexFirstSpec).preRow enc Tryd.prog Tryd.f5 Rows.lexFirstUptoRow.domain false Rows.lexFirstUptoRow.laid) (((Rows.OpenSpec.upto Rows.lexFirstSpec).at F).post enc Tryd.prog Tryd.f5 false true false false) := by
  have hx : ∃ places, DataW.whole enc Tryd.prog ((World.laidAll Tryd.prog os Rows.lexFirstUptoRow.laid).forCall (fun _ _ => 0) ⟨#[], #[.string ByteArray.empty, .string ByteArray.empty], []⟩).memory Tryd.f5.params.toList Rows.lexFirstSpec.vars false (#[.string ByteArray.empty, .string ByteArray.empty] : Array Value).toList 8 = some ([.lit (.string []), .lit (.string [])], [], places) := ⟨[], by kernel_rfl⟩
  obtain ⟨places, hx⟩ := hx
  refine returnsInHanded_of_row (C := Tryd.checked) (s := (Rows.OpenSpec.upto Rows.lexFirstSpec)) own started (by kernel_rfl) Tryd.func5
    (witness_laid #[.string ByteArray.empty, .string ByteArray.empty] (World.shaped_of_ZipB (by kernel_rfl) (by kernel_rfl)) (by kernel_rfl)
      (OpenSpec.preRow_of_cond 8 hx (by kernel_rfl) (fun k hk => by cases hk; kernel_rfl) (by kernel_rfl) (by rw [MakeChecks.laidMetH_plain _ _ _ (by kernel_rfl)]; exact laidMet_laidAll _ (by kernel_rfl) (by kernel_rfl)))) ?_
  intro W base args ds gs before hval0 hW _ hcond _ hL hS _
  have hval : ∀ (j : Nat) t v, Tryd.f5.params[j]? = some t → args[j]? = some v → Value.okWide Tryd.prog W .any base t v := hval0
  have hW' := hW
  obtain ⟨p, q, hA0, hV, rfl, hfz, hnd⟩ := hW
  have hA : DataW.TrodAll enc Tryd.prog W 0 (fun _ => true) true Tryd.f5.params.toList args.toList ds p := hA0
  rw [Tryd.params5] at hA hval
  obtain ⟨v0, vs0, d0, ds0, p0, q0, hargs, rfl, rfl, h0, r0⟩ := trodAll_cons hA
  obtain ⟨v1, vs1, d1, ds1, p1, q1, rfl, rfl, rfl, h1, r1⟩ := trodAll_cons r0
  obtain ⟨rfl, rfl, rfl⟩ := trodAll_nil r1
  obtain rfl : args = #[v0, v1] := by cases args; simp_all
  obtain ⟨rfl, rfl⟩ := trodVars_none hV
  obtain ⟨a0, rfl, rfl, rfl, y0⟩ := open_string Tryd.underlying9 (hval 0 9 v0 rfl rfl) h0
  obtain ⟨a1, rfl, rfl, rfl, y1⟩ := open_string Tryd.underlying9 (hval 1 9 v1 rfl rfl) h1
  have hbk := bulk_bound (hcond _ rfl)
  have s0 : a0.size ≤ 2000000 := by
    have z : ∀ l : List (DataW H), Rows.uptoBulkAll l ≤ 1048576 → DataW.lit (.string a0.data.toList) ∈ l → a0.size ≤ 2000000 := by
      intro l hl hm
      have z2 := Nat.le_trans (bulk_part hm) hl
      rw [bulk_string, Array.length_toList] at z2
      exact Nat.le_trans (Nat.le_of_succ_le z2) (by decide)
    exact z _ hbk (by simp)
  have s1 : a1.size ≤ 2000000 := by
    have z : ∀ l : List (DataW H), Rows.uptoBulkAll l ≤ 1048576 → DataW.lit (.string a1.data.toList) ∈ l → a1.size ≤ 2000000 := by
      intro l hl hm
      have z2 := Nat.le_trans (bulk_part hm) hl
      rw [bulk_string, Array.length_toList] at z2
      exact Nat.le_trans (Nat.le_of_succ_le z2) (by decide)
    exact z _ hbk (by simp)
  clear hA0 hval0 hcond hbk
  refine (walk a0 a1 W hS hL s0 s1).mono fun e W' ⟨he, bel⟩ => ?_
  subst he
  exact ⟨_, rfl, _, _, _, [], _, [], hW', trodAll_mk1 (shut_bool Tryd.underlying4 _), (trodAll_cons_mk (shut_string Tryd.underlying9 y0) (trodAll_cons_mk (shut_string Tryd.underlying9 y1) trodAll_mk0)), rfl, bel.frame _, fun h => by cases h⟩
theorem over : Rows.LexFirstUptoSaid :=
  OpenClaim.holds_of_cond 5 Tryd.f5 rfl rfl rfl rfl rfl rfl rfl ⟨rfl, rfl, rfl, rfl, rfl⟩ rfl rfl rfl rfl rfl (by kernel_rfl) Tryd.func5 (by kernel_rfl)
    (of_decide_eq_true (by kernel_rfl)) (by unfold Func.isWrapper; first | (rw [if_pos (by decide +kernel)]; kernel_rfl) | (rw [if_neg (by decide +kernel)]; exact ⟨rfl, rfl⟩))
    (fun os started H enc _ F => by rw [OpenClaim.pre_eq_preRow]; exact lifted os started H enc F)
theorem plain (f : FuncId) (fn : Func) (hf : Tryd.pinned.checked.prog.funcNamed "missive/missivelaw28.LexFirst" = some f) (hfn : Tryd.pinned.checked.prog.funcs[f]? = some fn) :
    true = Tryd.pinned.checked.prog.looks [] ∧ ∀ (j : Nat) t, fn.params[j]? = some t → Tryd.pinned.checked.prog.wantsStandIn t = false := by
  obtain rfl : f = 5 := Option.some.inj ((show Tryd.prog.funcNamed "missive/missivelaw28.LexFirst" = some 5 by kernel_rfl).symm.trans hf) |>.symm
  obtain rfl : fn = Tryd.f5 := (Option.some.inj (Tryd.func5.symm.trans hfn)).symm
  refine ⟨by kernel_rfl, fun j t ht => ?_⟩
  rw [Tryd.params5] at ht
  have hm : t ∈ [9, 9] := by simpa using Array.mem_of_getElem? ht
  have hall : ([9, 9].all fun u => !Tryd.prog.wantsStandIn u) = true := by kernel_rfl
  exact (show Tryd.prog.wantsStandIn t = false by simpa using List.all_eq_true.1 hall t hm)
theorem card : Rows.LexFirstUptoCardSaid :=
  Claim7.holds_tied_plain_at .later [] _ _ _ _ over (fun _ h => by cases h) (by kernel_rfl) (fun _ h => by cases h) lexFirstUpto_row_tie rfl ⟨rfl, rfl⟩ (by kernel_rfl) rfl plain (by kernel_rfl)
#print axioms card
end Go.Proofs.YtnidaonmigjgkaaDoor.lexFirst
namespace Go.Proofs.YtnidaonmigjgkaaDoor
/-- The card, under a short name, for the claim. -/
theorem lexFirst_holds : Rows.LexFirstUptoCardSaid := lexFirst.card
end Go.Proofs.YtnidaonmigjgkaaDoor
