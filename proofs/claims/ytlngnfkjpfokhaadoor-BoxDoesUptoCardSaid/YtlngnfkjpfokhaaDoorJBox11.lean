/- JBox11: several texts in one. Condition: each part's own. -/
import Derived.Test.YtlngnfkjpfokhaaDoorJBox10
import Derived.Test.YtlngnfkjpfokhaaDoorCards
import Derived.Test.YtlngnfkjpfokhaaDoorTie
import Derived.WalkKit
import Derived.ProofKit
import Derived.OpenShut
import Derived.ShutString
import Derived.Below
import Derived.SizedLaws
import Derived.Lib.SmallJoins
import Derived.Deep.DeepHandedRow
import Derived.Lib.LaidTab
import Derived.Lib.LaidU8
import Derived.MakeChecks
import Derived.Lay
import Derived.Shelf.Vars
import Derived.Test.YtlngnfkjpfokhaaDoorJBox07
import Derived.Stop.LaidErr
import Derived.Deep.Slices
import Derived.Carry
/- The date layer's text of a time: whether there is one. No condition. -/
namespace Go.Proofs.YtlngnfkjpfokhaaDoor.Ev
open Go Go.RowKit Go.Proofs Go.Proofs.YtlngnfkjpfokhaaDoor.Str
set_option linter.unusedVariables false
set_option linter.unusedSimpArgs false
def secB (s : Int) : Bool := decide (0 ≤ s) && decide (s < 86400)
def zonB (z : Int) : Bool := decide (-5999 ≤ z) && decide (z ≤ 5999)
def rightB (d s z : Int) : Bool := dayB d && secB s && zonB z
def wtE (d s z : Int) : Int := bif rightB d s z then 0 else 2
section
variable {m : Int} {t : TypeId} {fr : Nat × Nat}
theorem bleM {k : Nat} (h : k ≤ 100000) : Nat.ble k 9223372036854775807 = true := Nat.ble_eq_true_of_le (by omega)
def clockG : List PV → Tr PV
  | [.agg [.lit (.int .i64 d), .lit (.int .i64 s), .lit (.int .i64 z)]] => .br (secB s) (.leaf (str (clockB s))) .fail
  | _ => .fail
theorem clock_facts {s : Int} (h : secB s = true) : nB (IntKind.i64.wrap (Int.tdiv s 3600)) 2 = true ∧ nB (Int.tmod (IntKind.i64.wrap (Int.tdiv s 60)) 60) 2 = true ∧ nB (Int.tmod s 60) 2 = true := by
  unfold secB at h
  simp only [Bool.and_eq_true, decide_eq_true_eq] at h
  have e1 : IntKind.i64.wrap (Int.tdiv s 3600) = s / 3600 := by rw [td _ (by omega)]; exact wrap_mid (by omega) (by omega)
  have e2 : IntKind.i64.wrap (Int.tdiv s 60) = s / 60 := by rw [td _ (by omega)]; exact wrap_mid (by omega) (by omega)
  rw [e1, e2, tm _ (by omega), tm _ (by omega)]
  unfold nB
  simp
  omega
theorem clock_ok : PureOK Tryd.prog (GG m t fr) 55 clockG := by
  refine PureOK.of (fn_pure mixed E3_ok (envOf_cuts ..) (fn := Tryd.f55) (by kernel_rfl)) fun ps p hp => ?_
  unfold clockG at hp
  split at hp
  · rename_i d s z
    obtain ⟨hc, hq⟩ := br_run hp
    clear hp
    simp only [Tr.run, Option.some.injEq] at hq
    subst hq
    have hv := ck_raw_v m t fr d s z
    have hcc := ck_raw_c m t fr d s z
    obtain ⟨n1, n2, n3⟩ := clock_facts hc
    have l1 := wide_len n1
    have l2 := wide_len n2
    have l3 := wide_len n3
    simp only [n1, n2, n3, cond_true, ByteArray.size_append, lit1] at hcc
    rw [bleM (by omega), bleM (by omega), bleM (by omega), bleM (by omega)] at hcc
    exact ⟨_, Tr.run_vc hv hcc rfl rfl, PLe.of_eq rfl⟩
  · cases hp
theorem clock_len {s : Int} (h : secB s = true) : (clockB s).size ≤ 1000 := by
  obtain ⟨n1, n2, n3⟩ := clock_facts h
  have l1 := wide_len n1
  have l2 := wide_len n2
  have l3 := wide_len n3
  unfold clockB
  simp only [ByteArray.size_append, lit1]
  omega
def offG : List PV → Tr PV
  | [.agg [.lit (.int .i64 d), .lit (.int .i64 s), .lit (.int .i64 z)]] => .br (zonB z) (.leaf (str (offB z))) .fail
  | _ => .fail
theorem off_facts {z : Int} (h : zonB z = true) : (z < 0 → nB (IntKind.i64.wrap (Int.tdiv (IntKind.i64.wrap ((0 : Int) - z)) 60)) 2 = true ∧ nB (Int.tmod (IntKind.i64.wrap ((0 : Int) - z)) 60) 2 = true) ∧ (¬ z < 0 → nB (IntKind.i64.wrap (Int.tdiv z 60)) 2 = true ∧ nB (Int.tmod z 60) 2 = true) := by
  unfold zonB at h
  simp only [Bool.and_eq_true, decide_eq_true_eq] at h
  refine ⟨fun g => ?_, fun g => ?_⟩
  · have e1 : IntKind.i64.wrap ((0 : Int) - z) = -z := by
      have := wrap_mid (i := (0 : Int) - z) (by omega) (by omega)
      omega
    have e2 : IntKind.i64.wrap (Int.tdiv (-z) 60) = (-z) / 60 := by rw [td _ (by omega)]; exact wrap_mid (by omega) (by omega)
    rw [e1, e2, tm _ (by omega)]
    unfold nB
    simp
    omega
  · have e2 : IntKind.i64.wrap (Int.tdiv z 60) = z / 60 := by rw [td _ (by omega)]; exact wrap_mid (by omega) (by omega)
    rw [e2, tm _ (by omega)]
    unfold nB
    simp
    omega
theorem off_ok : PureOK Tryd.prog (GG m t fr) 56 offG := by
  refine PureOK.of (fn_pure mixed E3_ok (envOf_cuts ..) (fn := Tryd.f56) (by kernel_rfl)) fun ps p hp => ?_
  unfold offG at hp
  split at hp
  · rename_i d s z
    obtain ⟨hc, hq⟩ := br_run hp
    clear hp
    simp only [Tr.run, Option.some.injEq] at hq
    subst hq
    have hv := of_raw_v m t fr d s z
    have hcc := of_raw_c m t fr d s z
    obtain ⟨a, b⟩ := off_facts hc
    unfold offB
    by_cases g : z < 0
    · obtain ⟨n1, n2⟩ := a g
      have l1 := wide_len n1
      have l2 := wide_len n2
      have g' := decide_eq_true g
      simp only [g', cond_true] at hv ⊢
      simp only [g', n1, n2, cond_true, ByteArray.size_append, lit1] at hcc
      rw [bleM (by omega), bleM (by omega)] at hcc
      exact ⟨_, Tr.run_vc hv hcc rfl rfl, PLe.of_eq rfl⟩
    · obtain ⟨n1, n2⟩ := b g
      have l1 := wide_len n1
      have l2 := wide_len n2
      have g' := decide_eq_false g
      simp only [g', cond_false] at hv ⊢
      simp only [g', n1, n2, cond_true, cond_false, ByteArray.size_append, lit1] at hcc
      rw [bleM (by omega), bleM (by omega)] at hcc
      exact ⟨_, Tr.run_vc hv hcc rfl rfl, PLe.of_eq rfl⟩
  · cases hp
theorem off_len {z : Int} (h : zonB z = true) : (offB z).size ≤ 1000 := by
  obtain ⟨a, b⟩ := off_facts h
  unfold offB
  by_cases g : z < 0
  · obtain ⟨n1, n2⟩ := a g
    have l1 := wide_len n1
    have l2 := wide_len n2
    rw [decide_eq_true g, cond_true]
    simp only [ByteArray.size_append, lit1]
    omega
  · obtain ⟨n1, n2⟩ := b g
    have l1 := wide_len n1
    have l2 := wide_len n2
    rw [decide_eq_false g, cond_false]
    simp only [ByteArray.size_append, lit1]
    omega
theorem date_len {d : Int} (h : dayB d = true) : (dateB d).size ≤ 1000 := by
  obtain ⟨y1, y2, m1, m2, d1, d2⟩ := cv_at h
  have n1 : nB (cvD d) 1 = true := by unfold nB; simp; omega
  have n2 : nB (cvY d) 4 = true := by unfold nB; simp; omega
  have l1 := wide_len n1
  have l2 := wide_len n2
  have w1 : IntKind.i64.wrap (3 * cvM d) = 3 * cvM d := wrap_mid (by omega) (by omega)
  unfold dateB
  simp only [w1, ByteArray.size_append, ByteArray.size_extract, lit1]
  omega
theorem rt_raw_v (m : Int) (t : TypeId) (fr : Nat × Nat) (d s z : Int) : ((fnPure Tryd.prog (E3 (GG m t fr)) 60 Tryd.f53 (GG m t fr) [.agg [int d, int s, int z]])).val =
 (bif (decide (d ≥ (-719162 : Int))) then
 bif (decide (d ≤ (2932896 : Int))) then
 bif (decide (s ≥ (0 : Int))) then
 bif (decide (s < (86400 : Int))) then
 bif (decide (z ≥ (-5999 : Int))) then
 (.some (.lit (.bool (decide (z ≤ (5999 : Int))))))
 else (.some (.lit (.bool false)))
 else (.some (.lit (.bool false)))
 else (.some (.lit (.bool false)))
 else (.some (.lit (.bool false)))
 else (.some (.lit (.bool false))) : Option PV) := by
  kernel_rfl
theorem rt_raw_c (m : Int) (t : TypeId) (fr : Nat × Nat) (d s z : Int) : ((fnPure Tryd.prog (E3 (GG m t fr)) 60 Tryd.f53 (GG m t fr) [.agg [int d, int s, int z]])).conds =
 (bif (decide (d ≥ (-719162 : Int))) then
 bif (decide (d ≤ (2932896 : Int))) then
 bif (decide (s ≥ (0 : Int))) then
 bif (decide (s < (86400 : Int))) then
 bif (decide (z ≥ (-5999 : Int))) then
 true
 else true
 else true
 else true
 else true
 else true : Bool) := by
  kernel_rfl
def drightG : List PV → Tr PV
  | [.agg [.lit (.int .i64 d), .lit (.int .i64 s), .lit (.int .i64 z)]] => .leaf (bool (rightB d s z))
  | _ => .fail
theorem dright_ok : PureOK Tryd.prog (GG m t fr) 53 drightG := by
  refine PureOK.of (fn_pure mixed E3_ok (envOf_cuts ..) (fn := Tryd.f53) (by kernel_rfl)) fun ps p hp => ?_
  unfold drightG at hp
  split at hp
  · rename_i d s z
    simp only [Tr.run, Option.some.injEq] at hp
    subst hp
    have hv := rt_raw_v m t fr d s z
    have hcc := rt_raw_c m t fr d s z
    unfold rightB dayB secB zonB
    have g1 : decide (d ≥ -719162) = decide (-719162 ≤ d) := rfl
    have g2 : decide (s ≥ 0) = decide (0 ≤ s) := rfl
    have g3 : decide (z ≥ -5999) = decide (-5999 ≤ z) := rfl
    rw [g1, g2, g3] at hv hcc
    cases c1 : decide (-719162 ≤ d) <;> cases c2 : decide (d ≤ 2932896) <;> cases c3 : decide (0 ≤ s) <;> cases c4 : decide (s < 86400) <;> cases c5 : decide (-5999 ≤ z) <;> cases c6 : decide (z ≤ 5999) <;>
      (simp only [c1, c2, c3, c4, c5, c6, cond_true, cond_false] at hv hcc; exact ⟨_, Tr.run_vc hv hcc rfl rfl, PLe.of_eq rfl⟩)
  · cases hp
def btPure : List (Nat × (List PV → Tr PV)) := (54, dwriteG) :: (55, clockG) :: (56, offG) :: (53, drightG) :: bwPure
theorem btPure_ok {m : Int} {t : TypeId} {fr : Nat × Nat} : TabOK Tryd.prog (GG m t fr) btPure := (TabOK.cons dwrite_ok (fn := Tryd.f54) (by kernel_rfl) (by kernel_rfl) (TabOK.cons clock_ok (fn := Tryd.f55) (by kernel_rfl) (by kernel_rfl) (TabOK.cons off_ok (fn := Tryd.f56) (by kernel_rfl) (by kernel_rfl) (TabOK.cons dright_ok (fn := Tryd.f53) (by kernel_rfl) (by kernel_rfl) bwPure_ok))))
noncomputable abbrev E4 (G : GT) : Env := envOf Tryd.prog G btPure libFull
theorem E4_ok : (E4 (GG m t fr)).ok Tryd.prog (GG m t fr) := envOf_ok mixed btPure_ok libFull_ok
theorem wt_raw_v (m : Int) (t : TypeId) (fr : Nat × Nat) (d s z : Int) : ((fnPure Tryd.prog (E4 (GG m t fr)) 60 Tryd.f45 (GG m t fr) [.agg [int d, int s, int z]])).val =
 (bif (!(rightB d s z)) then
 (.some (.tup [(.lit (.string (.mk (List.toArray [])))), (.lit (.int .i64 (2 : Int)))]))
 else bif ((((ByteArray.size (dateB d)) : Nat) : Int) == (10 : Int)) then
 (.some (.tup [(.lit (.string ((((((.mk (List.toArray [(32 : UInt8)])) ++ (dateB d)) ++ (.mk (List.toArray [(32 : UInt8)]))) ++ (clockB s)) ++ (.mk (List.toArray [(32 : UInt8)]))) ++ (offB z)))), (.lit (.int .i64 (0 : Int)))]))
 else (.some (.tup [(.lit (.string (((((dateB d) ++ (.mk (List.toArray [(32 : UInt8)]))) ++ (clockB s)) ++ (.mk (List.toArray [(32 : UInt8)]))) ++ (offB z)))), (.lit (.int .i64 (0 : Int)))])) : Option PV) := by
  kernel_rfl
theorem wt_raw_c (m : Int) (t : TypeId) (fr : Nat × Nat) (d s z : Int) : ((fnPure Tryd.prog (E4 (GG m t fr)) 60 Tryd.f45 (GG m t fr) [.agg [int d, int s, int z]])).conds =
 (bif (!(rightB d s z)) then
 true
 else bif (dayB d) then
 bif ((((ByteArray.size (dateB d)) : Nat) : Int) == (10 : Int)) then
 bif (Nat.ble (1 + (ByteArray.size (dateB d))) (9223372036854775807 : Nat)) then
 bif (Nat.ble ((ByteArray.size ((.mk (List.toArray [(32 : UInt8)])) ++ (dateB d))) + 1) (9223372036854775807 : Nat)) then
 bif (secB s) then
 bif (Nat.ble ((ByteArray.size (((.mk (List.toArray [(32 : UInt8)])) ++ (dateB d)) ++ (.mk (List.toArray [(32 : UInt8)])))) + (ByteArray.size (clockB s))) (9223372036854775807 : Nat)) then
 bif (Nat.ble ((ByteArray.size ((((.mk (List.toArray [(32 : UInt8)])) ++ (dateB d)) ++ (.mk (List.toArray [(32 : UInt8)]))) ++ (clockB s))) + 1) (9223372036854775807 : Nat)) then
 bif (zonB z) then
 bif (Nat.ble ((ByteArray.size (((((.mk (List.toArray [(32 : UInt8)])) ++ (dateB d)) ++ (.mk (List.toArray [(32 : UInt8)]))) ++ (clockB s)) ++ (.mk (List.toArray [(32 : UInt8)])))) + (ByteArray.size (offB z))) (9223372036854775807 : Nat)) then
 true
 else false
 else false
 else false
 else false
 else false
 else false
 else false
 else bif (Nat.ble ((ByteArray.size (dateB d)) + 1) (9223372036854775807 : Nat)) then
 bif (secB s) then
 bif (Nat.ble ((ByteArray.size ((dateB d) ++ (.mk (List.toArray [(32 : UInt8)])))) + (ByteArray.size (clockB s))) (9223372036854775807 : Nat)) then
 bif (Nat.ble ((ByteArray.size (((dateB d) ++ (.mk (List.toArray [(32 : UInt8)]))) ++ (clockB s))) + 1) (9223372036854775807 : Nat)) then
 bif (zonB z) then
 bif (Nat.ble ((ByteArray.size ((((dateB d) ++ (.mk (List.toArray [(32 : UInt8)]))) ++ (clockB s)) ++ (.mk (List.toArray [(32 : UInt8)])))) + (ByteArray.size (offB z))) (9223372036854775807 : Nat)) then
 true
 else false
 else false
 else false
 else false
 else false
 else false
 else false : Bool) := by
  kernel_rfl
end
end Go.Proofs.YtlngnfkjpfokhaaDoor.Ev

/- What every row of this seat shares: a world that fits, the listed table's cells, the bulk of a text. No condition. -/
namespace Go.Proofs.YtlngnfkjpfokhaaDoor
open Go.ChangeShapes Go.WideShapes Go.ChangeAt Go.RowKit
theorem own : ownKnob Tryd.prog.godebug = none := by kernel_rfl
/-- There is an input that fits, in a world into which the listed variables are laid. -/
theorem witness_laid {H : Type} {enc : TypeId × Value → H} {os : Os} {f : FuncId} {fn : Func} {s : OpenSpec} {conds : List PathCond} {apart : Bool} {laid : List (String × DataW Unit)} (args : Array Value)
    (hsh : ((World.laidAll Tryd.prog os laid).forCall (fun _ _ => 0) ⟨#[], args, []⟩).Shaped Tryd.prog)
    (hok : Input.okWideB Tryd.prog ((World.laidAll Tryd.prog os laid).forCall (fun _ _ => 0) ⟨#[], args, []⟩) f ⟨#[], args, []⟩ = true)
    (hrow : s.preRow enc Tryd.prog fn conds apart laid ((World.laidAll Tryd.prog os laid).forCall (fun _ _ => 0) ⟨#[], args, []⟩).memory args) :
    ∃ (w : World) (tape : Tape) (i : Input), w.os = os ∧ (w.forCall tape i).Shaped Tryd.checked.prog ∧ i.vars = [] ∧ Input.okWide Tryd.checked.prog (w.forCall tape i) .any w.heap.size f i ∧
      s.preRow enc Tryd.checked.prog fn conds apart laid (w.forCall tape i).memory i.args ∧ ({} : Assume).holds Tryd.checked.prog (lone (Frame.enter Tryd.checked.prog f i.args .normal) [] (w.forCall tape i)) :=
  ⟨World.laidAll Tryd.prog os laid, fun _ _ => 0, ⟨#[], args, []⟩, World.laidAll_os _ _ _, hsh, (Input.okWide_of_okWideB (base := 0) hok).1, (Input.okWide_of_okWideB hok).2, hrow, by
    simp only [Assume.holds]
    exact ⟨by simp, by simp, by simp, by simp, by simp⟩⟩
/-- A listed table's cells, wherever it stands on the list. -/
theorem tab_of_reads {P : Program} {W : World} {name : String} {k : IntKind} {zs : List Int} {g : Nat} {t e : TypeId} {n : Nat}
    (hg : P.globalNamed name = some g) (hty : (P.globals[g]?).map (·.type) = some t) (ht : P.underlying t = some (.array n e)) (he : P.underlying e = some (.int k)) (hce : P.cellsOf e = 1) (hct : P.cellsOf t = n)
    (h : Lib.VarReads P W name (Lib.tabData k zs)) : Lib.TabIs P W name k zs := by
  obtain ⟨g', t', cs, fuel, p, hg', ht', hvar, hd⟩ := h
  obtain rfl := Option.some.inj (hg.symm.trans hg')
  obtain rfl := Option.some.inj (hty.symm.trans ht')
  unfold Lib.TabIs
  rw [hvar, ← Lib.cells_of_tab ht he hce hct hd]
theorem laid_plain {l : List (String × DataW Unit)} {W : World} (hp : (l.all fun x => x.2.handleName?.isNone) = true) (h : laidMetH Tryd.prog l W) : laidMet Tryd.prog l W := by
  rw [MakeChecks.laidMetH_plain _ _ _ hp] at h
  exact h
/-! ### what is small -/
theorem bulk_part {H : Type} {d : DataW H} {l : List (DataW H)} (h : d ∈ l) : Rows.uptoBulk d ≤ Rows.uptoBulkAll l := by
  induction l with
  | nil => cases h
  | cons x r ih =>
    simp only [Rows.uptoBulkAll]
    cases List.mem_cons.1 h with
    | inl e => subst e; omega
    | inr e => have := ih e; omega
theorem bulk_string {H : Type} (bytes : List UInt8) : Rows.uptoBulk (DataW.lit (H := H) (.string bytes)) = bytes.length + 1 := by
  simp [Rows.uptoBulk]
theorem bulk_bound {H : Type} {l : List (DataW H)} (hk : Rows.uptoSmall H l = true) : Rows.uptoBulkAll l ≤ 1048576 := of_decide_eq_true hk
end Go.Proofs.YtlngnfkjpfokhaaDoor

/- What is known of a world; a law that answers true, called in it. No condition. -/
namespace Go.Proofs.YtlngnfkjpfokhaaDoor.Ev
open Go Go.RowKit Go.Proofs Go.ChangeShapes Go.WideShapes Go.ChangeAt
/-- what is known of a world: all that it holds -/
def Held (W : World) (b o : Nat) (v : Value) : Prop := W.cell? ⟨b, o, none⟩ = some v
theorem gptr1 {C : Nat → Nat → Value → Prop} {m : Nat → Option Value} {g : Nat} {p : PV} {v : Value} (hc : C g 0 v) (h1 : v.oneCell' = true) (h : Rep C (fun _ => none) p v) : Rep C m (.gptr [p]) (.pointer (some ⟨g, 0, none⟩)) := by
  refine .gptr m [p] g 0 (fun _ => v) (fun j hj => ?_) (fun j q hq => ?_)
  · have : j = 0 := by simp at hj; exact hj
    subst this
    exact ⟨hc, h1⟩
  · cases j with
    | zero =>
      simp only [List.getElem?_cons_zero, Option.some.injEq] at hq
      subst hq
      exact h
    | succ j => simp at hq
theorem RepL.ofLits {C : Nat → Nat → Value → Prop} (vs : List Value) : RepL C (vs.map PV.lit) vs.toArray := by
  refine ⟨by simp, fun i p v hp hv => ?_⟩
  rw [List.getElem?_map] at hp
  have hv' : vs[i]? = some v := by simpa using hv
  rw [hv'] at hp
  simp only [Option.map_some, Option.some.injEq] at hp
  subst hp
  exact .lit _ _
/-- a function that answers true at these arguments, called in a world that fits -/
theorem walkTrue {G : GT} {W : World} (hG : Globs G (Held W)) (hO : Objs G W) {f : FuncId} {g : List PV → Tr PV} (h : PureOK Tryd.prog G f g) {ps : List PV} {args : Array Value} (hg : (g ps).run = some (bool true)) (hr : RepL (Held W) ps args) :
    Calls Tryd.prog f args W fun e w' => e = .returned (.bool true) ∧ Below W.heap.size W w' := by
  refine (h ps _ hg W (Held W) (fun b o v h => h) hG hO args hr).mono ?_
  rintro (v | e) w' hq
  · obtain ⟨hk, hp⟩ := hq
    cases hp
    exact ⟨rfl, hk.os, hk.tape, hk.output, hk.size, hk.block⟩
  all_goals exact hq.elim
end Go.Proofs.YtlngnfkjpfokhaaDoor.Ev

/- What a law is given, whatever its types: truths, numbers, texts, structs of these, and slices of these, told as the evaluator tells values; and it reads as it did behind a call. No condition. -/
namespace Go.Proofs.YtlngnfkjpfokhaaDoor.Ev
open Go Go.RowKit Go.Proofs Go.ChangeShapes Go.WideShapes Go.ChangeAt
set_option linter.unusedVariables false
set_option linter.unusedSimpArgs false
/-- a cell of one kind -/
inductive Sc where
  | bool
  | int (k : IntKind)
  | str
/-- a cell, or a slice of rows of cells, or a slice of rows that hold slices -/
inductive Ak where
  | sc (s : Sc)
  | sl (l : List Sc)
  | sn (l : List Ak)
/-- what is given: one cell, or a struct's cells -/
inductive ASh where
  | one (k : Ak)
  | agg (l : List Ak)
def isSc : Sc → Value → Bool
  | .bool, .bool _ => true
  | .int k, .int k' n => decide (k = k') && (decide (k.min ≤ n) && decide (n ≤ k.max))
  | .str, .string _ => true
  | _, _ => false
def areSc : List Sc → List PV → Bool
  | [], [] => true
  | s :: l, .lit v :: r => isSc s v && areSc l r
  | _, _ => false
mutual
def isAk : Ak → PV → Bool
  | .sc s, q => match q with
    | .lit v => isSc s v
    | _ => false
  | .sl l, q => match q with
    | .gsl sz n f => Nat.beq sz l.length && (List.range n).all fun i => areSc l (f i)
    | _ => false
  | .sn l, q => match q with
    | .gsl sz n f => Nat.beq sz l.length && (List.range n).all fun i => areAk l (f i)
    | _ => false
def areAk : List Ak → List PV → Bool
  | [], qs => match qs with
    | [] => true
    | _ => false
  | k :: l, qs => match qs with
    | q :: r => isAk k q && areAk l r
    | [] => false
end
def isArg : ASh → PV → Bool
  | .one k, q => isAk k q
  | .agg l, .agg qs => areAk l qs
  | _, _ => false
def areArgs : List ASh → List PV → Bool
  | [], [] => true
  | a :: l, q :: r => isArg a q && areArgs l r
  | _, _ => false
def scBulk : PV → Nat
  | .lit (.string s) => s.size + 1
  | _ => 1
def scs0Bulk : List PV → Nat
  | [] => 0
  | q :: r => scBulk q + scs0Bulk r
def elBulk : PV → Nat
  | .gsl _ n f => ((List.range n).map fun i => scs0Bulk (f i)).sum + 1
  | q => scBulk q
def scsBulk : List PV → Nat
  | [] => 0
  | q :: r => elBulk q + scsBulk r
def akBulk : PV → Nat
  | .gsl _ n f => ((List.range n).map fun i => scsBulk (f i)).sum + 1
  | q => scBulk q
def aksBulk : List PV → Nat
  | [] => 0
  | q :: r => akBulk q + aksBulk r
def argBulk : PV → Nat
  | .agg qs => aksBulk qs
  | q => akBulk q
def argsBulk : List PV → Nat
  | [] => 0
  | q :: r => argBulk q + argsBulk r
/-! ### which cells a type has -/
def flatOf (P : Program) (g : TypeId → Option (List Ak)) : Nat → List Field → Option (List Ak)
  | _, [] => some []
  | o, f :: r => match Nat.beq f.offset o, g f.type with
    | true, some l => match Nat.beq (P.cellsOf f.type) l.length, flatOf P g (o + l.length) r with
      | true, some l' => some (l ++ l')
      | _, _ => none
    | _, _ => none
def scsOf : List Ak → Option (List Sc)
  | [] => some []
  | .sc s :: r => match scsOf r with
    | some l => some (s :: l)
    | none => none
  | .sl _ :: _ => none
  | .sn _ :: _ => none
def akOf (P : Program) : Nat → TypeId → Option (List Ak)
  | 0 => fun _ => none
  | d + 1 => fun t => match P.underlying t with
    | some .bool => some [.sc .bool]
    | some (.int k) => some [.sc (.int k)]
    | some .string => some [.sc .str]
    | some (.struct fs) => match flatOf P (akOf P d) 0 fs.toList with
      | some l => match Nat.beq (P.cellsOf t) l.length with
        | true => some l
        | false => none
      | none => none
    | some (.slice e) => match akOf P d e with
      | some l => match Nat.beq (P.cellsOf e) l.length && Nat.blt 0 l.length with
        | true => match scsOf l with
          | some s => some [.sl s]
          | none => some [.sn l]
        | false => none
      | none => none
    | _ => none
def aShOf (P : Program) (t : TypeId) : Option ASh := match akOf P 10 t with
  | some l => match P.underlying t with
    | some (.struct _) => some (.agg l)
    | _ => match l with
      | [k] => some (.one k)
      | _ => none
  | none => none
def aShsOf (P : Program) : List TypeId → Option (List ASh)
  | [] => some []
  | t :: r => match aShOf P t, aShsOf P r with
    | some a, some l => some (a :: l)
    | _, _ => none
theorem ak_sl {l : List Sc} {q : PV} (h : isAk (.sl l) q = true) : ∃ n f, q = .gsl l.length n f ∧ ∀ i, i < n → areSc l (f i) = true := by
  cases q with
  | gsl sz n f =>
    simp only [isAk, Bool.and_eq_true, List.all_eq_true] at h
    obtain rfl := Nat.eq_of_beq_eq_true h.1
    exact ⟨n, f, rfl, fun i hi => h.2 i (List.mem_range.2 hi)⟩
  | _ => simp [isAk] at h
theorem ak_sn {l : List Ak} {q : PV} (h : isAk (.sn l) q = true) : ∃ n f, q = .gsl l.length n f ∧ ∀ i, i < n → areAk l (f i) = true := by
  cases q with
  | gsl sz n f =>
    simp only [isAk, Bool.and_eq_true, List.all_eq_true] at h
    obtain rfl := Nat.eq_of_beq_eq_true h.1
    exact ⟨n, f, rfl, fun i hi => h.2 i (List.mem_range.2 hi)⟩
  | _ => simp [isAk] at h
theorem ak_sc {s : Sc} {q : PV} (h : isAk (.sc s) q = true) : ∃ v, q = .lit v ∧ isSc s v = true := by
  cases q with
  | lit v => exact ⟨v, rfl, by simpa [isAk] using h⟩
  | _ => simp [isAk] at h
theorem sc_str {v : Value} (h : isSc .str v = true) : ∃ s, v = .string s := by
  cases v with
  | string s => exact ⟨s, rfl⟩
  | _ => cases h
theorem sc_bool {v : Value} (h : isSc .bool v = true) : ∃ b, v = .bool b := by
  cases v with
  | bool b => exact ⟨b, rfl⟩
  | _ => cases h
theorem sc_int {k : IntKind} {v : Value} (h : isSc (.int k) v = true) : ∃ n, v = .int k n ∧ k.min ≤ n ∧ n ≤ k.max := by
  cases v with
  | int k' n =>
    simp only [isSc, Bool.and_eq_true, decide_eq_true_eq] at h
    obtain ⟨rfl, h1, h2⟩ := h
    exact ⟨n, rfl, h1, h2⟩
  | _ => cases h
/-! ### lists of cells -/
theorem areAk_len : ∀ {l : List Ak} {qs : List PV}, areAk l qs = true → qs.length = l.length
  | [], [], _ => rfl
  | [], _ :: _, h => by simp [areAk] at h
  | _ :: _, [], h => by simp [areAk] at h
  | k :: l, q :: r, h => by
    simp only [areAk, Bool.and_eq_true] at h
    simp [areAk_len h.2]
theorem areAk_app : ∀ {l l' : List Ak} {qs qs' : List PV}, areAk l qs = true → areAk l' qs' = true → areAk (l ++ l') (qs ++ qs') = true
  | [], l', [], qs', _, h' => h'
  | [], l', _ :: _, qs', h, h' => by simp [areAk] at h
  | _ :: _, l', [], qs', h, h' => by simp [areAk] at h
  | k :: l, l', q :: r, qs', h, h' => by
    simp only [areAk, Bool.and_eq_true] at h
    simp only [List.cons_append, areAk, Bool.and_eq_true]
    exact ⟨h.1, areAk_app h.2 h'⟩
theorem aksBulk_app : ∀ (qs qs' : List PV), aksBulk (qs ++ qs') = aksBulk qs + aksBulk qs'
  | [], qs' => by simp [aksBulk]
  | q :: r, qs' => by
    simp only [List.cons_append, aksBulk]
    rw [aksBulk_app r qs']
    omega
theorem el_le : ∀ (q : PV), scBulk q ≤ elBulk q
  | .gsl _ n f => by simp [scBulk, elBulk]
  | .lit _ | .agg _ | .tup _ | .gptr _ | .own _ | .ptr _ _ | .optr _ _ _ _ | .iface _ _ | .clo _ _ | .emp | .junk => Nat.le_refl _
theorem scs0_le : ∀ (qs : List PV), scs0Bulk qs ≤ scsBulk qs
  | [] => Nat.le_refl _
  | q :: r => by
    have := scs0_le r
    have := el_le q
    simp only [scs0Bulk, scsBulk]
    omega
theorem sum_le {L : List Nat} {a b : Nat → Nat} (h : ∀ i, a i ≤ b i) : (L.map a).sum ≤ (L.map b).sum := by
  induction L with
  | nil => simp
  | cons i L ih =>
    have := h i
    simp only [List.map_cons, List.sum_cons]
    omega
theorem ak_le : ∀ (q : PV), elBulk q ≤ akBulk q
  | .gsl _ n f => by
    have := sum_le (L := List.range n) fun i => scs0_le (f i)
    simp only [elBulk, akBulk]
    omega
  | .lit _ | .agg _ | .tup _ | .gptr _ | .own _ | .ptr _ _ | .optr _ _ _ _ | .iface _ _ | .clo _ _ | .emp | .junk => Nat.le_refl _
theorem scs_le : ∀ (qs : List PV), scsBulk qs ≤ aksBulk qs
  | [] => Nat.le_refl _
  | q :: r => by
    have := scs_le r
    have := ak_le q
    simp only [scsBulk, aksBulk]
    omega
theorem areAk_sc : ∀ {l : List Ak} {s : List Sc} {qs : List PV}, scsOf l = some s → areAk l qs = true → areSc s qs = true ∧ s.length = l.length
  | [], s, [], h, _ => by
    simp only [scsOf, Option.some.injEq] at h
    subst h
    exact ⟨rfl, rfl⟩
  | [], s, _ :: _, h, hq => by simp [areAk] at hq
  | _ :: _, s, [], h, hq => by simp [areAk] at hq
  | .sc a :: l, s, q :: r, h, hq => by
    unfold scsOf at h
    split at h
    · rename_i s' hs
      cases h
      simp only [areAk, Bool.and_eq_true] at hq
      obtain ⟨i1, i3⟩ := areAk_sc hs hq.2
      obtain ⟨v, rfl, h1⟩ := ak_sc hq.1
      refine ⟨?_, by simp [i3]⟩
      simp only [areSc, Bool.and_eq_true]
      exact ⟨h1, i1⟩
    · cases h
  | .sl _ :: l, s, qs, h, _ => by cases h
  | .sn _ :: l, s, qs, h, _ => by cases h
theorem scsOf_len : ∀ {l : List Ak} {s : List Sc}, scsOf l = some s → s.length = l.length
  | [], s, h => by
    simp only [scsOf, Option.some.injEq] at h
    subst h
    rfl
  | .sc a :: l, s, h => by
    unfold scsOf at h
    split at h
    · rename_i s' hs
      cases h
      simp [scsOf_len hs]
    · cases h
  | .sl _ :: l, s, h => by cases h
  | .sn _ :: l, s, h => by cases h
theorem areSc_len : ∀ {l : List Sc} {qs : List PV}, areSc l qs = true → qs.length = l.length
  | [], [], _ => rfl
  | s :: l, .lit v :: r, h => by
    simp only [areSc, Bool.and_eq_true] at h
    simp [areSc_len h.2]
/-! ### a value's cells -/
section
variable {H : Type} {enc : TypeId × Value → H} {P : Program} {W : World}
theorem bulk_range {n : Nat} {a : Nat → Nat} {D : Nat → DataW H} (h : ∀ i, i < n → a i ≤ Rows.uptoBulk (D i)) : ((List.range n).map a).sum ≤ Rows.uptoBulkAll ((List.range n).map D) := by
  have key : ∀ L : List Nat, (∀ i ∈ L, a i ≤ Rows.uptoBulk (D i)) → (L.map a).sum ≤ Rows.uptoBulkAll (L.map D) := by
    intro L
    induction L with
    | nil => intro _; simp [Rows.uptoBulkAll]
    | cons i L ih =>
      intro hL
      have h1 := hL i (by simp)
      have h2 := ih fun j hj => hL j (by simp [hj])
      simp only [List.map_cons, List.sum_cons, Rows.uptoBulkAll]
      omega
  exact key _ fun i hi => h i (List.mem_range.1 hi)
/-- what holds of a type's cells -/
def AkAt (enc : TypeId × Value → H) (P : Program) (W : World) (t : TypeId) (l : List Ak) : Prop :=
  ∀ (n : Nat) (cs : List Value) (x : DataW H × List MemPlace), DataW.trod enc P W 0 (fun _ => true) true n t cs = some x →
    ∃ qs : List PV, cs.length = l.length ∧ areAk l qs = true ∧ (∀ (j : Nat) (q : PV) (c : Value), qs[j]? = some q → cs[j]? = some c → Rep (Held W) (fun _ => none) q c ∧ c.oneCell' = true) ∧ aksBulk qs ≤ Rows.uptoBulk x.1
theorem flat_ok {g : TypeId → Option (List Ak)} (hg : ∀ t l, g t = some l → AkAt enc P W t l) {n : Nat} {cs : List Value} : ∀ (fs : List Field) (o : Nat) (l : List Ak) (xs : List (DataW H × List MemPlace)), flatOf P g o fs = some l → xs.length = fs.length →
    (∀ (i : Nat) (f : Field), fs[i]? = some f → DataW.trod enc P W 0 (fun _ => true) true n f.type ((cs.drop f.offset).take (P.cellsOf f.type)) = xs[i]?) →
    ∃ qs : List PV, areAk l qs = true ∧ (∀ (j : Nat) (q : PV) (c : Value), qs[j]? = some q → cs[o + j]? = some c → Rep (Held W) (fun _ => none) q c ∧ c.oneCell' = true) ∧ aksBulk qs ≤ Rows.uptoBulkAll (xs.map (·.1))
  | [], o, l, xs, h, hl, _ => by
    simp only [flatOf, Option.some.injEq] at h
    subst h
    exact ⟨[], by simp [areAk], fun j q c hq => by simp at hq, Nat.zero_le _⟩
  | f :: r, o, l, [], _, hl, _ => by simp at hl
  | f :: r, o, l, x :: xs, h, hl, hf => by
    unfold flatOf at h
    split at h
    · rename_i l0 ho h0
      split at h
      · rename_i l1 hc h1
        cases h
        have ho := Nat.eq_of_beq_eq_true ho
        have hc := Nat.eq_of_beq_eq_true hc
        have hx := hf 0 f rfl
        rw [ho, hc] at hx
        have hx : DataW.trod enc P W 0 (fun _ => true) true n f.type ((cs.drop o).take l0.length) = some x := hx
        obtain ⟨qs0, e0, a0, r0, b0⟩ := hg _ _ h0 n _ x hx
        have hq0 := areAk_len a0
        obtain ⟨qs1, a1, r1, b1⟩ := flat_ok hg r (o + l0.length) l1 xs h1 (by simpa using hl) (fun i f' hi => hf (i + 1) f' (by simpa using hi))
        refine ⟨qs0 ++ qs1, areAk_app a0 a1, fun j q c hq hc => ?_, ?_⟩
        · rcases Nat.lt_or_ge j qs0.length with hj | hj
          · rw [List.getElem?_append_left hj] at hq
            refine r0 j q c hq ?_
            rw [List.getElem?_take, if_pos (by omega), List.getElem?_drop]
            exact hc
          · rw [List.getElem?_append_right hj] at hq
            refine r1 (j - qs0.length) q c hq ?_
            rw [show o + l0.length + (j - qs0.length) = o + j by omega]
            exact hc
        · rw [aksBulk_app]
          simp only [List.map_cons, Rows.uptoBulkAll]
          omega
      · cases h
    · cases h
theorem cell1_ok {l : Ak} {q : PV} {c : Value} {b : Nat} (ha : isAk l q = true) (hr : Rep (Held W) (fun _ => none) q c) (h1 : c.oneCell' = true) (hb : akBulk q ≤ b) :
    ∃ qs : List PV, [c].length = [l].length ∧ areAk [l] qs = true ∧ (∀ (j : Nat) (q : PV) (c' : Value), qs[j]? = some q → [c][j]? = some c' → Rep (Held W) (fun _ => none) q c' ∧ c'.oneCell' = true) ∧ aksBulk qs ≤ b := by
  refine ⟨[q], rfl, by simp [areAk, ha], fun j q' c' hq hc => ?_, by simp [aksBulk]; exact hb⟩
  cases j with
  | zero =>
    simp only [List.getElem?_cons_zero, Option.some.injEq] at hq hc
    subst hq
    subst hc
    exact ⟨hr, h1⟩
  | succ j => simp at hq
theorem ak_ok : ∀ (d : Nat) (t : TypeId) (l : List Ak), akOf P d t = some l → AkAt enc P W t l := by
  intro d
  induction d with
  | zero => intro t l h; cases h
  | succ d ih =>
    intro t l h n cs x hx
    unfold akOf at h
    split at h
    · rename_i hu
      cases h
      obtain ⟨b, rfl, rfl⟩ := DataW.trod_bool hu hx
      exact cell1_ok (q := .lit (.bool b)) (by simp [isAk, isSc]) (.lit _ _) rfl (by simp [akBulk, scBulk, Rows.uptoBulk])
    · rename_i k hu
      cases h
      obtain ⟨z, rfl, rfl, hw⟩ := DataW.trod_int hu hx
      exact cell1_ok (q := .lit (.int k z)) (by unfold Lit.wf at hw; simp only [isAk, isSc, decide_true, Bool.true_and]; exact hw) (.lit _ _) rfl (by simp [akBulk, scBulk, Rows.uptoBulk])
    · rename_i hu
      cases h
      obtain ⟨s, rfl, rfl, _⟩ := DataW.trod_string hu hx
      exact cell1_ok (q := .lit (.string s)) (by simp [isAk, isSc]) (.lit _ _) rfl (by simp [akBulk, scBulk, Rows.uptoBulk])
    · rename_i fs hu
      split at h
      · rename_i l' hl
        split at h
        · rename_i hc
          cases h
          have hc := Nat.eq_of_beq_eq_true hc
          obtain ⟨xs, k, _, rfl, hcs, hxs, hf⟩ := DataW.trod_struct hu hx
          obtain ⟨qs, a, r, b⟩ := flat_ok (cs := cs) ih fs.toList 0 _ xs hl (by simpa using hxs) (fun i f hi => hf i f (by simpa using hi))
          refine ⟨qs, by rw [hcs, hc], a, fun j q c hq hc => r j q c hq (by simpa using hc), ?_⟩
          simp only [Rows.uptoBulk]
          omega
        · cases h
      · cases h
    · rename_i e hu
      split at h
      · rename_i l' hl
        split at h
        · rename_i hc
          simp only [Bool.and_eq_true, Nat.blt_eq] at hc
          obtain ⟨hc, hpos⟩ := hc
          have hc := Nat.eq_of_beq_eq_true hc
          have fin : ∀ {len : Nat} {f : Nat → List PV} {c : Value} {b : Nat}, (∀ i, i < len → areAk l' (f i) = true) → Rep (Held W) (fun _ => none) (.gsl l'.length len f) c → c.oneCell' = true → akBulk (.gsl l'.length len f) ≤ b →
              ∃ qs : List PV, [c].length = l.length ∧ areAk l qs = true ∧ (∀ (j : Nat) (q : PV) (c' : Value), qs[j]? = some q → [c][j]? = some c' → Rep (Held W) (fun _ => none) q c' ∧ c'.oneCell' = true) ∧ aksBulk qs ≤ b := by
            intro len f c b h1 h2 h3 h4
            split at h
            · rename_i s hs
              cases h
              refine cell1_ok ?_ h2 h3 h4
              simp only [isAk, Bool.and_eq_true, List.all_eq_true]
              exact ⟨by rw [scsOf_len hs]; exact Nat.beq_refl _, fun i hi => (areAk_sc hs (h1 i (List.mem_range.1 hi))).1⟩
            · cases h
              refine cell1_ok ?_ h2 h3 h4
              simp only [isAk, Bool.and_eq_true, List.all_eq_true]
              exact ⟨Nat.beq_refl _, fun i hi => h1 i (List.mem_range.1 hi)⟩
          rcases Go.Deep.open_slice hu hx with ⟨rfl, rfl⟩ | ⟨a, len, cap, m, n', D, Pl, rfl, _, hle, _, hm, rfl, hel⟩
          · exact fin (f := fun _ => []) (fun i hi => absurd hi (Nat.not_lt_zero _)) (.gnil ..) rfl (by simp [akBulk, Rows.uptoBulk])
          · simp only [if_true] at hm
            have each : ∀ i, i < len → ∃ y : List PV × List Value, W.cells? 0 (a.add (i * P.cellsOf e)) (P.cellsOf e) = some y.2 ∧ y.2.length = l'.length ∧ areAk l' y.1 = true ∧
                (∀ (j : Nat) (q : PV) (c : Value), y.1[j]? = some q → y.2[j]? = some c → Rep (Held W) (fun _ => none) q c ∧ c.oneCell' = true) ∧ scsBulk y.1 ≤ Rows.uptoBulk (D i) := by
              intro i hi
              obtain ⟨cs', h1, h2⟩ := hel i (by omega)
              obtain ⟨qs, e1, a1, r1, b1⟩ := ih e l' hl n' cs' _ h2
              exact ⟨(qs, cs'), h1, e1, a1, r1, Nat.le_trans (scs_le qs) b1⟩
            obtain ⟨y, hy⟩ := Go.Deep.choose_lt each
            refine fin (f := fun i => (y i).1) (fun i hi => (hy i hi).2.2.1) ?_ rfl ?_
            · rcases Nat.eq_zero_or_pos cap with h0 | hcp
              · subst h0
                obtain rfl : len = 0 := by omega
                exact .gspt _ _ _ _
              have hsp : a.spot = none := by
                obtain ⟨cs', h1, _⟩ := hel 0 (by omega)
                obtain ⟨_, _, hcell⟩ := World.cells?_some h1
                have hl0 : 0 < P.cellsOf e := by omega
                obtain ⟨_, hl2, _⟩ := World.cells?_some h1
                have hc2 := hcell 0 (by omega)
                rw [List.getElem?_eq_getElem (show 0 < cs'.length by omega)] at hc2
                have := World.cell?_spot hc2
                simpa [Addr.add] using this
              obtain ⟨b, o, sp⟩ := a
              simp only at hsp
              subst hsp
              refine .gsl _ _ _ _ b o cap (fun i j => (y i).2.getD j default) (fun i j hi hj => ?_) (fun i hi => areAk_len (hy i hi).2.2.1) (fun i j p hi hq => ?_) hle
              · obtain ⟨h1, h2, h3, h4, _⟩ := hy i hi
                obtain ⟨_, hl2, hcell⟩ := World.cells?_some h1
                have hj2 : j < (y i).2.length := by omega
                have hc2 := hcell j (by omega)
                have hq := areAk_len h3
                have hgd : (y i).2.getD j default = (y i).2[j] := by simp [List.getD, List.getElem?_eq_getElem hj2]
                rw [List.getElem?_eq_getElem hj2] at hc2
                have hone := (h4 j _ _ (List.getElem?_eq_getElem (show j < (y i).1.length by omega)) (List.getElem?_eq_getElem hj2)).2
                rw [hgd]
                refine ⟨?_, hone⟩
                unfold Held
                rw [Go.Deep.add_add, hc] at hc2
                rw [← hc2]
                unfold Addr.add
                split
                · rename_i h0
                  rw [h0]
                  rfl
                · rfl
              · obtain ⟨h1, h2, h3, h4, _⟩ := hy i hi
                have hq' := areAk_len h3
                have hj1 := (List.getElem?_eq_some_iff.1 hq).1
                have hj2 : j < (y i).2.length := by omega
                have hgd : (y i).2.getD j default = (y i).2[j] := by simp [List.getD, List.getElem?_eq_getElem hj2]
                rw [hgd]
                exact (h4 j p _ hq (List.getElem?_eq_getElem hj2)).1
            · have := bulk_range (D := D) (a := fun i => scsBulk (y i).1) fun i hi => (hy i hi).2.2.2.2
              simp only [akBulk, Rows.uptoBulk]
              omega
        · cases h
      · cases h
    · cases h
/-- one thing that is given -/
theorem arg_ok {t : TypeId} {a : ASh} {v : Value} {x : DataW H} {ps : List MemPlace} (ha : aShOf P t = some a) (hv : Value.okWide P W .any 0 t v) (h : DataW.Trod enc P W 0 (fun _ => true) true t v x ps) :
    ∃ q, isArg a q = true ∧ Rep (Held W) (fun _ => none) q v ∧ argBulk q ≤ Rows.uptoBulk x := by
  obtain ⟨n, hn⟩ := h
  unfold aShOf at ha
  split at ha
  · rename_i l hl
    split at ha
    · rename_i fs hu
      cases ha
      unfold Value.okWide at hv
      rw [hu] at hv
      obtain ⟨cs, rfl, hsz, ts, _, _, hok⟩ := hv
      obtain ⟨qs, e1, a1, r1, b1⟩ := ak_ok 10 t l hl n _ _ hn
      have hq := areAk_len a1
      refine ⟨.agg qs, a1, .agg _ qs cs ?_ (fun i p w hp hw => (r1 i p w hp (by simpa [Value.cells] using hw)).1), b1⟩
      simp only [Value.cells, Array.length_toList] at e1
      omega
    · rename_i hns
      split at ha
      · rename_i k
        cases ha
        have hcell : Cell.okWide P W .any 0 t v := by
          unfold Value.okWide at hv
          split at hv
          · exact absurd ‹_› (hns _)
          · rename_i e n' hu
            rw [akOf] at hl
            dsimp only at hl
            rw [hu] at hl
            cases hl
          · exact hv
        have hnagg : v.cells = #[v] := by
          cases v with
          | agg cs =>
            exfalso
            cases hu : P.underlying t with
            | none =>
              simp only [Cell.okWide, Cell.ok, hu] at hcell
            | some d =>
              cases d <;> simp only [Cell.okWide, Cell.ok, hu] at hcell
          | _ => rfl
        rw [hnagg] at hn
        obtain ⟨qs, e1, a1, r1, b1⟩ := ak_ok 10 t [k] hl n _ _ hn
        have hq := areAk_len a1
        match qs, hq with
        | [q], _ =>
          simp only [areAk, Bool.and_true] at a1
          refine ⟨q, a1, (r1 0 q v rfl rfl).1, ?_⟩
          have : argBulk q = akBulk q := by
            cases q with
            | agg qs =>
              cases k <;> simp [isAk] at a1
            | _ => rfl
          rw [this]
          simpa [aksBulk] using b1
      · cases ha
  · cases ha
/-- all that is given -/
theorem args_ok : ∀ {ts : List TypeId} {l : List ASh} {vs : List Value} {ds : List (DataW H)} {ps : List MemPlace}, aShsOf P ts = some l → (∀ (j : Nat) (t : TypeId) (v : Value), ts[j]? = some t → vs[j]? = some v → Value.okWide P W .any 0 t v) →
    DataW.TrodAll enc P W 0 (fun _ => true) true ts vs ds ps → ∃ qs, areArgs l qs = true ∧ RepL (Held W) qs vs.toArray ∧ argsBulk qs ≤ Rows.uptoBulkAll ds
  | [], l, vs, ds, ps, hl, _, h => by
    obtain ⟨rfl, rfl, rfl⟩ := trodAll_nil h
    simp only [aShsOf, Option.some.injEq] at hl
    subst hl
    exact ⟨[], rfl, ⟨rfl, fun i p v hp => by simp at hp⟩, Nat.zero_le _⟩
  | t :: ts, l, vs, ds, ps, hl, hv, h => by
    obtain ⟨v, vs', d, ds', p, q, rfl, rfl, rfl, h0, h1⟩ := trodAll_cons h
    unfold aShsOf at hl
    split at hl
    · rename_i a l' ha hl'
      cases hl
      obtain ⟨x, i1, i2, i3⟩ := arg_ok ha (hv 0 t v rfl rfl) h0
      obtain ⟨xs, j1, j2, j3⟩ := args_ok hl' (fun j t v hj hw => hv (j + 1) t v (by simpa using hj) (by simpa using hw)) h1
      refine ⟨x :: xs, by simp only [areArgs, i1, j1, Bool.and_true], ⟨?_, fun i p w hp hw => ?_⟩, ?_⟩
      · have := j2.1
        simp at this ⊢
        omega
      · cases i with
        | zero =>
          simp only [List.getElem?_cons_zero, Option.some.injEq] at hp
          have hw : v = w := by simpa using hw
          subst hp
          subst hw
          exact i2
        | succ i => exact j2.2 i p w (by simpa using hp) (by simpa using hw)
      · simp only [argsBulk, Rows.uptoBulkAll]
        omega
    · cases hl
/-- behind a call that wrote nothing that was there, all reads as it did -/
theorem trodAll_stays (hl : laidOutB P = true) {W' : World} (hb : Below W.heap.size W W') : ∀ {ts : List TypeId} {vs : List Value} {ds : List (DataW H)} {ps : List MemPlace}, (ts.all fun t => P.readableRec t && decide (t < P.types.size)) = true →
    DataW.TrodAll enc P W 0 (fun _ => true) true ts vs ds ps → (∀ x ∈ ps, x.block < W.heap.size) → DataW.TrodAll enc P W' 0 (fun b => decide (b < W.heap.size)) true ts vs ds ps
  | [], vs, ds, ps, _, h, _ => by
    obtain ⟨rfl, rfl, rfl⟩ := trodAll_nil h
    exact trodAll_mk0
  | t :: ts, vs, ds, ps, ht, h, hp => by
    obtain ⟨v, vs', d, ds', p, q, rfl, rfl, rfl, h0, h1⟩ := trodAll_cons h
    simp only [List.all_cons, Bool.and_eq_true, decide_eq_true_eq] at ht
    exact trodAll_cons_mk (Below.trod hl ht.1.1 ht.1.2 h0 hb fun x hx => hp x (List.mem_append.2 (.inl hx))) (trodAll_stays hl hb ht.2 h1 fun x hx => hp x (List.mem_append.2 (.inr hx)))
end
theorem sc_cons {s : Sc} {l : List Sc} {ps : List PV} (h : areSc (s :: l) ps = true) : ∃ v r, ps = .lit v :: r ∧ isSc s v = true ∧ areSc l r = true := by
  cases ps with
  | nil => cases h
  | cons q r =>
    cases q with
    | lit v =>
      simp only [areSc, Bool.and_eq_true] at h
      exact ⟨v, r, rfl, h.1, h.2⟩
    | _ => cases h
theorem sc_nil {ps : List PV} (h : areSc [] ps = true) : ps = [] := by
  cases ps with
  | nil => rfl
  | cons q r => cases q <;> cases h
theorem aks_cons {k : Ak} {l : List Ak} {qs : List PV} (h : areAk (k :: l) qs = true) : ∃ q r, qs = q :: r ∧ isAk k q = true ∧ areAk l r = true := by
  cases qs with
  | nil => simp [areAk] at h
  | cons q r =>
    simp only [areAk, Bool.and_eq_true] at h
    exact ⟨q, r, rfl, h.1, h.2⟩
theorem aks_nil {qs : List PV} (h : areAk [] qs = true) : qs = [] := by
  cases qs with
  | nil => rfl
  | cons q r => simp [areAk] at h
theorem args_cons {a : ASh} {l : List ASh} {qs : List PV} (h : areArgs (a :: l) qs = true) : ∃ q r, qs = q :: r ∧ isArg a q = true ∧ areArgs l r = true := by
  cases qs with
  | nil => cases h
  | cons q r =>
    simp only [areArgs, Bool.and_eq_true] at h
    exact ⟨q, r, rfl, h.1, h.2⟩
theorem args_nil {qs : List PV} (h : areArgs [] qs = true) : qs = [] := by
  cases qs with
  | nil => rfl
  | cons q r => cases h
theorem arg_agg {l : List Ak} {q : PV} (h : isArg (.agg l) q = true) : ∃ qs, q = .agg qs ∧ areAk l qs = true := by
  cases q with
  | agg qs => exact ⟨qs, rfl, h⟩
  | _ => cases h
/-- a function that answers true at whatever is given to it, called in a world that fits -/
theorem walkArgs {G : GT} {W : World} (hG : Globs G (Held W)) (hO : Objs G W) {f : FuncId} {g : List PV → Tr PV} (h : PureOK Tryd.prog G f g) {qs : List PV} {args : Array Value} (hg : (g qs).run = some (bool true)) (hr : RepL (Held W) qs args) :
    Calls Tryd.prog f args W fun e w' => e = .returned (.bool true) ∧ Below W.heap.size W w' := walkTrue hG hO h hg hr
end Go.Proofs.YtlngnfkjpfokhaaDoor.Ev

/- Mails in rows; whether what a mail has may be. No condition. -/
namespace Go.Proofs.YtlngnfkjpfokhaaDoor.Ev
open Go Go.RowKit Go.Proofs Go.Proofs.YtlngnfkjpfokhaaDoor.Str
set_option linter.unusedVariables false
set_option linter.unusedSimpArgs false
section
variable {m : Int} {t : TypeId} {fr : Nat × Nat}
def dtimeG : List PV → Tr PV
  | [.agg [.lit (.int .i64 d), .lit (.int .i64 s), .lit (.int .i64 z)]] => .leaf (.tup [.junk, int (wtE d s z)])
  | _ => .fail
theorem dtime_ok : PureOK Tryd.prog (GG m t fr) 45 dtimeG := by
  refine PureOK.of (fn_pure mixed E4_ok (envOf_cuts ..) (fn := Tryd.f45) (by kernel_rfl)) fun ps p hp => ?_
  unfold dtimeG at hp
  split at hp
  · rename_i d s z
    simp only [Tr.run, Option.some.injEq] at hp
    subst hp
    have hv := wt_raw_v m t fr d s z
    have hcc := wt_raw_c m t fr d s z
    unfold wtE
    cases c : rightB d s z with
    | false =>
      simp only [c, Bool.not_false, cond_true] at hv hcc
      exact ⟨_, Tr.run_vc hv hcc rfl rfl, PLe.tup (.cons (PLe.junk _) (.refl _))⟩
    | true =>
      have c' := c
      unfold rightB at c'
      simp only [Bool.and_eq_true] at c'
      obtain ⟨⟨c1, c2⟩, c3⟩ := c'
      have l1 := date_len c1
      have l2 := clock_len c2
      have l3 := off_len c3
      simp only [c, Bool.not_true, cond_false] at hv
      simp only [c, c1, c2, c3, Bool.not_true, cond_true, cond_false, ByteArray.size_append, lit1] at hcc
      rw [bleM (by omega), bleM (by omega), bleM (by omega), bleM (by omega), bleM (by omega), bleM (by omega), bleM (by omega), bleM (by omega), bleM (by omega)] at hcc
      cases c4 : ((((dateB d).size : Nat) : Int) == 10) with
      | true =>
        simp only [c4, cond_true] at hv hcc
        exact ⟨_, Tr.run_vc hv hcc rfl rfl, PLe.tup (.cons (PLe.junk _) (.refl _))⟩
      | false =>
        simp only [c4, cond_true, cond_false] at hv hcc
        exact ⟨_, Tr.run_vc hv hcc rfl rfl, PLe.tup (.cons (PLe.junk _) (.refl _))⟩
  · cases hp
def bfPure : List (Nat × (List PV → Tr PV)) := (45, dtimeG) :: libPure
theorem bfPure_ok {m : Int} {t : TypeId} {fr : Nat × Nat} : TabOK Tryd.prog (GG m t fr) bfPure := (TabOK.cons dtime_ok (fn := Tryd.f45) (by kernel_rfl) (by kernel_rfl) libPure_ok)
noncomputable abbrev E5 (G : GT) : Env := envOf Tryd.prog G bfPure libFull
theorem E5_ok : (E5 (GG m t fr)).ok Tryd.prog (GG m t fr) := envOf_ok mixed bfPure_ok libFull_ok
theorem fi_raw_v (m : Int) (t : TypeId) (fr : Nat × Nat) (f d s z : Int) (raw : ByteArray) : ((fnPure Tryd.prog (E5 (GG m t fr)) 60 Tryd.f33 (GG m t fr) [.lit (.int .u8 f), .agg [int d, int s, int z], str raw])).val =
 (bif ((IntKind.wrap .u8 (((BitVec.toNat (HAnd.hAnd (BitVec.ofInt 8 f) (Complement.complement (BitVec.ofInt 8 (31 : Int))))) : Nat) : Int)) == (0 : Int)) then
 bif ((wtE d s z) == (0 : Int)) then
 (.some (.lit (.bool (decide ((((ByteArray.size raw) : Nat) : Int) ≤ (65536 : Int))))))
 else (.some (.lit (.bool false)))
 else (.some (.lit (.bool false))) : Option PV) := by
  kernel_rfl
theorem fi_raw_c (m : Int) (t : TypeId) (fr : Nat × Nat) (f d s z : Int) (raw : ByteArray) : ((fnPure Tryd.prog (E5 (GG m t fr)) 60 Tryd.f33 (GG m t fr) [.lit (.int .u8 f), .agg [int d, int s, int z], str raw])).conds =
 (bif ((IntKind.wrap .u8 (((BitVec.toNat (HAnd.hAnd (BitVec.ofInt 8 f) (Complement.complement (BitVec.ofInt 8 (31 : Int))))) : Nat) : Int)) == (0 : Int)) then
 bif ((wtE d s z) == (0 : Int)) then
 true
 else true
 else true : Bool) := by
  kernel_rfl
theorem flag31 {f : Int} (h0 : 0 ≤ f) (h1 : f < 256) : (IntKind.wrap .u8 (((BitVec.toNat (HAnd.hAnd (BitVec.ofInt 8 f) (Complement.complement (BitVec.ofInt 8 (31 : Int))))) : Nat) : Int) == (0 : Int)) = decide (f ≤ 31) := by
  obtain ⟨k, rfl⟩ : ∃ k : Nat, f = k := ⟨f.toNat, by omega⟩
  have : ∀ k : Fin 256, (IntKind.wrap .u8 (((BitVec.toNat (HAnd.hAnd (BitVec.ofInt 8 ((k.val : Nat) : Int)) (Complement.complement (BitVec.ofInt 8 (31 : Int))))) : Nat) : Int) == (0 : Int)) = decide (((k.val : Nat) : Int) ≤ 31) := by decide +kernel
  exact this ⟨k, by omega⟩
/-- whether flags, a time and a text may be -/
def fineB (f d s z : Int) (raw : ByteArray) : Bool := decide (f ≤ 31) && rightB d s z && decide (raw.size ≤ 65536)
def u8B (f : Int) : Bool := decide (0 ≤ f) && decide (f < 256)
def fineG : List PV → Tr PV
  | [.lit (.int .u8 f), .agg [.lit (.int .i64 d), .lit (.int .i64 s), .lit (.int .i64 z)], .lit (.string raw)] => .br (u8B f) (.leaf (bool (fineB f d s z raw))) .fail
  | _ => .fail
theorem fine_ok : PureOK Tryd.prog (GG m t fr) 33 fineG := by
  refine PureOK.of (fn_pure mixed E5_ok (envOf_cuts ..) (fn := Tryd.f33) (by kernel_rfl)) fun ps p hp => ?_
  unfold fineG at hp
  split at hp
  · rename_i f d s z raw
    obtain ⟨hc, hq⟩ := br_run hp
    clear hp
    simp only [Tr.run, Option.some.injEq] at hq
    subst hq
    have hv := fi_raw_v m t fr f d s z raw
    have hcc := fi_raw_c m t fr f d s z raw
    unfold u8B at hc
    simp only [Bool.and_eq_true, decide_eq_true_eq] at hc
    rw [flag31 hc.1 hc.2] at hv hcc
    have hw : (wtE d s z == 0) = rightB d s z := by
      unfold wtE
      cases rightB d s z <;> rfl
    have hr : decide ((((raw.size : Nat) : Int)) ≤ 65536) = decide (raw.size ≤ 65536) := decide_eq_decide.2 (by omega)
    rw [hw] at hv hcc
    rw [hr] at hv
    unfold fineB
    cases c1 : decide (f ≤ 31) <;> cases c2 : rightB d s z <;>
      (simp only [c1, c2, cond_true, cond_false] at hv hcc; exact ⟨_, Tr.run_vc hv hcc rfl rfl, PLe.of_eq (by simp)⟩)
  · cases hp
def bgPure : List (Nat × (List PV → Tr PV)) := (33, fineG) :: libPure
theorem bgPure_ok {m : Int} {t : TypeId} {fr : Nat × Nat} : TabOK Tryd.prog (GG m t fr) bgPure := (TabOK.cons fine_ok (fn := Tryd.f33) (by kernel_rfl) (by kernel_rfl) libPure_ok)
noncomputable abbrev E6 (G : GT) : Env := envOf Tryd.prog G bgPure libFull
theorem E6_ok : (E6 (GG m t fr)).ok Tryd.prog (GG m t fr) := envOf_ok mixed bgPure_ok libFull_ok
/-! ### mails in a row -/
structure Ml where
  u : Int
  f : Int
  d : Int
  s : Int
  z : Int
  r : ByteArray
deriving DecidableEq
def mlZ : Ml := ⟨0, 0, 0, 0, 0, ⟨#[]⟩⟩
def ml (l : List Ml) (i : Nat) : Ml := l.getD i mlZ
def mC (x : Ml) : List PV := [.lit (.int .u32 x.u), .lit (.int .u8 x.f), int x.d, int x.s, int x.z, str x.r]
def mRow (l : List Ml) (i : Nat) : List PV := mC (ml l i)
def mlR (x : Ml) : Bool := decide (0 ≤ x.u) && decide (x.u < 4294967296) && u8B x.f
def isMl : List PV → Bool
  | [.lit (.int .u32 u), .lit (.int .u8 f), .lit (.int .i64 _), .lit (.int .i64 _), .lit (.int .i64 _), .lit (.string _)] => decide (0 ≤ u) && decide (u < 4294967296) && u8B f
  | _ => false
def toMl : List PV → Ml
  | [.lit (.int .u32 u), .lit (.int .u8 f), .lit (.int .i64 d), .lit (.int .i64 s), .lit (.int .i64 z), .lit (.string r)] => ⟨u, f, d, s, z, r⟩
  | _ => mlZ
def areMls (n : Nat) (f : Nat → List PV) : Bool := (List.range n).all fun i => isMl (f i)
def mlsOf (n : Nat) (f : Nat → List PV) : List Ml := (List.range n).map fun i => toMl (f i)
theorem mls_len (n : Nat) (f : Nat → List PV) : (mlsOf n f).length = n := by simp [mlsOf]
theorem isMl_to {ps : List PV} (h : isMl ps = true) : ps = mC (toMl ps) ∧ mlR (toMl ps) = true := by
  unfold isMl at h
  split at h
  · exact ⟨rfl, h⟩
  · cases h
theorem mls_row {n : Nat} {f : Nat → List PV} (h : areMls n f = true) : ∀ i, i < n → f i = mRow (mlsOf n f) i := by
  intro i hi
  have := (isMl_to (List.all_eq_true.1 h i (List.mem_range.2 hi))).1
  unfold mRow ml mlsOf
  rw [List.getD_eq_getElem?_getD, List.getElem?_map, List.getElem?_range hi]
  exact this
theorem mls_R {n : Nat} {f : Nat → List PV} (h : areMls n f = true) : (mlsOf n f).all mlR = true := by
  rw [List.all_eq_true]
  intro x hx
  obtain ⟨i, hi, rfl⟩ := List.mem_map.1 hx
  exact (isMl_to (List.all_eq_true.1 h i hi)).2
theorem mls_mRow (l : List Ml) : mlsOf l.length (mRow l) = l := by
  unfold mlsOf
  refine List.ext_getElem (by simp) fun i h1 h2 => ?_
  simp [mRow, ml, mC, toMl, h2]
theorem are_mRow {l : List Ml} (h : l.all mlR = true) : areMls l.length (mRow l) = true := by
  refine List.all_eq_true.2 fun i hi => ?_
  have hi := List.mem_range.1 hi
  have hx : ml l i ∈ l := by
    unfold ml
    rw [List.getD_eq_getElem?_getD, List.getElem?_eq_getElem hi]
    exact List.getElem_mem hi
  exact List.all_eq_true.1 h _ hx
/-! ### Check -/
def ckOuts : Exit → Outs
  | .normal => { ks := [1, 3, 41, 42, 43], rs := [.slot 1] }
  | .exit _ => { ks := [] }
  | _ => { ks := [2] }
noncomputable abbrev ckRound (G : GT) := roundT Tryd.prog (E6 G) 60 G 72 ckOuts .normal (theLoop 0 Tryd.f16)
theorem ck_round (m : Int) (t : TypeId) (fr : Nat × Nat) (l : List Ml) (n : Nat) (v nx mk la last u i : Int) : (ckRound (GG m t fr) ([.ptr 0 0, .lit (.int .u32 last), .gsl 6 n (mRow l), int u, int i], [.cells 26 [.lit (.int .u32 v), .lit (.int .u64 nx), .lit (.int .u32 mk), .lit (.int .u32 la), .junk]])).run2 =
 (bif (decide (i < u)) then
 bif (decide ((Ml.u (ml l (Int.toNat i))) ≤ last)) then
 (.some ((.ret, ([(.lit (.int .i64 (2 : Int)))], [])), [true, true, true, true, true, true, true, true, true, true, true, ((decide ((0 : Int) ≤ i)) && (Nat.blt (Int.toNat i) n))]))
 else bif (decide ((IntKind.wrap .u64 (Ml.u (ml l (Int.toNat i)))) ≥ nx)) then
 (.some ((.ret, ([(.lit (.int .i64 (2 : Int)))], [])), [true, true, true, true, true, true, ((decide ((0 : Int) ≤ i)) && (Nat.blt (Int.toNat i) n))]))
 else bif (!(fineB (Ml.f (ml l (Int.toNat i))) (Ml.d (ml l (Int.toNat i))) (Ml.s (ml l (Int.toNat i))) (Ml.z (ml l (Int.toNat i))) (Ml.r (ml l (Int.toNat i))))) then
 (.some ((.ret, ([(.lit (.int .i64 (2 : Int)))], [])), [(u8B (Ml.f (ml l (Int.toNat i)))), ((decide ((0 : Int) ≤ i)) && (Nat.blt (Int.toNat i) n))]))
 else (.some ((.normal, ([(.ptr 0 0), (.lit (.int .u32 (Ml.u (ml l (Int.toNat i))))), (.gsl 6 n (fun i => mC (ml l i))), (.lit (.int .i64 u)), (.lit (.int .i64 (IntKind.wrap .i64 (i + (1 : Int)))))], [(.cells 26 [(.lit (.int .u32 v)), (.lit (.int .u64 nx)), (.lit (.int .u32 mk)), (.lit (.int .u32 la)), .junk])])), [(u8B (Ml.f (ml l (Int.toNat i)))), ((decide ((0 : Int) ≤ i)) && (Nat.blt (Int.toNat i) n))]))
 else (.some (((.exit 0), ([], [])), [])) : Option ((Exit × Kept) × List Bool)) := by
  kernel_rfl
end
end Go.Proofs.YtlngnfkjpfokhaaDoor.Ev

/- Rows of numbers. No condition. -/
namespace Go.Proofs.YtlngnfkjpfokhaaDoor.Ev
open Go Go.RowKit Go.Proofs Go.Proofs.YtlngnfkjpfokhaaDoor.Str
set_option linter.unusedVariables false
set_option linter.unusedSimpArgs false
/-! ### rows of numbers -/
def nu (l : List Int) (i : Nat) : Int := l.getD i 0
def nRow (l : List Int) (i : Nat) : List PV := [.lit (.int .u32 (nu l i))]
def numOf : List PV → Int
  | [.lit (.int .u32 a)] => a
  | _ => 0
def isNum : List PV → Bool
  | [.lit (.int .u32 a)] => decide (0 ≤ a) && decide (a < 4294967296)
  | _ => false
def numsOf (n : Nat) (f : Nat → List PV) : List Int := (List.range n).map fun i => numOf (f i)
def areNums (n : Nat) (f : Nat → List PV) : Bool := (List.range n).all fun i => isNum (f i)
def u32N (a : Int) : Bool := decide (0 ≤ a) && decide (a < 4294967296)
theorem nums_len (n : Nat) (f : Nat → List PV) : (numsOf n f).length = n := by simp [numsOf]
theorem isNum_eq {l : List PV} (h : isNum l = true) : l = [.lit (.int .u32 (numOf l))] ∧ u32N (numOf l) = true := by
  unfold isNum at h
  split at h
  · exact ⟨rfl, h⟩
  · cases h
theorem nums_row {n : Nat} {f : Nat → List PV} (h : areNums n f = true) (i : Nat) (hi : i < n) : f i = nRow (numsOf n f) i := by
  have h1 := List.all_eq_true.1 h i (List.mem_range.2 hi)
  have h2 : nu (numsOf n f) i = numOf (f i) := by simp [nu, numsOf, hi]
  unfold nRow
  rw [h2]
  exact (isNum_eq h1).1
theorem nums_u32 {n : Nat} {f : Nat → List PV} (h : areNums n f = true) : (numsOf n f).all u32N = true := by
  rw [List.all_eq_true]
  intro x hx
  simp only [numsOf, List.mem_map, List.mem_range] at hx
  obtain ⟨i, hi, rfl⟩ := hx
  exact (isNum_eq (List.all_eq_true.1 h i (List.mem_range.2 hi))).2
theorem nums_nRow (l : List Int) : numsOf l.length (nRow l) = l := by
  unfold numsOf
  refine List.ext_getElem (by simp) fun i h1 h2 => ?_
  simp [nRow, numOf, nu, h2]
theorem are_nRow {l : List Int} (h : l.all u32N = true) : areNums l.length (nRow l) = true := by
  unfold areNums
  rw [List.all_eq_true]
  intro i hi
  have hi := List.mem_range.1 hi
  have : nu l i = l[i] := by simp [nu, hi]
  have hu := List.all_eq_true.1 h l[i] (List.getElem_mem _)
  unfold nRow isNum
  rw [this]
  exact hu
theorem nu_drop {l : List Int} {i : Nat} {x : Int} {r : List Int} (h : l.drop i = x :: r) : i < l.length ∧ nu l i = x ∧ l.drop (i + 1) = r := by
  have hlt : i < l.length := by
    rcases Nat.lt_or_ge i l.length with h' | h'
    · exact h'
    · rw [List.drop_eq_nil_of_le h'] at h
      cases h
  rw [List.drop_eq_getElem_cons hlt] at h
  simp only [List.cons.injEq] at h
  refine ⟨hlt, ?_, h.2⟩
  rw [← h.1]
  simp [nu, hlt]
end Go.Proofs.YtlngnfkjpfokhaaDoor.Ev
