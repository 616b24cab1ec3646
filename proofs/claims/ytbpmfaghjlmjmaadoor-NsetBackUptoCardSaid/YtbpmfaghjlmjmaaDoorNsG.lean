/- nset: what the variables hold, from what the rows list. Condition: the rows' own. -/
import Derived.Test.YtbpmfaghjlmjmaaDoorFrame
import Derived.Test.YtbpmfaghjlmjmaaDoorNsLib
import Derived.Stop.LaidErr
namespace Go.Proofs.YtbpmfaghjlmjmaaDoor.Ev
open Go Go.RowKit Go.Proofs Go.ChangeShapes Go.WideShapes Go.ChangeAt
theorem starX : "*" ++ "errors.errorString" = "*errors.errorString" := by decide
theorem rowErr (u : TypeId) (h : Tryd.prog.typeName? 3 u = some "*errors.errorString") : u = 140 :=
  typeName_ptr_named (P := Tryd.prog) (nm := "errors.errorString") (by rw [starX]; kernel_rfl) (by kernel_rfl) (by decide) u (by rw [starX]; exact h)
/-- what is known of a world: all that it holds -/
def Held (W : World) (b o : Nat) (v : Value) : Prop := W.cell? ⟨b, o, none⟩ = some v
theorem gptr1 {C : Nat → Nat → Value → Prop} {m : Nat → Option Value} {g : Nat} {p : PV} {v : Value} (hc : C g 0 v) (h1 : v.oneCell' = true) (h : Rep C (fun _ => none) p v) : Rep C m (.gptr [p]) (.pointer (some ⟨g, 0, none⟩)) := by
  refine .gptr m [p] g 0 (fun _ => v) (fun j hj => ?_) (fun j q hq => ?_)
  · have : j = 0 := by simp at hj; exact hj
    subst this
    exact ⟨hc, h1⟩
  · cases j with
    | zero =>
      simp only [List.getElem?_cons_zero, Option.some.injEq] at hq
      subst hq
      exact h
    | succ j => simp at hq
theorem globsW {W : World} (hS : W.ShapedOpen Tryd.prog) (hL : laidMetH Tryd.prog Rows.nsetPacksUptoRow.laid W) : ∃ m t fr, Globs (GG m t fr) (Held W) ∧ Objs (GG m t fr) W := by
  have hL2 := laid_plain (l := Rows.nsetPacksUptoRow.laid) (by kernel_rfl) hL
  have hd : Rows.laid_internal_strconv_uint64pow10 = Lib.tabData (H := Unit) .u64 Lib.pow10Tab := by kernel_rfl
  have hT := tab_of_reads (g := 5) (t := 137) (e := 28) (n := 20) (by kernel_rfl) (by kernel_rfl) Tryd.underlying137 Tryd.underlying28 (by kernel_rfl) (by kernel_rfl) (hd ▸ Lib.laidMet.reads hL2 (.tail _ (.tail _ (.head _))))
  obtain ⟨m, hm⟩ := cell_of_shapedOpen_int (g := 0) (t := 3) (zero := #[.int .i64 0]) (k := .i64) hS (of_decide_eq_true (by kernel_rfl)) (by kernel_rfl) rfl (by kernel_rfl) (by kernel_rfl) Tryd.underlying3
  obtain ⟨a0, s0, hv0, -, -, -⟩ := laid_sentinel (hL2.tail.tail.tail.tail) (g := 4) (ti := 75) (tp := 140) (te := 142) (ts := 9) (by kernel_rfl) (by kernel_rfl) Tryd.underlying75 rowErr Tryd.underlying140 Tryd.underlying142 rfl rfl Tryd.underlying9 (by kernel_rfl) (by kernel_rfl)
  obtain ⟨a1, s1, hv1, -, -, -⟩ := laid_sentinel (hL2.tail.tail.tail.tail.tail) (g := 3) (ti := 75) (tp := 140) (te := 142) (ts := 9) (by kernel_rfl) (by kernel_rfl) Tryd.underlying75 rowErr Tryd.underlying140 Tryd.underlying142 rfl rfl Tryd.underlying9 (by kernel_rfl) (by kernel_rfl)
  have hc0 : Held W 4 0 (.iface 140 (.pointer (some a0))) := by
    have h0 := World.var?_cell (g := 4) (by kernel_rfl) hv0 0
    unfold Held
    simpa using h0
  have hc1 : Held W 3 0 (.iface 140 (.pointer (some a1))) := by
    have h0 := World.var?_cell (g := 3) (by kernel_rfl) hv1 0
    unfold Held
    simpa using h0
  have hob : ∃ t fr, W.heap[5]? = some (.cells ((Lib.pow10Tab.map fun z => Value.int .u64 z).toArray) t fr) := by
    unfold Lib.TabIs World.var? at hT
    have hg : Tryd.prog.globalNamed "internal/strconv.uint64pow10" = some 5 := by kernel_rfl
    rw [hg] at hT
    simp only [Option.bind_some] at hT
    split at hT
    · rename_i cs t fr hh
      simp only [Option.some.injEq] at hT
      subst hT
      exact ⟨t, fr, hh⟩
    · cases hT
  obtain ⟨t, fr, ho⟩ := hob
  refine ⟨m, t, fr, fun g cs hg => ?_, fun g o hg => ?_⟩
  · unfold GG at hg
    dsimp only at hg
    split at hg
    · rename_i he
      obtain rfl := Nat.eq_of_beq_eq_true he
      cases hg
      exact gptr1 hm rfl (.lit _ _)
    · split at hg
      · rename_i he
        cases hg
        simp only [Bool.or_eq_true] at he
        rcases he with he | he
        · obtain rfl := Nat.eq_of_beq_eq_true he
          exact gptr1 hc1 rfl (.iface _ _ _ _ (.junk _ _))
        · obtain rfl := Nat.eq_of_beq_eq_true he
          exact gptr1 hc0 rfl (.iface _ _ _ _ (.junk _ _))
      · cases hg
  · unfold GG at hg
    dsimp only at hg
    split at hg
    · rename_i he
      obtain rfl := Nat.eq_of_beq_eq_true he
      cases hg
      exact ho
    · cases hg
theorem RepL.ofLits {C : Nat → Nat → Value → Prop} (vs : List Value) : RepL C (vs.map PV.lit) vs.toArray := by
  refine ⟨by simp, fun i p v hp hv => ?_⟩
  rw [List.getElem?_map] at hp
  have hv' : vs[i]? = some v := by simpa using hv
  rw [hv'] at hp
  simp only [Option.map_some, Option.some.injEq] at hp
  subst hp
  exact .lit _ _
/-- a function that answers true at these arguments, called in a world that fits -/
theorem walkTrue {G : GT} {W : World} (hG : Globs G (Held W)) (hO : Objs G W) {f : FuncId} {g : List PV → Tr PV} (h : PureOK Tryd.prog G f g) {ps : List PV} {args : Array Value} (hg : (g ps).run = some (bool true)) (hr : RepL (Held W) ps args) :
    Calls Tryd.prog f args W fun e w' => e = .returned (.bool true) ∧ Below W.heap.size W w' := by
  refine (h ps _ hg W (Held W) (fun b o v h => h) hG hO args hr).mono ?_
  rintro (v | e) w' hq
  · obtain ⟨hk, hp⟩ := hq
    cases hp
    exact ⟨rfl, hk.os, hk.tape, hk.output, hk.size, hk.block⟩
  all_goals exact hq.elim
end Go.Proofs.YtbpmfaghjlmjmaaDoor.Ev
