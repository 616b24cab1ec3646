/- JBoxPlaces21: several texts in one. Condition: each part's own. -/
import Derived.Test.YtlngnfkjpfokhaaDoorJBoxPlaces11
import Derived.Test.YtlngnfkjpfokhaaDoorJBoxPlaces07
import Derived.Stop.LaidErr
/- box: what the variables hold, from what the rows list. Condition: the rows' own. -/
namespace Go.Proofs.YtlngnfkjpfokhaaDoor.Ev
open Go Go.RowKit Go.Proofs Go.ChangeShapes Go.WideShapes Go.ChangeAt
theorem globsW {W : World} (_hS : W.ShapedOpen Tryd.prog) (hL : laidMetH Tryd.prog Rows.boxDoesUptoRow.laid W) : ∃ m t fr, Globs (GG m t fr) (Held W) ∧ Objs (GG m t fr) W := by
  have hL2 := laid_plain (l := Rows.boxDoesUptoRow.laid) (by kernel_rfl) hL
  have hd : Rows.laid_internal_strconv_uint64pow10 = Lib.tabData (H := Unit) .u64 Lib.pow10Tab := by kernel_rfl
  have hT := tab_of_reads (g := 0) (t := 127) (e := 23) (n := 20) (by kernel_rfl) (by kernel_rfl) Tryd.underlying127 Tryd.underlying23 (by kernel_rfl) (by kernel_rfl) (hd ▸ Lib.laidMet.reads hL2 (.tail _ (.tail _ (.head _))))
  have hob : ∃ t fr, W.heap[0]? = some (.cells ((Lib.pow10Tab.map fun z => Value.int .u64 z).toArray) t fr) := by
    unfold Lib.TabIs World.var? at hT
    have hg : Tryd.prog.globalNamed "internal/strconv.uint64pow10" = some 0 := by kernel_rfl
    rw [hg] at hT
    simp only [Option.bind_some] at hT
    split at hT
    · rename_i cs t fr hh
      simp only [Option.some.injEq] at hT
      subst hT
      exact ⟨t, fr, hh⟩
    · cases hT
  obtain ⟨t, fr, ho⟩ := hob
  refine ⟨0, t, fr, fun g cs hg => ?_, fun g o hg => ?_⟩
  · unfold GG gxTab at hg
    cases hg
  · unfold GG at hg
    dsimp only at hg
    split at hg
    · rename_i he
      obtain rfl := Nat.eq_of_beq_eq_true he
      cases hg
      exact ho
    · cases hg
end Go.Proofs.YtlngnfkjpfokhaaDoor.Ev
