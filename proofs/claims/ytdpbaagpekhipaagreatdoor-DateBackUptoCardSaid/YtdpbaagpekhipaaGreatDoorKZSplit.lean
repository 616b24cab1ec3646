/- strings.Split at a mark of at least one byte: a new slice of the pieces. Conditions: the variables (GlobOK), a text of at most 2000000 bytes. -/
import Derived.Test.YtdpbaagpekhipaaGreatDoorKZShelf
import Derived.Test.YtdpbaagpekhipaaGreatDoorKZGlob
import Derived.Test.YtdpbaagpekhipaaGreatDoorKZW0
namespace Go.Proofs.YtdpbaagpekhipaaGreatDoor
open Go.RowKit Go.Proofs.YtdpbaagpekhipaaGreatDoorW.PrintWords Go.Proofs.YtdpbaagpekhipaaGreatDoorW.PrintLast
set_option linter.unusedVariables false
def strings_Split.f (s sep : ByteArray) : Option (List ByteArray) := if s.size ≤ 2000000 ∧ 1 ≤ sep.size then some (Lib.splitB sep 0 (Lib.countB s sep) s) else none
theorem strings_Split.calls (a0 a1 : ByteArray) (r : List ByteArray) (w : World) (hG : GlobOK w) (h : strings_Split.f a0 a1 = some r) :
    Calls Tryz.prog 21 #[.string a0, .string a1] w fun e w' => ∃ v0_ : Value, e = .returned v0_ ∧ Kd.R Kd.string 9 w' w.heap.size (fun _ => True) v0_ r ∧ Below w.heap.size w w' := by
  unfold strings_Split.f at h
  split at h
  · rename_i g
    obtain rfl := Option.some.inj h
    obtain ⟨m, hm⟩ := hG.max
    have hl : (Lib.splitB a1 0 (Lib.countB a0 a1) a0).length = Lib.countB a0 a1 + 1 := Lib.splitB_all a1 g.2 0 _ a0 rfl
    have hc : Lib.countB a0 a1 ≤ a0.size := Lib.countB_le a1 g.2 _ a0 (Nat.le_refl _)
    refine (Tryz.strings_Split a0 a1 m w (by omega) hm g.2).mono fun e w' ⟨he, hw⟩ => ⟨_, he, ?_, ?_⟩
    · rw [← hl]
      refine Kd.R_of_own ?_ (fun _ _ => trivial)
      refine ⟨by simp [encs], .inr ⟨w.heap.size, _, _, rfl, Nat.le_refl _, by rw [hw]; exact heap_alloc_new _ _, Nat.le_refl _, ?_, by simp, ?_⟩⟩
      · unfold maxLen; omega
      · rw [show (Lib.splitB a1 0 (Lib.countB a0 a1) a0).length * 1 = (encs Value.string (Lib.splitB a1 0 (Lib.countB a0 a1) a0)).length by simp [encs]]
        exact List.take_length
    · rw [hw]; exact (Below.refl _ _).alloc (Nat.le_refl _) _
  · cases h
end Go.Proofs.YtdpbaagpekhipaaGreatDoor

