/- strings.Cut: what is ahead of a mark, and behind it. Conditions: the variables (GlobOK), a text of fewer than 4294967281 bytes. -/
import Derived.Test.YtdpbaagpekhipaaGreatDoorKZShelf
import Derived.Test.YtdpbaagpekhipaaGreatDoorKZGlob
import Derived.Test.YtdpbaagpekhipaaGreatDoorKZW0
namespace Go.Proofs.YtdpbaagpekhipaaGreatDoor
open Go.RowKit Go.Proofs.YtdpbaagpekhipaaGreatDoorW.PrintWords
set_option linter.unusedVariables false
def strings_Cut.f (s sep : ByteArray) : Option (ByteArray × ByteArray × Bool) :=
  if s.size < 4294967281 then some (⟨(Lib.cut s.data.toList sep.data.toList).1.toArray⟩, ⟨(Lib.cut s.data.toList sep.data.toList).2.1.toArray⟩, (Lib.cut s.data.toList sep.data.toList).2.2) else none
theorem strings_Cut.calls (a0 a1 : ByteArray) (r1 r2 : ByteArray) (r3 : Bool) (w : World) (hG : GlobOK w) (h : strings_Cut.f a0 a1 = some (r1, r2, r3)) :
    Calls Tryz.prog 31 #[.string a0, .string a1] w fun e w' => e = .returned (.tuple #[.string r1, .string r2, .bool r3]) ∧ Drawn0 w w' := by
  unfold strings_Cut.f at h
  split at h
  · rename_i g
    simp only [Option.some.injEq, Prod.mk.injEq] at h
    obtain ⟨rfl, rfl, rfl⟩ := h
    obtain ⟨m, hm⟩ := hG.max
    exact (Tryz.strings_Cut a0 a1 m w g hm).mono fun e w' ⟨he, n, hw⟩ => ⟨he, ⟨n, hw⟩⟩
  · cases h
end Go.Proofs.YtdpbaagpekhipaaGreatDoor

