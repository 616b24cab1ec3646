/- strings.FieldsFunc at date.Mail's own test (a space or a tab): a new slice of the words. Condition: a text of at most 4294967296 bytes. -/
import Derived.Test.YtdpbaagpekhipaaGreatDoorKZShelf
import Derived.Test.YtdpbaagpekhipaaGreatDoorKZW0
import Derived.WalkKit
namespace Go.Proofs.YtdpbaagpekhipaaGreatDoor
open Go.RowKit Go.Proofs.YtdpbaagpekhipaaGreatDoorW.PrintWords
set_option linter.unusedVariables false
def isBlank (r : Nat) : Bool := r == 32 || r == 9
theorem blank_gives (w : World) : PredAt Tryz.prog 33 #[] encR isBlank w := by
  intro W r _
  unfold FnGives
  have hb : isBlank r = (r == 32 || r == 9) := rfl
  rw [hb]
  by_cases h1 : r = 32
  · subst h1
    go_enter Tryz.func33, Tryz.ntmps33
    go_wp2
    go_ret
    exact ⟨rfl, 0, rfl⟩
  · by_cases h2 : r = 9
    · subst h2
      go_enter Tryz.func33, Tryz.ntmps33
      go_wp2
      go_ret
      exact ⟨rfl, 0, rfl⟩
    · have b1 : ((r : Int) == 32) = false := by simp; omega
      have b2 : ((r : Int) == 9) = false := by simp; omega
      have b3 : (r == 32 || r == 9) = false := by simp [h1, h2]
      rw [b3]
      go_enter Tryz.func33, Tryz.ntmps33
      go_wp2
      go_ret
      exact ⟨rfl, 0, rfl⟩
def strings_FieldsFunc.f (s : ByteArray) (g : Nat) : Option (List ByteArray) := if g = 33 ∧ s.size ≤ 2000000 then some (Lib.goFieldsP isBlank s) else none
theorem strings_FieldsFunc.calls (a0 : ByteArray) (a1 : Nat) (r : List ByteArray) (w : World) (h : strings_FieldsFunc.f a0 a1 = some r) :
    Calls Tryz.prog 32 #[.string a0, .func (.func a1) #[] #[]] w fun e w' => ∃ v0_ : Value, e = .returned v0_ ∧ Kd.R Kd.string 9 w' w.heap.size (fun _ => True) v0_ r ∧ Below w.heap.size w w' := by
  unfold strings_FieldsFunc.f at h
  split at h
  · rename_i g
    obtain rfl := Option.some.inj h
    obtain ⟨rfl, g⟩ := g
    refine (Tryz.strings_FieldsFunc 33 #[] (enters_of Tryz.func33 (by kernel_rfl) rfl) isBlank a0 w (by omega) (blank_gives w)).mono fun e w' ⟨B, he, hB, ho, hb⟩ => ⟨_, he, ?_, hb⟩
    refine Kd.R_of_own ?_ (fun _ _ => trivial)
    exact ho
  · cases h
end Go.Proofs.YtdpbaagpekhipaaGreatDoor

