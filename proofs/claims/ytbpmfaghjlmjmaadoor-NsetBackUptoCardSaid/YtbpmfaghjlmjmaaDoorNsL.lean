/- nset: what the laws ask of the program at fixed numbers. No condition. -/
import Derived.Test.YtbpmfaghjlmjmaaDoorNsB
namespace Go.Proofs.YtbpmfaghjlmjmaaDoor.Ev
open Go Go.RowKit Go.Proofs Go.Proofs.YtbpmfaghjlmjmaaDoor.Str
set_option linter.unusedVariables false
section
variable {m : Int} {t : TypeId} {fr : Nat × Nat}
theorem lives_raw (m : Int) (t : TypeId) (fr : Nat × Nat) : (fnPure Tryd.prog (E4 (GG m t fr)) 60 Tryd.f12 (GG m t fr) []).run = some (bool true) := by kernel_rfl
def livesG : List PV → Tr PV
  | [] => .leaf (bool true)
  | _ => .fail
theorem lives_ok : PureOK Tryd.prog (GG m t fr) 12 livesG := by
  refine PureOK.of (fn_pure mixed E4_ok (envOf_cuts ..) (fn := Tryd.f12) (by kernel_rfl)) fun ps p hp => ?_
  unfold livesG at hp
  split at hp
  · simp only [Tr.run, Option.some.injEq] at hp
    subst hp
    exact ⟨_, lives_raw m t fr, PLe.of_eq rfl⟩
  · cases hp
end
end Go.Proofs.YtbpmfaghjlmjmaaDoor.Ev
