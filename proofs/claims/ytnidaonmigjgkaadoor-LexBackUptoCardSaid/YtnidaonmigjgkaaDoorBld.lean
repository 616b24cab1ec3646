/- strings.Builder's copyCheck, walked. No condition. -/
import Derived.Test.YtnidaonmigjgkaaDoorProg
import Derived.Test.YtnidaonmigjgkaaDoorEvLib
import Derived.WalkKit
import Derived.WalkSpells
import Derived.Lib.Builder
namespace Go.Proofs.YtnidaonmigjgkaaDoor.Ev
open Go Go.RowKit Go.Proofs
set_option linter.unusedVariables false
theorem bsize : ((Tryd.prog.info? 51).getD default).size = 2 := by kernel_rfl
theorem binfo : Tryd.prog.info? 51 = some ((Tryd.prog.info? 51).getD default) := by kernel_rfl
set_option maxHeartbeats 2000000 in
set_option maxRecDepth 100000 in
theorem copyCheck_calls : CheckCalls Tryd.prog 38 51 := by
  constructor
  · intro b w h0 hsh hfz
    go_enter Tryd.func38, Tryd.ntmps38
    go_wp2
    rw [Lib.run_to_unsafe w ⟨b, 0, none⟩ Tryd.underlying48 Tryd.underlying79 (j := (Tryd.prog.info? 51).getD default) (by kernel_rfl) (by rw [bsize]; decide) hsh (Nat.zero_lt_succ 1)]
    simp only [Result.andThen]
    rw [Oper.upon_value]
    go_wp2
    rw [run_callFunc_extern Tryd.func56 (by kernel_rfl) (by kernel_rfl) (by kernel_rfl) (e := Extern.AbiNoEscape.same) (by kernel_rfl)]
    rw [Lib.run_noEscape]
    simp only [Result.andThen]
    rw [Oper.upon_value]
    go_wp2
    rw [Lib.run_from_unsafe w ⟨b, 0, none⟩ Tryd.underlying79 Tryd.underlying48 (j := (Tryd.prog.info? 51).getD default) (by kernel_rfl) hsh (by kernel_rfl)]
    simp only [Result.andThen]
    rw [Oper.upon_value]
    go_wp2
    go_end0
    exact ⟨rfl, rfl⟩
  · intro b w h0
    go_enter Tryd.func38, Tryd.ntmps38
    go_wp2
    rw [Lib.run_neq_ptr_same w _ Tryd.underlying48 binfo]
    go_wp2
    go_end0
    exact ⟨rfl, rfl⟩
end Go.Proofs.YtnidaonmigjgkaaDoor.Ev
