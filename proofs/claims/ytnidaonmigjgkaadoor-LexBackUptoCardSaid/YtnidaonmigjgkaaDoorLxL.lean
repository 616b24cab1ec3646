/- lex: the law of the next command. No condition. -/
import Derived.Test.YtnidaonmigjgkaaDoorLxF
namespace Go.Proofs.YtnidaonmigjgkaaDoor.Ev
open Go Go.RowKit Go.Proofs Go.Proofs.YtnidaonmigjgkaaDoor.Str
set_option linter.unusedVariables false
set_option linter.unusedSimpArgs false
section
variable {m : Int} {t : TypeId} {fr : Nat × Nat}
theorem lives_raw (m : Int) (t : TypeId) (fr : Nat × Nat) : (fnPure Tryd.prog (E1 (GG m t fr)) 60 Tryd.f10 (GG m t fr) []).run = some (bool true) := by
  kernel_rfl
def livesG : List PV → Tr PV
  | [] => .leaf (bool true)
  | _ => .fail
theorem lives_ok : PureOK Tryd.prog (GG m t fr) 10 livesG := by
  refine PureOK.of (fn_pure mixed E1_ok (envOf_cuts ..) (fn := Tryd.f10) (by kernel_rfl)) fun ps p hp => ?_
  unfold livesG at hp
  split at hp
  · simp only [Tr.run, Option.some.injEq] at hp
    subst hp
    exact ⟨_, lives_raw m t fr, PLe.of_eq rfl⟩
  · cases hp
def lawPure : List (Nat × (List PV → Tr PV)) := (10, livesG) :: (6, nextG) :: (7, nextG) :: annPure
theorem lawPure_ok : TabOK Tryd.prog (GG m t fr) lawPure :=
  TabOK.cons lives_ok (fn := Tryd.f10) (by kernel_rfl) (by kernel_rfl) (TabOK.cons next_ok (fn := Tryd.f6) (by kernel_rfl) (by kernel_rfl) (TabOK.cons rnext_ok (fn := Tryd.f7) (by kernel_rfl) (by kernel_rfl) annPure_ok))
noncomputable abbrev E4 (G : GT) : Env := envOf Tryd.prog G lawPure libFull
theorem E4_ok : (E4 (GG m t fr)).ok Tryd.prog (GG m t fr) := envOf_ok mixed lawPure_ok libFull_ok
-- from: lexNext_raw [bs, okS, annI, annR, ls, nrA, nrB, nrC, nextF] (m : Int) (t : TypeId) (fr : Nat × Nat) (s : ByteArray) : (fnPure Tryd.prog (E4 (GG m t fr)) 60 Tryd.f3 (GG m t fr) [str s]).run2
theorem lexNext_raw (m : Int) (t : TypeId) (fr : Nat × Nat) (s : ByteArray) : (fnPure Tryd.prog (E4 (GG m t fr)) 60 Tryd.f3 (GG m t fr) [str s]).run2 =
    (bif ((ByteArray.toList (bs (nrA (ls s) (nextF 17 0 0 (ls s))))) == (ByteArray.toList (bs (nrA (ls s) (nextF 17 0 0 (ls s)))))) then
        bif ((ByteArray.toList (bs (nrB (nextF 17 0 0 (ls s))))) == (ByteArray.toList (bs (nrB (nextF 17 0 0 (ls s)))))) then
          bif ((nrC (nextF 17 0 0 (ls s))) == (nrC (nextF 17 0 0 (ls s)))) then
            bif ((((annR (ls s)) : Nat) : Int) == (((annR (ls s)) : Nat) : Int)) then
              (.some ((.lit (.bool ((annI (ls s)) == (annI (ls s))))), [(okS s), (okS s), (okS s), (okS s)]))
            else (.some ((.lit (.bool false)), [(okS s), (okS s), (okS s), (okS s)]))
          else (.some ((.lit (.bool false)), [(okS s), (okS s), (okS s), (okS s)]))
        else (.some ((.lit (.bool false)), [(okS s), (okS s), (okS s), (okS s)]))
      else (.some ((.lit (.bool false)), [(okS s), (okS s), (okS s), (okS s)])) : Option (PV × List Bool)) := by
  kernel_rfl
def trueStr : List PV → Tr PV
  | [.lit (.string s)] => .br (okS s) (.leaf (bool true)) .fail
  | _ => .fail
theorem lexNext_ok : PureOK Tryd.prog (GG m t fr) 3 trueStr := by
  refine PureOK.of (fn_pure mixed E4_ok (envOf_cuts ..) (fn := Tryd.f3) (by kernel_rfl)) fun ps p hp => ?_
  unfold trueStr at hp
  split at hp
  · rename_i s
    obtain ⟨hs, hp⟩ := br_run hp
    simp only [Tr.run, Option.some.injEq] at hp
    subst hp
    have h := lexNext_raw m t fr s
    rw [beq_self_eq_true, beq_self_eq_true, beq_self_eq_true, beq_self_eq_true, beq_self_eq_true] at h
    exact ⟨_, Tr.run_of h (by simp [hs]), PLe.of_eq rfl⟩
  · cases hp
end
end Go.Proofs.YtnidaonmigjgkaaDoor.Ev
