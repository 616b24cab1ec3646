/- nset: an end's number, an end's word. No condition. -/
import Derived.Test.YtbpmfaghjlmjmaaDoorHelp
namespace Go.Proofs.YtbpmfaghjlmjmaaDoor.Ev
open Go Go.RowKit Go.Proofs Go.Proofs.YtbpmfaghjlmjmaaDoor.Str
set_option linter.unusedVariables false
set_option linter.unusedSimpArgs false
section
variable {m : Int} {t : TypeId} {fr : Nat × Nat}
noncomputable abbrev E1 (G : GT) : Env := envOf Tryd.prog G libPure libFull
theorem E1_ok : (E1 (GG m t fr)).ok Tryd.prog (GG m t fr) := envOf_ok mixed libPure_ok libFull_ok
-- from: end_raw [bs, okS, ls, puOk, puVal] (m : Int) (t : TypeId) (fr : Nat × Nat) (s : ByteArray) : (fnPure Tryd.prog (E1 (GG m t fr)) 60 Tryd.f33 (GG m t fr) [str s]).run2
theorem end_raw (m : Int) (t : TypeId) (fr : Nat × Nat) (s : ByteArray) : (fnPure Tryd.prog (E1 (GG m t fr)) 60 Tryd.f33 (GG m t fr) [str s]).run2 =
    (bif ((ByteArray.toList s) == (ByteArray.toList (.mk (List.toArray [(42 : UInt8)])))) then
        (.some ((.tup [(.lit (.int .u32 (0 : Int))), (.lit (.bool true))]), []))
      else bif ((ByteArray.toList s) == (ByteArray.toList (.mk (List.toArray [])))) then
          (.some ((.tup [(.lit (.int .u32 (0 : Int))), (.lit (.bool false))]), [true, true, true, true, true, true]))
        else bif (decide ((((UInt8.toNat (Array.getD (ByteArray.data s) 0 (0 : UInt8))) : Nat) : Int) < (49 : Int))) then
            (.some ((.tup [(.lit (.int .u32 (0 : Int))), (.lit (.bool false))]), [true, true, true, (Nat.blt 0 (List.length (ls s)))]))
          else bif (decide ((((UInt8.toNat (Array.getD (ByteArray.data s) 0 (0 : UInt8))) : Nat) : Int) > (57 : Int))) then
              (.some ((.tup [(.lit (.int .u32 (0 : Int))), (.lit (.bool false))]), [(Nat.blt 0 (List.length (ls s))), (Nat.blt 0 (List.length (ls s)))]))
            else bif (puOk s) then
                (.some ((.tup [(.lit (.int .u32 (IntKind.wrap .u32 (((puVal s) : Nat) : Int)))), (.lit (.bool true))]), [(okS s), (Nat.blt 0 (List.length (ls s))), (Nat.blt 0 (List.length (ls s)))]))
              else (.some ((.tup [(.lit (.int .u32 (IntKind.wrap .u32 (((puVal s) : Nat) : Int)))), (.lit (.bool false))]), [(okS s), (Nat.blt 0 (List.length (ls s))), (Nat.blt 0 (List.length (ls s)))])) : Option (PV × List Bool)) := by
  kernel_rfl
-- from: word_raw [bs, okS, ls, Lib.decDigits] (m : Int) (t : TypeId) (fr : Nat × Nat) (n : Int) : (fnPure Tryd.prog (E1 (GG m t fr)) 60 Tryd.f34 (GG m t fr) [.lit (.int .u32 n)]).run2
theorem word_raw (m : Int) (t : TypeId) (fr : Nat × Nat) (n : Int) : (fnPure Tryd.prog (E1 (GG m t fr)) 60 Tryd.f34 (GG m t fr) [.lit (.int .u32 n)]).run2 =
    (bif (n == (0 : Int)) then
        (.some ((.lit (.string (.mk (List.toArray [(42 : UInt8)])))), []))
      else (.some ((.lit (.string (bs (Lib.decDigits (Int.toNat (IntKind.wrap .u64 n)))))), [((decide ((0 : Int) ≤ (IntKind.wrap .u64 n))) && (decide ((IntKind.wrap .u64 n) < (18446744073709551616 : Int))))])) : Option (PV × List Bool)) := by
  kernel_rfl
/-- is a text an end? and its number -/
def endB (l : List UInt8) : Bool := decide (l = [42]) || (!decide (l = []) && (!decide ((l.getD 0 0).toNat < 49) && (!decide (57 < (l.getD 0 0).toNat) && puOk (bs l))))
def endV (l : List UInt8) : Int := bif decide (l = [42]) then 0 else bif decide (l = []) || (decide ((l.getD 0 0).toNat < 49) || decide (57 < (l.getD 0 0).toNat)) then 0 else IntKind.wrap .u32 ((puVal (bs l) : Nat) : Int)
def endG : List PV → Tr PV
  | [.lit (.string s)] => .br (okS s) (.leaf (.tup [.lit (.int .u32 (endV (ls s))), bool (endB (ls s))])) .fail
  | _ => .fail
theorem end_ok : PureOK Tryd.prog (GG m t fr) 33 endG := by
  refine PureOK.of (fn_pure mixed E1_ok (envOf_cuts ..) (fn := Tryd.f33) (by kernel_rfl)) fun ps p hp => ?_
  unfold endG at hp
  split at hp
  · rename_i s
    obtain ⟨hs, hp⟩ := br_run hp
    simp only [Tr.run, Option.some.injEq] at hp
    subst hp
    have h := end_raw m t fr s
    have e1 : ls (.mk (List.toArray [(42 : UInt8)])) = [42] := rfl
    have e2 : ls (.mk (List.toArray [])) = [] := rfl
    rw [eqB, eqB, e1, e2, getD_ls, show (49 : Int) = ((49 : Nat) : Int) from rfl, show (57 : Int) = ((57 : Nat) : Int) from rfl, byte_lt, byte_gt, hs] at h
    unfold endB endV
    rw [bs_ls]
    cases c1 : decide (ls s = [42]) with
    | true =>
      rw [c1] at h
      exact ⟨_, Tr.run_of h (by simp), PLe.of_eq rfl⟩
    | false =>
    rw [c1] at h
    cases c2 : decide (ls s = []) with
    | true =>
      rw [c2] at h
      exact ⟨_, Tr.run_of h (by simp), PLe.of_eq rfl⟩
    | false =>
    rw [c2] at h
    have hb : Nat.blt 0 (ls s).length = true := by
      rw [Nat.blt_eq]
      rcases Nat.eq_zero_or_pos (ls s).length with h0 | h0
      · exact absurd (List.eq_nil_of_length_eq_zero h0) (of_decide_eq_false c2)
      · exact h0
    rw [hb] at h
    cases c3 : decide (((ls s).getD 0 0).toNat < 49) with
    | true =>
      rw [c3] at h
      exact ⟨_, Tr.run_of h (by simp), PLe.of_eq rfl⟩
    | false =>
    rw [c3] at h
    cases c4 : decide (57 < ((ls s).getD 0 0).toNat) with
    | true =>
      rw [c4] at h
      exact ⟨_, Tr.run_of h (by simp), PLe.of_eq rfl⟩
    | false =>
    rw [c4] at h
    cases c5 : puOk s with
    | true =>
      rw [c5] at h
      exact ⟨_, Tr.run_of h (by simp), PLe.of_eq rfl⟩
    | false =>
      rw [c5] at h
      exact ⟨_, Tr.run_of h (by simp), PLe.of_eq rfl⟩
  · cases hp
def wordS (n : Int) : List UInt8 := bif n == 0 then [42] else Lib.decDigits n.toNat
def wordG : List PV → Tr PV
  | [.lit (.int .u32 n)] => .br (decide (0 ≤ n) && decide (n < 4294967296)) (.leaf (str (bs (wordS n)))) .fail
  | _ => .fail
theorem word_ok : PureOK Tryd.prog (GG m t fr) 34 wordG := by
  refine PureOK.of (fn_pure mixed E1_ok (envOf_cuts ..) (fn := Tryd.f34) (by kernel_rfl)) fun ps p hp => ?_
  unfold wordG at hp
  split at hp
  · rename_i n
    obtain ⟨hn, hp⟩ := br_run hp
    simp only [Bool.and_eq_true, decide_eq_true_eq] at hn
    simp only [Tr.run, Option.some.injEq] at hp
    subst hp
    have h := word_raw m t fr n
    have hw : IntKind.wrap .u64 n = n := by rw [IntKind.wrap_u64]; omega
    rw [hw] at h
    unfold wordS
    cases c1 : n == 0 with
    | true =>
      rw [c1] at h
      exact ⟨_, Tr.run_of h (by simp), PLe.of_eq rfl⟩
    | false =>
      rw [c1] at h
      exact ⟨_, Tr.run_of h (by simp; omega), PLe.of_eq rfl⟩
  · cases hp
end
end Go.Proofs.YtbpmfaghjlmjmaaDoor.Ev
