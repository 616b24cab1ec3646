/- JTopSaved10: several texts in one. Condition: each part's own. -/
import Derived.Test.YtnmgdcggfjnmeaaGreatDoorJTopSaved08
import Derived.Test.YtnmgdcggfjnmeaaGreatDoorJTopSaved09
import Derived.Laws.StructEq
import Derived.Test.YtnmgdcggfjnmeaaGreatDoorJTopSaved00
import Derived.RangeFuncBound
import Derived.RangeFuncCalls
import Derived.Shelf.Abstract
import Derived.WalkKit
import Derived.OwnWalkIn
import Derived.TacticsInMore
import Derived.LoopNIn
import Derived.LoopIn
import Derived.Maps.AppendAt
import Derived.Lib.IndexLaws
/- Small lemmas on bytes, rows and whole numbers. No condition. -/
namespace Go.Proofs.YtnmgdcggfjnmeaaGreatDoor.Ev
open Go Go.RowKit Go.Proofs Go.Proofs.YtnmgdcggfjnmeaaGreatDoor.Str
set_option linter.unusedVariables false
set_option linter.unusedSimpArgs false

theorem beqD {α : Type} [BEq α] [LawfulBEq α] [DecidableEq α] (a b : α) : (a == b) = decide (a = b) := by
  by_cases h : a = b
  · rw [decide_eq_true h, h]
    exact beq_self_eq_true b
  · rw [decide_eq_false h]
    exact beq_false_of_ne h
theorem bs_ls (s : ByteArray) : bs (ls s) = s := mk_ls s
theorem ls_bs (l : List UInt8) : ls (bs l) = l := ls_mk l
theorem bs_len (l : List UInt8) : (bs l).size = l.length := by rw [← ls_len, ls_bs]
theorem eqB (s t : ByteArray) : (ByteArray.toList s == ByteArray.toList t) = decide (ls s = ls t) := by
  rw [ByteArray.toList_eq, ByteArray.toList_eq, beqD]
  rfl
theorem bs_ext (s : ByteArray) (a b : Nat) : s.extract a b = bs (((ls s).take b).drop a) := ls_inj (by rw [ls_ext, ls_bs])
theorem getD_ls (s : ByteArray) (i : Nat) : Array.getD s.data i (0 : UInt8) = (ls s).getD i 0 := by
  simp [ls, Array.getD, List.getD]
  split <;> simp_all
theorem byte_eq (c d : UInt8) : ((c.toNat : Int) == (d.toNat : Int)) = decide (c = d) := by
  rw [beqD]
  congr 1
  refine propext ⟨fun h => UInt8.toNat_inj.1 (by omega), fun h => by rw [h]⟩
theorem byte_lt (c : UInt8) (d : Nat) : decide (((c.toNat : Nat) : Int) < (d : Int)) = decide (c.toNat < d) := by
  rw [decide_eq_decide]
  omega
theorem byte_gt (c : UInt8) (d : Nat) : decide (((c.toNat : Nat) : Int) > (d : Int)) = decide (d < c.toNat) := by
  rw [decide_eq_decide]
  omega
theorem ext_tail (c : UInt8) (r : List UInt8) : (bs (c :: r)).extract 1 (c :: r).length = bs r := by
  rw [bs_ext, ls_bs, List.take_length]
  rfl
theorem snoc (l : List UInt8) : l = [] ∨ ∃ a x, l = a ++ [x] := by
  rcases List.eq_nil_or_concat l with h | ⟨a, x, h⟩
  · exact .inl h
  · exact .inr ⟨a, x, by rw [h, List.concat_eq_append]⟩
theorem ext_last (a : List UInt8) (x : UInt8) : (bs (a ++ [x])).extract 0 a.length = bs a := by
  rw [bs_ext, ls_bs]
  simp
theorem wrap_pred {n : Nat} (h : n ≤ 4294967296) : IntKind.i64.wrap ((n : Int) - 1) = (n : Int) - 1 := by
  simp [IntKind.wrap, IntKind.bits, IntKind.signed]
  omega
theorem wrap_mid {i : Int} (h1 : -4611686018427387904 ≤ i) (h2 : i ≤ 4611686018427387904) : IntKind.i64.wrap i = i := by
  simp [IntKind.wrap, IntKind.bits, IntKind.signed]
  omega
theorem wrap_u8 {n : Nat} (h : n < 256) : IntKind.u8.wrap (n : Int) = n := by
  simp [IntKind.wrap, IntKind.bits, IntKind.signed]
  omega
theorem get_drop {s : ByteArray} {i : Nat} {c : UInt8} {r : List UInt8} (h : (ls s).drop i = c :: r) : i < s.size ∧ s.data.getD i 0 = c ∧ (ls s).drop (i + 1) = r := by
  have hlt : i < (ls s).length := by
    rcases Nat.lt_or_ge i (ls s).length with h' | h'
    · exact h'
    · rw [List.drop_eq_nil_of_le h'] at h
      cases h
  rw [List.drop_eq_getElem_cons hlt] at h
  simp only [List.cons.injEq] at h
  refine ⟨by rw [← ls_len]; exact hlt, ?_, h.2⟩
  rw [← h.1]
  have h1 : i < s.data.size := by simpa [ls] using hlt
  have h2 : i < s.size := h1
  simp [ls, Array.getD, h2]
theorem app_lo {n i : Nat} (f g : Nat → List PV) (h : i < n) : rowApp n f g i = f i := by
  have : Nat.blt i n = true := by rw [Nat.blt_eq]; exact h
  unfold rowApp
  rw [this]
theorem app_hi (n i : Nat) (f g : Nat → List PV) : rowApp n f g (n + i) = g i := by
  have h1 : Nat.blt (n + i) n = false := by rw [Bool.eq_false_iff, ne_eq, Nat.blt_eq]; omega
  unfold rowApp
  rw [h1, Nat.add_sub_cancel_left]
def bRow (l : List UInt8) (i : Nat) : List PV := [.lit (.int .u8 (((l.getD i 0).toNat : Nat) : Int))]
theorem app_push (k : Nat) (f : Nat → List PV) (c : UInt8) (l : List UInt8) (i : Nat) : rowApp (k + 1) (rowApp k f (rowOf [.lit (.int .u8 ((c.toNat : Nat) : Int))] 1)) (bRow l) i = rowApp k f (bRow (c :: l)) i := by
  unfold rowApp
  rcases Nat.lt_trichotomy i k with h | h | h
  · have h1 : Nat.blt i k = true := by rw [Nat.blt_eq]; exact h
    have h2 : Nat.blt i (k + 1) = true := by rw [Nat.blt_eq]; omega
    rw [h1, h2]
  · subst h
    have h1 : Nat.blt i i = false := by rw [Bool.eq_false_iff, ne_eq, Nat.blt_eq]; omega
    have h2 : Nat.blt i (i + 1) = true := by rw [Nat.blt_eq]; omega
    rw [h1, h2, Nat.sub_self]
    rfl
  · have h1 : Nat.blt i k = false := by rw [Bool.eq_false_iff, ne_eq, Nat.blt_eq]; omega
    have h2 : Nat.blt i (k + 1) = false := by rw [Bool.eq_false_iff, ne_eq, Nat.blt_eq]; omega
    rw [h1, h2]
    obtain ⟨j, rfl⟩ : ∃ j, i = k + 1 + j := ⟨i - (k + 1), by omega⟩
    have e1 : k + 1 + j - (k + 1) = j := by omega
    have e2 : k + 1 + j - k = j + 1 := by omega
    rw [e1, e2]
    rfl
theorem app_assoc (k : Nat) (f : Nat → List PV) (a b : List UInt8) (i : Nat) : rowApp (k + a.length) (rowApp k f (bRow a)) (bRow b) i = rowApp k f (bRow (a ++ b)) i := by
  rcases Nat.lt_or_ge i k with h | h
  · rw [app_lo _ _ (show i < k + a.length by omega), app_lo _ _ h, app_lo _ _ h]
  · obtain ⟨j, rfl⟩ : ∃ j, i = k + j := ⟨i - k, by omega⟩
    rw [app_hi]
    rcases Nat.lt_or_ge j a.length with h2 | h2
    · rw [app_lo _ _ (show k + j < k + a.length by omega), app_hi]
      simp [bRow, List.getElem?_append_left h2]
    · obtain ⟨e, rfl⟩ : ∃ e, j = a.length + e := ⟨j - a.length, by omega⟩
      have : k + (a.length + e) = k + a.length + e := by omega
      rw [this, app_hi]
      simp [bRow, List.getElem?_append_right]
theorem app_nil (k : Nat) (f : Nat → List PV) (i : Nat) (h : i < k + 0) (g : Nat → List PV) : f i = rowApp k f g i := by
  unfold rowApp
  have h1 : Nat.blt i k = true := by rw [Nat.blt_eq]; omega
  rw [h1]
theorem beq_ba (a b : ByteArray) : (a == b) = decide (a = b) := by
  rw [beq_toListBytes, eqB, decide_eq_decide]
  exact ⟨fun h => ls_inj h, fun h => by rw [h]⟩
theorem dropW_nil {p : UInt8 → Bool} : ∀ {l : List UInt8}, l.dropWhile p = [] ↔ l.all p = true
  | [] => by simp
  | c :: r => by
    rw [List.dropWhile_cons, List.all_cons]
    cases hc : p c with
    | true => simp [dropW_nil (l := r)]
    | false => simp
def smallS (s : ByteArray) : Bool := Nat.ble s.size 2000000
theorem smallS_le {s : ByteArray} (h : smallS s = true) : s.size ≤ 2000000 := Nat.le_of_ble_eq_true h
end Go.Proofs.YtnmgdcggfjnmeaaGreatDoor.Ev

/- nset: an end's number, an end's word. No condition. -/
namespace Go.Proofs.YtnmgdcggfjnmeaaGreatDoor.Ev
open Go Go.RowKit Go.Proofs Go.Proofs.YtnmgdcggfjnmeaaGreatDoor.Str
set_option linter.unusedVariables false
set_option linter.unusedSimpArgs false
section
variable {m : Int} {t : TypeId} {fr : Nat × Nat}
noncomputable abbrev E1 (G : GT) : Env := envOf Tryz.prog G libPure libFull
theorem E1_ok : (E1 (GG m t fr)).ok Tryz.prog (GG m t fr) := envOf_ok mixed libPure_ok libFull_ok
theorem end_raw (m : Int) (t : TypeId) (fr : Nat × Nat) (s : ByteArray) : (fnPure Tryz.prog (E1 (GG m t fr)) 60 Tryz.f31 (GG m t fr) [str s]).run2 =
 (bif ((ByteArray.toList s) == (ByteArray.toList (.mk (List.toArray [(42 : UInt8)])))) then
 (.some ((.tup [(.lit (.int .u32 (0 : Int))), (.lit (.bool true))]), []))
 else bif ((ByteArray.toList s) == (ByteArray.toList (.mk (List.toArray [])))) then
 (.some ((.tup [(.lit (.int .u32 (0 : Int))), (.lit (.bool false))]), [true, true, true, true, true, true]))
 else bif (decide ((((UInt8.toNat (Array.getD (ByteArray.data s) 0 (0 : UInt8))) : Nat) : Int) < (49 : Int))) then
 (.some ((.tup [(.lit (.int .u32 (0 : Int))), (.lit (.bool false))]), [true, true, true, (Nat.blt 0 (List.length (ls s)))]))
 else bif (decide ((((UInt8.toNat (Array.getD (ByteArray.data s) 0 (0 : UInt8))) : Nat) : Int) > (57 : Int))) then
 (.some ((.tup [(.lit (.int .u32 (0 : Int))), (.lit (.bool false))]), [(Nat.blt 0 (List.length (ls s))), (Nat.blt 0 (List.length (ls s)))]))
 else bif (puOk s) then
 (.some ((.tup [(.lit (.int .u32 (IntKind.wrap .u32 (((puVal s) : Nat) : Int)))), (.lit (.bool true))]), [(okS s), (Nat.blt 0 (List.length (ls s))), (Nat.blt 0 (List.length (ls s)))]))
 else (.some ((.tup [(.lit (.int .u32 (IntKind.wrap .u32 (((puVal s) : Nat) : Int)))), (.lit (.bool false))]), [(okS s), (Nat.blt 0 (List.length (ls s))), (Nat.blt 0 (List.length (ls s)))])) : Option (PV × List Bool)) := by
  kernel_rfl
theorem word_raw (m : Int) (t : TypeId) (fr : Nat × Nat) (n : Int) : (fnPure Tryz.prog (E1 (GG m t fr)) 60 Tryz.f16 (GG m t fr) [.lit (.int .u32 n)]).run2 =
 (bif (n == (0 : Int)) then
 (.some ((.lit (.string (.mk (List.toArray [(42 : UInt8)])))), []))
 else (.some ((.lit (.string (bs (Lib.decDigits (Int.toNat (IntKind.wrap .u64 n)))))), [((decide ((0 : Int) ≤ (IntKind.wrap .u64 n))) && (decide ((IntKind.wrap .u64 n) < (18446744073709551616 : Int))))])) : Option (PV × List Bool)) := by
  kernel_rfl
/-- is a text an end? and its number -/
def endB (l : List UInt8) : Bool := decide (l = [42]) || (!decide (l = []) && (!decide ((l.getD 0 0).toNat < 49) && (!decide (57 < (l.getD 0 0).toNat) && puOk (bs l))))
def endV (l : List UInt8) : Int := bif decide (l = [42]) then 0 else bif decide (l = []) || (decide ((l.getD 0 0).toNat < 49) || decide (57 < (l.getD 0 0).toNat)) then 0 else IntKind.wrap .u32 ((puVal (bs l) : Nat) : Int)
def endG : List PV → Tr PV
  | [.lit (.string s)] => .br (okS s) (.leaf (.tup [.lit (.int .u32 (endV (ls s))), bool (endB (ls s))])) .fail
  | _ => .fail
theorem end_ok : PureOK Tryz.prog (GG m t fr) 31 endG := by
  refine PureOK.of (fn_pure mixed E1_ok (envOf_cuts ..) (fn := Tryz.f31) (by kernel_rfl)) fun ps p hp => ?_
  unfold endG at hp
  split at hp
  · rename_i s
    obtain ⟨hs, hp⟩ := br_run hp
    simp only [Tr.run, Option.some.injEq] at hp
    subst hp
    have h := end_raw m t fr s
    have e1 : ls (.mk (List.toArray [(42 : UInt8)])) = [42] := rfl
    have e2 : ls (.mk (List.toArray [])) = [] := rfl
    rw [eqB, eqB, e1, e2, getD_ls, show (49 : Int) = ((49 : Nat) : Int) from rfl, show (57 : Int) = ((57 : Nat) : Int) from rfl, byte_lt, byte_gt, hs] at h
    unfold endB endV
    rw [bs_ls]
    cases c1 : decide (ls s = [42]) with
    | true =>
      rw [c1] at h
      exact ⟨_, Tr.run_of h (by simp), PLe.of_eq rfl⟩
    | false =>
    rw [c1] at h
    cases c2 : decide (ls s = []) with
    | true =>
      rw [c2] at h
      exact ⟨_, Tr.run_of h (by simp), PLe.of_eq rfl⟩
    | false =>
    rw [c2] at h
    have hb : Nat.blt 0 (ls s).length = true := by
      rw [Nat.blt_eq]
      rcases Nat.eq_zero_or_pos (ls s).length with h0 | h0
      · exact absurd (List.eq_nil_of_length_eq_zero h0) (of_decide_eq_false c2)
      · exact h0
    rw [hb] at h
    cases c3 : decide (((ls s).getD 0 0).toNat < 49) with
    | true =>
      rw [c3] at h
      exact ⟨_, Tr.run_of h (by simp), PLe.of_eq rfl⟩
    | false =>
    rw [c3] at h
    cases c4 : decide (57 < ((ls s).getD 0 0).toNat) with
    | true =>
      rw [c4] at h
      exact ⟨_, Tr.run_of h (by simp), PLe.of_eq rfl⟩
    | false =>
    rw [c4] at h
    cases c5 : puOk s with
    | true =>
      rw [c5] at h
      exact ⟨_, Tr.run_of h (by simp), PLe.of_eq rfl⟩
    | false =>
      rw [c5] at h
      exact ⟨_, Tr.run_of h (by simp), PLe.of_eq rfl⟩
  · cases hp
def wordS (n : Int) : List UInt8 := bif n == 0 then [42] else Lib.decDigits n.toNat
def wordG : List PV → Tr PV
  | [.lit (.int .u32 n)] => .br (decide (0 ≤ n) && decide (n < 4294967296)) (.leaf (str (bs (wordS n)))) .fail
  | _ => .fail
theorem word_ok : PureOK Tryz.prog (GG m t fr) 16 wordG := by
  refine PureOK.of (fn_pure mixed E1_ok (envOf_cuts ..) (fn := Tryz.f16) (by kernel_rfl)) fun ps p hp => ?_
  unfold wordG at hp
  split at hp
  · rename_i n
    obtain ⟨hn, hp⟩ := br_run hp
    simp only [Bool.and_eq_true, decide_eq_true_eq] at hn
    simp only [Tr.run, Option.some.injEq] at hp
    subst hp
    have h := word_raw m t fr n
    have hw : IntKind.wrap .u64 n = n := by rw [IntKind.wrap_u64]; omega
    rw [hw] at h
    unfold wordS
    cases c1 : n == 0 with
    | true =>
      rw [c1] at h
      exact ⟨_, Tr.run_of h (by simp), PLe.of_eq rfl⟩
    | false =>
      rw [c1] at h
      exact ⟨_, Tr.run_of h (by simp; omega), PLe.of_eq rfl⟩
  · cases hp
end
end Go.Proofs.YtnmgdcggfjnmeaaGreatDoor.Ev

/- The pieces of a text, one behind the other: what strings.SplitSeq's function does. No condition. -/
namespace Go.Proofs.YtnmgdcggfjnmeaaGreatDoor.Ev
open Go Go.RowKit Go.Proofs Go.Proofs.YtnmgdcggfjnmeaaGreatDoor.Str Go.Proofs.YtnmgdcggfjnmeaaGreatDoor.Seq Go.Shelf
set_option linter.unusedVariables false
set_option linter.unusedSimpArgs false
attribute [local go_sem] Oper.semAt_some
/-- the iterator's own step: it turns the variable that it has captured -/
def spX (s : Nat) (A B : World) : Prop := ∃ u v, Boxed A s 9 u ∧ B = A.setCell ⟨s, 0, none⟩ v
/-- what a round has to keep: the three variables that it has captured -/
def spK (c s z : Nat) (A B : World) : Prop := B.heap[c]? = A.heap[c]? ∧ B.heap[s]? = A.heap[s]? ∧ B.heap[z]? = A.heap[z]?
theorem comma_at (l : List UInt8) : (44 ∉ l ∧ Lib.indexByte l 44 = -1) ∨ ∃ a r, l = a ++ 44 :: r ∧ 44 ∉ a ∧ Lib.indexByte l 44 = (a.length : Int) := by
  induction l with
  | nil => exact .inl ⟨by simp, rfl⟩
  | cons b l ih =>
    unfold Lib.indexByte
    by_cases h : b = 44
    · subst h
      exact .inr ⟨[], l, rfl, by simp, by simp⟩
    · have hb : (b == 44) = false := by simpa using h
      rw [hb]
      rcases ih with ⟨h1, h2⟩ | ⟨a, r, rfl, h1, h2⟩
      · refine .inl ⟨by simp only [List.mem_cons, not_or]; exact ⟨fun e => h e.symm, h1⟩, by rw [h2]; simp⟩
      · refine .inr ⟨b :: a, r, rfl, by simp only [List.mem_cons, not_or]; exact ⟨fun e => h e.symm, h1⟩, ?_⟩
        have : ((a.length : Int) == -1) = false := beq_false_of_ne (by omega)
        rw [h2, this]
        simp
theorem boxed_same {A B : World} {k : Nat} {t : TypeId} {v : Value} (h : Boxed A k t v) (e : B.heap[k]? = A.heap[k]?) : Boxed B k t v := e.trans h
theorem boxed_other {A : World} {k s : Nat} {t : TypeId} {v u : Value} (h : Boxed A k t v) (hne : k ≠ s) : Boxed (A.setCell ⟨s, 0, none⟩ u) k t v := h.kept (grownBy_setCell' A s u) (by simpa using hne)
open Classical in
/-- how much of the text is still to come, read off the world -/
noncomputable def spLeft (s : Nat) (W : World) : Nat := match W.cell? ⟨s, 0, none⟩ with
  | some (.string t) => t.size
  | _ => 0
set_option maxRecDepth 100000 in
set_option maxHeartbeats 2000000 in
theorem sp_iter (l c s z : Nat) (s0 : List UInt8) (J Jx : List (List UInt8) → World → Prop) (hJ : ∀ pre A B, J pre A → spX s A B → J pre B)
    (hY : ∀ pre x A, J pre A → pre ++ [x] <+: splitC 44 s0 → YieldAt Fence.wide 0 Tryz.prog l #[.string (bs x)] A fun e B => (e = .returned (.bool true) ∧ J (pre ++ [x]) B ∧ spK c s z A B) ∨ (e = .returned (.bool false) ∧ Jx (pre ++ [x]) B))
    (W : World) (hc : Boxed W c 9 (.string ⟨#[44]⟩)) (hs : Boxed W s 9 (.string (bs s0))) (hz : Boxed W z 3 (.int .i64 0)) (hcs : c ≠ s) (hzs : z ≠ s) (hlen : s0.length ≤ 4294967280) (h0 : J [] W) :
    CallsIn Fence.wide 0 Tryz.prog 59 #[.func (.yield l) #[] #[], .pointer (some ⟨c, 0, none⟩), .pointer (some ⟨s, 0, none⟩), .pointer (some ⟨z, 0, none⟩)] W fun e B => (∃ v, e = .returned v) ∧ (J (splitC 44 s0) B ∨ ∃ pre, pre <+: splitC 44 s0 ∧ Jx pre B) := by
  refine callsIn_of_wp Tryz.func59 rfl trivial ?_ rfl
  simp only [Tryz.ntmps59, List.size_toArray, List.length_cons, List.length_nil, Nat.reduceAdd, Nat.reduceSub, Array.replicate_succ, Array.replicate_zero, List.push_toArray, List.append_toArray, List.nil_append, List.cons_append]
  have c1 := hc.cell
  gi_wp2
  gi_loopw [7] (fun _ wr => ∃ (pre : List (List UInt8)) (rest : List UInt8), splitC 44 s0 = pre ++ splitC 44 rest ∧ Boxed wr c 9 (.string ⟨#[44]⟩) ∧ Boxed wr s 9 (.string (bs rest)) ∧ Boxed wr z 3 (.int .i64 0) ∧ rest.length ≤ s0.length ∧ J pre wr)
    (fun _ wr => spLeft s wr)
  case atStart =>
    exact ⟨[], s0, rfl, hc, hs, hz, Nat.le_refl _, h0⟩
  case round =>
    obtain ⟨pre, rest, hsp, hc', hs', hz', hle, hJ'⟩ := hrel
    have c1 := hc'.cell
    have c2 := hs'.cell
    have c3 := hz'.cell
    have eL : ∀ x : List UInt8, (bs x).data.toList = x := fun x => ls_bs x
    have hidx := Tryz.strings_Index_one (bs rest) 44 wr
    rw [eL] at hidx
    rcases comma_at rest with ⟨h1, h2⟩ | ⟨a, r, rfl, h1, h2⟩
    · rw [h2] at hidx
      rw [splitC_free 44 rest h1] at hsp
      obtain ⟨fn, tmps, assign, body, hy, hR⟩ := hY pre rest wr hJ' (by rw [hsp]; exact List.prefix_rfl)
      gi_wp2_with (refine ⟨trivial, rfl, ?_⟩; gi_at_call 61; refine (callsIn_wide.2 hidx).mono ?_; rintro e w' ⟨rfl, rfl⟩)
      refine ⟨rfl, hR.mono ?_⟩
      rintro e W3 (⟨rfl, hJ3, hk3⟩ | ⟨rfl, hJx3⟩)
      · gi_wp2
        go_end0
        exact ⟨⟨_, rfl⟩, .inl (by rw [hsp]; exact hJ3)⟩
      · gi_wp2
        go_end0
        exact ⟨⟨_, rfl⟩, .inr ⟨pre ++ [rest], by rw [hsp]; exact List.prefix_rfl, hJx3⟩⟩
    · rw [h2] at hidx
      rw [splitC_app 44 a r h1] at hsp
      obtain ⟨fn, tmps, assign, body, hy, hR⟩ := hY pre a wr hJ' (by rw [hsp]; exact ⟨splitC 44 r, by simp⟩)
      have hal : a.length + 1 + r.length ≤ s0.length := by simp at hle; omega
      have hw0 : wrap64 (a.length : Int) = (a.length : Int) := by unfold wrap64; omega
      have hw1 : wrap64 ((a.length : Int) + 1) = (a.length : Int) + 1 := by unfold wrap64; omega
      obtain ⟨T, hT⟩ : ∃ T, T = bs (a ++ 44 :: r) := ⟨_, rfl⟩
      have hsz : T.size = a.length + 1 + r.length := by rw [hT, bs_len]; simp; omega
      have hx0 : T.extract 0 a.length = bs a := by rw [hT, bs_ext, ls_bs]; simp
      have hx1 : T.extract (a.length + 1) (a.length + 1 + r.length) = bs r := by
        rw [hT, bs_ext, ls_bs, List.take_of_length_le (by simp; omega)]
        simp
      rw [← hT] at hidx c2 hs'
      clear hT
      gi_wp2_with (refine ⟨trivial, rfl, ?_⟩; gi_at_call 61; refine (callsIn_wide.2 hidx).mono ?_; rintro e w' ⟨rfl, rfl⟩)
      refine ⟨rfl, hR.mono ?_⟩
      rintro e W3 (⟨rfl, hJ3, k1, k2, k3⟩ | ⟨rfl, hJx3⟩)
      · have b1 := boxed_same hc' k1
        have b2 := boxed_same hs' k2
        have b3 := boxed_same hz' k3
        have d1 := b1.cell
        have d2 := b2.cell
        have d3 := b3.cell
        have f2 := b2.frozen
        gi_wp2
        go_roundw
        case rel => exact ⟨pre ++ [a], r, by simp [hsp], boxed_other b1 hcs, b2.set _, boxed_other b3 hzs, by simp at hle; omega, hJ _ _ _ hJ3 ⟨_, _, b2, rfl⟩⟩
        case measure =>
          have m1 := (b2.set (.string (bs r))).cell
          unfold spLeft
          rw [m1, c2]
          simp only [bs_len, hsz]
          omega
      · gi_wp2
        refine bodyPost_ret (results_none rfl _ _ _) rfl ?_
        exact ⟨⟨_, rfl⟩, .inr ⟨pre ++ [a], by rw [hsp]; exact ⟨splitC 44 r, by simp⟩, hJx3⟩⟩
theorem sp_gives (c s z : Nat) (s0 : List UInt8) (w : World) (hc : Boxed w c 9 (.string ⟨#[44]⟩)) (hs : Boxed w s 9 (.string (bs s0))) (hz : Boxed w z 3 (.int .i64 0)) (hcs : c ≠ s) (hzs : z ≠ s) (hlen : s0.length ≤ 4294967280) :
    Gives Tryz.prog 59 #[.pointer (some ⟨c, 0, none⟩), .pointer (some ⟨s, 0, none⟩), .pointer (some ⟨z, 0, none⟩)] (fun x : List UInt8 => #[Value.string (bs x)]) (spX s) (spK c s z) (splitC 44 s0) w := fun l J Jx W hW hJ hY h0 =>
  sp_iter l c s z s0 J Jx hJ hY W ((hW.block c hc.lt).trans hc) ((hW.block s hs.lt).trans hs) ((hW.block z hz.lt).trans hz) hcs hzs hlen h0
end Go.Proofs.YtnmgdcggfjnmeaaGreatDoor.Ev

/- nset.Parse: what it does, by hand. No condition. -/
namespace Go.Proofs.YtnmgdcggfjnmeaaGreatDoor.Ev
open Go Go.RowKit Go.Proofs Go.Proofs.YtnmgdcggfjnmeaaGreatDoor.Str Go.Proofs.YtnmgdcggfjnmeaaGreatDoor.Seq Go.Shelf
set_option linter.unusedVariables false
set_option linter.unusedSimpArgs false
attribute [local go_sem] Oper.semAt_some
/-- a piece's two ends -/
def wA (w : List UInt8) : List UInt8 := (cutC 58 w).1
def wB (w : List UInt8) : List UInt8 := bif (cutC 58 w).2.2 then (cutC 58 w).2.1 else (cutC 58 w).1
def okW (w : List UInt8) : Bool := endB (wA w) && endB (wB w)
def spW (w : List UInt8) : Int × Int := (endV (wA w), endV (wB w))
def cellsSp (l : List (Int × Int)) : List Value := l.flatMap fun x => [.int .u32 x.1, .int .u32 x.2]
theorem splitSeq_calls (s : ByteArray) (w : World) : Calls Tryz.prog 29 #[.string s, .string ⟨#[44]⟩] w fun e w' =>
    e = .returned (.func (.func 59) #[] #[.pointer (some ⟨w.heap.size + 1, 0, none⟩), .pointer (some ⟨w.heap.size, 0, none⟩), .pointer (some ⟨w.heap.size + 2, 0, none⟩)]) ∧
    w' = ((w.alloc (.cells #[.string s] 9)).alloc (.cells #[.string ⟨#[44]⟩] 9)).alloc (.cells #[.int .i64 0] 3) := by
  have inner : ∀ w : World, Calls Tryz.prog 46 #[.string s, .string ⟨#[44]⟩, .int .i64 0] w fun e w' =>
      e = .returned (.func (.func 59) #[] #[.pointer (some ⟨w.heap.size + 1, 0, none⟩), .pointer (some ⟨w.heap.size, 0, none⟩), .pointer (some ⟨w.heap.size + 2, 0, none⟩)]) ∧
      w' = ((w.alloc (.cells #[.string s] 9)).alloc (.cells #[.string ⟨#[44]⟩] 9)).alloc (.cells #[.int .i64 0] 3) := by
    intro w
    go_enter Tryz.func46, Tryz.ntmps46
    go_wp2
    go_ret
    exact ⟨rfl, rfl⟩
  go_enter Tryz.func29, Tryz.ntmps29
  go_wp2_with (go_at_call 46; refine (inner _).mono ?_; rintro e w' ⟨rfl, rfl⟩)
  go_ret
  exact ⟨rfl, rfl⟩
theorem known_below {C : Nat → Nat → Value → Prop} {w W : World} (hK : Known C w) (hb : Below w.heap.size w W) : Known C W := by
  intro b o v h
  have h0 := hK b o v h
  have hlt : b < w.heap.size := by
    unfold World.cell? at h0
    split at h0
    · rename_i hh
      exact (Array.getElem?_eq_some_iff.1 hh).1
    · cases h0
  rw [hb.cell (p := ⟨b, o, none⟩) hlt]
  exact h0
theorem objs_below {G : GT} {w W : World} (hO : Objs G w) (hb : Below w.heap.size w W) : Objs G W := by
  intro g o h
  have h0 := hO g o h
  rw [hb.block g (Array.getElem?_eq_some_iff.1 h0).1]
  exact h0
section
variable {m : Int} {t : TypeId} {fr : Nat × Nat}
/-- an end's call, in whatever world lies above one that fits -/
theorem end_calls {C : Nat → Nat → Value → Prop} {W : World} (hK : Known C W) (hG : Globs (GG m t fr) C) (hO : Objs (GG m t fr) W) (l : List UInt8) (hl : l.length ≤ 4294967280) :
    Calls Tryz.prog 31 #[.string (bs l)] W fun e W' => e = .returned (.tuple #[.int .u32 (endV l), .bool (endB l)]) ∧ Below W.heap.size W W' := by
  have h := end_ok (m := m) (t := t) (fr := fr) [str (bs l)] (.tup [.lit (.int .u32 (endV l)), bool (endB l)]) (by
    have o : okS (bs l) = true := okS_of (by rw [bs_len]; exact hl)
    simp [endG, Tr.run, o, ls_bs]) W C hK hG hO #[.string (bs l)] (by
    refine ⟨rfl, fun i p v hp hv => ?_⟩
    match i with
    | 0 =>
      simp at hp hv
      subst hp
      subst hv
      exact .lit _ _
    | i + 1 => simp at hp)
  refine h.mono ?_
  rintro (v | _) W' hq
  · obtain ⟨hk, hr⟩ := hq
    refine ⟨?_, ⟨hk.os, hk.tape, hk.output, hk.size, hk.block⟩⟩
    cases hr with
    | tup _ _ vs hsz hr =>
      match vs, hsz with
      | ⟨[v0, v1]⟩, _ =>
        have h0 := hr 0 _ v0 rfl rfl
        have h1 := hr 1 _ v1 rfl rfl
        cases h0
        cases h1
        rfl
  all_goals exact hq.elim
theorem cut58_calls {C : Nat → Nat → Value → Prop} {W : World} (hK : Known C W) (hG : Globs (GG m t fr) C) (hO : Objs (GG m t fr) W) (l : List UInt8) (hl : l.length ≤ 4294967280) :
    Calls Tryz.prog 30 #[.string (bs l), .string ⟨#[58]⟩] W fun e W' => e = .returned (.tuple #[.string (bs (wA l)), .string (bs (cutC 58 l).2.1), .bool (cutC 58 l).2.2]) ∧ ∃ n, W' = W.drewN n := by
  refine (Tryz.strings_Cut (bs l) ⟨#[58]⟩ m W (by rw [bs_len]; omega) (glob_cell hK hG GG_maxLen)).mono ?_
  rintro e W' ⟨rfl, hn⟩
  have e1 : (bs l).data.toList = l := ls_bs l
  rw [e1, show (⟨#[58]⟩ : ByteArray).data.toList = [58] from rfl, cut_one]
  exact ⟨rfl, hn⟩
end
theorem row_below {W V : World} {n₀ : Nat} {e : TypeId} {sz : Nat} {v : Value} {k : Nat} {xs : List Value} (hb : Below W.heap.size W V) (h : W.ownsRow n₀ e sz v k xs) : V.ownsRow n₀ e sz v k xs :=
  h.kept (row := none) ⟨hb.os, hb.tape, hb.output, hb.size, fun k hk _ => hb.block k hk⟩ (by cases v.ownBlock <;> simp)
theorem below_drewN (B : Nat) (W : World) (n : Nat) : Below B W (W.drewN n) := by
  have k := Keeps.drewN (K := fun _ => True) (w := W) n
  exact ⟨k.os, k.tape, k.output, k.size, fun i _ => k.block i trivial⟩
theorem others_below {W V : World} (hb : Below W.heap.size W V) : KeepsOthers W V :=
  ⟨hb.size, fun k o h _ => (hb.block k (Array.getElem?_eq_some_iff.1 h).1).trans h⟩
theorem cell_two_new (w : World) (x y : Value) (t : TypeId) : ∀ j u, [x, y][j]? = some u → (w.alloc (.cells #[x, y] t)).cell? ((⟨w.heap.size, 0, none⟩ : Addr).add j) = some u := by
  intro j u hj
  match j, hj with
  | 0, hj =>
    simp at hj
    subst hj
    simp [Addr.add, World.cell?_alloc_new]
  | 1, hj =>
    simp at hj
    subst hj
    simp [Addr.add, World.cell?_alloc_new]
  | j + 2, hj => simp at hj
theorem splitC_len (c : UInt8) : ∀ (l x : List UInt8), x ∈ splitC c l → x.length ≤ l.length
  | [], x, h => by simp [splitC] at h; subst h; exact Nat.le_refl _
  | b :: l, x, h => by
    have ih := splitC_len c l
    unfold splitC at h
    split at h
    · rcases List.mem_cons.1 h with rfl | h
      · simp
      · have := ih x h
        simp
        omega
    · cases hs : splitC c l with
      | nil => exact absurd hs (splitC_ne c l)
      | cons y r =>
        rw [hs] at h ih
        rcases List.mem_cons.1 h with rfl | h
        · have := ih y (by simp)
          simp
          omega
        · have := ih x (by simp [h])
          simp
          omega
theorem splitC_count (c : UInt8) : ∀ (l : List UInt8), (splitC c l).length ≤ l.length + 1
  | [] => by simp [splitC]
  | b :: l => by
    have ih := splitC_count c l
    unfold splitC
    split
    · simp
      omega
    · cases hs : splitC c l with
      | nil => exact absurd hs (splitC_ne c l)
      | cons y r =>
        rw [hs] at ih
        simp at ih ⊢
        omega
theorem cutC_len (c : UInt8) : ∀ l : List UInt8, (cutC c l).1.length ≤ l.length ∧ (cutC c l).2.1.length ≤ l.length
  | [] => by simp [cutC]
  | b :: l => by
    have ih := cutC_len c l
    unfold cutC
    split
    · simp
    · simp
      omega
theorem infoSp : (Tryz.prog.info? 48).map (fun i => (i.zero, i.size, i.bytes)) = some (some (.agg #[.int .u32 0, .int .u32 0]), 2, 8) := by kernel_rfl
/-- what holds between two rounds: the pieces so far are spans, the slice holds them, and the variables lie in their boxes -/
def pI (N : Nat) (w : World) (pre : List (List UInt8)) (W : World) : Prop :=
  pre.all okW = true ∧ (∃ v, Boxed W (N + 2) 22 v ∧ W.ownsRow N 48 2 v pre.length (cellsSp (pre.map spW))) ∧ Boxed W N 22 (.slice none 0 0) ∧ Boxed W (N + 1) 26 (.int .i64 0) ∧
    (∃ u, Boxed W (N + 3) 9 u) ∧ (∃ u, Boxed W (N + 4) 9 u) ∧ (∃ u, Boxed W (N + 5) 3 u) ∧ Below N w W
/-- what holds where a round has left -/
def pX (N : Nat) (w : World) (pre : List (List UInt8)) (W : World) : Prop :=
  pre.all okW = false ∧ Boxed W N 22 (.slice none 0 0) ∧ Boxed W (N + 1) 26 (.int .i64 7) ∧ Below N w W
theorem boxed_own {A B : World} {b : Nat} {row : Option Nat} (hg : A.grownBy B row) (hr : ∀ r, row = some r → b ≤ r ∧ ∃ o : Obj, A.heap[r]? = some o ∧ o.isCells = false) {k : Nat} {t : TypeId} {v : Value} (h : Boxed A k t v) : Boxed B k t v :=
  h.kept hg fun e => by
    obtain ⟨_, o, ho, hc⟩ := hr k e.symm
    rw [show A.heap[k]? = _ from h] at ho
    cases ho
    cases hc
theorem pI_own {N b : Nat} {w : World} (hN : N = w.heap.size) (hb : N ≤ b) : OwnFrom b (pI N w) := by
  rintro pre A B row ⟨h1, ⟨v, h2, h3⟩, h4, h5, ⟨u6, h6⟩, ⟨u7, h7⟩, ⟨u8, h8⟩, h9⟩ hg hr
  refine ⟨h1, ⟨v, boxed_own hg hr h2, h3.kept hg ?_⟩, boxed_own hg hr h4, boxed_own hg hr h5, ⟨u6, boxed_own hg hr h6⟩, ⟨u7, boxed_own hg hr h7⟩, ⟨u8, boxed_own hg hr h8⟩, h9.grown hg (by rw [hN]; exact h9.size) fun k e => Nat.le_trans hb (hr k e).1⟩
  rcases h3.2 with ⟨rfl, _⟩ | ⟨g, cap, cur, rfl, _, hgb, _⟩
  · exact .inl rfl
  · refine .inr fun e' => ?_
    obtain ⟨_, o, ho, hc⟩ := hr g (by simpa [Value.ownBlock] using e'.symm)
    rw [hgb] at ho
    cases ho
    cases hc
theorem pX_own {N b : Nat} {w : World} (hN : N = w.heap.size) (hb : N ≤ b) : OwnFrom b (pX N w) := by
  rintro pre A B row ⟨h1, h4, h5, h9⟩ hg hr
  exact ⟨h1, boxed_own hg hr h4, boxed_own hg hr h5, h9.grown hg (by rw [hN]; exact h9.size) fun k e => Nat.le_trans hb (hr k e).1⟩
theorem pI_step {N : Nat} {w : World} (pre : List (List UInt8)) (A B : World) (h : pI N w pre A) (hx : spX (N + 3) A B) : pI N w pre B := by
  obtain ⟨h1, ⟨v, h2, h3⟩, h4, h5, ⟨u6, h6⟩, ⟨u7, h7⟩, ⟨u8, h8⟩, h9⟩ := h
  obtain ⟨u, x, hu, rfl⟩ := hx
  exact ⟨h1, ⟨v, boxed_other h2 (by omega), h3.kept (grownBy_setCell' A _ x) (.inr (hu.not_row (by decide) h3).symm)⟩, boxed_other h4 (by omega), boxed_other h5 (by omega), ⟨x, hu.set x⟩, ⟨u7, boxed_other h7 (by omega)⟩, ⟨u8, boxed_other h8 (by omega)⟩, h9.setCell (p := ⟨N + 3, 0, none⟩) (by simp) _⟩
set_option maxRecDepth 100000 in
set_option maxHeartbeats 2000000 in
theorem parse_calls {m : Int} {t : TypeId} {fr : Nat × Nat} (s : List UInt8) (hs : s.length ≤ 4294967280) (w : World) {C : Nat → Nat → Value → Prop} (hK : Known C w) (hG : Globs (GG m t fr) C) (hO : Objs (GG m t fr) w) :
    Calls Tryz.prog 12 #[.string (bs s)] w fun e w' => Below w.heap.size w w' ∧
      (((splitC 44 s).all okW = false ∧ e = .returned (.tuple #[.slice none 0 0, .int .i64 7])) ∨
       ((splitC 44 s).all okW = true ∧ 1024 < (splitC 44 s).length ∧ e = .returned (.tuple #[.slice none 0 0, .int .i64 15])) ∨
       ((splitC 44 s).all okW = true ∧ (splitC 44 s).length ≤ 1024 ∧ ∃ v, e = .returned (.tuple #[v, .int .i64 0]) ∧ w'.ownsRow w.heap.size 48 2 v (splitC 44 s).length (cellsSp ((splitC 44 s).map spW)))) := by
  refine (callsIn_wide (n := 0)).1 ?_
  refine callsIn_of_wp_marks Tryz.func12 rfl trivial ?_ rfl
  simp only [Tryz.ntmps12, List.size_toArray, List.length_cons, List.length_nil, Nat.reduceAdd, Nat.reduceSub, Array.replicate_succ, Array.replicate_zero, List.push_toArray, List.append_toArray, List.nil_append, List.cons_append]
  gi_wp2_with (refine ⟨trivial, rfl, ?_⟩; gi_at_call 29; refine (callsIn_wide.2 (splitSeq_calls (bs s) _)).mono ?_; rintro e w' ⟨rfl, rfl⟩)
  have n1 : ∀ (A : World) (o : Obj), (A.alloc o).heap.size = A.heap.size + 1 := fun A o => World.size_alloc A o
  have B0 := Boxed.new w 22 (.slice none 0 0)
  generalize hw1 : w.alloc (Obj.cells #[Value.slice none 0 0] 22) = w1 at *
  have B1 := Boxed.new w1 26 (.int .i64 0)
  generalize hw2 : w1.alloc (Obj.cells #[Value.int IntKind.i64 0] 26) = w2 at *
  have B2 := Boxed.new w2 22 (.slice none 0 0)
  generalize hw3 : w2.alloc (Obj.cells #[Value.slice none 0 0] 22) = w3 at *
  have B3 := Boxed.new w3 9 (.string (bs s))
  generalize hw4 : w3.alloc (Obj.cells #[Value.string (bs s)] 9) = w4 at *
  have B4 := Boxed.new w4 9 (.string ⟨#[44]⟩)
  generalize hw5 : w4.alloc (Obj.cells #[Value.string ⟨#[44]⟩] 9) = w5 at *
  have B5 := Boxed.new w5 3 (.int .i64 0)
  generalize hw6 : w5.alloc (Obj.cells #[Value.int IntKind.i64 0] 3) = w6 at *
  have z1 : w1.heap.size = w.heap.size + 1 := by rw [← hw1]; exact n1 _ _
  have z2 : w2.heap.size = w.heap.size + 2 := by rw [← hw2, n1, z1]
  have z3 : w3.heap.size = w.heap.size + 3 := by rw [← hw3, n1, z2]
  have z4 : w4.heap.size = w.heap.size + 4 := by rw [← hw4, n1, z3]
  have z5 : w5.heap.size = w.heap.size + 5 := by rw [← hw5, n1, z4]
  have z6 : w6.heap.size = w.heap.size + 6 := by rw [← hw6, n1, z5]
  have A0 : Boxed w6 w.heap.size 22 (.slice none 0 0) := by rw [← hw6, ← hw5, ← hw4, ← hw3, ← hw2]; exact ((((B0.alloc _).alloc _).alloc _).alloc _).alloc _
  have A1 : Boxed w6 (w.heap.size + 1) 26 (.int .i64 0) := by rw [← hw6, ← hw5, ← hw4, ← hw3, ← z1]; exact (((B1.alloc _).alloc _).alloc _).alloc _
  have A2 : Boxed w6 (w.heap.size + 2) 22 (.slice none 0 0) := by rw [← hw6, ← hw5, ← hw4, ← z2]; exact ((B2.alloc _).alloc _).alloc _
  have A3 : Boxed w6 (w.heap.size + 3) 9 (.string (bs s)) := by rw [← hw6, ← hw5, ← z3]; exact (B3.alloc _).alloc _
  have A4 : Boxed w6 (w.heap.size + 4) 9 (.string ⟨#[44]⟩) := by rw [← hw6, ← z4]; exact B4.alloc _
  have A5 : Boxed w6 (w.heap.size + 5) 3 (.int .i64 0) := by rw [← z5]; exact B5
  have bel6 : Below w.heap.size w w6 := by
    rw [← hw6, ← hw5, ← hw4, ← hw3, ← hw2, ← hw1]
    exact ((((((Below.refl _ w).alloc (Nat.le_refl _) _).alloc (by simp only [World.size_alloc]; omega) _).alloc (by simp only [World.size_alloc]; omega) _).alloc (by simp only [World.size_alloc]; omega) _).alloc (by simp only [World.size_alloc]; omega) _).alloc (by simp only [World.size_alloc]; omega) _
  clear hw1 hw2 hw3 hw4 hw5 hw6 B0 B1 B2 B3 B4 B5
  have hcount := splitC_count 44 s
  refine range_box (gf := 59) (lb := #[.pointer (some ⟨w.heap.size + 4, 0, none⟩), .pointer (some ⟨w.heap.size + 3, 0, none⟩), .pointer (some ⟨w.heap.size + 5, 0, none⟩)]) rfl (enters_of (fn := Tryz.f59) (by kernel_rfl) (by kernel_rfl))
    (encs := fun x : List UInt8 => #[Value.string (bs x)]) (fun _ => rfl) (sp_gives (w.heap.size + 4) (w.heap.size + 3) (w.heap.size + 5) s w6 A4 A3 A5 (by omega) (by omega) hs)
    (fun A B k o hk ho hx => by obtain ⟨u, v, _, rfl⟩ := hx; exact (Below.heap_setCell _ _ _ k (by show k ≠ w.heap.size + 3; omega)).trans ho) (fun h k => ⟨k.1.trans h.1, k.2.1.trans h.2.1, k.2.2.trans h.2.2⟩)
    (fun A l o hl => ⟨World.putObj_heap_other (by omega), World.putObj_heap_other (by omega), World.putObj_heap_other (by omega)⟩)
    (pI w.heap.size w) (pX w.heap.size w) (pI_own rfl (by omega)) (pX_own rfl (by omega)) (fun pre A B h hx => pI_step pre A B h hx)
    ⟨rfl, ⟨_, A2, World.ownsRow_nil _ _ _ _⟩, A0, A1, ⟨_, A3⟩, ⟨_, A4⟩, ⟨_, A5⟩, bel6⟩
    (fun x => { tmps := #[.string (bs s), undef, .pointer (some ⟨w.heap.size, 0, none⟩), .pointer (some ⟨w.heap.size + 1, 0, none⟩), .pointer (some ⟨w.heap.size + 1 + 1, 0, none⟩), .string (bs x), undef, undef, undef, undef, undef, undef, undef, .string (bs s), .func (.func 59) #[] #[.pointer (some ⟨w.heap.size + 1 + 1 + 1 + 1, 0, none⟩), .pointer (some ⟨w.heap.size + 1 + 1 + 1, 0, none⟩), .pointer (some ⟨w.heap.size + 1 + 1 + 1 + 2, 0, none⟩)], .string (bs x), undef, undef, undef, undef, undef, undef, undef, undef, undef, undef, undef, undef, undef, undef, undef, undef, undef, undef, undef, undef, undef, undef, undef, undef, undef, undef, undef, undef, undef, undef, undef, undef, undef, undef, undef], defers := [] }) ?assign ?body ?done ?stop
  case assign =>
    intro l x W K hK
    gi_wp2
    exact hK
  case body =>
    rintro l pre x W ⟨hok, ⟨v, hv, hrow⟩, hr2, hr3, ⟨u3, hb3⟩, ⟨u4, hb4⟩, ⟨u5, hb5⟩, hB⟩ hpre
    have hx : x ∈ splitC 44 s := hpre.subset (by simp)
    have hxl := splitC_len 44 s x hx
    have hpl : pre.length + 1 ≤ (splitC 44 s).length := by have := hpre.length_le; simpa using this
    have hcl := cutC_len 58 x
    have hcut := cut58_calls (known_below hK hB) hG (objs_below hO hB) x (by omega)
    have hlA : (wA x).length ≤ 4294967280 := by unfold wA; omega
    have hlB : (wB x).length ≤ 4294967280 := by unfold wB; cases (cutC 58 x).2.2 <;> simp <;> omega
    have hA := fun (V : World) (h : Below w.heap.size w V) => end_calls (known_below hK h) hG (objs_below hO h) (wA x) hlA
    have hBc := fun (V : World) (h : Below w.heap.size w V) => end_calls (known_below hK h) hG (objs_below hO h) (wB x) hlB
    obtain ⟨i0, hi, hz0, hz1, hz2⟩ := info_parts infoSp
    clear hcl hxl hx
    cases h2 : (cutC 58 x).2.2 with
    | false =>
      have eB : wB x = wA x := by unfold wB wA; rw [h2]; rfl
      rw [h2] at hcut
      rw [eB] at hBc
      clear h2
      cases ha : endB (wA x) with
      | false =>
        rw [ha] at hA
        rw [ha] at hBc
        gi_wp2_with (first
          | (refine ⟨trivial, rfl, ?_⟩; gi_at_call 30; refine (CallsIn.inRound l (callsIn_wide.2 hcut)).mono ?_; rintro e V1 ⟨rfl, n1, rfl⟩; have p1 := hB.trans (below_drewN w.heap.size W n1); have q1 := below_drewN W.heap.size W n1; clear hcut)
          | (refine ⟨trivial, rfl, ?_⟩; gi_at_call 31; refine (CallsIn.inRound l (callsIn_wide.2 (hA _ p1))).mono ?_; rintro e V2 ⟨rfl, g2⟩; have p2 := p1.trans (g2.mono (Nat.le_trans hB.size q1.size)); have q2 := q1.trans (g2.mono q1.size); clear hA)
          | (refine ⟨trivial, rfl, ?_⟩; gi_at_call 31; refine (CallsIn.inRound l (callsIn_wide.2 (hBc _ p2))).mono ?_; rintro e V3 ⟨rfl, g3⟩; have p3 := p2.trans (g3.mono (Nat.le_trans hB.size q2.size)); have q3 := q2.trans (g3.mono q2.size); have v3 := boxed_same hv (q3.block _ hv.lt); have r3 := row_below q3 hrow; have x0 := boxed_same hr2 (q3.block _ hr2.lt); have x1 := boxed_same hr3 (q3.block _ hr3.lt); have x3 := boxed_same hb3 (q3.block _ hb3.lt); have x4 := boxed_same hb4 (q3.block _ hb4.lt); have x5 := boxed_same hb5 (q3.block _ hb5.lt); have k0 := v3.cell; have k1 := x0.cell; have k2 := x1.cell; have k3 := x0.frozen; have k4 := x1.frozen)
          | (gi_at_builtin; refine wpListIn_append_own _ rfl _ _ 22 rfl w.heap.size 48 i0 (.agg #[.int .u32 0, .int .u32 0]) 2 8 Tryz.underlying22 hi hz0 hz1 hz2 rfl (by decide) _ _ _ rfl (r3.alloc _) ⟨V3.heap.size, 0, none⟩ 1 1 [.int .u32 (endV (wA x)), .int .u32 (endV (wB x))] rfl rfl (cell_two_new _ _ _ _) (by simp [Value.oneCell']) (by unfold maxLen; omega) (by omega) (by have := p3.size; simp; omega) ?_; intro v' w7 hown' hgrow _; obtain ⟨g', cap', rfl⟩ := ownsRow_succ hown'; obtain ⟨y1, y2, y3, y4, y5⟩ := v3.appended (by decide) r3 p3.size (by omega) hown' hgrow; have k5 := y1.cell; have k6 := y1.frozen))
        exact ⟨(others_below q3).trans ((KeepsOthers.setCell _ _ _).trans (KeepsOthers.setCell _ _ _)), by rw [List.all_append]; simp [okW, ha], boxed_other (x0.set _) (show w.heap.size ≠ w.heap.size + 1 by omega), (boxed_other x1 (show w.heap.size + 1 ≠ w.heap.size by omega)).set _,
          (p3.setCell (p := ⟨w.heap.size, 0, none⟩) (Nat.le_refl _) _).setCell (p := ⟨w.heap.size + 1, 0, none⟩) (by simp) _⟩
      | true =>
        rw [ha] at hA
        rw [ha] at hBc
        have hb : endB (wB x) = true := by rw [eB]; exact ha
        gi_wp2_with (first
          | (refine ⟨trivial, rfl, ?_⟩; gi_at_call 30; refine (CallsIn.inRound l (callsIn_wide.2 hcut)).mono ?_; rintro e V1 ⟨rfl, n1, rfl⟩; have p1 := hB.trans (below_drewN w.heap.size W n1); have q1 := below_drewN W.heap.size W n1; clear hcut)
          | (refine ⟨trivial, rfl, ?_⟩; gi_at_call 31; refine (CallsIn.inRound l (callsIn_wide.2 (hA _ p1))).mono ?_; rintro e V2 ⟨rfl, g2⟩; have p2 := p1.trans (g2.mono (Nat.le_trans hB.size q1.size)); have q2 := q1.trans (g2.mono q1.size); clear hA)
          | (refine ⟨trivial, rfl, ?_⟩; gi_at_call 31; refine (CallsIn.inRound l (callsIn_wide.2 (hBc _ p2))).mono ?_; rintro e V3 ⟨rfl, g3⟩; have p3 := p2.trans (g3.mono (Nat.le_trans hB.size q2.size)); have q3 := q2.trans (g3.mono q2.size); have v3 := boxed_same hv (q3.block _ hv.lt); have r3 := row_below q3 hrow; have x0 := boxed_same hr2 (q3.block _ hr2.lt); have x1 := boxed_same hr3 (q3.block _ hr3.lt); have x3 := boxed_same hb3 (q3.block _ hb3.lt); have x4 := boxed_same hb4 (q3.block _ hb4.lt); have x5 := boxed_same hb5 (q3.block _ hb5.lt); have k0 := v3.cell; have k1 := x0.cell; have k2 := x1.cell; have k3 := x0.frozen; have k4 := x1.frozen)
          | (gi_at_builtin; refine wpListIn_append_own _ rfl _ _ 22 rfl w.heap.size 48 i0 (.agg #[.int .u32 0, .int .u32 0]) 2 8 Tryz.underlying22 hi hz0 hz1 hz2 rfl (by decide) _ _ _ rfl (r3.alloc _) ⟨V3.heap.size, 0, none⟩ 1 1 [.int .u32 (endV (wA x)), .int .u32 (endV (wA x))] rfl rfl (cell_two_new _ _ _ _) (by simp [Value.oneCell']) (by unfold maxLen; omega) (by omega) (by have := p3.size; simp; omega) ?_; intro v' w7 hown' hgrow _; obtain ⟨g', cap', rfl⟩ := ownsRow_succ hown'; obtain ⟨y1, y2, y3, y4, y5⟩ := v3.appended (by decide) r3 p3.size (by omega) hown' hgrow; have k5 := y1.cell; have k6 := y1.frozen))
        have kb : ∀ {k : Nat} {t : TypeId} {u : Value}, Boxed V3 k t u → t ≠ 48 → k ≠ w.heap.size + 2 → Boxed (w7.setCell ⟨w.heap.size + 2, 0, none⟩ (.slice (some ⟨g', 0, none⟩) (pre.length + 1) cap')) k t u := fun h ht hne => boxed_other ((h.alloc _).kept hgrow (h.not_row ht r3)) hne
        exact ⟨(others_below q3).trans y4, ⟨Eq.trans (kb x4 (by decide) (by omega)) (Eq.symm hb4), Eq.trans (kb x3 (by decide) (by omega)) (Eq.symm hb3), Eq.trans (kb x5 (by decide) (by omega)) (Eq.symm hb5)⟩,
          by rw [List.all_append, hok]; simp [okW, ha, hb], ⟨_, y2, by rw [List.length_append, List.map_append]; simpa [cellsSp, spW, eB] using y3⟩, kb x0 (by decide) (by omega), kb x1 (by decide) (by omega), ⟨_, kb x3 (by decide) (by omega)⟩, ⟨_, kb x4 (by decide) (by omega)⟩, ⟨_, kb x5 (by decide) (by omega)⟩, p3.trans y5⟩
    | true =>
      have eB : (cutC 58 x).2.1 = wB x := by unfold wB; rw [h2]; rfl
      rw [h2, eB] at hcut
      clear h2
      cases ha : endB (wA x) with
      | false =>
        rw [ha] at hA
        gi_wp2_with (first
          | (refine ⟨trivial, rfl, ?_⟩; gi_at_call 30; refine (CallsIn.inRound l (callsIn_wide.2 hcut)).mono ?_; rintro e V1 ⟨rfl, n1, rfl⟩; have p1 := hB.trans (below_drewN w.heap.size W n1); have q1 := below_drewN W.heap.size W n1; clear hcut)
          | (refine ⟨trivial, rfl, ?_⟩; gi_at_call 31; refine (CallsIn.inRound l (callsIn_wide.2 (hA _ p1))).mono ?_; rintro e V2 ⟨rfl, g2⟩; have p2 := p1.trans (g2.mono (Nat.le_trans hB.size q1.size)); have q2 := q1.trans (g2.mono q1.size); clear hA)
          | (refine ⟨trivial, rfl, ?_⟩; gi_at_call 31; refine (CallsIn.inRound l (callsIn_wide.2 (hBc _ p2))).mono ?_; rintro e V3 ⟨rfl, g3⟩; have p3 := p2.trans (g3.mono (Nat.le_trans hB.size q2.size)); have q3 := q2.trans (g3.mono q2.size); have v3 := boxed_same hv (q3.block _ hv.lt); have r3 := row_below q3 hrow; have x0 := boxed_same hr2 (q3.block _ hr2.lt); have x1 := boxed_same hr3 (q3.block _ hr3.lt); have x3 := boxed_same hb3 (q3.block _ hb3.lt); have x4 := boxed_same hb4 (q3.block _ hb4.lt); have x5 := boxed_same hb5 (q3.block _ hb5.lt); have k0 := v3.cell; have k1 := x0.cell; have k2 := x1.cell; have k3 := x0.frozen; have k4 := x1.frozen)
          | (gi_at_builtin; refine wpListIn_append_own _ rfl _ _ 22 rfl w.heap.size 48 i0 (.agg #[.int .u32 0, .int .u32 0]) 2 8 Tryz.underlying22 hi hz0 hz1 hz2 rfl (by decide) _ _ _ rfl (r3.alloc _) ⟨V3.heap.size, 0, none⟩ 1 1 [.int .u32 (endV (wA x)), .int .u32 (endV (wB x))] rfl rfl (cell_two_new _ _ _ _) (by simp [Value.oneCell']) (by unfold maxLen; omega) (by omega) (by have := p3.size; simp; omega) ?_; intro v' w7 hown' hgrow _; obtain ⟨g', cap', rfl⟩ := ownsRow_succ hown'; obtain ⟨y1, y2, y3, y4, y5⟩ := v3.appended (by decide) r3 p3.size (by omega) hown' hgrow; have k5 := y1.cell; have k6 := y1.frozen))
        exact ⟨(others_below q3).trans ((KeepsOthers.setCell _ _ _).trans (KeepsOthers.setCell _ _ _)), by rw [List.all_append]; simp [okW, ha], boxed_other (x0.set _) (show w.heap.size ≠ w.heap.size + 1 by omega), (boxed_other x1 (show w.heap.size + 1 ≠ w.heap.size by omega)).set _,
          (p3.setCell (p := ⟨w.heap.size, 0, none⟩) (Nat.le_refl _) _).setCell (p := ⟨w.heap.size + 1, 0, none⟩) (by simp) _⟩
      | true =>
        rw [ha] at hA
        cases hb : endB (wB x) with
        | false =>
          rw [hb] at hBc
          gi_wp2_with (first
            | (refine ⟨trivial, rfl, ?_⟩; gi_at_call 30; refine (CallsIn.inRound l (callsIn_wide.2 hcut)).mono ?_; rintro e V1 ⟨rfl, n1, rfl⟩; have p1 := hB.trans (below_drewN w.heap.size W n1); have q1 := below_drewN W.heap.size W n1; clear hcut)
            | (refine ⟨trivial, rfl, ?_⟩; gi_at_call 31; refine (CallsIn.inRound l (callsIn_wide.2 (hA _ p1))).mono ?_; rintro e V2 ⟨rfl, g2⟩; have p2 := p1.trans (g2.mono (Nat.le_trans hB.size q1.size)); have q2 := q1.trans (g2.mono q1.size); clear hA)
            | (refine ⟨trivial, rfl, ?_⟩; gi_at_call 31; refine (CallsIn.inRound l (callsIn_wide.2 (hBc _ p2))).mono ?_; rintro e V3 ⟨rfl, g3⟩; have p3 := p2.trans (g3.mono (Nat.le_trans hB.size q2.size)); have q3 := q2.trans (g3.mono q2.size); have v3 := boxed_same hv (q3.block _ hv.lt); have r3 := row_below q3 hrow; have x0 := boxed_same hr2 (q3.block _ hr2.lt); have x1 := boxed_same hr3 (q3.block _ hr3.lt); have x3 := boxed_same hb3 (q3.block _ hb3.lt); have x4 := boxed_same hb4 (q3.block _ hb4.lt); have x5 := boxed_same hb5 (q3.block _ hb5.lt); have k0 := v3.cell; have k1 := x0.cell; have k2 := x1.cell; have k3 := x0.frozen; have k4 := x1.frozen)
            | (gi_at_builtin; refine wpListIn_append_own _ rfl _ _ 22 rfl w.heap.size 48 i0 (.agg #[.int .u32 0, .int .u32 0]) 2 8 Tryz.underlying22 hi hz0 hz1 hz2 rfl (by decide) _ _ _ rfl (r3.alloc _) ⟨V3.heap.size, 0, none⟩ 1 1 [.int .u32 (endV (wA x)), .int .u32 (endV (wB x))] rfl rfl (cell_two_new _ _ _ _) (by simp [Value.oneCell']) (by unfold maxLen; omega) (by omega) (by have := p3.size; simp; omega) ?_; intro v' w7 hown' hgrow _; obtain ⟨g', cap', rfl⟩ := ownsRow_succ hown'; obtain ⟨y1, y2, y3, y4, y5⟩ := v3.appended (by decide) r3 p3.size (by omega) hown' hgrow; have k5 := y1.cell; have k6 := y1.frozen))
          exact ⟨(others_below q3).trans ((KeepsOthers.setCell _ _ _).trans (KeepsOthers.setCell _ _ _)), by rw [List.all_append]; simp [okW, hb], boxed_other (x0.set _) (show w.heap.size ≠ w.heap.size + 1 by omega), (boxed_other x1 (show w.heap.size + 1 ≠ w.heap.size by omega)).set _,
            (p3.setCell (p := ⟨w.heap.size, 0, none⟩) (Nat.le_refl _) _).setCell (p := ⟨w.heap.size + 1, 0, none⟩) (by simp) _⟩
        | true =>
          rw [hb] at hBc
          gi_wp2_with (first
            | (refine ⟨trivial, rfl, ?_⟩; gi_at_call 30; refine (CallsIn.inRound l (callsIn_wide.2 hcut)).mono ?_; rintro e V1 ⟨rfl, n1, rfl⟩; have p1 := hB.trans (below_drewN w.heap.size W n1); have q1 := below_drewN W.heap.size W n1; clear hcut)
            | (refine ⟨trivial, rfl, ?_⟩; gi_at_call 31; refine (CallsIn.inRound l (callsIn_wide.2 (hA _ p1))).mono ?_; rintro e V2 ⟨rfl, g2⟩; have p2 := p1.trans (g2.mono (Nat.le_trans hB.size q1.size)); have q2 := q1.trans (g2.mono q1.size); clear hA)
            | (refine ⟨trivial, rfl, ?_⟩; gi_at_call 31; refine (CallsIn.inRound l (callsIn_wide.2 (hBc _ p2))).mono ?_; rintro e V3 ⟨rfl, g3⟩; have p3 := p2.trans (g3.mono (Nat.le_trans hB.size q2.size)); have q3 := q2.trans (g3.mono q2.size); have v3 := boxed_same hv (q3.block _ hv.lt); have r3 := row_below q3 hrow; have x0 := boxed_same hr2 (q3.block _ hr2.lt); have x1 := boxed_same hr3 (q3.block _ hr3.lt); have x3 := boxed_same hb3 (q3.block _ hb3.lt); have x4 := boxed_same hb4 (q3.block _ hb4.lt); have x5 := boxed_same hb5 (q3.block _ hb5.lt); have k0 := v3.cell; have k1 := x0.cell; have k2 := x1.cell; have k3 := x0.frozen; have k4 := x1.frozen)
            | (gi_at_builtin; refine wpListIn_append_own _ rfl _ _ 22 rfl w.heap.size 48 i0 (.agg #[.int .u32 0, .int .u32 0]) 2 8 Tryz.underlying22 hi hz0 hz1 hz2 rfl (by decide) _ _ _ rfl (r3.alloc _) ⟨V3.heap.size, 0, none⟩ 1 1 [.int .u32 (endV (wA x)), .int .u32 (endV (wB x))] rfl rfl (cell_two_new _ _ _ _) (by simp [Value.oneCell']) (by unfold maxLen; omega) (by omega) (by have := p3.size; simp; omega) ?_; intro v' w7 hown' hgrow _; obtain ⟨g', cap', rfl⟩ := ownsRow_succ hown'; obtain ⟨y1, y2, y3, y4, y5⟩ := v3.appended (by decide) r3 p3.size (by omega) hown' hgrow; have k5 := y1.cell; have k6 := y1.frozen))
          have kb : ∀ {k : Nat} {t : TypeId} {u : Value}, Boxed V3 k t u → t ≠ 48 → k ≠ w.heap.size + 2 → Boxed (w7.setCell ⟨w.heap.size + 2, 0, none⟩ (.slice (some ⟨g', 0, none⟩) (pre.length + 1) cap')) k t u := fun h ht hne => boxed_other ((h.alloc _).kept hgrow (h.not_row ht r3)) hne
          exact ⟨(others_below q3).trans y4, ⟨Eq.trans (kb x4 (by decide) (by omega)) (Eq.symm hb4), Eq.trans (kb x3 (by decide) (by omega)) (Eq.symm hb3), Eq.trans (kb x5 (by decide) (by omega)) (Eq.symm hb5)⟩,
            by rw [List.all_append, hok]; simp [okW, ha, hb], ⟨_, y2, by rw [List.length_append, List.map_append]; simpa [cellsSp, spW] using y3⟩, kb x0 (by decide) (by omega), kb x1 (by decide) (by omega), ⟨_, kb x3 (by decide) (by omega)⟩, ⟨_, kb x4 (by decide) (by omega)⟩, ⟨_, kb x5 (by decide) (by omega)⟩, p3.trans y5⟩
  case done =>
    rintro D W hD ⟨hok, ⟨v, hv, hrow⟩, hr2, hr3, -, -, -, hB⟩ hKd
    have c4 := hv.cell
    have c2 := hr2.cell
    have c3 := hr3.cell
    have f2 := hr2.frozen
    have f3 := hr3.frozen
    obtain ⟨k, hk⟩ : ∃ k, (splitC 44 s).length = k + 1 := ⟨(splitC 44 s).length - 1, by have := splitC_ne 44 s; cases h : splitC 44 s with | nil => exact absurd h this | cons a b => simp⟩
    rw [hk] at hrow
    obtain ⟨g, cap, rfl⟩ := ownsRow_succ hrow
    have hl : ∀ A : World, A.heap[D]? = some (.deferred (some [])) → ∀ {k : Nat} {t : TypeId} {v : Value}, k < D → Boxed A k t v → Boxed (A.putObj D (.deferred none)) k t v := fun A _ k t v hk h => h.kept (grownBy_putObj' _ D _) (by simp; omega)
    by_cases hbig : 1024 < (splitC 44 s).length
    · have hbig' : ((k : Int) + 1 ≤ 1024) = False := by simp; omega
      gi_wp2
      have hK2 := ((KeepsOthers.setCell W ⟨w.heap.size, 0, none⟩ (.slice none 0 0)).trans (KeepsOthers.setCell _ ⟨w.heap.size + 1, 0, none⟩ (.int .i64 15))).same D _ hKd rfl
      refine ⟨by simp, .inl ⟨_, _, rfl, run_takeDeferred hK2, ?_⟩⟩
      have e2 := (hl _ hK2 (by omega) (boxed_other (hr2.set (.slice none 0 0)) (show w.heap.size ≠ w.heap.size + 1 by omega))).cell
      have e3 := (hl _ hK2 (by omega) ((boxed_other (u := .slice none 0 0) hr3 (show w.heap.size + 1 ≠ w.heap.size by omega)).set (.int .i64 15))).cell
      refine ⟨.tuple #[.slice none 0 0, .int .i64 15], ?_, ((hB.setCell (p := ⟨w.heap.size, 0, none⟩) (Nat.le_refl _) _).setCell (p := ⟨w.heap.size + 1, 0, none⟩) (by simp) _).trans (belowK_b (w := w) (Nat.le_refl _) _ D _ _ (by omega) hK2 rfl rfl), .inr (.inl ⟨hok, hbig, rfl⟩)⟩
      simp [results, Tryz.f12, go_sem, e2, e3]
    · have hbig' : ((k : Int) + 1 ≤ 1024) = True := by simp; omega
      gi_wp2
      have hK2 := ((KeepsOthers.setCell W ⟨w.heap.size, 0, none⟩ (.slice (some ⟨g, 0, none⟩) (k + 1) cap)).trans (KeepsOthers.setCell _ ⟨w.heap.size + 1, 0, none⟩ (.int .i64 0))).same D _ hKd rfl
      refine ⟨by simp, .inl ⟨_, _, rfl, run_takeDeferred hK2, ?_⟩⟩
      have e2 := (hl _ hK2 (by omega) (boxed_other (hr2.set (.slice (some ⟨g, 0, none⟩) (k + 1) cap)) (show w.heap.size ≠ w.heap.size + 1 by omega))).cell
      have e3 := (hl _ hK2 (by omega) ((boxed_other (u := .slice (some ⟨g, 0, none⟩) (k + 1) cap) hr3 (show w.heap.size + 1 ≠ w.heap.size by omega)).set (.int .i64 0))).cell
      have r1 := hrow.kept (grownBy_setCell' W w.heap.size (.slice (some ⟨g, 0, none⟩) (k + 1) cap)) (.inr (hr2.not_row (by decide) hrow).symm)
      have r2 := r1.kept (grownBy_setCell' _ (w.heap.size + 1) (.int .i64 0)) (.inr ((boxed_other (u := .slice (some ⟨g, 0, none⟩) (k + 1) cap) hr3 (show w.heap.size + 1 ≠ w.heap.size by omega)).not_row (by decide) r1).symm)
      refine ⟨.tuple #[.slice (some ⟨g, 0, none⟩) (k + 1) cap, .int .i64 0], ?_, ((hB.setCell (p := ⟨w.heap.size, 0, none⟩) (Nat.le_refl _) _).setCell (p := ⟨w.heap.size + 1, 0, none⟩) (by simp) _).trans (belowK_b (w := w) (Nat.le_refl _) _ D _ _ (by omega) hK2 rfl rfl), .inr (.inr ⟨hok, by omega, _, rfl, by rw [hk]; exact ownsRow_putObj r2 _ hK2 rfl⟩)⟩
      simp [results, Tryz.f12, go_sem, e2, e3]
  case stop =>
    rintro D pre W hD hpre ⟨hbad, hr2, hr3, hB⟩ hKd
    gi_wp2
    refine ⟨by simp, .inl ⟨_, _, rfl, run_takeDeferred hKd, ?_⟩⟩
    have e2 := (hr2.kept (grownBy_putObj' _ D (.deferred none)) (by simp; omega)).cell
    have e3 := (hr3.kept (grownBy_putObj' _ D (.deferred none)) (by simp; omega)).cell
    refine ⟨.tuple #[.slice none 0 0, .int .i64 7], ?_, hB.trans (belowK_b (w := w) (Nat.le_refl _) _ D _ _ (by omega) hKd rfl rfl), .inl ⟨?_, rfl⟩⟩
    · simp [results, Tryz.f12, go_sem, e2, e3]
    · obtain ⟨more, hm⟩ := hpre
      rw [← hm, List.all_append, hbad]
      rfl
end Go.Proofs.YtnmgdcggfjnmeaaGreatDoor.Ev

/- nset.Parse as a contract; rows of spans. No condition. -/
namespace Go.Proofs.YtnmgdcggfjnmeaaGreatDoor.Ev
open Go Go.RowKit Go.Proofs Go.Proofs.YtnmgdcggfjnmeaaGreatDoor.Str
set_option linter.unusedVariables false
set_option linter.unusedSimpArgs false
/-! ### rows of spans -/
abbrev Sp := Int × Int
def sp (l : List Sp) (i : Nat) : Sp := l.getD i (0, 0)
def sRow (l : List Sp) (i : Nat) : List PV := [.lit (.int .u32 (sp l i).1), .lit (.int .u32 (sp l i).2)]
def spOf : List PV → Sp
  | [.lit (.int .u32 a), .lit (.int .u32 b)] => (a, b)
  | _ => (0, 0)
def isSp : List PV → Bool
  | [.lit (.int .u32 a), .lit (.int .u32 b)] => decide (0 ≤ a) && decide (a < 4294967296) && (decide (0 ≤ b) && decide (b < 4294967296))
  | _ => false
def spsOf (n : Nat) (f : Nat → List PV) : List Sp := (List.range n).map fun i => spOf (f i)
def areSps (n : Nat) (f : Nat → List PV) : Bool := (List.range n).all fun i => isSp (f i)
def u32B (x : Sp) : Bool := decide (0 ≤ x.1) && decide (x.1 < 4294967296) && (decide (0 ≤ x.2) && decide (x.2 < 4294967296))
theorem sps_len (n : Nat) (f : Nat → List PV) : (spsOf n f).length = n := by simp [spsOf]
theorem isSp_eq {l : List PV} (h : isSp l = true) : l = [.lit (.int .u32 (spOf l).1), .lit (.int .u32 (spOf l).2)] ∧ u32B (spOf l) = true := by
  unfold isSp at h
  split at h
  · exact ⟨rfl, h⟩
  · cases h
theorem sps_row {n : Nat} {f : Nat → List PV} (h : areSps n f = true) (i : Nat) (hi : i < n) : f i = sRow (spsOf n f) i := by
  have h1 := List.all_eq_true.1 h i (List.mem_range.2 hi)
  have h2 : sp (spsOf n f) i = spOf (f i) := by simp [sp, spsOf, hi]
  unfold sRow
  rw [h2]
  exact (isSp_eq h1).1
theorem sps_u32 {n : Nat} {f : Nat → List PV} (h : areSps n f = true) : (spsOf n f).all u32B = true := by
  rw [List.all_eq_true]
  intro x hx
  simp only [spsOf, List.mem_map, List.mem_range] at hx
  obtain ⟨i, hi, rfl⟩ := hx
  exact (isSp_eq (List.all_eq_true.1 h i (List.mem_range.2 hi))).2
theorem sps_sRow (l : List Sp) : spsOf l.length (sRow l) = l := by
  unfold spsOf
  refine List.ext_getElem (by simp) fun i h1 h2 => ?_
  simp [sRow, spOf, sp, h2]
theorem are_sRow {l : List Sp} (h : l.all u32B = true) : areSps l.length (sRow l) = true := by
  unfold areSps
  rw [List.all_eq_true]
  intro i hi
  have hi := List.mem_range.1 hi
  have : sp l i = l[i] := by simp [sp, hi]
  have hu := List.all_eq_true.1 h l[i] (List.getElem_mem _)
  unfold sRow isSp
  rw [this]
  exact hu
theorem sp_drop {l : List Sp} {i : Nat} {x : Sp} {r : List Sp} (h : l.drop i = x :: r) : i < l.length ∧ sp l i = x ∧ l.drop (i + 1) = r := by
  have hlt : i < l.length := by
    rcases Nat.lt_or_ge i l.length with h' | h'
    · exact h'
    · rw [List.drop_eq_nil_of_le h'] at h
      cases h
  rw [List.drop_eq_getElem_cons hlt] at h
  simp only [List.cons.injEq] at h
  refine ⟨hlt, ?_, h.2⟩
  rw [← h.1]
  simp [sp, hlt]
theorem cellsSp_at : ∀ (l : List Sp) (i j : Nat), i < l.length → j < 2 → (cellsSp l)[i * 2 + j]? = some (bif Nat.beq j 0 then .int .u32 (sp l i).1 else .int .u32 (sp l i).2)
  | [], i, j, h, _ => by simp at h
  | x :: l, 0, 0, _, _ => rfl
  | x :: l, 0, 1, _, _ => rfl
  | x :: l, 0, j + 2, _, h => by omega
  | x :: l, i + 1, j, h, hj => by
    have ih := cellsSp_at l i j (by simpa using h) hj
    have e : (i + 1) * 2 + j = (i * 2 + j) + 1 + 1 := by omega
    rw [e]
    exact ih
theorem sRow_rep {C : Nat → Nat → Value → Prop} {w w' : World} {e : TypeId} {v : Value} {l : List Sp} (h : w'.ownsRow w.heap.size e 2 v l.length (cellsSp l)) : Rep (Grown C w w') (fun _ => none) (.gsl 2 l.length (sRow l)) v := by
  have h0 := h
  rcases h.2 with ⟨rfl, hn⟩ | ⟨g, cap, cur, rfl, hg, hh, hle, _⟩
  · rw [hn]
    exact .gnil ..
  · refine .gsl _ _ _ _ g 0 cap (fun i j => bif Nat.beq j 0 then .int .u32 (sp l i).1 else .int .u32 (sp l i).2) (fun i j hi hj => ⟨.inr ⟨hg, ?_⟩, ?_⟩) (fun i _ => rfl) (fun i j p hi hp => ?_) hle
    · rw [Nat.zero_add, h0.cellAt _ (by omega)]
      exact cellsSp_at l i j hi hj
    · cases Nat.beq j 0 <;> rfl
    · match j with
      | 0 =>
        simp [sRow] at hp
        subst hp
        exact .lit _ _
      | 1 =>
        simp [sRow] at hp
        subst hp
        exact .lit _ _
      | j + 2 => simp [sRow] at hp
def nilS : PV := .lit (.slice none 0 0)
section
variable {m : Int} {t : TypeId} {fr : Nat × Nat}
/-- the spans of a text, if all its pieces are -/
def spansS (l : List UInt8) : List Sp := (splitC 44 l).map spW
def areS (l : List UInt8) : Bool := (splitC 44 l).all okW
def parseG : List PV → Tr PV
  | [.lit (.string s)] => .br (okS s) (.br (areS (ls s)) (.br (Nat.ble (spansS (ls s)).length 1024) (.leaf (.tup [.gsl 2 (spansS (ls s)).length (sRow (spansS (ls s))), int 0])) (.leaf (.tup [.lit (.slice none 0 0), int 15])))
      (.leaf (.tup [.lit (.slice none 0 0), int 7]))) .fail
  | _ => .fail
theorem tup2_rep {C : Nat → Nat → Value → Prop} {p q : PV} {u v : Value} (h : Rep C (fun _ => none) p u) (k : Rep C (fun _ => none) q v) : Rep C (fun _ => none) (.tup [p, q]) (.tuple #[u, v]) := by
  refine .tup _ _ _ rfl fun i x y hx hy => ?_
  match i with
  | 0 =>
    simp at hx hy
    subst hx
    subst hy
    exact h
  | 1 =>
    simp at hx hy
    subst hx
    subst hy
    exact k
  | i + 2 => simp at hx
theorem parse_ok : PureOK Tryz.prog (GG m t fr) 12 parseG := by
  intro ps p hp
  unfold parseG at hp
  split at hp
  · rename_i s
    obtain ⟨hs, hp⟩ := br_run hp
    have hs := okS_le hs
    refine PureAt.lits (vs := [.string s]) fun w C hK hG hO => ?_
    have h := parse_calls (ls s) (by rw [ls_len]; omega) w hK hG hO
    rw [bs_ls] at h
    refine h.mono ?_
    have hlen : (spansS (ls s)).length = (splitC 44 (ls s)).length := by simp [spansS]
    rintro e w' ⟨hb, ⟨h1, rfl⟩ | ⟨h1, h2, rfl⟩ | ⟨h1, h2, v, rfl, h3⟩⟩
    · have h1 : areS (ls s) = false := h1
      rw [h1] at hp
      simp only [Tr.run, cond_false, Option.some.injEq] at hp
      subst hp
      exact ⟨Keeps.of_below hb fun _ h => h, tup2_rep (.lit _ _) (.lit _ _)⟩
    · have h1 : areS (ls s) = true := h1
      have h2 : Nat.ble (spansS (ls s)).length 1024 = false := by rw [Bool.eq_false_iff, ne_eq, Nat.ble_eq]; omega
      rw [h1, h2] at hp
      simp only [Tr.run, cond_false, cond_true, Option.some.injEq] at hp
      subst hp
      exact ⟨Keeps.of_below hb fun _ h => h, tup2_rep (.lit _ _) (.lit _ _)⟩
    · have h1 : areS (ls s) = true := h1
      have h2 : Nat.ble (spansS (ls s)).length 1024 = true := Nat.ble_eq_true_of_le (by omega)
      rw [h1, h2] at hp
      simp only [Tr.run, cond_true, Option.some.injEq] at hp
      subst hp
      refine ⟨Keeps.of_below hb fun _ h => h, tup2_rep (sRow_rep (e := 48) ?_) (.lit _ _)⟩
      rw [hlen]
      exact h3
  · cases hp
def nsPure : List (Nat × (List PV → Tr PV)) := (12, parseG) :: (31, endG) :: (16, wordG) :: libPure
theorem nsPure_ok {m : Int} {t : TypeId} {fr : Nat × Nat} : TabOK Tryz.prog (GG m t fr) nsPure := (TabOK.cons parse_ok (fn := Tryz.f12) (by kernel_rfl) (by kernel_rfl) (TabOK.cons end_ok (fn := Tryz.f31) (by kernel_rfl) (by kernel_rfl) (TabOK.cons word_ok (fn := Tryz.f16) (by kernel_rfl) (by kernel_rfl) libPure_ok)))
noncomputable abbrev E2 (G : GT) : Env := envOf Tryz.prog G nsPure libFull
theorem E2_ok : (E2 (GG m t fr)).ok Tryz.prog (GG m t fr) := envOf_ok mixed nsPure_ok libFull_ok
end
end Go.Proofs.YtnmgdcggfjnmeaaGreatDoor.Ev
