/- The pieces of a text, one behind the other: what strings.SplitSeq's function does. No condition. -/
import Derived.Test.YtbpmfaghjlmjmaaDoorSeq
import Derived.Test.YtbpmfaghjlmjmaaDoorNsA
import Derived.RangeFuncBound
import Derived.RangeFuncCalls
import Derived.Shelf.Abstract
import Derived.WalkKit
import Derived.OwnWalkIn
import Derived.TacticsInMore
import Derived.LoopNIn
import Derived.LoopIn
import Derived.Maps.AppendAt
import Derived.Lib.IndexLaws
namespace Go.Proofs.YtbpmfaghjlmjmaaDoor.Ev
open Go Go.RowKit Go.Proofs Go.Proofs.YtbpmfaghjlmjmaaDoor.Str Go.Proofs.YtbpmfaghjlmjmaaDoor.Seq Go.Shelf
set_option linter.unusedVariables false
set_option linter.unusedSimpArgs false
attribute [local go_sem] Oper.semAt_some
/-- the iterator's own step: it turns the variable that it has captured -/
def spX (s : Nat) (A B : World) : Prop := ∃ u v, Boxed A s 9 u ∧ B = A.setCell ⟨s, 0, none⟩ v
/-- what a round has to keep: the three variables that it has captured -/
def spK (c s z : Nat) (A B : World) : Prop := B.heap[c]? = A.heap[c]? ∧ B.heap[s]? = A.heap[s]? ∧ B.heap[z]? = A.heap[z]?
theorem comma_at (l : List UInt8) : (44 ∉ l ∧ Lib.indexByte l 44 = -1) ∨ ∃ a r, l = a ++ 44 :: r ∧ 44 ∉ a ∧ Lib.indexByte l 44 = (a.length : Int) := by
  induction l with
  | nil => exact .inl ⟨by simp, rfl⟩
  | cons b l ih =>
    unfold Lib.indexByte
    by_cases h : b = 44
    · subst h
      exact .inr ⟨[], l, rfl, by simp, by simp⟩
    · have hb : (b == 44) = false := by simpa using h
      rw [hb]
      rcases ih with ⟨h1, h2⟩ | ⟨a, r, rfl, h1, h2⟩
      · refine .inl ⟨by simp only [List.mem_cons, not_or]; exact ⟨fun e => h e.symm, h1⟩, by rw [h2]; simp⟩
      · refine .inr ⟨b :: a, r, rfl, by simp only [List.mem_cons, not_or]; exact ⟨fun e => h e.symm, h1⟩, ?_⟩
        have : ((a.length : Int) == -1) = false := beq_false_of_ne (by omega)
        rw [h2, this]
        simp
theorem boxed_same {A B : World} {k : Nat} {t : TypeId} {v : Value} (h : Boxed A k t v) (e : B.heap[k]? = A.heap[k]?) : Boxed B k t v := e.trans h
theorem boxed_other {A : World} {k s : Nat} {t : TypeId} {v u : Value} (h : Boxed A k t v) (hne : k ≠ s) : Boxed (A.setCell ⟨s, 0, none⟩ u) k t v := h.kept (grownBy_setCell' A s u) (by simpa using hne)
open Classical in
/-- how much of the text is still to come, read off the world -/
noncomputable def spLeft (s : Nat) (W : World) : Nat := match W.cell? ⟨s, 0, none⟩ with
  | some (.string t) => t.size
  | _ => 0
set_option maxRecDepth 100000 in
set_option maxHeartbeats 2000000 in
theorem sp_iter (l c s z : Nat) (s0 : List UInt8) (J Jx : List (List UInt8) → World → Prop) (hJ : ∀ pre A B, J pre A → spX s A B → J pre B)
    (hY : ∀ pre x A, J pre A → pre ++ [x] <+: splitC 44 s0 → YieldAt Fence.wide 0 Tryd.prog l #[.string (bs x)] A fun e B => (e = .returned (.bool true) ∧ J (pre ++ [x]) B ∧ spK c s z A B) ∨ (e = .returned (.bool false) ∧ Jx (pre ++ [x]) B))
    (W : World) (hc : Boxed W c 9 (.string ⟨#[44]⟩)) (hs : Boxed W s 9 (.string (bs s0))) (hz : Boxed W z 3 (.int .i64 0)) (hcs : c ≠ s) (hzs : z ≠ s) (hlen : s0.length ≤ 4294967280) (h0 : J [] W) :
    CallsIn Fence.wide 0 Tryd.prog 58 #[.func (.yield l) #[] #[], .pointer (some ⟨c, 0, none⟩), .pointer (some ⟨s, 0, none⟩), .pointer (some ⟨z, 0, none⟩)] W fun e B => (∃ v, e = .returned v) ∧ (J (splitC 44 s0) B ∨ ∃ pre, pre <+: splitC 44 s0 ∧ Jx pre B) := by
  refine callsIn_of_wp Tryd.func58 rfl trivial ?_ rfl
  simp only [Tryd.ntmps58, List.size_toArray, List.length_cons, List.length_nil, Nat.reduceAdd, Nat.reduceSub, Array.replicate_succ, Array.replicate_zero, List.push_toArray, List.append_toArray, List.nil_append, List.cons_append]
  have c1 := hc.cell
  gi_wp2
  gi_loopw [7] (fun _ wr => ∃ (pre : List (List UInt8)) (rest : List UInt8), splitC 44 s0 = pre ++ splitC 44 rest ∧ Boxed wr c 9 (.string ⟨#[44]⟩) ∧ Boxed wr s 9 (.string (bs rest)) ∧ Boxed wr z 3 (.int .i64 0) ∧ rest.length ≤ s0.length ∧ J pre wr)
    (fun _ wr => spLeft s wr)
  case atStart =>
    exact ⟨[], s0, rfl, hc, hs, hz, Nat.le_refl _, h0⟩
  case round =>
    obtain ⟨pre, rest, hsp, hc', hs', hz', hle, hJ'⟩ := hrel
    have c1 := hc'.cell
    have c2 := hs'.cell
    have c3 := hz'.cell
    have eL : ∀ x : List UInt8, (bs x).data.toList = x := fun x => ls_bs x
    have hidx := Tryd.strings_Index_one (bs rest) 44 wr
    rw [eL] at hidx
    rcases comma_at rest with ⟨h1, h2⟩ | ⟨a, r, rfl, h1, h2⟩
    · rw [h2] at hidx
      rw [splitC_free 44 rest h1] at hsp
      obtain ⟨fn, tmps, assign, body, hy, hR⟩ := hY pre rest wr hJ' (by rw [hsp]; exact List.prefix_rfl)
      gi_wp2_with (refine ⟨trivial, rfl, ?_⟩; gi_at_call 60; refine (callsIn_wide.2 hidx).mono ?_; rintro e w' ⟨rfl, rfl⟩)
      refine ⟨rfl, hR.mono ?_⟩
      rintro e W3 (⟨rfl, hJ3, hk3⟩ | ⟨rfl, hJx3⟩)
      · gi_wp2
        go_end0
        exact ⟨⟨_, rfl⟩, .inl (by rw [hsp]; exact hJ3)⟩
      · gi_wp2
        go_end0
        exact ⟨⟨_, rfl⟩, .inr ⟨pre ++ [rest], by rw [hsp]; exact List.prefix_rfl, hJx3⟩⟩
    · rw [h2] at hidx
      rw [splitC_app 44 a r h1] at hsp
      obtain ⟨fn, tmps, assign, body, hy, hR⟩ := hY pre a wr hJ' (by rw [hsp]; exact ⟨splitC 44 r, by simp⟩)
      have hal : a.length + 1 + r.length ≤ s0.length := by simp at hle; omega
      have hw0 : wrap64 (a.length : Int) = (a.length : Int) := by unfold wrap64; omega
      have hw1 : wrap64 ((a.length : Int) + 1) = (a.length : Int) + 1 := by unfold wrap64; omega
      obtain ⟨T, hT⟩ : ∃ T, T = bs (a ++ 44 :: r) := ⟨_, rfl⟩
      have hsz : T.size = a.length + 1 + r.length := by rw [hT, bs_len]; simp; omega
      have hx0 : T.extract 0 a.length = bs a := by rw [hT, bs_ext, ls_bs]; simp
      have hx1 : T.extract (a.length + 1) (a.length + 1 + r.length) = bs r := by
        rw [hT, bs_ext, ls_bs, List.take_of_length_le (by simp; omega)]
        simp
      rw [← hT] at hidx c2 hs'
      clear hT
      gi_wp2_with (refine ⟨trivial, rfl, ?_⟩; gi_at_call 60; refine (callsIn_wide.2 hidx).mono ?_; rintro e w' ⟨rfl, rfl⟩)
      refine ⟨rfl, hR.mono ?_⟩
      rintro e W3 (⟨rfl, hJ3, k1, k2, k3⟩ | ⟨rfl, hJx3⟩)
      · have b1 := boxed_same hc' k1
        have b2 := boxed_same hs' k2
        have b3 := boxed_same hz' k3
        have d1 := b1.cell
        have d2 := b2.cell
        have d3 := b3.cell
        have f2 := b2.frozen
        gi_wp2
        go_roundw
        case rel => exact ⟨pre ++ [a], r, by simp [hsp], boxed_other b1 hcs, b2.set _, boxed_other b3 hzs, by simp at hle; omega, hJ _ _ _ hJ3 ⟨_, _, b2, rfl⟩⟩
        case measure =>
          have m1 := (b2.set (.string (bs r))).cell
          unfold spLeft
          rw [m1, c2]
          simp only [bs_len, hsz]
          omega
      · gi_wp2
        refine bodyPost_ret (results_none rfl _ _ _) rfl ?_
        exact ⟨⟨_, rfl⟩, .inr ⟨pre ++ [a], by rw [hsp]; exact ⟨splitC 44 r, by simp⟩, hJx3⟩⟩
theorem sp_gives (c s z : Nat) (s0 : List UInt8) (w : World) (hc : Boxed w c 9 (.string ⟨#[44]⟩)) (hs : Boxed w s 9 (.string (bs s0))) (hz : Boxed w z 3 (.int .i64 0)) (hcs : c ≠ s) (hzs : z ≠ s) (hlen : s0.length ≤ 4294967280) :
    Gives Tryd.prog 58 #[.pointer (some ⟨c, 0, none⟩), .pointer (some ⟨s, 0, none⟩), .pointer (some ⟨z, 0, none⟩)] (fun x : List UInt8 => #[Value.string (bs x)]) (spX s) (spK c s z) (splitC 44 s0) w := fun l J Jx W hW hJ hY h0 =>
  sp_iter l c s z s0 J Jx hJ hY W ((hW.block c hc.lt).trans hc) ((hW.block s hs.lt).trans hs) ((hW.block z hz.lt).trans hz) hcs hzs hlen h0
end Go.Proofs.YtbpmfaghjlmjmaaDoor.Ev
