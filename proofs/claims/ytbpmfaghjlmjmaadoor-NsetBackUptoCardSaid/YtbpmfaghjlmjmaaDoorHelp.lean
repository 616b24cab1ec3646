/- Small lemmas on bytes, rows and whole numbers. No condition. -/
import Derived.Test.YtbpmfaghjlmjmaaDoorNsLib
import Derived.Test.YtbpmfaghjlmjmaaDoorStr
import Derived.Laws.StructEq
namespace Go.Proofs.YtbpmfaghjlmjmaaDoor.Ev
open Go Go.RowKit Go.Proofs Go.Proofs.YtbpmfaghjlmjmaaDoor.Str
set_option linter.unusedVariables false
set_option linter.unusedSimpArgs false

theorem beqD {α : Type} [BEq α] [LawfulBEq α] [DecidableEq α] (a b : α) : (a == b) = decide (a = b) := by
  by_cases h : a = b
  · rw [decide_eq_true h, h]
    exact beq_self_eq_true b
  · rw [decide_eq_false h]
    exact beq_false_of_ne h
theorem bs_ls (s : ByteArray) : bs (ls s) = s := mk_ls s
theorem ls_bs (l : List UInt8) : ls (bs l) = l := ls_mk l
theorem bs_len (l : List UInt8) : (bs l).size = l.length := by rw [← ls_len, ls_bs]
theorem eqB (s t : ByteArray) : (ByteArray.toList s == ByteArray.toList t) = decide (ls s = ls t) := by
  rw [ByteArray.toList_eq, ByteArray.toList_eq, beqD]
  rfl
theorem bs_ext (s : ByteArray) (a b : Nat) : s.extract a b = bs (((ls s).take b).drop a) := ls_inj (by rw [ls_ext, ls_bs])
theorem getD_ls (s : ByteArray) (i : Nat) : Array.getD s.data i (0 : UInt8) = (ls s).getD i 0 := by
  simp [ls, Array.getD, List.getD]
  split <;> simp_all
theorem byte_eq (c d : UInt8) : ((c.toNat : Int) == (d.toNat : Int)) = decide (c = d) := by
  rw [beqD]
  congr 1
  refine propext ⟨fun h => UInt8.toNat_inj.1 (by omega), fun h => by rw [h]⟩
theorem byte_lt (c : UInt8) (d : Nat) : decide (((c.toNat : Nat) : Int) < (d : Int)) = decide (c.toNat < d) := by
  rw [decide_eq_decide]
  omega
theorem byte_gt (c : UInt8) (d : Nat) : decide (((c.toNat : Nat) : Int) > (d : Int)) = decide (d < c.toNat) := by
  rw [decide_eq_decide]
  omega
theorem ext_tail (c : UInt8) (r : List UInt8) : (bs (c :: r)).extract 1 (c :: r).length = bs r := by
  rw [bs_ext, ls_bs, List.take_length]
  rfl
theorem snoc (l : List UInt8) : l = [] ∨ ∃ a x, l = a ++ [x] := by
  rcases List.eq_nil_or_concat l with h | ⟨a, x, h⟩
  · exact .inl h
  · exact .inr ⟨a, x, by rw [h, List.concat_eq_append]⟩
theorem ext_last (a : List UInt8) (x : UInt8) : (bs (a ++ [x])).extract 0 a.length = bs a := by
  rw [bs_ext, ls_bs]
  simp
theorem wrap_pred {n : Nat} (h : n ≤ 4294967296) : IntKind.i64.wrap ((n : Int) - 1) = (n : Int) - 1 := by
  simp [IntKind.wrap, IntKind.bits, IntKind.signed]
  omega
theorem wrap_mid {i : Int} (h1 : -4611686018427387904 ≤ i) (h2 : i ≤ 4611686018427387904) : IntKind.i64.wrap i = i := by
  simp [IntKind.wrap, IntKind.bits, IntKind.signed]
  omega
theorem wrap_u8 {n : Nat} (h : n < 256) : IntKind.u8.wrap (n : Int) = n := by
  simp [IntKind.wrap, IntKind.bits, IntKind.signed]
  omega
theorem get_drop {s : ByteArray} {i : Nat} {c : UInt8} {r : List UInt8} (h : (ls s).drop i = c :: r) : i < s.size ∧ s.data.getD i 0 = c ∧ (ls s).drop (i + 1) = r := by
  have hlt : i < (ls s).length := by
    rcases Nat.lt_or_ge i (ls s).length with h' | h'
    · exact h'
    · rw [List.drop_eq_nil_of_le h'] at h
      cases h
  rw [List.drop_eq_getElem_cons hlt] at h
  simp only [List.cons.injEq] at h
  refine ⟨by rw [← ls_len]; exact hlt, ?_, h.2⟩
  rw [← h.1]
  have h1 : i < s.data.size := by simpa [ls] using hlt
  have h2 : i < s.size := h1
  simp [ls, Array.getD, h2]
theorem app_lo {n i : Nat} (f g : Nat → List PV) (h : i < n) : rowApp n f g i = f i := by
  have : Nat.blt i n = true := by rw [Nat.blt_eq]; exact h
  unfold rowApp
  rw [this]
theorem app_hi (n i : Nat) (f g : Nat → List PV) : rowApp n f g (n + i) = g i := by
  have h1 : Nat.blt (n + i) n = false := by rw [Bool.eq_false_iff, ne_eq, Nat.blt_eq]; omega
  unfold rowApp
  rw [h1, Nat.add_sub_cancel_left]
def bRow (l : List UInt8) (i : Nat) : List PV := [.lit (.int .u8 (((l.getD i 0).toNat : Nat) : Int))]
theorem app_push (k : Nat) (f : Nat → List PV) (c : UInt8) (l : List UInt8) (i : Nat) : rowApp (k + 1) (rowApp k f (rowOf [.lit (.int .u8 ((c.toNat : Nat) : Int))] 1)) (bRow l) i = rowApp k f (bRow (c :: l)) i := by
  unfold rowApp
  rcases Nat.lt_trichotomy i k with h | h | h
  · have h1 : Nat.blt i k = true := by rw [Nat.blt_eq]; exact h
    have h2 : Nat.blt i (k + 1) = true := by rw [Nat.blt_eq]; omega
    rw [h1, h2]
  · subst h
    have h1 : Nat.blt i i = false := by rw [Bool.eq_false_iff, ne_eq, Nat.blt_eq]; omega
    have h2 : Nat.blt i (i + 1) = true := by rw [Nat.blt_eq]; omega
    rw [h1, h2, Nat.sub_self]
    rfl
  · have h1 : Nat.blt i k = false := by rw [Bool.eq_false_iff, ne_eq, Nat.blt_eq]; omega
    have h2 : Nat.blt i (k + 1) = false := by rw [Bool.eq_false_iff, ne_eq, Nat.blt_eq]; omega
    rw [h1, h2]
    obtain ⟨j, rfl⟩ : ∃ j, i = k + 1 + j := ⟨i - (k + 1), by omega⟩
    have e1 : k + 1 + j - (k + 1) = j := by omega
    have e2 : k + 1 + j - k = j + 1 := by omega
    rw [e1, e2]
    rfl
theorem app_assoc (k : Nat) (f : Nat → List PV) (a b : List UInt8) (i : Nat) : rowApp (k + a.length) (rowApp k f (bRow a)) (bRow b) i = rowApp k f (bRow (a ++ b)) i := by
  rcases Nat.lt_or_ge i k with h | h
  · rw [app_lo _ _ (show i < k + a.length by omega), app_lo _ _ h, app_lo _ _ h]
  · obtain ⟨j, rfl⟩ : ∃ j, i = k + j := ⟨i - k, by omega⟩
    rw [app_hi]
    rcases Nat.lt_or_ge j a.length with h2 | h2
    · rw [app_lo _ _ (show k + j < k + a.length by omega), app_hi]
      simp [bRow, List.getElem?_append_left h2]
    · obtain ⟨e, rfl⟩ : ∃ e, j = a.length + e := ⟨j - a.length, by omega⟩
      have : k + (a.length + e) = k + a.length + e := by omega
      rw [this, app_hi]
      simp [bRow, List.getElem?_append_right]
theorem app_nil (k : Nat) (f : Nat → List PV) (i : Nat) (h : i < k + 0) (g : Nat → List PV) : f i = rowApp k f g i := by
  unfold rowApp
  have h1 : Nat.blt i k = true := by rw [Nat.blt_eq]; omega
  rw [h1]
theorem beq_ba (a b : ByteArray) : (a == b) = decide (a = b) := by
  rw [beq_toListBytes, eqB, decide_eq_decide]
  exact ⟨fun h => ls_inj h, fun h => by rw [h]⟩
theorem dropW_nil {p : UInt8 → Bool} : ∀ {l : List UInt8}, l.dropWhile p = [] ↔ l.all p = true
  | [] => by simp
  | c :: r => by
    rw [List.dropWhile_cons, List.all_cons]
    cases hc : p c with
    | true => simp [dropW_nil (l := r)]
    | false => simp
def smallS (s : ByteArray) : Bool := Nat.ble s.size 2000000
theorem smallS_le {s : ByteArray} (h : smallS s = true) : s.size ≤ 2000000 := Nat.le_of_ble_eq_true h
end Go.Proofs.YtbpmfaghjlmjmaaDoor.Ev
