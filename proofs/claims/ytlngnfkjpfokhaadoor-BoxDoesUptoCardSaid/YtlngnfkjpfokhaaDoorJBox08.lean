/- JBox08: several texts in one. Condition: each part's own. -/
import Derived.Lib.Split
import Derived.Lib.SplitLaws
import Derived.Lib.CutLaws
import Derived.Lib.CountLaws
import Derived.Lib.IndexLaws
import Derived.Lib.FieldsP
import Derived.Lib.DecodeN
/- Plain facts on texts as lists of bytes: pieces at a mark, a cut, words between blanks. No condition. -/
namespace Go.Proofs.YtlngnfkjpfokhaaDoor.Str
open Go
set_option linter.unusedVariables false
set_option linter.unusedSimpArgs false
/-! ### bytes as a list -/
def ls (s : ByteArray) : List UInt8 := s.data.toList
theorem ls_len (s : ByteArray) : (ls s).length = s.size := Array.length_toList
theorem ls_ext (s : ByteArray) (a b : Nat) : ls (s.extract a b) = ((ls s).take b).drop a := by
  show (s.extract a b).data.toList = _
  rw [ByteArray.data_extract, Array.toList_extract, List.extract_eq_drop_take']
  rfl
theorem ls_inj {s t : ByteArray} (h : ls s = ls t) : s = t := by
  obtain ⟨⟨a⟩⟩ := s
  obtain ⟨⟨b⟩⟩ := t
  simp [ls] at h
  rw [h]
theorem ls_mk (l : List UInt8) : ls ⟨l.toArray⟩ = l := by simp [ls]
theorem ls_app (s t : ByteArray) : ls (s ++ t) = ls s ++ ls t := by
  simp [ls]
theorem mk_ls (s : ByteArray) : (⟨(ls s).toArray⟩ : ByteArray) = s := ls_inj (ls_mk _)
/-! ### pieces at a mark -/
def splitC (c : UInt8) : List UInt8 → List (List UInt8)
  | [] => [[]]
  | b :: l => if b = c then [] :: splitC c l else match splitC c l with | [] => [[b]] | h :: t => (b :: h) :: t
theorem splitC_ne (c : UInt8) (l : List UInt8) : splitC c l ≠ [] := by
  cases l with
  | nil => simp [splitC]
  | cons b l =>
    unfold splitC
    split
    · simp
    · split <;> simp
theorem index_cons (c b : UInt8) (l : List UInt8) : Lib.index (b :: l) [c] = if b = c then 0 else if Lib.index l [c] = -1 then -1 else Lib.index l [c] + 1 := by
  unfold Lib.index
  by_cases h : b = c
  · subst h; simp [List.isPrefixOf]
  · have h' : ¬ c = b := fun g => h g.symm
    simp [List.isPrefixOf, h, h']
    cases l <;> simp [Lib.index]
theorem index_mem (c : UInt8) (l : List UInt8) : Lib.index l [c] = -1 ↔ c ∉ l := by
  induction l with
  | nil => simp [Lib.index]
  | cons b l ih =>
    rw [index_cons]
    by_cases h : b = c
    · simp [h]
    · have h' : ¬ c = b := fun g => h g.symm
      rw [if_neg h]
      by_cases g : Lib.index l [c] = -1
      · rw [if_pos g]; simp [h', ih.1 g]
      · rw [if_neg g]
        have := Lib.index_ge l [c]
        have g2 : c ∈ l := Classical.byContradiction fun q => g (ih.2 q)
        simp [g2]; omega
theorem splitK_splitC (c : UInt8) (l : List UInt8) : Lib.splitK [c] 0 (l.count c) l = splitC c l := by
  induction l with
  | nil => rfl
  | cons b l ih =>
    unfold splitC
    by_cases h : b = c
    · subst h
      rw [if_pos rfl, List.count_cons_self, Lib.splitK, index_cons, if_pos rfl]
      simp [ih]
    · rw [if_neg h, List.count_cons_of_ne (by simpa using h), ← ih]
      cases hk : l.count c with
      | zero => simp [Lib.splitK]
      | succ k =>
        have hm : c ∈ l := List.count_pos_iff.1 (by omega)
        have hi : Lib.index l [c] ≠ -1 := fun g => (index_mem c l).1 g hm
        have hge := Lib.index_ge l [c]
        rw [Lib.splitK, Lib.splitK, index_cons, if_neg h, if_neg hi]
        have e1 : (Lib.index l [c] + 1 == -1) = false := by simp; omega
        have e2 : (Lib.index l [c] == -1) = false := by simpa using hi
        rw [e1, e2]
        have e3 : (Lib.index l [c] + 1).toNat = (Lib.index l [c]).toNat + 1 := by omega
        simp [e3, List.take_succ_cons]
/-- strings.Split at a mark of one byte -/
theorem splitB_ls (c : UInt8) (s : ByteArray) : (Lib.splitB ⟨#[c]⟩ 0 (Lib.countB s ⟨#[c]⟩) s).map ls = splitC c (ls s) := by
  have h := Lib.splitB_data ⟨#[c]⟩ 0 (Lib.countB s ⟨#[c]⟩) s
  have e : Lib.countB s ⟨#[c]⟩ = (ls s).count c := Lib.count_one c _
  have e2 : (⟨#[c]⟩ : ByteArray).data.toList = [c] := rfl
  rw [e, e2] at h
  rw [e]
  exact h.trans (splitK_splitC c _)
theorem splitC_free (c : UInt8) (l : List UInt8) (h : c ∉ l) : splitC c l = [l] := by
  induction l with
  | nil => rfl
  | cons b l ih =>
    simp at h
    unfold splitC
    rw [if_neg (fun g => h.1 g.symm), ih h.2]
theorem splitC_app (c : UInt8) (a r : List UInt8) (h : c ∉ a) : splitC c (a ++ c :: r) = a :: splitC c r := by
  induction a with
  | nil => simp [splitC]
  | cons b a ih =>
    simp at h
    rw [List.cons_append, splitC, if_neg (fun g => h.1 g.symm), ih h.2]
/-- the pieces, one behind the other with the mark between -/
def joinC (c : UInt8) : List (List UInt8) → List UInt8
  | [] => []
  | [a] => a
  | a :: b :: t => a ++ c :: joinC c (b :: t)
theorem joinC_cons (c b : UInt8) (h : List UInt8) (t : List (List UInt8)) : joinC c ((b :: h) :: t) = b :: joinC c (h :: t) := by
  cases t <;> simp [joinC]
theorem joinC_splitC (c : UInt8) (l : List UInt8) : joinC c (splitC c l) = l := by
  induction l with
  | nil => rfl
  | cons b l ih =>
    unfold splitC
    cases hs : splitC c l with
    | nil => exact absurd hs (splitC_ne c l)
    | cons x t =>
      rw [hs] at ih
      by_cases h : b = c
      · subst h
        simp [joinC, ih]
      · rw [if_neg h]
        simp [joinC_cons, ih]
theorem splitC_mem (c : UInt8) (l : List UInt8) : ∀ x ∈ splitC c l, c ∉ x := by
  induction l with
  | nil => simp [splitC]
  | cons b l ih =>
    unfold splitC
    intro x hx
    by_cases h : b = c
    · rw [if_pos h] at hx
      rcases List.mem_cons.1 hx with rfl | hx
      · simp
      · exact ih x hx
    · rw [if_neg h] at hx
      cases hs : splitC c l with
      | nil => exact absurd hs (splitC_ne c l)
      | cons y t =>
        rw [hs] at hx ih
        rcases List.mem_cons.1 hx with rfl | hx
        · have := ih y (by simp)
          simp [this]; exact fun g => h g.symm
        · exact ih x (by simp [hx])
/-! ### a cut -/
def cutC (c : UInt8) : List UInt8 → List UInt8 × List UInt8 × Bool
  | [] => ([], [], false)
  | b :: l => if b = c then ([], l, true) else (b :: (cutC c l).1, (cutC c l).2)
theorem cut_one (c : UInt8) (l : List UInt8) : Lib.cut l [c] = cutC c l := by
  induction l with
  | nil => rfl
  | cons b l ih =>
    unfold Lib.cut cutC
    rw [index_cons]
    by_cases h : b = c
    · simp [h]
    · rw [if_neg h, if_neg h, ← ih]
      unfold Lib.cut
      have hge := Lib.index_ge l [c]
      by_cases g : Lib.index l [c] = -1
      · rw [if_pos g, if_neg (by omega), if_neg (by omega)]
      · rw [if_neg g, if_pos (by omega), if_pos (by omega)]
        have e3 : (Lib.index l [c] + 1).toNat = (Lib.index l [c]).toNat + 1 := by omega
        simp [e3]
theorem cutC_free (c : UInt8) (l : List UInt8) (h : c ∉ l) : cutC c l = (l, [], false) := by
  induction l with
  | nil => rfl
  | cons b l ih =>
    simp at h
    unfold cutC
    rw [if_neg (fun g => h.1 g.symm), ih h.2]
theorem cutC_app (c : UInt8) (a r : List UInt8) (h : c ∉ a) : cutC c (a ++ c :: r) = (a, r, true) := by
  induction a with
  | nil => simp [cutC]
  | cons b a ih =>
    simp at h
    rw [List.cons_append, cutC, if_neg (fun g => h.1 g.symm), ih h.2]
/-! ### words between blanks -/
def fw (p : UInt8 → Bool) : List UInt8 → List UInt8 → List (List UInt8)
  | [], cur => if cur = [] then [] else [cur]
  | b :: l, cur => if p b = true then (if cur = [] then fw p l [] else cur :: fw p l []) else fw p l (cur ++ [b])
theorem fw_skip (p : UInt8 → Bool) (u v : List UInt8) : ∀ cur, (∀ x ∈ u, p x = false) → fw p (u ++ v) cur = fw p v (cur ++ u) := by
  induction u with
  | nil => intro cur _; simp
  | cons b u ih =>
    intro cur h
    rw [List.cons_append, fw, if_neg (by rw [h b (by simp)]; exact Bool.false_ne_true), ih _ (fun x hx => h x (by simp [hx]))]
    simp
set_option maxHeartbeats 1000000 in
theorem decodeN_far (n b0 b1 b2 b3 : Nat) (h : ¬ b0 < 128) : 128 ≤ (Lib.decodeN n b0 b1 b2 b3).1 ∧
    ((Lib.decodeN n b0 b1 b2 b3).2 = 1 ∨ (Lib.decodeN n b0 b1 b2 b3).2 = 2 ∧ 1 < n ∧ b1 / 64 = 2 ∨ (Lib.decodeN n b0 b1 b2 b3).2 = 3 ∧ 2 < n ∧ b1 / 64 = 2 ∧ b2 / 64 = 2 ∨ (Lib.decodeN n b0 b1 b2 b3).2 = 4 ∧ 3 < n ∧ b1 / 64 = 2 ∧ b2 / 64 = 2 ∧ b3 / 64 = 2) := by
  unfold Lib.decodeN
  rw [if_neg h]
  repeat' split
  all_goals (refine ⟨by simp only; omega, ?_⟩)
  all_goals (dsimp only; first | exact Or.inl trivial | exact Or.inl rfl | (refine Or.inr (Or.inl ⟨rfl, ?_, ?_⟩) <;> omega) | (refine Or.inr (Or.inr (Or.inl ⟨rfl, ?_, ?_, ?_⟩)) <;> omega) | (refine Or.inr (Or.inr (Or.inr ⟨rfl, ?_, ?_, ?_, ?_⟩)) <;> omega))
theorem get_ls (s : ByteArray) (i : Nat) (h : i < s.size) : (ls s)[i]? = some (s.get! i) := by
  have h' : i < s.data.size := h
  have e : s.get! i = s.data[i]! := rfl
  rw [e, getElem!_pos s.data i h']
  simp [ls]
theorem decode_step (s : ByteArray) (pos : Nat) (hp : pos < s.size) :
    ((s.get! pos).toNat < 128 ∧ Utf8.decode s pos = ((s.get! pos).toNat, 1)) ∨
    (128 ≤ (Utf8.decode s pos).1 ∧ 1 ≤ (Utf8.decode s pos).2 ∧ pos + (Utf8.decode s pos).2 ≤ s.size ∧ ∀ x ∈ ((ls s).take (pos + (Utf8.decode s pos).2)).drop pos, 128 ≤ x.toNat) := by
  rw [Lib.decode_at]
  by_cases h : (s.get! pos).toNat < 128
  · left
    refine ⟨h, ?_⟩
    unfold Lib.decodeN
    rw [if_pos h]
  · right
    obtain ⟨h1, h2⟩ := decodeN_far (s.size - pos) (s.get! pos).toNat (s.get! (pos + 1)).toNat (s.get! (pos + 2)).toNat (s.get! (pos + 3)).toNat h
    generalize hd : Lib.decodeN (s.size - pos) (s.get! pos).toNat (s.get! (pos + 1)).toNat (s.get! (pos + 2)).toNat (s.get! (pos + 3)).toNat = d at *
    refine ⟨h1, by omega, by omega, ?_⟩
    intro x hx
    obtain ⟨j, hj⟩ := List.mem_iff_getElem?.1 hx
    rw [List.getElem?_drop] at hj
    have hlt : pos + j < pos + d.2 := by
      have := (List.getElem?_eq_some_iff.1 hj).1
      simp at this
      omega
    rw [List.getElem?_take_of_lt hlt, get_ls s (pos + j) (by omega)] at hj
    injection hj with hj
    subst hj
    rcases h2 with e | ⟨e, _, c1⟩ | ⟨e, _, c1, c2⟩ | ⟨e, _, c1, c2, c3⟩
    · obtain rfl : j = 0 := by omega
      rw [Nat.add_zero]; omega
    · rcases (by omega : j = 0 ∨ j = 1) with rfl | rfl
      · rw [Nat.add_zero]; omega
      · omega
    · rcases (by omega : j = 0 ∨ j = 1 ∨ j = 2) with rfl | rfl | rfl
      · rw [Nat.add_zero]; omega
      · omega
      · omega
    · rcases (by omega : j = 0 ∨ j = 1 ∨ j = 2 ∨ j = 3) with rfl | rfl | rfl | rfl
      · rw [Nat.add_zero]; omega
      · omega
      · omega
      · omega
theorem drop_at (l : List UInt8) (i : Nat) (b : UInt8) (h : l[i]? = some b) : l.drop i = b :: l.drop (i + 1) := by
  obtain ⟨hi, e⟩ := List.getElem?_eq_some_iff.1 h
  rw [List.drop_eq_getElem_cons hi, e]
theorem mid_app (l : List UInt8) (a b c : Nat) (h1 : a ≤ b) (h2 : b ≤ c) (h3 : c ≤ l.length) : (l.take b).drop a ++ (l.take c).drop b = (l.take c).drop a := by
  have e : l.take b = (l.take c).take b := by rw [List.take_take, Nat.min_eq_left h2]
  rw [e]
  generalize l.take c = m at *
  rw [List.drop_take]
  have : m.drop b = (m.drop a).drop (b - a) := by rw [List.drop_drop]; congr 1; omega
  rw [this, List.take_append_drop]
def curOf (s : ByteArray) (pos : Nat) : Option Nat → List UInt8
  | some a => ((ls s).take pos).drop a
  | none => []
theorem curOf_ne (s : ByteArray) (pos a : Nat) (h : a < pos) (hp : pos ≤ s.size) : curOf s pos (some a) ≠ [] := by
  intro g
  have := congrArg List.length g
  simp [curOf, ls_len] at this
  omega
theorem spans_fw (p : Nat → Bool) (q : UInt8 → Bool) (h1 : ∀ b : UInt8, b.toNat < 128 → p b.toNat = q b) (h2 : ∀ r, 128 ≤ r → p r = false) (h3 : ∀ b : UInt8, 128 ≤ b.toNat → q b = false) (s : ByteArray) :
    ∀ (f pos : Nat) (st : Option Nat) (acc : List (Nat × Nat)), pos ≤ s.size → s.size - pos ≤ f → (∀ a, st = some a → a < pos) →
    ((Lib.closeSpans s (Lib.spansFromP p s f pos st acc)).map fun x => ls (s.extract x.1 x.2)) = (acc.map fun x => ls (s.extract x.1 x.2)) ++ fw q ((ls s).drop pos) (curOf s pos st) := by
  have fin : ∀ (st : Option Nat) (acc : List (Nat × Nat)), (∀ a, st = some a → a < s.size) →
      ((Lib.closeSpans s (acc, st)).map fun x => ls (s.extract x.1 x.2)) = (acc.map fun x => ls (s.extract x.1 x.2)) ++ fw q ((ls s).drop s.size) (curOf s s.size st) := by
    intro st acc hst
    rw [List.drop_eq_nil_of_le (by rw [ls_len]; exact Nat.le_refl _)]
    cases st with
    | none => simp [Lib.closeSpans, fw, curOf]
    | some a =>
      rw [fw, if_neg (curOf_ne s s.size a (hst a rfl) (Nat.le_refl _))]
      simp [Lib.closeSpans, ls_ext, curOf]
  intro f
  induction f with
  | zero =>
    intro pos st acc hp hf hst
    obtain rfl : pos = s.size := by omega
    exact fin st acc hst
  | succ f ih =>
    intro pos st acc hp hf hst
    by_cases hlt : pos < s.size
    · unfold Lib.spansFromP
      rw [if_pos hlt]
      have hb := get_ls s pos hlt
      rw [drop_at _ _ _ hb]
      rcases decode_step s pos hlt with ⟨ha, e⟩ | ⟨hr, w1, w2, hall⟩
      · rw [e, h1 _ ha]
        simp only
        by_cases g : q (s.get! pos) = true
        · rw [if_pos g, fw, if_pos g]
          cases st with
          | none =>
            simp only
            rw [ih (pos + 1) none acc (by omega) (by omega) (by simp)]
            simp [curOf]
          | some a =>
            simp only
            rw [ih (pos + 1) none _ (by omega) (by omega) (by simp), if_neg (curOf_ne s pos a (hst a rfl) hp)]
            simp [curOf, ls_ext]
        · rw [if_neg g, fw, if_neg g]
          have tk : (ls s).take (pos + 1) = (ls s).take pos ++ [s.get! pos] := by
            rw [List.take_add_one, hb]; rfl
          cases st with
          | none =>
            simp only
            rw [ih (pos + 1) (some pos) acc (by omega) (by omega) (by simp)]
            simp only [curOf, tk]
            rw [List.drop_append_of_le_length (by simp [ls_len]; omega), List.drop_eq_nil_of_le (as := (ls s).take pos) (i := pos) (by simp [ls_len]; omega)]
          | some a =>
            have ha' := hst a rfl
            simp only
            rw [ih (pos + 1) (some a) acc (by omega) (by omega) (by intro x hx; injection hx with hx; omega)]
            simp only [curOf, tk]
            rw [List.drop_append_of_le_length (by simp [ls_len]; omega)]
      · rw [h2 _ hr]
        simp only [Bool.false_eq_true, if_false]
        generalize (Utf8.decode s pos).2 = wd at *
        have hq : ∀ x ∈ ((ls s).take (pos + wd)).drop pos, q x = false := fun x hx => h3 x (hall x hx)
        have e : s.get! pos :: (ls s).drop (pos + 1) = ((ls s).take (pos + wd)).drop pos ++ (ls s).drop (pos + wd) := by
          rw [← drop_at _ _ _ hb]
          conv => lhs; rw [← List.take_append_drop (pos + wd) (ls s)]
          rw [List.drop_append_of_le_length (by simp [ls_len]; omega)]
        rw [e, fw_skip _ _ _ _ hq]
        cases st with
        | none =>
          simp only
          rw [ih (pos + wd) (some pos) acc w2 (by omega) (by intro x hx; injection hx with hx; omega)]
          simp [curOf]
        | some a =>
          have ha' := hst a rfl
          simp only
          rw [ih (pos + wd) (some a) acc w2 (by omega) (by intro x hx; injection hx with hx; omega)]
          simp only [curOf]
          rw [mid_app _ _ _ _ (by omega) (by omega) (by rw [ls_len]; exact w2)]
    · obtain rfl : pos = s.size := by omega
      rw [Lib.spansFromP_end _ _ _ _ _ _ hlt]
      exact fin st acc hst
theorem fields_fw (p : Nat → Bool) (q : UInt8 → Bool) (h1 : ∀ b : UInt8, b.toNat < 128 → p b.toNat = q b) (h2 : ∀ r, 128 ≤ r → p r = false) (h3 : ∀ b : UInt8, 128 ≤ b.toNat → q b = false) (s : ByteArray) :
    (Lib.goFieldsP p s).map ls = fw q (ls s) [] := by
  unfold Lib.goFieldsP Lib.spansOfP
  rw [List.map_map]
  have := spans_fw p q h1 h2 h3 s s.size 0 none [] (Nat.zero_le _) (by omega) (by simp)
  simp only [List.map_nil, List.nil_append, List.drop_zero, curOf] at this
  exact this
end Go.Proofs.YtlngnfkjpfokhaaDoor.Str
