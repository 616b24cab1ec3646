/- nset: spans that rise are put together. No condition, and no program in it. -/
import Derived.Test.YtbpmfaghjlmjmaaDoorNsF
namespace Go.Proofs.YtbpmfaghjlmjmaaDoor.Ev
open Go Go.RowKit Go.Proofs Go.Proofs.YtbpmfaghjlmjmaaDoor.Str
set_option linter.unusedVariables false
set_option linter.unusedSimpArgs false
/-- rising spans, put together: what is done, the last one -/
def mgS : List Sp → List Sp → Sp → List Sp
  | [], o, c => o ++ [c]
  | b :: r, o, c => bif bne c.2 4294967295 && decide (c.2 + 1 < b.1) then mgS r (o ++ [c]) b else mgS r o (c.1, bif decide (c.2 < b.2) then b.2 else c.2)
def mgZ : List Sp → List Sp
  | [] => []
  | b :: r => mgS r [] b
/-- spans that rise, and none touches the next one -/
def okM : Option Sp → List Sp → Bool
  | _, [] => true
  | none, x :: r => decide (x.1 ≤ x.2) && okM (some x) r
  | some p, x :: r => decide (x.1 ≤ x.2) && decide (p.2 + 2 ≤ x.1) && okM (some x) r
def gapM : Option Sp → Sp → Bool
  | none, _ => true
  | some p, c => decide (p.2 + 2 ≤ c.1)
def lastM : Option Sp → List Sp → Option Sp
  | p, [] => p
  | _, x :: r => lastM (some x) r
theorem okM_cons (p : Option Sp) (x : Sp) (r : List Sp) : okM p (x :: r) = (decide (x.1 ≤ x.2) && gapM p x && okM (some x) r) := by
  cases p with
  | none => simp [okM, gapM]
  | some p => simp [okM, gapM]
theorem okM_snoc : ∀ (p : Option Sp) (o : List Sp) (c : Sp), okM p (o ++ [c]) = (okM p o && (decide (c.1 ≤ c.2) && gapM (lastM p o) c))
  | p, [], c => by
    rw [List.nil_append, okM_cons]
    simp [okM, lastM]
  | p, x :: o, c => by
    rw [List.cons_append, okM_cons, okM_cons, okM_snoc (some x) o c]
    simp only [lastM, Bool.and_assoc]
theorem lastM_snoc : ∀ (p : Option Sp) (o : List Sp) (c : Sp), lastM p (o ++ [c]) = some c
  | p, [], c => rfl
  | p, x :: o, c => lastM_snoc (some x) o c
/-- what rises -/
def sdS : Int → List Sp → Prop
  | _, [] => True
  | a, b :: r => a ≤ b.1 ∧ sdS b.1 r
theorem sdS_mono : ∀ {a a' : Int} {r : List Sp}, a' ≤ a → sdS a r → sdS a' r
  | _, _, [], _, _ => trivial
  | a, a', b :: r, h, hs => ⟨by have := hs.1; omega, hs.2⟩
def fine (b : Sp) : Prop := b.1 ≤ b.2 ∧ 0 ≤ b.1 ∧ b.2 ≤ 4294967295
theorem mgS_ok : ∀ (r o : List Sp) (c : Sp), (∀ b ∈ r, fine b) → sdS c.1 r → okM none (o ++ [c]) = true → fine c → okM none (mgS r o c) = true
  | [], o, c, _, _, h, _ => h
  | b :: r, o, c, hf, hs, h, hc => by
    have hb := hf b (by simp)
    have hr : ∀ x ∈ r, fine x := fun x hx => hf x (by simp [hx])
    rw [mgS]
    cases ht : bne c.2 4294967295 && decide (c.2 + 1 < b.1) with
    | true =>
      simp only [Bool.and_eq_true, decide_eq_true_eq] at ht
      refine mgS_ok r (o ++ [c]) b hr hs.2 ?_ hb
      rw [okM_snoc, h, lastM_snoc, decide_eq_true hb.1]
      simp only [gapM, Bool.true_and, decide_eq_true_eq]
      omega
    | false =>
      rw [cond_false]
      refine mgS_ok r o _ hr (sdS_mono hs.1 hs.2) ?_ ?_
      · rw [okM_snoc] at h ⊢
        simp only [Bool.and_eq_true, decide_eq_true_eq] at h ⊢
        have e : gapM (lastM none o) (c.1, bif decide (c.2 < b.2) then b.2 else c.2) = gapM (lastM none o) c := by
          cases lastM none o <;> rfl
        rw [e]
        refine ⟨h.1, ?_, h.2.2⟩
        cases hd : decide (c.2 < b.2) with
        | true =>
          have := of_decide_eq_true hd
          simp only [cond_true]
          omega
        | false => exact h.2.1
      · unfold fine at *
        cases hd : decide (c.2 < b.2) with
        | true =>
          have := of_decide_eq_true hd
          simp only [cond_true]
          omega
        | false => exact hc
theorem mgS_any (x : Int) : ∀ (r o : List Sp) (c : Sp), (∀ b ∈ r, fine b) → sdS c.1 r → fine c → (mgS r o c).any (withinB x) = (o.any (withinB x) || (withinB x c || r.any (withinB x)))
  | [], o, c, _, _, _ => by simp [mgS, List.any_append]
  | b :: r, o, c, hf, hs, hc => by
    have hb := hf b (by simp)
    have hr : ∀ x ∈ r, fine x := fun x hx => hf x (by simp [hx])
    rw [mgS]
    cases ht : bne c.2 4294967295 && decide (c.2 + 1 < b.1) with
    | true =>
      rw [cond_true, mgS_any x r (o ++ [c]) b hr hs.2 hb, List.any_append]
      simp [Bool.or_assoc]
    | false =>
      have hc' : fine (c.1, bif decide (c.2 < b.2) then b.2 else c.2) := by
        unfold fine at *
        cases hd : decide (c.2 < b.2) with
        | true =>
          have := of_decide_eq_true hd
          simp only [cond_true]
          omega
        | false => exact hc
      rw [cond_false, mgS_any x r o (c.1, bif decide (c.2 < b.2) then b.2 else c.2) hr (sdS_mono hs.1 hs.2) hc']
      have hle : b.1 ≤ c.2 + 1 := by
        rw [Bool.and_eq_false_iff] at ht
        rcases ht with h | h
        · have : c.2 = 4294967295 := by simpa using h
          unfold fine at hb
          omega
        · have := of_decide_eq_false h
          omega
      have e : withinB x (c.1, bif decide (c.2 < b.2) then b.2 else c.2) = (withinB x c || withinB x b) := by
        have hs1 := hs.1
        unfold fine at hb hc
        rw [Bool.eq_iff_iff]
        cases hd : decide (c.2 < b.2) with
        | true =>
          have := of_decide_eq_true hd
          simp [withinB]
          omega
        | false =>
          have := of_decide_eq_false hd
          simp [withinB]
          omega
      rw [e, List.any_cons]
      simp only [Bool.or_assoc]
theorem sdS_of : ∀ {S : List Sp} (a : Int), (∀ (i j : Nat), i < j → j < S.length → (sp S i).1 ≤ (sp S j).1) → (∀ b, S.head? = some b → a ≤ b.1) → sdS a S
  | [], a, _, _ => trivial
  | b :: r, a, h, h0 => by
    refine ⟨h0 b rfl, sdS_of b.1 (fun i j hij hj => ?_) fun x hx => ?_⟩
    · have := h (i + 1) (j + 1) (by omega) (by simp; omega)
      simpa [sp] using this
    · cases r with
      | nil => cases hx
      | cons y r =>
        have := h 0 1 (by omega) (by simp)
        simp [sp] at this hx
        rw [← hx]
        exact this
theorem mgZ_ok {S : List Sp} (hf : ∀ b ∈ S, fine b) (hs : ∀ (i j : Nat), i < j → j < S.length → (sp S i).1 ≤ (sp S j).1) : okM none (mgZ S) = true ∧ ∀ x, (mgZ S).any (withinB x) = S.any (withinB x) := by
  cases S with
  | nil => exact ⟨rfl, fun _ => rfl⟩
  | cons b r =>
    have hb := hf b (by simp)
    have hr : ∀ x ∈ r, fine x := fun x hx => hf x (by simp [hx])
    have hsd : sdS b.1 (b :: r) := sdS_of b.1 hs fun x hx => by
      simp at hx
      subst hx
      exact Int.le_refl _
    refine ⟨mgS_ok r [] b hr hsd.2 (by rw [List.nil_append, okM_cons]; simp [gapM, okM]; exact hb.1) hb, fun x => ?_⟩
    show (mgS r [] b).any (withinB x) = _
    rw [mgS_any x r [] b hr hsd.2 hb]
    rfl
theorem mgS_len : ∀ (r o : List Sp) (c : Sp), (mgS r o c).length ≤ r.length + o.length + 1
  | [], o, c => by simp [mgS]
  | b :: r, o, c => by
    rw [mgS]
    cases bne c.2 4294967295 && decide (c.2 + 1 < b.1) with
    | true =>
      have := mgS_len r (o ++ [c]) b
      simp at this ⊢
      omega
    | false =>
      have := mgS_len r o (c.1, bif decide (c.2 < b.2) then b.2 else c.2)
      simp at this ⊢
      omega
theorem mgZ_len (S : List Sp) : (mgZ S).length ≤ S.length := by
  cases S with
  | nil => exact Nat.le_refl _
  | cons b r =>
    have := mgS_len r [] b
    simp at this ⊢
    exact this
/-! ### what is put together stays so -/
theorem mgS_id : ∀ (r o : List Sp) (c : Sp), okM (some c) r = true → (∀ b ∈ r, fine b) → mgS r o c = o ++ c :: r
  | [], o, c, _, _ => rfl
  | b :: r, o, c, h, hf => by
    rw [okM_cons] at h
    simp only [Bool.and_eq_true, decide_eq_true_eq, gapM] at h
    have hb := hf b (by simp)
    have ht : (bne c.2 4294967295 && decide (c.2 + 1 < b.1)) = true := by
      unfold fine at hb
      simp only [Bool.and_eq_true, decide_eq_true_eq, bne_iff_ne, ne_eq]
      omega
    rw [mgS, ht, cond_true, mgS_id r (o ++ [c]) b h.2 fun x hx => hf x (by simp [hx])]
    simp
theorem mgZ_id {M : List Sp} (h : okM none M = true) (hf : ∀ b ∈ M, fine b) : mgZ M = M := by
  cases M with
  | nil => rfl
  | cons b r =>
    rw [okM_cons] at h
    simp only [Bool.and_eq_true] at h
    show mgS r [] b = _
    rw [mgS_id r [] b h.2 fun x hx => hf x (by simp [hx])]
    rfl
/-- strictly rising -/
def stS : Int → List Sp → Prop
  | _, [] => True
  | a, b :: r => a < b.1 ∧ stS b.1 r
theorem stS_mem : ∀ {a : Int} {r : List Sp}, stS a r → ∀ x ∈ r, a < x.1
  | _, [], _, x, hx => by cases hx
  | a, b :: r, h, x, hx => by
    rcases List.mem_cons.1 hx with rfl | hx
    · exact h.1
    · have := stS_mem h.2 x hx
      have := h.1
      omega
theorem okM_st : ∀ (p : Sp) (r : List Sp), okM (some p) r = true → p.1 ≤ p.2 → stS p.1 r
  | _, [], _, _ => trivial
  | p, b :: r, h, hp => by
    rw [okM_cons] at h
    simp only [Bool.and_eq_true, decide_eq_true_eq, gapM] at h
    exact ⟨by omega, okM_st b r h.2 h.1.1⟩
theorem perm_st : ∀ (M S : List Sp), (∀ b r, M = b :: r → stS b.1 r) → S.Perm M → (∀ (i j : Nat), i < j → j < S.length → (sp S i).1 ≤ (sp S j).1) → S = M
  | [], S, _, hp, _ => List.Perm.eq_nil hp
  | b :: r, [], _, hp, _ => by
    have := hp.length_eq
    simp at this
  | b :: r, s :: S, hM, hp, hs => by
    have hst := hM b r rfl
    have e : s = b := by
      have h1 : s ∈ b :: r := hp.subset (by simp)
      have h2 : b ∈ s :: S := hp.symm.subset (by simp)
      rcases List.mem_cons.1 h1 with h | h
      · exact h
      · have hlt := stS_mem hst s h
        rcases List.mem_cons.1 h2 with h' | h'
        · exact h'.symm
        · obtain ⟨j, hj, hjb⟩ := List.getElem_of_mem h'
          have := hs 0 (j + 1) (by omega) (by simp; omega)
          have e1 : sp (s :: S) (j + 1) = b := by simp [sp, hj, hjb]
          rw [e1] at this
          simp [sp] at this
          omega
    subst e
    have hp' : S.Perm r := List.Perm.cons_inv hp
    rw [perm_st r S (fun b' r' h => by rw [h] at hst; exact hst.2) hp' fun i j hij hj => by
      have := hs (i + 1) (j + 1) (by omega) (by simp; omega)
      simpa [sp] using this]
/-! ### bands -/
theorem bandS_fine {most : Int} {x : Sp} (hm : 0 ≤ most ∧ most < 4294967296) (hx : u32B x = true) : fine (bandS most x) := by
  unfold u32B at hx
  simp only [Bool.and_eq_true, decide_eq_true_eq] at hx
  have h1 := eS_u32 hm hx.1
  have h2 := eS_u32 hm hx.2
  unfold fine bandS
  cases hd : decide (eS most x.2 < eS most x.1) with
  | true =>
    have := of_decide_eq_true hd
    simp only [cond_true]
    omega
  | false =>
    have := of_decide_eq_false hd
    simp only [cond_false]
    omega
theorem bandS_id {most : Int} {x : Sp} (h : x.1 ≤ x.2) (h0 : (most = 0) ∨ (x.1 ≠ 0 ∧ x.2 ≠ 0)) : bandS most x = x := by
  have e : ∀ a : Int, (most = 0 ∨ a ≠ 0) → eS most a = a := by
    intro a ha
    unfold eS
    by_cases h1 : a = 0
    · have h2 : most = 0 := by
        rcases ha with h | h
        · exact h
        · exact absurd h1 h
      subst h1
      subst h2
      rfl
    · have : bne a 0 = true := by simpa using h1
      rw [this]
      rfl
  have e1 := e x.1 (h0.imp id (·.1))
  have e2 := e x.2 (h0.imp id (·.2))
  unfold bandS
  rw [e1, e2, decide_eq_false (by omega)]
  rfl
theorem bandS_zero {most : Int} {x : Sp} (hm : 0 ≤ most) (hx : u32B x = true) (h : (bandS most x).1 = 0) : most = 0 := by
  unfold u32B at hx
  simp only [Bool.and_eq_true, decide_eq_true_eq] at hx
  have key : ∀ a : Int, eS most a = 0 → most = 0 := by
    intro a ha
    unfold eS at ha
    cases h1 : bne a 0 with
    | true =>
      rw [h1] at ha
      simp only [cond_true] at ha
      subst ha
      simp at h1
    | false =>
      rw [h1] at ha
      cases h2 : bne most 0 with
      | true =>
        rw [h2] at ha
        exact ha
      | false => simpa using h2
  unfold bandS at h
  cases hd : decide (eS most x.2 < eS most x.1) with
  | true => rw [hd] at h; exact key _ h
  | false => rw [hd] at h; exact key _ h
end Go.Proofs.YtbpmfaghjlmjmaaDoor.Ev
