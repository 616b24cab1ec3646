/- nset: the document's own sorting, put together; two lists of spans that do not touch and hold the same are the same. No condition, and no program in it. -/
import Derived.Test.YtbpmfaghjlmjmaaDoorNsK
namespace Go.Proofs.YtbpmfaghjlmjmaaDoor.Ev
open Go Go.RowKit Go.Proofs Go.Proofs.YtbpmfaghjlmjmaaDoor.Str
set_option linter.unusedVariables false
set_option linter.unusedSimpArgs false
/-- the spans that one does not touch; that one, with those that it touches -/
def riS : List Sp → Int → Int → List Sp → (Int × Int) × List Sp
  | [], a, b, r => ((a, b), r)
  | y :: s, a, b, r => bif (decide (y.2 + 1 < a) || decide (b + 1 < y.1)) then riS s a b (r ++ [y]) else riS s (bif decide (y.1 < a) then y.1 else a) (bif decide (y.2 > b) then y.2 else b) r
/-- how many begin before it -/
def rjS (a : Int) : List Sp → Nat
  | [] => 0
  | y :: r => bif decide (y.1 < a) then rjS a r + 1 else 0
def roS (o : List Sp) (c : Sp) : List Sp :=
  let z := riS o c.1 c.2 []
  z.2.take (rjS z.1.1 z.2) ++ (z.1 :: z.2.drop (rjS z.1.1 z.2))
def rsS (most : Int) (l : List Sp) : List Sp := l.foldl (fun o x => roS o (bandS most x)) []
/-- apart, and each one right -/
def gapP (x y : Sp) : Prop := x.2 + 2 ≤ y.1
def okP (l : List Sp) : Prop := l.Pairwise gapP ∧ ∀ x ∈ l, fine x
def sepB (a b : Int) (z : Sp) : Prop := z.2 + 1 < a ∨ b + 1 < z.1
theorem riS_ok (x : Int) : ∀ (s : List Sp) (a b : Int) (r : List Sp), okP (r ++ s) → (∀ z ∈ r, sepB a b z) → fine (a, b) →
    okP (riS s a b r).2 ∧ (∀ z ∈ (riS s a b r).2, sepB (riS s a b r).1.1 (riS s a b r).1.2 z) ∧ fine (riS s a b r).1 ∧
    (withinB x (riS s a b r).1 || (riS s a b r).2.any (withinB x)) = (withinB x (a, b) || (r ++ s).any (withinB x))
  | [], a, b, r, h, hz, hf => by
    rw [List.append_nil] at h ⊢
    exact ⟨h, hz, hf, rfl⟩
  | y :: s, a, b, r, h, hz, hf => by
    have hy : fine y := h.2 y (by simp)
    have hry : ∀ z ∈ r, gapP z y := fun z hz => (List.pairwise_append.1 h.1).2.2 z hz y (by simp)
    have hfr : ∀ z ∈ r, fine z := fun z hz => h.2 z (by simp [hz])
    rw [riS]
    cases ht : (decide (y.2 + 1 < a) || decide (b + 1 < y.1)) with
    | true =>
      simp only [Bool.or_eq_true, decide_eq_true_eq] at ht
      have e : r ++ y :: s = (r ++ [y]) ++ s := by simp
      rw [cond_true, e]
      rw [e] at h
      exact riS_ok x s a b (r ++ [y]) h (fun z hz' => by
        rcases List.mem_append.1 hz' with h' | h'
        · exact hz z h'
        · have : z = y := by simpa using h'
          rw [this]
          exact ht) hf
    | false =>
      rw [Bool.or_eq_false_iff] at ht
      have t1 := of_decide_eq_false ht.1
      have t2 := of_decide_eq_false ht.2
      have h' : okP (r ++ s) := by
        refine ⟨?_, fun z hz => h.2 z ?_⟩
        · exact h.1.sublist (List.Sublist.append_left (List.sublist_cons_self y s) r)
        · rcases List.mem_append.1 hz with h | h
          · simp [h]
          · simp [h]
      have hf' : fine ((bif decide (y.1 < a) then y.1 else a), (bif decide (y.2 > b) then y.2 else b)) := by
        unfold fine at *
        cases d1 : decide (y.1 < a) <;> cases d2 : decide (y.2 > b) <;> simp at d1 d2 ⊢ <;> omega
      have hz' : ∀ z ∈ r, sepB (bif decide (y.1 < a) then y.1 else a) (bif decide (y.2 > b) then y.2 else b) z := by
        intro z hz0
        have g := hry z hz0
        have s0 := hz z hz0
        have fz := hfr z hz0
        unfold sepB gapP fine at *
        left
        cases d1 : decide (y.1 < a) <;> simp at d1 ⊢ <;> omega
      have key := riS_ok x s _ _ r h' hz' hf'
      rw [cond_false]
      refine ⟨key.1, key.2.1, key.2.2.1, ?_⟩
      rw [key.2.2.2]
      have e : withinB x ((bif decide (y.1 < a) then y.1 else a), (bif decide (y.2 > b) then y.2 else b)) = (withinB x (a, b) || withinB x y) := by
        unfold fine at hf hy
        rw [Bool.eq_iff_iff]
        cases d1 : decide (y.1 < a) <;> cases d2 : decide (y.2 > b) <;> simp [withinB] at d1 d2 ⊢ <;> omega
      rw [e]
      simp only [List.any_append, List.any_cons]
      cases withinB x (a, b) <;> cases withinB x y <;> cases r.any (withinB x) <;> rfl
theorem rjS_le (a : Int) : ∀ (l : List Sp), rjS a l ≤ l.length
  | [] => Nat.le_refl _
  | y :: r => by
    rw [rjS]
    have := rjS_le a r
    cases decide (y.1 < a) <;> simp <;> omega
theorem ins_ok (x : Int) (c : Sp) (hc : fine c) : ∀ (l : List Sp), okP l → (∀ z ∈ l, sepB c.1 c.2 z) →
    okP (l.take (rjS c.1 l) ++ (c :: l.drop (rjS c.1 l))) ∧ (l.take (rjS c.1 l) ++ (c :: l.drop (rjS c.1 l))).any (withinB x) = (withinB x c || l.any (withinB x))
  | [], h, hz => by
    refine ⟨⟨by simp [rjS], fun z hz => ?_⟩, by simp [rjS]⟩
    have : z = c := by simpa [rjS] using hz
    rw [this]
    exact hc
  | y :: r, h, hz => by
    have hy := h.2 y (by simp)
    have hzy := hz y (by simp)
    have hp := List.pairwise_cons.1 h.1
    have hr : okP r := ⟨hp.2, fun z hz => h.2 z (by simp [hz])⟩
    rw [rjS]
    cases d : decide (y.1 < c.1) with
    | true =>
      have hlt := of_decide_eq_true d
      have ih := ins_ok x c hc r hr fun z hz' => hz z (by simp [hz'])
      simp only [cond_true, List.take_succ_cons, List.drop_succ_cons, List.cons_append]
      refine ⟨⟨List.pairwise_cons.2 ⟨fun z hz' => ?_, ih.1.1⟩, fun z hz' => ?_⟩, ?_⟩
      · rcases List.mem_append.1 hz' with h' | h'
        · exact hp.1 z (List.mem_of_mem_take h')
        · rcases List.mem_cons.1 h' with rfl | h'
          · unfold sepB gapP fine at *
            omega
          · exact hp.1 z (List.mem_of_mem_drop h')
      · rcases List.mem_cons.1 hz' with rfl | h'
        · exact hy
        · exact ih.1.2 z h'
      · rw [List.any_cons, ih.2, List.any_cons]
        cases withinB x y <;> cases withinB x c <;> rfl
    | false =>
      have hge := of_decide_eq_false d
      simp only [cond_false, List.take_zero, List.drop_zero, List.nil_append]
      have hb : c.2 + 2 ≤ y.1 := by
        unfold sepB fine at *
        omega
      refine ⟨⟨List.pairwise_cons.2 ⟨fun z hz' => ?_, h.1⟩, fun z hz' => ?_⟩, rfl⟩
      · rcases List.mem_cons.1 hz' with rfl | h'
        · exact hb
        · have := hp.1 z h'
          unfold gapP fine at *
          omega
      · rcases List.mem_cons.1 hz' with rfl | h'
        · exact hc
        · exact h.2 z h'
theorem roS_ok (x : Int) {o : List Sp} {c : Sp} (ho : okP o) (hc : fine c) : okP (roS o c) ∧ (roS o c).any (withinB x) = (o.any (withinB x) || withinB x c) := by
  have h1 := riS_ok x o c.1 c.2 [] ho (fun z hz => by cases hz) hc
  have h2 := ins_ok x (riS o c.1 c.2 []).1 h1.2.2.1 (riS o c.1 c.2 []).2 h1.1 h1.2.1
  refine ⟨h2.1, ?_⟩
  show List.any (_ ++ _ :: _) _ = _
  rw [h2.2, h1.2.2.2, Bool.or_comm]
  rfl
theorem fold_ok (x most : Int) (hm : 0 ≤ most ∧ most < 4294967296) : ∀ (l o : List Sp), okP o → l.all u32B = true →
    okP (l.foldl (fun o x => roS o (bandS most x)) o) ∧ (l.foldl (fun o x => roS o (bandS most x)) o).any (withinB x) = (o.any (withinB x) || hasS most x l)
  | [], o, ho, _ => ⟨ho, by simp [hasS]⟩
  | y :: r, o, ho, hl => by
    have hy := List.all_eq_true.1 hl y (by simp)
    have h1 := roS_ok x ho (bandS_fine hm hy)
    have ih := fold_ok x most hm r (roS o (bandS most y)) h1.1 (List.all_eq_true.2 fun z hz => List.all_eq_true.1 hl z (by simp [hz]))
    refine ⟨ih.1, ?_⟩
    show List.any (List.foldl _ (roS o (bandS most y)) r) _ = _
    rw [ih.2, h1.2, hasS_cons, Bool.or_assoc]
theorem same_any : ∀ (L M : List Sp), okP L → okP M → (∀ x, L.any (withinB x) = M.any (withinB x)) → L = M
  | [], [], _, _, _ => rfl
  | [], y :: s, _, hM, h => by
    have := h y.1
    have hy := hM.2 y (by simp)
    unfold fine at hy
    simp [withinB] at this
    omega
  | x :: r, [], hL, _, h => by
    have := h x.1
    have hx := hL.2 x (by simp)
    unfold fine at hx
    simp [withinB] at this
    omega
  | x :: r, y :: s, hL, hM, h => by
    have px := List.pairwise_cons.1 hL.1
    have py := List.pairwise_cons.1 hM.1
    have fx := hL.2 x (by simp)
    have fy := hM.2 y (by simp)
    have lowL : ∀ v, r.any (withinB v) = true → x.2 + 2 ≤ v := by
      intro v hv
      obtain ⟨z, hz, hzv⟩ := List.any_eq_true.1 hv
      have := px.1 z hz
      unfold gapP at this
      simp [withinB] at hzv
      omega
    have lowM : ∀ v, s.any (withinB v) = true → y.2 + 2 ≤ v := by
      intro v hv
      obtain ⟨z, hz, hzv⟩ := List.any_eq_true.1 hv
      have := py.1 z hz
      unfold gapP at this
      simp [withinB] at hzv
      omega
    have inx : ∀ v, withinB v x = true ↔ x.1 ≤ v ∧ v ≤ x.2 := by intro v; simp [withinB]
    have iny : ∀ v, withinB v y = true ↔ y.1 ≤ v ∧ v ≤ y.2 := by intro v; simp [withinB]
    have hv : ∀ v, (withinB v x = true ∨ r.any (withinB v) = true) ↔ (withinB v y = true ∨ s.any (withinB v) = true) := by
      intro v
      have := h v
      rw [List.any_cons, List.any_cons] at this
      rw [← Bool.or_eq_true, ← Bool.or_eq_true, this]
    unfold fine at fx fy
    have e1 : x.1 = y.1 := by
      have a1 := (hv x.1).1 (.inl ((inx _).2 ⟨Int.le_refl _, fx.1⟩))
      have a2 := (hv y.1).2 (.inl ((iny _).2 ⟨Int.le_refl _, fy.1⟩))
      rcases a1 with a1 | a1
      · rcases a2 with a2 | a2
        · have := (iny _).1 a1
          have := (inx _).1 a2
          omega
        · have := lowL _ a2
          have := (iny _).1 a1
          omega
      · have := lowM _ a1
        rcases a2 with a2 | a2
        · have := (inx _).1 a2
          omega
        · have := lowL _ a2
          omega
    have e2 : x.2 = y.2 := by
      rcases Int.lt_trichotomy x.2 y.2 with hlt | heq | hgt
      · have a := (hv (x.2 + 1)).2 (.inl ((iny _).2 ⟨by omega, by omega⟩))
        rcases a with a | a
        · have := (inx _).1 a
          omega
        · have := lowL _ a
          omega
      · exact heq
      · have a := (hv (y.2 + 1)).1 (.inl ((inx _).2 ⟨by omega, by omega⟩))
        rcases a with a | a
        · have := (iny _).1 a
          omega
        · have := lowM _ a
          omega
    have exy : x = y := Prod.ext e1 e2
    subst exy
    rw [same_any r s ⟨px.2, fun z hz => hL.2 z (by simp [hz])⟩ ⟨py.2, fun z hz => hM.2 z (by simp [hz])⟩ fun v => ?_]
    have h0 := hv v
    rw [Bool.eq_iff_iff]
    constructor
    · intro hr
      rcases h0.1 (.inr hr) with h' | h'
      · have := lowL _ hr
        have := (inx _).1 h'
        omega
      · exact h'
    · intro hs
      rcases h0.2 (.inr hs) with h' | h'
      · have := lowM _ hs
        have := (iny _).1 h'
        omega
      · exact h'
theorem okP_of : ∀ {l : List Sp} (p : Option Sp), okM p l = true → (∀ x ∈ l, fine x) → okP l ∧ ∀ q, p = some q → ∀ x ∈ l, gapP q x
  | [], p, _, _ => ⟨⟨List.Pairwise.nil, fun x hx => by cases hx⟩, fun q _ x hx => by cases hx⟩
  | y :: r, p, h, hf => by
    rw [okM_cons] at h
    simp only [Bool.and_eq_true, decide_eq_true_eq] at h
    have ih := okP_of (some y) h.2 fun x hx => hf x (by simp [hx])
    refine ⟨⟨List.pairwise_cons.2 ⟨ih.2 y rfl, ih.1.1⟩, hf⟩, fun q hq x hx => ?_⟩
    subst hq
    have g : gapP q y := by
      have := h.1.2
      simpa [gapM, gapP] using this
    rcases List.mem_cons.1 hx with rfl | hx
    · exact g
    · have := ih.2 y rfl x hx
      unfold gapP at *
      omega
/-- the document's list is the program's -/
theorem rsS_eq {most : Int} {l : List Sp} (hm : 0 ≤ most ∧ most < 4294967296) (hu : l.all u32B = true) (hl : l.length ≤ 1024) : rsS most l = srtR most l := by
  have hok := fun x => fold_ok x most hm l [] ⟨List.Pairwise.nil, fun x hx => by cases hx⟩ hu
  refine same_any _ _ (hok 0).1 (okP_of none (srtR_okM hm hu) fun b hb => (srtR_all hm hu b hb).2).1 fun x => ?_
  show List.any (List.foldl _ [] l) _ = _
  rw [(hok x).2, srtR_eq hl, (mgZ_ok (fun b hb => (band_mem hm hu b hb).1) srt_sorted).2 x, sort_any]
  rfl
end Go.Proofs.YtbpmfaghjlmjmaaDoor.Ev
