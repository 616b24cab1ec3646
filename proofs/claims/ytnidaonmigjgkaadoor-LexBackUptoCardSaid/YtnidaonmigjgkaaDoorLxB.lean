/- lex: what is written is told as it was. No condition, and no program in it. -/
import Derived.Test.YtnidaonmigjgkaaDoorLxO
import Derived.Lib.ItoaMem
namespace Go.Proofs.YtnidaonmigjgkaaDoor.Ev
open Go Go.RowKit Go.Proofs Go.Proofs.YtnidaonmigjgkaaDoor.Str
set_option linter.unusedVariables false
set_option linter.unusedSimpArgs false
/-! ### numbers -/
theorem valD_snoc : ∀ (l : List UInt8) (a : Nat) (c : UInt8), valD a (l ++ [c]) = valD a l * 10 + (c.toNat - 48)
  | [], _, _ => rfl
  | d :: l, a, c => valD_snoc l _ c
theorem dig_toNat {u : Nat} (h : u < 10) : (UInt8.ofNat (48 + u)).toNat = 48 + u := by
  simp
  omega
theorem dig_is {u : Nat} (h : u < 10) : isDig (UInt8.ofNat (48 + u)) = true := by
  unfold isDig
  rw [dig_toNat h]
  simp
  omega
theorem decD_ok : ∀ (u : Nat), (Lib.decDigits u).all isDig = true ∧ valD 0 (Lib.decDigits u) = u ∧ Lib.decDigits u ≠ [] ∧ (1 < (Lib.decDigits u).length → (Lib.decDigits u).getD 0 0 ≠ 48) ∧ (0 < u → (Lib.decDigits u).getD 0 0 ≠ 48) := by
  intro u
  induction u using Nat.strongRecOn with
  | _ u ih =>
    by_cases h : u < 10
    · rw [Lib.decDigits, dif_pos h]
      refine ⟨by rw [List.all_cons, dig_is h]; rfl, by show 0 * 10 + ((UInt8.ofNat (48 + u)).toNat - 48) = u; rw [dig_toNat h]; omega, by simp, by simp, fun h0 hc => ?_⟩
      have : (UInt8.ofNat (48 + u)).toNat = 48 := by
        have hc' : UInt8.ofNat (48 + u) = 48 := hc
        rw [hc']
        rfl
      rw [dig_toNat h] at this
      omega
    · obtain ⟨i1, i2, i3, i4, i5⟩ := ih (u / 10) (by omega)
      rw [Lib.decDigits, dif_neg h]
      have hg : (Lib.decDigits (u / 10) ++ [UInt8.ofNat (48 + u % 10)]).getD 0 0 = (Lib.decDigits (u / 10)).getD 0 0 := by
        cases hd : Lib.decDigits (u / 10) with
        | nil => exact absurd hd i3
        | cons a l => rfl
      refine ⟨by rw [List.all_append, i1, List.all_cons, dig_is (u := u % 10) (by omega)]; rfl, ?_, by simp, fun _ => by rw [hg]; exact i5 (by omega), fun _ => by rw [hg]; exact i5 (by omega)⟩
      rw [valD_snoc, i2, dig_toNat (by omega)]
      omega
theorem lenS_eq (l : List UInt8) : lenS l = Lib.decDigits l.length := by
  unfold lenS
  exact Lib.itoa_nonneg _
theorem lenS_num {l : List UInt8} (h : (lenS l).length ≤ 9) : numI (lenS l) = true ∧ numR (lenS l) = l.length := by
  obtain ⟨i1, i2, i3, i4, _⟩ := decD_ok l.length
  rw [lenS_eq] at h ⊢
  have hI : numI (Lib.decDigits l.length) = true := by
    unfold numI
    rw [i1, decide_eq_true h]
    cases hd : Lib.decDigits l.length with
    | nil => exact absurd hd i3
    | cons a r =>
      have := fun hh => i4 (by rw [hd]; exact hh)
      rw [hd] at this
      simp only [List.isEmpty_cons, Bool.not_false, Bool.and_true, Bool.true_and, Bool.not_eq_true', Bool.and_eq_false_iff, decide_eq_false_iff_not]
      rcases Nat.lt_or_ge 1 (a :: r).length with h1 | h1
      · exact .inr (this h1)
      · exact .inl (by omega)
  refine ⟨hI, ?_⟩
  unfold numR
  rw [hI, cond_true, i2]
theorem dig_ne {D : List UInt8} (h : D.all isDig = true) : ∀ x ∈ D, x ≠ 10 ∧ x ≠ 13 ∧ x ≠ 43 ∧ x ≠ 123 ∧ x ≠ 125 := by
  intro x hx
  have hd := List.all_eq_true.1 h x hx
  unfold isDig at hd
  simp only [Bool.and_eq_true, Nat.ble_eq] at hd
  refine ⟨?_, ?_, ?_, ?_, ?_⟩ <;> rintro rfl <;> exact absurd hd (by decide)
theorem cutC_at (c : UInt8) : ∀ (a b : List UInt8), c ∉ a → cutC c (a ++ c :: b) = (a, b, true)
  | [], b, _ => by simp [cutC]
  | d :: a, b, h => by
    simp only [List.mem_cons, not_or] at h
    have := cutC_at c a b h.2
    have hne : ¬ d = c := fun e => h.1 e.symm
    simp only [List.cons_append, cutC, if_neg hne, this]
theorem lastC_first (E : List UInt8) (h : ∀ x ∈ E, x ≠ 123) : ∀ k, k ≤ E.length → lastC 123 (123 :: E) (k + 1) = some E
  | 0, _ => rfl
  | k + 1, hk => by
    have hne : (123 :: E).getD (k + 1) 0 ≠ 123 := by
      have : (123 :: E).getD (k + 1) 0 = E[k]'(by omega) := by simp [List.getD, List.getElem?_eq_getElem (show k < E.length by omega)]
      rw [this]
      exact h _ (List.getElem_mem _)
    rw [lastC, decide_eq_false hne, cond_false]
    exact lastC_first E h k (by omega)
theorem lit_tok {l : List UInt8} (h : (lenS l).length ≤ 9) (r : List UInt8) : tokR (litS l ++ r) = (2, l, r, false) := by
  obtain ⟨hI, hR⟩ := lenS_num h
  obtain ⟨i1, _, i3, _, _⟩ := decD_ok l.length
  rw [← lenS_eq] at i1 i3
  generalize hD : lenS l = D at *
  have hne := dig_ne i1
  have e : litS l ++ r = 123 :: (D ++ [125, 13, 10] ++ (l ++ r)) := by
    unfold litS
    rw [hD]
    simp
  have hcut : cutC 10 (123 :: (D ++ [125, 13, 10] ++ (l ++ r))) = ((123 :: D ++ [125]) ++ [13], l ++ r, true) := by
    have := cutC_at 10 ((123 :: D ++ [125]) ++ [13]) (l ++ r) (by
      simp only [List.mem_append, List.mem_cons, List.not_mem_nil, or_false, not_or]
      exact ⟨⟨⟨by decide, fun hm => (hne _ hm).1 rfl⟩, by decide⟩, by decide⟩)
    rw [← this]
    congr 1
    simp
  have hline : lineS (123 :: (D ++ [125, 13, 10] ++ (l ++ r))) = (123 :: D ++ [125], l ++ r, true) := by
    unfold lineS trimCR
    rw [hcut]
    simp only [cond_true]
    rw [trimSuf1]
    rfl
  have hlast : ∃ D0 x, D = D0 ++ [x] := ⟨D.dropLast, D.getLast i3, (List.dropLast_concat_getLast i3).symm⟩
  have hT : annT (123 :: D ++ [125]) = 123 :: D := by
    unfold annT
    rw [trimSuf1]
    simp only [decide_true, cond_true]
    obtain ⟨D0, x, hx⟩ := hlast
    have hx43 : x ≠ 43 := (hne x (by rw [hx]; simp)).2.2.1
    rw [hx, show 123 :: (D0 ++ [x]) = (123 :: D0) ++ [x] from rfl, trimSuf1, decide_eq_false hx43]
    rfl
  have hC : annC (123 :: D ++ [125]) = D := by
    unfold annC
    rw [hT, show (123 :: D).length = D.length + 1 from rfl, lastC_first D (fun x hx => (hne x hx).2.2.2.1) _ (Nat.le_refl _)]
    rfl
  have hsuf : Lib.hasSuffix (123 :: D ++ [125]) [125] = true := by rw [hasSuf1]; rfl
  have hA : annI (123 :: D ++ [125]) = true := by unfold annI; rw [hsuf, hC, hI]; rfl
  have hN : annR (123 :: D ++ [125]) = l.length := by unfold annR; rw [hsuf, hC, hR]; rfl
  have hidx : ¬ Lib.lastIndexByte (bs (123 :: D ++ [125])) 123 > 0 := by
    have hf := lastC_first (D ++ [125]) (fun x hx => by
      rcases List.mem_append.1 hx with hx | hx
      · exact (hne x hx).2.2.2.1
      · simp only [List.mem_cons, List.not_mem_nil, or_false] at hx
        subst hx
        decide) _ (Nat.le_refl _)
    have hl : Lib.lastIndexByte (bs (123 :: D ++ [125])) 123 = Lib.lastIdx (bs (123 :: (D ++ [125]))) (((123 : UInt8).toNat : Nat) : Int) ((D ++ [125]).length + 1) := by
      unfold Lib.lastIndexByte
      rw [bs_len]
      rfl
    rw [hl]
    rcases lastC_idx 123 (123 :: (D ++ [125])) _ (Nat.le_refl _) with ⟨hn, _⟩ | ⟨i, hi, hs, hv⟩
    · rw [show (123 :: (D ++ [125])).length = (D ++ [125]).length + 1 from rfl, hf] at hn
      cases hn
    · rw [show (123 :: (D ++ [125])).length = (D ++ [125]).length + 1 from rfl] at hi hs hv
      rw [hf] at hs
      injection hs with hs
      have := congrArg List.length hs
      rw [List.length_drop, List.length_cons] at this
      rw [hv]
      omega
  have hB : litB (123 :: (D ++ [125, 13, 10] ++ (l ++ r))) = true := by
    unfold litB
    rw [hline]
    dsimp only
    rw [hA, hN, decide_eq_false hidx, decide_eq_false (by simp)]
    rfl
  rw [e]
  unfold tokR
  dsimp only
  rw [hB, hline]
  dsimp only
  rw [hN]
  simp
/-! ### quoted texts -/
theorem qR_esc : ∀ (l r : List UInt8), l.all plB = true → qR (escS l ++ 34 :: r) = (some l, r)
  | [], [], _ => rfl
  | [], e :: r, _ => rfl
  | c :: l, r, h => by
    simp only [List.all_cons, Bool.and_eq_true] at h
    have ih := qR_esc l r h.2
    have h13 : c ≠ 13 := by rintro rfl; exact absurd h.1 (by decide)
    have h10 : c ≠ 10 := by rintro rfl; exact absurd h.1 (by decide)
    rw [esc_cons]
    cases hc : (decide (c = 34) || decide (c = 92)) with
    | true =>
      simp only [cond_true, List.cons_append]
      have : qR (92 :: c :: (escS l ++ 34 :: r)) = bif decide (c = 34) || decide (c = 92) then ((qR (escS l ++ 34 :: r)).1.map (c :: ·), (qR (escS l ++ 34 :: r)).2) else (none, c :: (escS l ++ 34 :: r)) := by
        rw [qR]
        rfl
      rw [this, hc, ih]
      rfl
    | false =>
      simp only [cond_false, List.cons_append]
      simp only [Bool.or_eq_false_iff, decide_eq_false_iff_not] at hc
      cases hX : escS l ++ 34 :: r with
      | nil => simp at hX
      | cons e X =>
        rw [hX] at ih
        rw [qR, decide_eq_false hc.1, decide_eq_false hc.2, decide_eq_false h13, decide_eq_false h10, ih]
        rfl
theorem quote_tok {l : List UInt8} (h : l.all plB = true) (r : List UInt8) : tokR (quoteS l ++ r) = (2, l, r, false) := by
  have e : quoteS l ++ r = 34 :: (escS l ++ 34 :: r) := by
    unfold quoteS
    simp
  rw [e]
  unfold tokR hasQ theQ restQ
  dsimp only
  rw [qR_esc l r h]
  rfl
/-! ### words -/
theorem take_run {p : UInt8 → Bool} : ∀ {a b : List UInt8}, a.all p = true → (b.takeWhile p) = [] → (a ++ b).takeWhile p = a
  | [], b, _, hb => hb
  | c :: a, b, h, hb => by
    simp only [List.all_cons, Bool.and_eq_true] at h
    rw [List.cons_append, List.takeWhile_cons, h.1]
    simp [take_run h.2 hb]
theorem ltB_ne {c : UInt8} (h : ltB c = true) : c ≠ 32 ∧ c ≠ 40 ∧ c ≠ 41 ∧ c ≠ 34 ∧ c ≠ 123 := by
  refine ⟨?_, ?_, ?_, ?_, ?_⟩ <;> rintro rfl <;> exact absurd h (by decide)
theorem word_tok {l : List UInt8} (h : atomB l = true) (r : List UInt8) (hr : r.takeWhile ltB = []) : tokR (l ++ r) = (1, l, r, false) := by
  unfold atomB at h
  simp only [Bool.and_eq_true, Bool.not_eq_true', decide_eq_false_iff_not] at h
  cases l with
  | nil => exact absurd rfl h.2
  | cons c l =>
    have hc : ltB c = true := (by simpa using h.1 : ltB c = true ∧ _).1
    have hn := ltB_ne hc
    have hw : wdLen (c :: l ++ r) = (c :: l).length := by
      unfold wdLen
      rw [take_run h.1 hr]
    rw [List.cons_append] at hw ⊢
    unfold tokR
    dsimp only
    rw [decide_eq_false hn.2.1, decide_eq_false hn.2.2.1, decide_eq_false hn.2.2.2.1, decide_eq_false hn.2.2.2.2, hw]
    simp
/-! ### all tokens -/
/-- the first byte of a token's text -/
def headOK (c : UInt8) (k : Int) : Bool := !decide (c = 32) && (ltB c == (k == 1))
theorem text_head {k : Int} {l : List UInt8} (h : textB k l = true) : ∃ c t, textS k l = c :: t ∧ headOK c k = true := by
  unfold textB at h
  unfold textS
  cases h3 : k == 3 with
  | true =>
    have : k = 3 := by simpa using h3
    subst this
    exact ⟨40, [], rfl, by decide⟩
  | false =>
    cases h4 : k == 4 with
    | true =>
      have : k = 4 := by simpa using h4
      subst this
      exact ⟨41, [], rfl, by decide⟩
    | false =>
      cases h1 : k == 1 with
      | true =>
        rw [h3, h4, h1] at h
        simp only [cond_true, cond_false] at h ⊢
        unfold atomB at h
        simp only [Bool.and_eq_true, Bool.not_eq_true', decide_eq_false_iff_not] at h
        cases l with
        | nil => exact absurd rfl h.2
        | cons c l =>
          have hc : ltB c = true := (by simpa using h.1 : ltB c = true ∧ _).1
          have hn := ltB_ne hc
          refine ⟨c, l, rfl, ?_⟩
          unfold headOK
          rw [decide_eq_false hn.1, hc, h1]
          rfl
      | false =>
        cases h2 : k == 2 with
        | true =>
          have : k = 2 := by simpa using h2
          subst this
          cases l.all plB with
          | true => exact ⟨34, _, rfl, by decide⟩
          | false => exact ⟨123, _, rfl, by decide⟩
        | false =>
          rw [h3, h4, h1, h2] at h
          cases h
theorem text_tok {k : Int} {l : List UInt8} (h : textB k l = true) (r : List UInt8) (hr : k = 1 → r.takeWhile ltB = []) : tokR (textS k l ++ r) = (k, l, r, false) := by
  unfold textB at h
  unfold textS
  cases h3 : k == 3 with
  | true =>
    have : k = 3 := by simpa using h3
    subst this
    simp only [show ((3 : Int) == 3) = true from rfl, cond_true, decide_eq_true_eq] at h
    subst h
    rfl
  | false =>
    rw [h3] at h
    cases h4 : k == 4 with
    | true =>
      have : k = 4 := by simpa using h4
      subst this
      simp only [show ((4 : Int) == 4) = true from rfl, cond_true, cond_false, decide_eq_true_eq] at h
      subst h
      rfl
    | false =>
      rw [h4] at h
      cases h1 : k == 1 with
      | true =>
        have : k = 1 := by simpa using h1
        subst this
        simp only [show ((1 : Int) == 1) = true from rfl, cond_true, cond_false] at h ⊢
        exact word_tok h r (hr rfl)
      | false =>
        rw [h1] at h
        cases h2 : k == 2 with
        | true =>
          have : k = 2 := by simpa using h2
          subst this
          simp only [show ((2 : Int) == 2) = true from rfl, cond_true, cond_false] at h ⊢
          cases hp : l.all plB with
          | true => exact quote_tok hp r
          | false =>
            rw [hp] at h
            simp only [Bool.false_or, decide_eq_true_eq] at h
            exact lit_tok h r
        | false =>
          rw [h2] at h
          cases h
theorem bl_no {c : UInt8} (h : c ≠ 32) (r : List UInt8) : blS (c :: r) = c :: r := by
  unfold blS Lib.trimLeftB
  rw [List.dropWhile_cons]
  simp [h]
theorem bl_one (r : List UInt8) : blS (32 :: r) = blS r := by
  unfold blS Lib.trimLeftB
  rw [List.dropWhile_cons]
  simp
def gapB (p : Option Int) (g : Bool) (k : Int) : Bool := match p with
  | none => false
  | some p => !g && !touchB p k
theorem wr_run : ∀ (ts : List (Int × ByteArray)) (p : Option Int) (q : List UInt8), wrS p ts = some q → ts.length ≤ (blS q).length ∧ (p = some 1 → q.takeWhile ltB = []) ∧
    ∀ n, ts.length < n → tsS n p (decide ((blS q).length < q.length)) (blS q) = some ts
  | [], p, q, h => by
    simp only [wrS, Option.some.injEq] at h
    subst h
    refine ⟨Nat.zero_le _, fun _ => rfl, fun n hn => ?_⟩
    match n, hn with
    | n + 1, _ => rfl
  | x :: r, p, q, h => by
    rw [wrS] at h
    cases hB : textB x.1 (ls x.2) with
    | false => rw [hB] at h; cases h
    | true =>
      rw [hB, cond_true] at h
      cases hq : wrS (some x.1) r with
      | none => rw [hq] at h; cases h
      | some q' =>
        rw [hq, Option.map_some, Option.some.injEq] at h
        obtain ⟨i1, i2, i3⟩ := wr_run r (some x.1) q' hq
        obtain ⟨c, t, hct, hc⟩ := text_head hB
        have ht := text_tok hB q' (fun hk => i2 (by rw [hk]))
        unfold headOK at hc
        simp only [Bool.and_eq_true, Bool.not_eq_true', decide_eq_false_iff_not, beq_iff_eq] at hc
        have hle : (blS q').length ≤ q'.length := (List.dropWhile_suffix _).length_le
        have key : ∀ g, gapB p g x.1 = false → ∀ n, (x :: r).length < n → tsS n p g (textS x.1 (ls x.2) ++ q') = some (x :: r) := by
          intro g hg n hn
          match n, hn with
          | n + 1, hn =>
            have i := i3 n (by simp at hn; omega)
            have hne : decide (textS x.1 (ls x.2) ++ q' = []) = false := by rw [hct]; exact decide_eq_false (by simp)
            rw [tsS.eq_def]
            cases p with
            | none =>
              dsimp only
              rw [ht]
              dsimp only
              rw [i, hne, Option.map_some, bs_ls]
              rfl
            | some p =>
              dsimp only
              rw [ht]
              dsimp only
              have hg : (!g && !touchB p x.1) = false := hg
              rw [i, hne, Option.map_some, bs_ls, hg]
              rfl
        cases hS : sepS p x.1 with
        | nil =>
          rw [hS, List.nil_append] at h
          have hbl : blS q = textS x.1 (ls x.2) ++ q' := by rw [← h, hct, List.cons_append, bl_no hc.1]
          rw [hbl]
          refine ⟨?_, fun hp => ?_, fun n hn => ?_⟩
          · rw [hct]
            simp
            omega
          · subst hp
            have h4 : x.1 = 4 := by
              unfold sepS at hS
              cases h4 : x.1 == 4 with
              | true => simpa using h4
              | false =>
                dsimp only at hS
                rw [h4] at hS
                cases hS
            rw [← h, hct, List.cons_append, List.takeWhile_cons, hc.2, h4]
            rfl
          · refine key _ ?_ n hn
            rw [← h, decide_eq_false (by omega)]
            cases p with
            | none => rfl
            | some p =>
              unfold sepS at hS
              unfold gapB touchB
              cases hp : p == 3 with
              | true => simp [hp]
              | false =>
                cases h4 : x.1 == 4 with
                | true => simp [h4]
                | false =>
                  dsimp only at hS
                  rw [hp, h4] at hS
                  cases hS
        | cons a u =>
          have hau : a = 32 ∧ u = [] := by
            unfold sepS at hS
            cases p with
            | none => cases hS
            | some p =>
              dsimp only at hS
              cases hp : p == 3 <;> cases h4 : x.1 == 4 <;> rw [hp, h4] at hS <;> first | (cases hS; done) | (cases hS; exact ⟨rfl, rfl⟩)
          obtain ⟨rfl, rfl⟩ := hau
          rw [hS, List.cons_append, List.nil_append, List.cons_append] at h
          have hbl : blS q = textS x.1 (ls x.2) ++ q' := by rw [← h, bl_one, hct, List.cons_append, bl_no hc.1]
          rw [hbl]
          refine ⟨?_, fun hp => ?_, fun n hn => ?_⟩
          · rw [hct]
            simp
            omega
          · rw [← h]
            rfl
          · refine key _ ?_ n hn
            rw [← h, decide_eq_true (by simp)]
            cases p <;> rfl
theorem wr_tz {ts : List (Int × ByteArray)} {q : List UInt8} (h : wrS none ts = some q) : tzH q = true ∧ tzT q = ts := by
  obtain ⟨h1, _, h3⟩ := wr_run ts none q h
  have := h3 ((blS q).length + 1) (by omega)
  unfold tzH tzT hasT theT tsR
  rw [this]
  exact ⟨rfl, rfl⟩
theorem quote_tz {l : List UInt8} (h : l.all plB = true) : tzH (quoteS l) = true ∧ tzT (quoteS l) = [(2, bs l)] := by
  refine wr_tz (ts := [(2, bs l)]) ?_
  simp [wrS, textB, textS, sepS, ls_bs, h]
end Go.Proofs.YtnidaonmigjgkaaDoor.Ev
