/- NsetBack: a set's text is written as one that is parsed as it, no longer than it was; packed numbers are those that there are. No condition, and no program in it. -/
import Derived.Test.YtbpmfaghjlmjmaaDoorNsU
namespace Go.Proofs.YtbpmfaghjlmjmaaDoor.Ev
open Go Go.RowKit Go.Proofs Go.Proofs.YtbpmfaghjlmjmaaDoor.Str
set_option linter.unusedVariables false
set_option linter.unusedSimpArgs false
/-! ### numerals -/
theorem num_back (M : Nat) : ∀ (r : List UInt8) (acc u : Nat), 1 ≤ acc → Lib.parseUintM M acc r = .ok u → Lib.decDigits acc ++ r = Lib.decDigits u ∧ 1 ≤ u
  | [], acc, u, h, hp => by
    simp only [Lib.parseUintM, Lib.NumEnd.ok.injEq] at hp
    subst hp
    exact ⟨by simp, h⟩
  | c :: r, acc, u, h, hp => by
    rw [Lib.parseUintM] at hp
    split at hp
    · rename_i hd
      split at hp
      · cases hp
      · split at hp
        · cases hp
        · obtain ⟨k1, k2⟩ := num_back M r (acc * 10 + (c.toNat - 48)) u (by omega) hp
          refine ⟨?_, k2⟩
          rw [← k1, Lib.decDigits.eq_1 (acc * 10 + (c.toNat - 48)), dif_neg (by omega)]
          have e1 : (acc * 10 + (c.toNat - 48)) / 10 = acc := by omega
          have e2 : (acc * 10 + (c.toNat - 48)) % 10 = c.toNat - 48 := by omega
          have e3 : UInt8.ofNat (48 + (c.toNat - 48)) = c := by
            have : 48 + (c.toNat - 48) = c.toNat := by omega
            rw [this]
            exact UInt8.ofNat_toNat
          rw [e1, e2, e3]
          simp
    · cases hp
theorem end_back {l : List UInt8} (h : endB l = true) : wordS (endV l) = l ∧ 0 ≤ endV l ∧ endV l < 4294967296 := by
  unfold endB at h
  unfold endV
  by_cases h0 : l = [42]
  · subst h0
    exact ⟨rfl, by decide, by decide⟩
  · have hd : decide (l = [42]) = false := decide_eq_false h0
    rw [hd] at h ⊢
    simp only [Bool.false_or, Bool.and_eq_true, Bool.not_eq_true', decide_eq_false_iff_not] at h
    obtain ⟨h1, h2, h3, h4⟩ := h
    have e : (decide (l = []) || (decide ((l.getD 0 0).toNat < 49) || decide (57 < (l.getD 0 0).toNat))) = false := by
      rw [decide_eq_false h1, decide_eq_false h2, decide_eq_false h3]
      rfl
    rw [e]
    simp only [cond_false]
    unfold puOk at h4
    unfold puVal
    have hb : (bs l).data.toList = l := ls_bs l
    rw [hb] at h4 ⊢
    rcases hu : Lib.parseUintB 32 l with u | _ | _
    · dsimp only
      have hle := Lib.parseUintB_le hu
      have hw : IntKind.wrap .u32 ((u : Nat) : Int) = (u : Int) := by rw [IntKind.wrap_u32]; omega
      rw [hw]
      unfold Lib.parseUintB at hu
      rw [if_neg h1] at hu
      cases l with
      | nil => exact absurd rfl h1
      | cons c r =>
        simp only [List.getD_cons_zero] at h2 h3
        rw [Lib.parseUintM, if_pos (by omega), if_neg (by omega), if_neg (by omega)] at hu
        obtain ⟨k1, k2⟩ := num_back _ r (0 * 10 + (c.toNat - 48)) u (by omega) hu
        rw [Lib.decDigits.eq_1 (0 * 10 + (c.toNat - 48)), dif_pos (by omega)] at k1
        have e3 : UInt8.ofNat (48 + (0 * 10 + (c.toNat - 48))) = c := by
          have : 48 + (0 * 10 + (c.toNat - 48)) = c.toNat := by omega
          rw [this]
          exact UInt8.ofNat_toNat
        rw [e3] at k1
        refine ⟨?_, by omega, by omega⟩
        unfold wordS
        have hb : ((u : Int) == 0) = false := by simp; omega
        rw [hb, cond_false, Int.toNat_natCast, ← k1]
        rfl
    · rw [hu] at h4; cases h4
    · rw [hu] at h4; cases h4
/-- a span's word -/
def oneS (x : Sp) : List UInt8 := wordS x.1 ++ (bif bne x.2 x.1 then 58 :: wordS x.2 else [])
theorem cutC_split (c : UInt8) (l : List UInt8) : ((cutC c l).2.2 = false ∧ c ∉ l ∧ (cutC c l).1 = l) ∨ ((cutC c l).2.2 = true ∧ c ∉ (cutC c l).1 ∧ l = (cutC c l).1 ++ c :: (cutC c l).2.1) := by
  induction l with
  | nil => left; simp [cutC]
  | cons b r ih =>
    by_cases hb : b = c
    · right
      subst hb
      simp [cutC]
    · have e : cutC c (b :: r) = (b :: (cutC c r).1, (cutC c r).2.1, (cutC c r).2.2) := by
        rw [cutC]
        simp [hb]
      rw [e]
      rcases ih with ⟨i1, i2, i3⟩ | ⟨i1, i2, i3⟩
      · left
        refine ⟨i1, by simp [i2]; exact fun e => hb e.symm, by simp [i3]⟩
      · right
        refine ⟨i1, by simp [i2]; exact fun e => hb e.symm, ?_⟩
        simp only [List.cons_append, List.cons.injEq, true_and]
        exact i3
theorem one_back {w : List UInt8} (h : okW w = true) : okW (oneS (spW w)) = true ∧ spW (oneS (spW w)) = spW w ∧ (oneS (spW w)).length ≤ w.length ∧ (∀ c ∈ oneS (spW w), c ∈ w) ∧ u32B (spW w) = true := by
  have h0 := h
  unfold okW at h
  simp only [Bool.and_eq_true] at h
  obtain ⟨ha, hb⟩ := h
  obtain ⟨a1, a2, a3⟩ := end_back ha
  obtain ⟨b1, b2, b3⟩ := end_back hb
  have hu : u32B (spW w) = true := by
    unfold u32B spW
    simp
    omega
  have same : oneS (spW w) = w → okW (oneS (spW w)) = true ∧ spW (oneS (spW w)) = spW w ∧ (oneS (spW w)).length ≤ w.length ∧ (∀ c ∈ oneS (spW w), c ∈ w) ∧ u32B (spW w) = true := by
    intro e
    rw [e]
    exact ⟨h0, rfl, Nat.le_refl _, fun c hc => hc, hu⟩
  rcases cutC_split 58 w with ⟨c1, c2, c3⟩ | ⟨c1, c2, c3⟩
  · have eA : wA w = w := c3
    have eB : wB w = w := by unfold wB; rw [c1]; exact c3
    refine same ?_
    unfold oneS spW
    rw [eA] at a1
    simp [eA, eB, a1]
  · have eA : wA w = (cutC 58 w).1 := rfl
    have eB : wB w = (cutC 58 w).2.1 := by unfold wB; rw [c1]; rfl
    cases hq : bne (spW w).2 (spW w).1 with
    | true =>
      refine same ?_
      unfold oneS
      rw [hq, cond_true]
      show wordS (endV (wA w)) ++ 58 :: wordS (endV (wB w)) = w
      rw [a1, b1, eA, eB]
      exact c3.symm
    | false =>
      have e : oneS (spW w) = wA w := by
        unfold oneS
        rw [hq, cond_false, List.append_nil]
        exact a1
      have hfree : (58 : UInt8) ∉ wA w := c2
      have hc := cutC_free 58 (wA w) hfree
      have eAA : wA (wA w) = wA w := by show (cutC 58 (wA w)).1 = _; rw [hc]
      have eBB : wB (wA w) = wA w := by unfold wB; rw [hc]; rfl
      have heq : (spW w).2 = (spW w).1 := by simpa using hq
      rw [e]
      refine ⟨?_, ?_, ?_, fun c hc => ?_, hu⟩
      · unfold okW
        rw [eAA, eBB, ha]
        rfl
      · unfold spW at heq ⊢
        rw [eAA, eBB]
        exact Prod.ext rfl heq.symm
      · have hl := congrArg List.length c3
        rw [List.length_append] at hl
        show (cutC 58 w).1.length ≤ w.length
        omega
      · have hm : c ∈ (cutC 58 w).1 ++ 58 :: (cutC 58 w).2.1 := List.mem_append_left _ hc
        rw [← c3] at hm
        exact hm
theorem split_join (c : UInt8) : ∀ (L : List (List UInt8)), L ≠ [] → (∀ x ∈ L, c ∉ x) → splitC c (joinC c L) = L
  | [], h, _ => absurd rfl h
  | [x], _, h => by
    have : joinC c [x] = x := by simp [joinC]
    rw [this, splitC_free c x (h x (by simp))]
  | x :: y :: r, _, h => by
    have : joinC c (x :: y :: r) = x ++ c :: joinC c (y :: r) := by simp [joinC]
    rw [this, splitC_app c x _ (h x (by simp)), split_join c (y :: r) (by simp) fun z hz => h z (by simp [hz])]
theorem join_len (c : UInt8) : ∀ (L M : List (List UInt8)), L.length = M.length → (∀ i, (L.getD i []).length ≤ (M.getD i []).length) → (joinC c L).length ≤ (joinC c M).length
  | [], [], _, _ => Nat.le_refl _
  | [], _ :: _, h, _ => by simp at h
  | _ :: _, [], h, _ => by simp at h
  | [x], [y], _, h => by
    have := h 0
    simpa [joinC] using this
  | [x], y :: z :: r, h, _ => by simp at h
  | x :: z :: r, [y], h, _ => by simp at h
  | x :: z :: r, y :: u :: s, hl, h => by
    have e1 : joinC c (x :: z :: r) = x ++ c :: joinC c (z :: r) := by simp [joinC]
    have e2 : joinC c (y :: u :: s) = y ++ c :: joinC c (u :: s) := by simp [joinC]
    have h0 := h 0
    have ih := join_len c (z :: r) (u :: s) (by simpa using hl) fun i => by have := h (i + 1); simpa using this
    rw [e1, e2]
    simp only [List.length_append, List.length_cons] at *
    simp at h0
    omega
/-- a set's text -/
def writeS (l : List Sp) : List UInt8 := joinC 44 (l.map oneS)
theorem text_back {l : List UInt8} (h : areS l = true) : areS (writeS (spansS l)) = true ∧ spansS (writeS (spansS l)) = spansS l ∧ (writeS (spansS l)).length ≤ l.length ∧ (spansS l).all u32B = true ∧ spansS l ≠ [] := by
  unfold areS at h
  rw [List.all_eq_true] at h
  have hne := splitC_ne 44 l
  have hs : splitC 44 (writeS (spansS l)) = (spansS l).map oneS := by
    unfold writeS
    refine split_join 44 _ (by simp [spansS, hne]) fun x hx => ?_
    obtain ⟨y, hy, rfl⟩ := List.mem_map.1 hx
    unfold spansS at hy
    obtain ⟨w, hw, rfl⟩ := List.mem_map.1 hy
    intro hc
    exact splitC_mem 44 l w hw ((one_back (h w hw)).2.2.2.1 _ hc)
  refine ⟨?_, ?_, ?_, ?_, by simp [spansS, hne]⟩
  · unfold areS
    rw [hs, List.all_eq_true]
    intro x hx
    obtain ⟨y, hy, rfl⟩ := List.mem_map.1 hx
    unfold spansS at hy
    obtain ⟨w, hw, rfl⟩ := List.mem_map.1 hy
    exact (one_back (h w hw)).1
  · show (splitC 44 (writeS (spansS l))).map spW = _
    rw [hs, List.map_map]
    unfold spansS
    rw [List.map_map]
    exact List.map_congr_left fun w hw => (one_back (h w hw)).2.1
  · have hj := joinC_splitC 44 l
    have : (joinC 44 ((spansS l).map oneS)).length ≤ (joinC 44 (splitC 44 l)).length := by
      refine join_len 44 _ _ (by simp [spansS]) fun i => ?_
      unfold spansS
      rw [List.map_map]
      rcases Nat.lt_or_ge i (splitC 44 l).length with hi | hi
      · have hw := h (splitC 44 l)[i] (List.getElem_mem hi)
        have := (one_back hw).2.2.1
        simpa [List.getD, hi] using this
      · simp [List.getD, hi]
    rw [hj] at this
    exact this
  · rw [List.all_eq_true]
    intro x hx
    unfold spansS at hx
    obtain ⟨w, hw, rfl⟩ := List.mem_map.1 hx
    exact (one_back (h w hw)).2.2.2.2
/-! ### packed numbers -/
def sumS : List Sp → Int
  | [] => 0
  | y :: r => (y.2 - y.1 + 1) + sumS r
theorem sumS_app : ∀ (a b : List Sp), sumS (a ++ b) = sumS a + sumS b
  | [], b => by simp [sumS]
  | x :: a, b => by
    rw [List.cons_append, sumS, sumS, sumS_app a b]
    omega
theorem pkS_ok : ∀ (ns : List Int) (o : List Sp) (c : Sp) (q : List Sp), ns.all u32N = true → (∀ x ∈ o ++ [c], fine x) → okM none (o ++ [c]) = true → pkS ns o c = some q →
    okM none q = true ∧ (∀ x ∈ q, fine x) ∧ sumS q = sumS (o ++ [c]) + ns.length ∧ ∀ v, q.any (withinB v) = ((o ++ [c]).any (withinB v) || ns.contains v)
  | [], o, c, q, _, hf, hk, h => by
    simp only [pkS, Option.some.injEq] at h
    subst h
    exact ⟨hk, hf, by simp, by simp⟩
  | n :: r, o, c, q, hu, hf, hk, h => by
    have hn : 0 ≤ n ∧ n < 4294967296 := by
      have := List.all_eq_true.1 hu n (by simp)
      unfold u32N at this
      simpa using this
    have hr : r.all u32N = true := List.all_eq_true.2 fun x hx => List.all_eq_true.1 hu x (by simp [hx])
    have hc : fine c := hf c (by simp)
    have hfo : ∀ x ∈ o, fine x := fun x hx => hf x (by simp [hx])
    rw [pkS] at h
    rw [okM_snoc] at hk
    simp only [Bool.and_eq_true, decide_eq_true_eq] at hk
    cases c1 : decide (n ≤ c.2) with
    | true => rw [c1] at h; cases h
    | false =>
      have hlt := of_decide_eq_false c1
      rw [c1, cond_false] at h
      cases c2 : decide (n = c.2 + 1) with
      | true =>
        have he := of_decide_eq_true c2
        rw [c2, cond_true] at h
        have hfc : fine (c.1, n) := by unfold fine at hc ⊢; omega
        have key := pkS_ok r o (c.1, n) q hr (fun x hx => by
          rcases List.mem_append.1 hx with hx | hx
          · exact hfo x hx
          · have : x = (c.1, n) := by simpa using hx
            rw [this]
            exact hfc) (by
          rw [okM_snoc, hk.1]
          have e : gapM (lastM none o) (c.1, n) = gapM (lastM none o) c := by cases lastM none o <;> rfl
          rw [e, hk.2.2, decide_eq_true hfc.1]
          rfl) h
        refine ⟨key.1, key.2.1, ?_, fun v => ?_⟩
        · rw [key.2.2.1, sumS_app, sumS_app]
          simp only [sumS, List.length_cons]
          omega
        · rw [key.2.2.2 v]
          have e : withinB v (c.1, n) = (withinB v c || (v == n)) := by
            unfold fine at hc
            rw [Bool.eq_iff_iff]
            simp [withinB]
            omega
          simp only [List.any_append, List.any_cons, List.any_nil, Bool.or_false, List.contains_cons, e]
          simp only [Bool.or_assoc]
      | false =>
        have hne := of_decide_eq_false c2
        rw [c2, cond_false] at h
        have hfn : fine (n, n) := by unfold fine; omega
        have key := pkS_ok r (o ++ [c]) (n, n) q hr (fun x hx => by
          rcases List.mem_append.1 hx with hx | hx
          · exact hf x hx
          · have : x = (n, n) := by simpa using hx
            rw [this]
            exact hfn) (by
          rw [okM_snoc, okM_snoc, hk.1, hk.2.2, decide_eq_true hk.2.1, lastM_snoc, decide_eq_true hfn.1]
          simp [gapM]
          omega) h
        refine ⟨key.1, key.2.1, ?_, fun v => ?_⟩
        · rw [key.2.2.1, sumS_app]
          simp only [sumS, List.length_cons]
          omega
        · rw [key.2.2.2 v]
          have e : withinB v (n, n) = (v == n) := by
            rw [Bool.eq_iff_iff]
            simp [withinB]
            omega
          simp only [List.any_append, List.any_cons, List.any_nil, Bool.or_false, List.contains_cons, e]
          simp only [Bool.or_assoc]
theorem packZ_ok {ns : List Int} {q : List Sp} (hu : ns.all u32N = true) (h : packZ ns = some q) : okM none q = true ∧ (∀ x ∈ q, fine x) ∧ sumS q = ns.length ∧ ∀ v, q.any (withinB v) = ns.contains v := by
  cases ns with
  | nil =>
    simp only [packZ, Option.some.injEq] at h
    subst h
    exact ⟨rfl, fun x hx => (by cases hx), rfl, by simp⟩
  | cons n r =>
    have hn : 0 ≤ n ∧ n < 4294967296 := by
      have := List.all_eq_true.1 hu n (by simp)
      unfold u32N at this
      simpa using this
    have hfn : fine (n, n) := by unfold fine; omega
    have key := pkS_ok r [] (n, n) q (List.all_eq_true.2 fun x hx => List.all_eq_true.1 hu x (by simp [hx])) (fun x hx => by
      have : x = (n, n) := by simpa using hx
      rw [this]
      exact hfn) (by simp [okM]) h
    refine ⟨key.1, key.2.1, ?_, fun v => ?_⟩
    · rw [key.2.2.1]
      simp only [List.nil_append, sumS, List.length_cons]
      omega
    · rw [key.2.2.2 v]
      have e : withinB v (n, n) = (v == n) := by
        rw [Bool.eq_iff_iff]
        simp [withinB]
        omega
      rw [List.nil_append, List.any_cons, List.any_nil, e, List.contains_cons, Bool.or_false]
/-- spans that stand apart are what they are sorted to -/
theorem srtR_id {q : List Sp} (hk : okM none q = true) (hf : ∀ x ∈ q, fine x) (hl : q.length ≤ 1024) : srtR 0 q = q := by
  have hid : q.map (bandS 0) = q := (List.map_congr_left fun y hy => bandS_id (hf y hy).1 (.inl rfl)).trans (List.map_id _)
  have hperm : sortS q = q := by
    refine perm_st q _ (fun b r h => ?_) (sortS_perm _) fun i j hij hj => ?_
    · rw [h, okM_cons] at hk
      simp only [Bool.and_eq_true, decide_eq_true_eq] at hk
      exact okM_st b r hk.2 hk.1.1
    · rw [sortS_len] at hj
      exact sortS_sorted _ i j hij hj
  rw [srtR_eq hl, hid, hperm]
  exact mgZ_id hk hf
end Go.Proofs.YtbpmfaghjlmjmaaDoor.Ev
