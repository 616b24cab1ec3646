/- lex: whatever stands behind a whole command, it is told first. No condition. -/
import Derived.Test.YtnidaonmigjgkaaDoorLxL
namespace Go.Proofs.YtnidaonmigjgkaaDoor.Ev
open Go Go.RowKit Go.Proofs Go.Proofs.YtnidaonmigjgkaaDoor.Str
set_option linter.unusedVariables false
set_option linter.unusedSimpArgs false
section
variable {m : Int} {t : TypeId} {fr : Nat × Nat}
theorem cutC_found {c : UInt8} : ∀ {l : List UInt8}, (cutC c l).2.2 = true → l = (cutC c l).1 ++ c :: (cutC c l).2.1 ∧ c ∉ (cutC c l).1
  | [], h => by simp [cutC] at h
  | b :: l, h => by
    unfold cutC at h ⊢
    by_cases hb : b = c
    · rw [if_pos hb] at h ⊢
      simp [hb]
    · rw [if_neg hb] at h ⊢
      obtain ⟨h1, h2⟩ := cutC_found (l := l) h
      refine ⟨?_, ?_⟩
      · simp only [List.cons_append, List.cons.injEq, true_and]
        exact h1
      · simp only [List.mem_cons, not_or]
        exact ⟨fun e => hb e.symm, h2⟩
theorem cutC_of {c : UInt8} : ∀ {p q : List UInt8}, c ∉ p → cutC c (p ++ c :: q) = (p, q, true)
  | [], q, _ => by simp [cutC]
  | b :: p, q, h => by
    simp only [List.mem_cons, not_or] at h
    rw [List.cons_append, cutC, if_neg (fun e => h.1 e.symm), cutC_of h.2]
theorem line_of {p q : List UInt8} (h : (10 : UInt8) ∉ p) : lineS (p ++ 10 :: q) = (trimCR p, q, true) := by
  unfold lineS
  rw [cutC_of h]
  rfl
theorem line_found {l : List UInt8} (h : (lineS l).2.2 = true) : ∃ p q, (10 : UInt8) ∉ p ∧ l = p ++ 10 :: q := by
  have hc : (cutC 10 l).2.2 = true := by
    unfold lineS at h
    cases hb : (cutC 10 l).2.2 with
    | true => rfl
    | false => rw [hb] at h; cases h
  obtain ⟨h1, h2⟩ := cutC_found hc
  exact ⟨_, _, h2, h1⟩
theorem trimCR_pre (p : List UInt8) : ∃ u, p = trimCR p ++ u := by
  rcases snoc p with rfl | ⟨a, x, rfl⟩
  · exact ⟨[], rfl⟩
  · unfold trimCR
    rw [trimSuf1]
    cases decide (x = 13) with
    | true => exact ⟨[x], rfl⟩
    | false => exact ⟨[], by simp⟩
theorem trimCR_13 (a : List UInt8) : trimCR (a ++ [13]) = a := by
  unfold trimCR
  rw [trimSuf1]
  rfl
theorem next_first : ∀ (f many sum : Nat) (l : List UInt8) (rl ll : Nat) (more : List UInt8), nextF f many sum l = .ok rl ll more → ∀ m : List UInt8,
    ll < rl ∧ (rl ≤ l.length ∧ more.length ≤ l.length) ∧ nextF f many sum (l ++ m) = .ok (rl + m.length) ll (more ++ m) ∧ nextF f many sum (l.take (l.length - rl + ll) ++ 13 :: 10 :: m) = .ok (ll + 2 + m.length) ll m
  | 0, many, sum, l, rl, ll, more, h, m => by cases h
  | f + 1, many, sum, l, rl, ll, more, h, m => by
    have hn : ∀ l, nextF (f + 1) many sum l = bif decide (8192 < sum + (lineS l).1.length) then .long
      else bif !(lineS l).2.2 then .short
      else bif !annI (lineS l).1 then .ok l.length (lineS l).1.length (lineS l).2.1
      else bif decide (65536 < annR (lineS l).1) || decide (16 < many + 1) then .long
      else bif decide ((lineS l).2.1.length < annR (lineS l).1) then .short
      else nextF f (many + 1) (sum + (lineS l).1.length) ((lineS l).2.1.drop (annR (lineS l).1)) := fun _ => rfl
    rw [hn] at h
    cases c1 : decide (8192 < sum + (lineS l).1.length) with
    | true => rw [c1] at h; cases h
    | false =>
    rw [c1] at h
    simp only [cond_false] at h
    cases c2 : (lineS l).2.2 with
    | false => rw [c2] at h; cases h
    | true =>
    rw [c2] at h
    simp only [Bool.not_true, cond_false] at h
    obtain ⟨p, q, hp, rfl⟩ := line_found c2
    rw [line_of hp] at h c1
    obtain ⟨u, hu⟩ := trimCR_pre p
    have hT : (10 : UInt8) ∉ trimCR p ++ [13] := by
      intro hm
      rcases List.mem_append.1 hm with hm | hm
      · exact hp (by rw [hu]; exact List.mem_append_left _ hm)
      · simp at hm
    have hlen : (trimCR p).length + u.length = p.length := by
      have := congrArg List.length hu
      rw [List.length_append] at this
      omega
    cases c3 : annI (trimCR p) with
    | false =>
      simp only [c3, Bool.not_false, cond_true, NR.ok.injEq] at h
      obtain ⟨rfl, rfl, rfl⟩ := h
      have e1 : p ++ 10 :: q ++ m = p ++ 10 :: (q ++ m) := by simp
      have e2 : (p ++ 10 :: q).take ((p ++ 10 :: q).length - (p ++ 10 :: q).length + (trimCR p).length) = trimCR p := by
        have hu' : p ++ 10 :: q = trimCR p ++ (u ++ 10 :: q) := by
          rw [← List.append_assoc, ← hu]
        rw [Nat.sub_self, Nat.zero_add, hu', List.take_left]
      refine ⟨by simp; omega, ⟨Nat.le_refl _, by simp; omega⟩, ?_, ?_⟩
      · rw [hn, e1, line_of hp]
        simp only [c1, c3, Bool.not_true, Bool.not_false, cond_true, cond_false]
        congr 1
        simp
        omega
      · have e3 : trimCR p ++ 13 :: 10 :: m = (trimCR p ++ [13]) ++ 10 :: m := by simp
        rw [e2, hn, e3, line_of hT, trimCR_13]
        simp only [c1, c3, Bool.not_true, Bool.not_false, cond_true, cond_false]
        congr 1
        simp
        omega
    | true =>
      simp only [c3, Bool.not_true, cond_false] at h
      cases c4 : (decide (65536 < annR (trimCR p)) || decide (16 < many + 1)) with
      | true => rw [c4] at h; cases h
      | false =>
      rw [c4] at h
      simp only [cond_false] at h
      cases c5 : decide (q.length < annR (trimCR p)) with
      | true => rw [c5] at h; cases h
      | false =>
      rw [c5] at h
      simp only [cond_false] at h
      have c5' := of_decide_eq_false c5
      obtain ⟨i1, ⟨i2, i5⟩, i3, i4⟩ := next_first f (many + 1) (sum + (trimCR p).length) (q.drop (annR (trimCR p))) rl ll more h m
      rw [List.length_drop] at i2 i5
      have e1 : p ++ 10 :: q ++ m = p ++ 10 :: (q ++ m) := by simp
      refine ⟨i1, ⟨by simp; omega, by simp; omega⟩, ?_, ?_⟩
      · have c6 : decide ((q ++ m).length < annR (trimCR p)) = false := by simp; omega
        rw [hn, e1, line_of hp]
        simp only [c1, c3, c4, c6, Bool.not_true, cond_false]
        rw [List.drop_append_of_le_length (by omega)]
        exact i3
      · have e2 : (p ++ 10 :: q).take ((p ++ 10 :: q).length - rl + ll) = p ++ 10 :: (q.take (annR (trimCR p)) ++ (q.drop (annR (trimCR p))).take ((q.drop (annR (trimCR p))).length - rl + ll)) := by
          have hx : (p ++ 10 :: q).length - rl + ll = p.length + (1 + (q.length - rl + ll)) := by simp; omega
          rw [hx, List.take_length_add_append, Nat.add_comm 1, List.take_succ_cons]
          have hy : q.length - rl + ll = annR (trimCR p) + ((q.drop (annR (trimCR p))).length - rl + ll) := by
            rw [List.length_drop]
            omega
          rw [hy, List.take_add]
        have e3 : ∀ x : List UInt8, p ++ 10 :: (q.take (annR (trimCR p)) ++ x) ++ 13 :: 10 :: m = p ++ 10 :: (q.take (annR (trimCR p)) ++ (x ++ 13 :: 10 :: m)) := by
          intro x
          simp
        have c6 : ∀ x : List UInt8, decide ((q.take (annR (trimCR p)) ++ x).length < annR (trimCR p)) = false := by
          intro x
          simp
          omega
        have e4 : ∀ x : List UInt8, (q.take (annR (trimCR p)) ++ x).drop (annR (trimCR p)) = x := by
          intro x
          have : (q.take (annR (trimCR p))).length = annR (trimCR p) := by rw [List.length_take]; omega
          exact List.drop_left' this
        rw [e2, e3, hn, line_of hp]
        simp only [c1, c3, c4, c6, e4, Bool.not_true, cond_false]
        exact i4
-- from: lexFirst_raw [bs, okS, ls, nrA, nrB, nrC, nextF] (m : Int) (t : TypeId) (fr : Nat × Nat) (s more : ByteArray) : (fnPure Tryd.prog (E4 (GG m t fr)) 60 Tryd.f5 (GG m t fr) [str s, str more]).run2
theorem lexFirst_raw (m : Int) (t : TypeId) (fr : Nat × Nat) (s more : ByteArray) : (fnPure Tryd.prog (E4 (GG m t fr)) 60 Tryd.f5 (GG m t fr) [str s, str more]).run2 =
    (bif (bne (nrC (nextF 17 0 0 (ls s))) (0 : Int)) then
        bif ((ByteArray.toList (bs (nrA (ls s) (nextF 17 0 0 (ls s))))) == (ByteArray.toList (.mk (List.toArray [])))) then
          (.some ((.lit (.bool ((ByteArray.toList (bs (nrB (nextF 17 0 0 (ls s))))) == (ByteArray.toList (.mk (List.toArray [])))))), [(okS s)]))
        else (.some ((.lit (.bool false)), [(okS s)]))
      else bif ((nrC (nextF 17 0 0 (ls (s ++ more)))) == (0 : Int)) then
          bif ((ByteArray.toList (bs (nrA (ls (s ++ more)) (nextF 17 0 0 (ls (s ++ more)))))) == (ByteArray.toList (bs (nrA (ls s) (nextF 17 0 0 (ls s)))))) then
            bif ((ByteArray.toList (bs (nrB (nextF 17 0 0 (ls (s ++ more)))))) == (ByteArray.toList ((bs (nrB (nextF 17 0 0 (ls s)))) ++ more))) then
              bif ((nrC (nextF 17 0 0 (ls (((bs (nrA (ls s) (nextF 17 0 0 (ls s)))) ++ (.mk (List.toArray [(13 : UInt8), (10 : UInt8)]))) ++ more)))) == (0 : Int)) then
                bif ((ByteArray.toList (bs (nrA (ls (((bs (nrA (ls s) (nextF 17 0 0 (ls s)))) ++ (.mk (List.toArray [(13 : UInt8), (10 : UInt8)]))) ++ more)) (nextF 17 0 0 (ls (((bs (nrA (ls s) (nextF 17 0 0 (ls s)))) ++ (.mk (List.toArray [(13 : UInt8), (10 : UInt8)]))) ++ more)))))) == (ByteArray.toList (bs (nrA (ls s) (nextF 17 0 0 (ls s)))))) then
                  bif ((ByteArray.toList (bs (nrB (nextF 17 0 0 (ls (((bs (nrA (ls s) (nextF 17 0 0 (ls s)))) ++ (.mk (List.toArray [(13 : UInt8), (10 : UInt8)]))) ++ more)))))) == (ByteArray.toList more)) then
                    (.some ((.lit (.bool (decide ((((List.length (nrA (ls s) (nextF 17 0 0 (ls s)))) : Nat) : Int) < (((List.length (ls s)) : Nat) : Int))))), [(Nat.ble ((List.length (nrB (nextF 17 0 0 (ls s)))) + (List.length (ls more))) (9223372036854775807 : Nat)), (okS (((bs (nrA (ls s) (nextF 17 0 0 (ls s)))) ++ (.mk (List.toArray [(13 : UInt8), (10 : UInt8)]))) ++ more)), (Nat.ble ((List.length (ls ((bs (nrA (ls s) (nextF 17 0 0 (ls s)))) ++ (.mk (List.toArray [(13 : UInt8), (10 : UInt8)]))))) + (List.length (ls more))) (9223372036854775807 : Nat)), (Nat.ble ((List.length (nrA (ls s) (nextF 17 0 0 (ls s)))) + 2) (9223372036854775807 : Nat)), (okS (s ++ more)), (Nat.ble ((List.length (ls s)) + (List.length (ls more))) (9223372036854775807 : Nat)), (okS s)]))
                  else (.some ((.lit (.bool false)), [(Nat.ble ((List.length (nrB (nextF 17 0 0 (ls s)))) + (List.length (ls more))) (9223372036854775807 : Nat)), (okS (((bs (nrA (ls s) (nextF 17 0 0 (ls s)))) ++ (.mk (List.toArray [(13 : UInt8), (10 : UInt8)]))) ++ more)), (Nat.ble ((List.length (ls ((bs (nrA (ls s) (nextF 17 0 0 (ls s)))) ++ (.mk (List.toArray [(13 : UInt8), (10 : UInt8)]))))) + (List.length (ls more))) (9223372036854775807 : Nat)), (Nat.ble ((List.length (nrA (ls s) (nextF 17 0 0 (ls s)))) + 2) (9223372036854775807 : Nat)), (okS (s ++ more)), (Nat.ble ((List.length (ls s)) + (List.length (ls more))) (9223372036854775807 : Nat)), (okS s)]))
                else (.some ((.lit (.bool false)), [(Nat.ble ((List.length (nrB (nextF 17 0 0 (ls s)))) + (List.length (ls more))) (9223372036854775807 : Nat)), (okS (((bs (nrA (ls s) (nextF 17 0 0 (ls s)))) ++ (.mk (List.toArray [(13 : UInt8), (10 : UInt8)]))) ++ more)), (Nat.ble ((List.length (ls ((bs (nrA (ls s) (nextF 17 0 0 (ls s)))) ++ (.mk (List.toArray [(13 : UInt8), (10 : UInt8)]))))) + (List.length (ls more))) (9223372036854775807 : Nat)), (Nat.ble ((List.length (nrA (ls s) (nextF 17 0 0 (ls s)))) + 2) (9223372036854775807 : Nat)), (okS (s ++ more)), (Nat.ble ((List.length (ls s)) + (List.length (ls more))) (9223372036854775807 : Nat)), (okS s)]))
              else (.some ((.lit (.bool false)), [(Nat.ble ((List.length (nrB (nextF 17 0 0 (ls s)))) + (List.length (ls more))) (9223372036854775807 : Nat)), (okS (((bs (nrA (ls s) (nextF 17 0 0 (ls s)))) ++ (.mk (List.toArray [(13 : UInt8), (10 : UInt8)]))) ++ more)), (Nat.ble ((List.length (ls ((bs (nrA (ls s) (nextF 17 0 0 (ls s)))) ++ (.mk (List.toArray [(13 : UInt8), (10 : UInt8)]))))) + (List.length (ls more))) (9223372036854775807 : Nat)), (Nat.ble ((List.length (nrA (ls s) (nextF 17 0 0 (ls s)))) + 2) (9223372036854775807 : Nat)), (okS (s ++ more)), (Nat.ble ((List.length (ls s)) + (List.length (ls more))) (9223372036854775807 : Nat)), (okS s)]))
            else (.some ((.lit (.bool false)), [(Nat.ble ((List.length (nrB (nextF 17 0 0 (ls s)))) + (List.length (ls more))) (9223372036854775807 : Nat)), (okS (((bs (nrA (ls s) (nextF 17 0 0 (ls s)))) ++ (.mk (List.toArray [(13 : UInt8), (10 : UInt8)]))) ++ more)), (Nat.ble ((List.length (ls ((bs (nrA (ls s) (nextF 17 0 0 (ls s)))) ++ (.mk (List.toArray [(13 : UInt8), (10 : UInt8)]))))) + (List.length (ls more))) (9223372036854775807 : Nat)), (Nat.ble ((List.length (nrA (ls s) (nextF 17 0 0 (ls s)))) + 2) (9223372036854775807 : Nat)), (okS (s ++ more)), (Nat.ble ((List.length (ls s)) + (List.length (ls more))) (9223372036854775807 : Nat)), (okS s)]))
          else (.some ((.lit (.bool false)), [(okS (((bs (nrA (ls s) (nextF 17 0 0 (ls s)))) ++ (.mk (List.toArray [(13 : UInt8), (10 : UInt8)]))) ++ more)), (Nat.ble ((List.length (ls ((bs (nrA (ls s) (nextF 17 0 0 (ls s)))) ++ (.mk (List.toArray [(13 : UInt8), (10 : UInt8)]))))) + (List.length (ls more))) (9223372036854775807 : Nat)), (Nat.ble ((List.length (nrA (ls s) (nextF 17 0 0 (ls s)))) + 2) (9223372036854775807 : Nat)), (okS (s ++ more)), (Nat.ble ((List.length (ls s)) + (List.length (ls more))) (9223372036854775807 : Nat)), (okS s)]))
        else (.some ((.lit (.bool false)), [(okS (((bs (nrA (ls s) (nextF 17 0 0 (ls s)))) ++ (.mk (List.toArray [(13 : UInt8), (10 : UInt8)]))) ++ more)), (Nat.ble ((List.length (ls ((bs (nrA (ls s) (nextF 17 0 0 (ls s)))) ++ (.mk (List.toArray [(13 : UInt8), (10 : UInt8)]))))) + (List.length (ls more))) (9223372036854775807 : Nat)), (Nat.ble ((List.length (nrA (ls s) (nextF 17 0 0 (ls s)))) + 2) (9223372036854775807 : Nat)), (okS (s ++ more)), (Nat.ble ((List.length (ls s)) + (List.length (ls more))) (9223372036854775807 : Nat)), (okS s)])) : Option (PV × List Bool)) := by
  kernel_rfl
def smallS (s : ByteArray) : Bool := Nat.ble s.size 2000000
theorem smallS_le {s : ByteArray} (h : smallS s = true) : s.size ≤ 2000000 := Nat.le_of_ble_eq_true h
def trueStr2 : List PV → Tr PV
  | [.lit (.string s), .lit (.string r)] => .br (smallS s && smallS r) (.leaf (bool true)) .fail
  | _ => .fail
theorem lexFirst_ok : PureOK Tryd.prog (GG m t fr) 5 trueStr2 := by
  refine PureOK.of (fn_pure mixed E4_ok (envOf_cuts ..) (fn := Tryd.f5) (by kernel_rfl)) fun ps p hp => ?_
  unfold trueStr2 at hp
  split at hp
  · rename_i s r
    obtain ⟨hs, hp⟩ := br_run hp
    simp only [Bool.and_eq_true] at hs
    have h1 := smallS_le hs.1
    have h2 := smallS_le hs.2
    simp only [Tr.run, Option.some.injEq] at hp
    subst hp
    have h := lexFirst_raw m t fr s r
    have os : okS s = true := okS_of (by omega)
    have e0 : ls (ByteArray.mk (List.toArray [])) = [] := rfl
    have e2 : ls (ByteArray.mk (List.toArray [(13 : UInt8), (10 : UInt8)])) = [13, 10] := rfl
    simp only [eqB, ls_app, ls_bs, e0, e2] at h
    cases hN : nextF 17 0 0 (ls s) with
    | long =>
      rw [hN] at h
      exact ⟨_, Tr.run_of h (by simp [os]), PLe.of_eq rfl⟩
    | short =>
      rw [hN] at h
      exact ⟨_, Tr.run_of h (by simp [os]), PLe.of_eq rfl⟩
    | ok rl ll more =>
      obtain ⟨f1, ⟨f2, f5⟩, f3, f4⟩ := next_first 17 0 0 (ls s) rl ll more hN (ls r)
      have hlen : (ls s).length ≤ 2000000 := by rw [ls_len]; exact h1
      have hlen2 : (ls r).length ≤ 2000000 := by rw [ls_len]; exact h2
      generalize hA : (ls s).take ((ls s).length - rl + ll) = A at f4
      have hAl : A.length = (ls s).length - rl + ll := by
        rw [← hA, List.length_take]
        omega
      have g1 : A ++ [13, 10] ++ ls r = A ++ 13 :: 10 :: ls r := by simp
      have nA : nrA (ls s) (.ok rl ll more) = A := hA
      rw [hN, nA, g1, f3, f4] at h
      have a1 : nrA (ls s ++ ls r) (.ok (rl + (ls r).length) ll (more ++ ls r)) = A := by
        show (ls s ++ ls r).take ((ls s ++ ls r).length - (rl + (ls r).length) + ll) = A
        rw [List.length_append]
        have : (ls s).length + (ls r).length - (rl + (ls r).length) + ll = (ls s).length - rl + ll := by omega
        rw [this, List.take_append_of_le_length (by omega), hA]
      have a2 : nrA (A ++ 13 :: 10 :: ls r) (.ok (ll + 2 + (ls r).length) ll (ls r)) = A := by
        show (A ++ 13 :: 10 :: ls r).take ((A ++ 13 :: 10 :: ls r).length - (ll + 2 + (ls r).length) + ll) = A
        have : (A ++ 13 :: 10 :: ls r).length - (ll + 2 + (ls r).length) + ll = A.length := by
          simp
          omega
        rw [this, List.take_left]
      rw [a1, a2] at h
      simp only [nrB, nrC, decide_true, cond_true] at h
      have o1 : okS (s ++ r) = true := okS_of (by rw [← ls_len, ls_app, List.length_append]; omega)
      have o2 : okS (bs A ++ ByteArray.mk (List.toArray [(13 : UInt8), (10 : UInt8)]) ++ r) = true := okS_of (by
        rw [← ls_len, ls_app, ls_app, ls_bs, e2]
        simp
        omega)
      rw [o1, o2] at h
      refine ⟨_, Tr.run_of h (by simp [os]; omega), PLe.of_eq ?_⟩
      simp
      omega
  · cases hp
end
end Go.Proofs.YtnidaonmigjgkaaDoor.Ev
