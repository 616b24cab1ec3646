/- lex: what a line announces, as the document says it. No condition. -/
import Derived.Test.YtnidaonmigjgkaaDoorLxN
namespace Go.Proofs.YtnidaonmigjgkaaDoor.Ev
open Go Go.RowKit Go.Proofs Go.Proofs.YtnidaonmigjgkaaDoor.Str
set_option linter.unusedVariables false
set_option linter.unusedSimpArgs false
section
variable {m : Int} {t : TypeId} {fr : Nat × Nat}
theorem wrap_u8 {n : Nat} (h : n < 256) : IntKind.u8.wrap (n : Int) = n := by
  simp [IntKind.wrap, IntKind.bits, IntKind.signed]
  omega
def digOuts : Exit → Outs
  | .normal => { ks := [0, 3, 4] }
  | .exit _ => { ks := [0, 3] }
  | .ret => { ks := [2] }
  | _ => { ks := [] }
noncomputable abbrev digRound (G : GT) := roundT Tryd.prog (E1 G) 60 G 47 digOuts .normal (theLoop 0 Tryd.f21)
-- from: dig_round [bs, okS] (m : Int) (t : TypeId) (fr : Nat × Nat) (s : ByteArray) (n i : Int) : (digRound (GG m t fr) ([str s, int n, int i], [])).run2
theorem dig_round (m : Int) (t : TypeId) (fr : Nat × Nat) (s : ByteArray) (n i : Int) : (digRound (GG m t fr) ([str s, int n, int i], [])).run2 =
    (bif decide (i < (((ByteArray.size s) : Nat) : Int)) then
        bif decide ((((UInt8.toNat (Array.getD (ByteArray.data s) (Int.toNat i) (0 : UInt8))) : Nat) : Int) < (48 : Int)) then
          (.some ((.ret, (((.lit (.int .i64 (-1 : Int))) :: []), [])), (true :: (true :: (true :: ((decide ((0 : Int) ≤ i) && (Nat.blt (Int.toNat i) (ByteArray.size s))) :: []))))))
        else bif decide ((((UInt8.toNat (Array.getD (ByteArray.data s) (Int.toNat i) (0 : UInt8))) : Nat) : Int) > (57 : Int)) then
            (.some ((.ret, (((.lit (.int .i64 (-1 : Int))) :: []), [])), ((decide ((0 : Int) ≤ i) && (Nat.blt (Int.toNat i) (ByteArray.size s))) :: ((decide ((0 : Int) ≤ i) && (Nat.blt (Int.toNat i) (ByteArray.size s))) :: []))))
          else (.some ((.normal, (((.lit (.string s)) :: ((.lit (.int .i64 (IntKind.wrap .i64 ((IntKind.wrap .i64 ((10 : Int) * n)) + (IntKind.wrap .i64 (IntKind.wrap .u8 ((((UInt8.toNat (Array.getD (ByteArray.data s) (Int.toNat i) (0 : UInt8))) : Nat) : Int) - (48 : Int)))))))) :: ((.lit (.int .i64 (IntKind.wrap .i64 (i + (1 : Int))))) :: []))), [])), ((decide ((0 : Int) ≤ i) && (Nat.blt (Int.toNat i) (ByteArray.size s))) :: ((decide ((0 : Int) ≤ i) && (Nat.blt (Int.toNat i) (ByteArray.size s))) :: ((decide ((0 : Int) ≤ i) && (Nat.blt (Int.toNat i) (ByteArray.size s))) :: [])))))
      else (.some (((.exit 0), (((.lit (.string s)) :: ((.lit (.int .i64 n)) :: [])), [])), [])) : Option ((Exit × Kept) × List Bool)) := by
  kernel_rfl
def digF : Kept → Tr (Exit × Kept)
  | ([.lit (.string s), .lit (.int .i64 n), .lit (.int .i64 i)], []) => .br (Nat.ble s.size 9 && decide (0 ≤ i) && decide (i ≤ (s.size : Int)) && decide (0 ≤ n) && Nat.blt n.toNat (10 ^ i.toNat)) (.br (((ls s).drop i.toNat).all isDig) (.leaf (.exit 0, ([str s, int ((valD n.toNat ((ls s).drop i.toNat) : Nat) : Int)], [])))
      (.leaf (.ret, ([int (-1)], [])))) .fail
  | _ => .fail
def digEnd (s : ByteArray) (n : Nat) (r : List UInt8) : Exit × Kept := bif r.all isDig then (.exit 0, ([str s, int ((valD n r : Nat) : Int)], [])) else (.ret, ([int (-1)], []))
theorem dig_LR (s : ByteArray) (hs : s.size ≤ 9) : ∀ (r : List UInt8) (n i : Nat), (ls s).drop i = r → i ≤ s.size → n < 10 ^ i →
    LR Tryd.prog (E1 (GG m t fr)) 60 (GG m t fr) 47 digOuts .normal (theLoop 0 Tryd.f21) ([str s, int n, int i], []) (digEnd s n r).1 (digEnd s n r).2
  | [], n, i, hr, hi, hn => by
    have h := dig_round m t fr s n i
    have hlen : s.size ≤ i := by
      have := List.drop_eq_nil_iff.1 hr
      rwa [ls_len] at this
    have hd : decide ((i : Int) < (s.size : Int)) = false := by simp; omega
    rw [hd] at h
    exact .last (Tr.run_of h rfl) (by simp [digEnd]) (by simp [digEnd])
  | c :: r, n, i, hr, hi, hn => by
    have h := dig_round m t fr s n i
    obtain ⟨hlt, hget, hdrop⟩ := get_drop hr
    have hd : decide ((i : Int) < (s.size : Int)) = true := by simp; omega
    have hw : IntKind.i64.wrap ((i : Int) + 1) = ((i + 1 : Nat) : Int) := wrap_succ (by omega)
    have hb : Nat.blt i s.size = true := by rw [Nat.blt_eq]; exact hlt
    rw [hd, hw, Int.toNat_natCast, hget] at h
    simp only [cond_true] at h
    by_cases h48 : c.toNat < 48
    · have e1 : decide (((c.toNat : Nat) : Int) < 48) = true := by simp; omega
      have e2 : isDig c = false := by
        unfold isDig
        rw [Bool.and_eq_false_iff]
        left
        rw [Bool.eq_false_iff, ne_eq, Nat.ble_eq]
        omega
      rw [e1] at h
      have e3 : digEnd s n (c :: r) = (.ret, ([int (-1)], [])) := by simp [digEnd, e2]
      rw [e3]
      exact .last (Tr.run_of h (by simp [hb])) (by simp) (by simp)
    · have e1 : decide (((c.toNat : Nat) : Int) < 48) = false := by simp; omega
      rw [e1] at h
      simp only [cond_false] at h
      by_cases h57 : 57 < c.toNat
      · have e4 : decide (((c.toNat : Nat) : Int) > 57) = true := by simp; omega
        have e2 : isDig c = false := by
          unfold isDig
          rw [Bool.and_eq_false_iff]
          right
          rw [Bool.eq_false_iff, ne_eq, Nat.ble_eq]
          omega
        rw [e4] at h
        have e3 : digEnd s n (c :: r) = (.ret, ([int (-1)], [])) := by simp [digEnd, e2]
        rw [e3]
        exact .last (Tr.run_of h (by simp [hb])) (by simp) (by simp)
      · have e4 : decide (((c.toNat : Nat) : Int) > 57) = false := by simp; omega
        have e2 : isDig c = true := by
          unfold isDig
          rw [Bool.and_eq_true, Nat.ble_eq, Nat.ble_eq]
          omega
        rw [e4] at h
        simp only [cond_false] at h
        have hp : 10 ^ i ≤ 10 ^ 9 := Nat.pow_le_pow_right (by omega) (by omega)
        have w1 : IntKind.i64.wrap (10 * (n : Int)) = ((n * 10 : Nat) : Int) := by
          have : 10 * (n : Int) = ((n * 10 : Nat) : Int) := by omega
          rw [this]
          exact wrap_nat (by omega)
        have w2 : IntKind.i64.wrap (IntKind.u8.wrap (((c.toNat : Nat) : Int) - 48)) = ((c.toNat - 48 : Nat) : Int) := by
          have : ((c.toNat : Nat) : Int) - 48 = ((c.toNat - 48 : Nat) : Int) := by omega
          rw [this]
          have w8 : IntKind.u8.wrap ((c.toNat - 48 : Nat) : Int) = ((c.toNat - 48 : Nat) : Int) := wrap_u8 (by have := c.toNat_lt; omega)
          rw [w8]
          exact wrap_nat (by omega)
        have w3 : IntKind.i64.wrap (((n * 10 : Nat) : Int) + ((c.toNat - 48 : Nat) : Int)) = ((n * 10 + (c.toNat - 48) : Nat) : Int) := by
          have : ((n * 10 : Nat) : Int) + ((c.toNat - 48 : Nat) : Int) = ((n * 10 + (c.toNat - 48) : Nat) : Int) := by omega
          rw [this]
          exact wrap_nat (by omega)
        rw [w1, w2, w3] at h
        refine .more (Tr.run_of h (by simp [hb])) ?_
        have hs' : 10 ^ (i + 1) = 10 ^ i * 10 := Nat.pow_succ ..
        have ih := dig_LR s hs r (n * 10 + (c.toNat - 48)) (i + 1) hdrop (by omega) (by omega)
        have e3 : digEnd s n (c :: r) = digEnd s (n * 10 + (c.toNat - 48)) r := by
          unfold digEnd
          rw [List.all_cons, e2, Bool.true_and]
          rfl
        rw [e3]
        exact ih
theorem digF_ok (x : Kept) (e : Exit) (y : Kept) (h : (digF x).run = some (e, y)) : LR Tryd.prog (E1 (GG m t fr)) 60 (GG m t fr) 47 digOuts .normal (theLoop 0 Tryd.f21) x e y := by
  unfold digF at h
  split at h
  · rename_i s n i
    obtain ⟨hc, h⟩ := br_run h
    simp only [Bool.and_eq_true, decide_eq_true_eq, Nat.ble_eq, Nat.blt_eq] at hc
    obtain ⟨i, rfl⟩ : ∃ k : Nat, i = k := ⟨i.toNat, by omega⟩
    obtain ⟨n, rfl⟩ : ∃ k : Nat, n = k := ⟨n.toNat, by omega⟩
    rw [Int.toNat_natCast, Int.toNat_natCast] at h
    rw [Int.toNat_natCast, Int.toNat_natCast] at hc
    have := dig_LR (m := m) (t := t) (fr := fr) s hc.1.1.1.1 ((ls s).drop i) n i rfl (by omega) hc.2
    unfold digEnd at this
    cases hd : ((ls s).drop i).all isDig with
    | true =>
      rw [hd] at this h
      simp only [Tr.run, cond_true, Option.some.injEq, Prod.mk.injEq] at h
      obtain ⟨rfl, rfl⟩ := h
      exact this
    | false =>
      rw [hd] at this h
      simp only [Tr.run, cond_false, Option.some.injEq, Prod.mk.injEq] at h
      obtain ⟨rfl, rfl⟩ := h
      exact this
  · cases h
noncomputable abbrev digCut (G : GT) := cutOf G 47 digOuts 0 digF
-- from: dig_raw [bs, okS, isDig, valD, ls] (m : Int) (t : TypeId) (fr : Nat × Nat) (s : ByteArray) : (fnPure Tryd.prog ((E1 (GG m t fr)).withCuts (cut1 0 (digCut (GG m t fr)))) 60 Tryd.f21 (GG m t fr) [str s]).run2
theorem dig_raw (m : Int) (t : TypeId) (fr : Nat × Nat) (s : ByteArray) : (fnPure Tryd.prog ((E1 (GG m t fr)).withCuts (cut1 0 (digCut (GG m t fr)))) 60 Tryd.f21 (GG m t fr) [str s]).run2 =
    (bif ((ByteArray.toList s) == (ByteArray.toList (.mk (List.toArray [])))) then
        (.some ((.lit (.int .i64 (-1 : Int))), (true :: (true :: (true :: (true :: (true :: (true :: (true :: [])))))))))
      else bif decide ((((ByteArray.size s) : Nat) : Int) > (9 : Int)) then
          (.some ((.lit (.int .i64 (-1 : Int))), (true :: (true :: (true :: (true :: []))))))
        else bif ((((UInt8.toNat (Array.getD (ByteArray.data s) 0 (0 : UInt8))) : Nat) : Int) == (48 : Int)) then
            bif decide ((((ByteArray.size s) : Nat) : Int) > (1 : Int)) then
              (.some ((.lit (.int .i64 (-1 : Int))), ((Nat.blt 0 (ByteArray.size s)) :: [])))
            else bif (List.all (List.drop 0 (Str.ls s)) (isDig)) then
                (.some ((.lit (.int .i64 (((valD 0 (List.drop 0 (Str.ls s))) : Nat) : Int))), ((((((Nat.ble (ByteArray.size s) (9 : Nat)) && true) && decide ((0 : Int) ≤ (((ByteArray.size s) : Nat) : Int))) && true) && true) :: ((Nat.blt 0 (ByteArray.size s)) :: []))))
              else (.some ((.lit (.int .i64 (-1 : Int))), ((((((Nat.ble (ByteArray.size s) (9 : Nat)) && true) && decide ((0 : Int) ≤ (((ByteArray.size s) : Nat) : Int))) && true) && true) :: ((Nat.blt 0 (ByteArray.size s)) :: []))))
          else bif (List.all (List.drop 0 (Str.ls s)) (isDig)) then
              (.some ((.lit (.int .i64 (((valD 0 (List.drop 0 (Str.ls s))) : Nat) : Int))), ((((((Nat.ble (ByteArray.size s) (9 : Nat)) && true) && decide ((0 : Int) ≤ (((ByteArray.size s) : Nat) : Int))) && true) && true) :: ((Nat.blt 0 (ByteArray.size s)) :: []))))
            else (.some ((.lit (.int .i64 (-1 : Int))), ((((((Nat.ble (ByteArray.size s) (9 : Nat)) && true) && decide ((0 : Int) ≤ (((ByteArray.size s) : Nat) : Int))) && true) && true) :: ((Nat.blt 0 (ByteArray.size s)) :: [])))) : Option (PV × List Bool)) := by
  kernel_rfl
theorem numI_of {l : List UInt8} (h0 : l ≠ []) (h9 : l.length ≤ 9) : numI l = (!(decide (1 < l.length) && decide (l.getD 0 0 = 48)) && l.all isDig) := by
  unfold numI
  have hne : l.isEmpty = false := by simpa using h0
  rw [hne, decide_eq_true h9]
  rfl
def digitsG : List PV → Tr PV
  | [.lit (.string s)] => .leaf (int (bif numI (ls s) then ((numR (ls s) : Nat) : Int) else -1))
  | _ => .fail
theorem digits_ok : PureOK Tryd.prog (GG m t fr) 21 digitsG := by
  refine PureOK.of (fn_cuts mixed E1_ok (fn := Tryd.f21) (cuts := cut1 0 (digCut (GG m t fr))) (by kernel_rfl) (CutLaws.one (by omega) (by kernel_rfl) fun st e st' h => cutOf_ok E1_ok mixed (noCuts_ok (envOf_cuts ..) _) digF_ok h)) fun ps p hp => ?_
  unfold digitsG at hp
  split at hp
  · rename_i s
    simp only [Tr.run, Option.some.injEq] at hp
    subst hp
    have h := dig_raw m t fr s
    rw [eqB, getD_ls, List.drop_zero] at h
    have e0 : ls (ByteArray.mk (List.toArray [])) = [] := rfl
    have e48 : ((48 : Int)) = (((48 : UInt8).toNat : Nat) : Int) := rfl
    rw [e0, e48, byte_eq] at h
    by_cases h0 : ls s = []
    · have hI : numI (ls s) = false := by rw [h0]; rfl
      rw [decide_eq_true h0] at h
      refine ⟨_, Tr.run_of h (by simp), PLe.of_eq ?_⟩
      simp [numR, hI]
    · rw [decide_eq_false h0] at h
      simp only [cond_false] at h
      by_cases h9 : (ls s).length ≤ 9
      · have e9 : decide (((s.size : Nat) : Int) > 9) = false := by simp [← ls_len]; omega
        rw [e9] at h
        simp only [cond_false] at h
        have hne : (ls s).isEmpty = false := by simpa using h0
        have hlt : Nat.blt 0 s.size = true := by
          rw [Nat.blt_eq, ← ls_len]
          exact List.length_pos_iff.2 h0
        have hle : Nat.ble s.size 9 = true := by rw [Nat.ble_eq, ← ls_len]; exact h9
        have e1 : decide (((s.size : Nat) : Int) > 1) = decide (1 < (ls s).length) := by
          rw [ls_len, decide_eq_decide]
          omega
        rw [e1] at h
        cases hh : decide ((ls s).getD 0 0 = 48) <;> cases h1 : decide (1 < (ls s).length) <;> cases ha : (ls s).all isDig <;> rw [hh] at h <;> (try rw [h1] at h) <;> (try rw [ha] at h) <;>
          (have hI := numI_of h0 h9) <;> rw [hh, h1, ha] at hI <;>
          exact ⟨_, Tr.run_of h (by simp [hlt, hle]), PLe.of_eq (by simp [numR, hI])⟩
      · have e9 : decide (((s.size : Nat) : Int) > 9) = true := by simp [← ls_len]; omega
        rw [e9] at h
        have hI : numI (ls s) = false := by
          unfold numI
          rw [decide_eq_false h9]
          simp
        refine ⟨_, Tr.run_of h (by simp), PLe.of_eq ?_⟩
        simp [numR, hI]
  · cases hp
end
end Go.Proofs.YtnidaonmigjgkaaDoor.Ev
