/- JTallyTells25: several texts in one. Condition: each part's own. -/
import Derived.Test.YtcdghinmmhcfcaaGreatDoorJTallyTells24
import Derived.Test.YtcdghinmmhcfcaaGreatDoorJTallyTells20
import Derived.Test.YtcdghinmmhcfcaaGreatDoorJTallyTells18
import Derived.Test.YtcdghinmmhcfcaaGreatDoorJTallyTells19
import Derived.Test.YtcdghinmmhcfcaaGreatDoorJTallyTells13
import Derived.Test.YtcdghinmmhcfcaaGreatDoorJTallyTells12
import Derived.Test.YtcdghinmmhcfcaaGreatDoorJTallyTells08
import Derived.Stop.LaidErr
/- The document's tally of numbers is the program's. No condition. -/
namespace Go.Proofs.YtcdghinmmhcfcaaGreatDoor.Ev
open Go Go.RowKit Go.Proofs Go.Proofs.YtcdghinmmhcfcaaGreatDoor.Str
set_option linter.unusedVariables false
set_option linter.unusedSimpArgs false
section
variable {m : Int} {t : TypeId} {fr : Nat × Nat}
def roIn (w : Int) (ns : List Int) (i : Nat) : Kept := ([.lit (.int .u8 w), .gsl 1 ns.length (nRow ns), .ptr 0 0, .gsl 1 ns.length (nRow ns), int ns.length, int i], [zBk])
def roEnd (w : Int) (ns : List Int) (b : Bool) : Exit × Kept := bif b then (.ret, ([.ptr 0 0, int 1], [zBk])) else (.exit 0, ([.lit (.int .u8 w), .gsl 1 ns.length (nRow ns), .ptr 0 0], [zBk]))
theorem ro_LR (w : Int) (ns : List Int) (hn : ns.length ≤ 4294967280) : ∀ (s : List Int) (i : Nat), ns.drop i = s →
    LR Tryz.prog (Eof (GG m t fr)) 60 (GG m t fr) 74 roOuts .normal (theLoop 0 Tryz.f7) (roIn w ns i) (roEnd w ns (s.contains 0)).1 (roEnd w ns (s.contains 0)).2
  | [], i, hr => by
    have h := ro_round m t fr w ns ns.length ns.length i
    have hlen := List.drop_eq_nil_iff.1 hr
    have hd : decide ((i : Int) < (ns.length : Int)) = false := by simp; omega
    rw [hd] at h
    exact .last (Tr.run_of h rfl) (by simp [roEnd]) (by simp [roEnd])
  | y :: s, i, hr => by
    have h := ro_round m t fr w ns ns.length ns.length i
    obtain ⟨hlt, hx, hdr⟩ := nu_drop hr
    have hd : decide ((i : Int) < (ns.length : Int)) = true := by simp; omega
    have hw : IntKind.i64.wrap ((i : Int) + 1) = ((i + 1 : Nat) : Int) := wrap_succ (by omega)
    have b1 : Nat.blt i ns.length = true := by rw [Nat.blt_eq]; exact hlt
    have b3 : decide ((0 : Int) ≤ ((i : Nat) : Int)) = true := by simp
    rw [hd, hw, Int.toNat_natCast, hx, b1, b3] at h
    have e0 : ((0 : Int) == y) = (y == 0) := by
      rw [beqD, beqD, decide_eq_decide]
      exact ⟨Eq.symm, Eq.symm⟩
    rw [List.contains_cons, e0]
    cases c : y == 0 with
    | true =>
      rw [c] at h
      exact .last (Tr.run_of h rfl) (by simp [roEnd]) (by simp [roEnd])
    | false =>
      rw [c] at h
      rw [Bool.false_or]
      exact .more (Tr.run_of h rfl) (ro_LR w ns hn s (i + 1) hdr)
def roF : Kept → Tr (Exit × Kept)
  | ([.lit (.int .u8 w), .gsl 1 n f, .ptr 0 0, .gsl 1 n' f', .lit (.int .i64 u), .lit (.int .i64 0)], [.cells ty0 [.lit (.int .u8 0), .lit (.int .i64 0), .lit (.int .u32 0), .lit (.int .u32 0), .lit (.slice none 0 0)]]) =>
    match Nat.beq ty0 27 with
    | true => .br (areNums n f && (areNums n' f' && decide (n = n') && decide (numsOf n f = numsOf n' f')) && decide (u = (n : Int)) && Nat.ble n 4294967280) (.br ((numsOf n f).contains 0) (.leaf (.ret, ([.ptr 0 0, int 1], [zBk]))) (.leaf (.exit 0, ([.lit (.int .u8 w), .gsl 1 n (nRow (numsOf n f)), .ptr 0 0], [zBk])))) .fail
    | false => .fail
  | _ => .fail
theorem roF_ok (k : Kept) (e : Exit) (y : Kept) (h : (roF k).run = some (e, y)) : LR Tryz.prog (Eof (GG m t fr)) 60 (GG m t fr) 74 roOuts .normal (theLoop 0 Tryz.f7) k e y := by
  unfold roF at h
  split at h
  · rename_i w n f n' f' u ty0
    split at h
    · rename_i hty
      obtain rfl := Nat.eq_of_beq_eq_true hty
      have hb := br_run h
      clear h
      obtain ⟨hc, h⟩ := hb
      simp only [Bool.and_eq_true, Nat.ble_eq, decide_eq_true_eq] at hc
      obtain ⟨⟨⟨hf, ⟨hf', rfl⟩, hnn⟩, rfl⟩, hn⟩ := hc
      have hL := nums_len n f
      have key := ro_LR (m := m) (t := t) (fr := fr) w (numsOf n f) (by omega) (numsOf n f) 0 rfl
      have hin : KLe ([.lit (.int .u8 w), .gsl 1 n f, .ptr 0 0, .gsl 1 n f', int (n : Int), int 0], [zBk]) (roIn w (numsOf n f) 0) := by
        refine ⟨PLeL.cons (.refl _) (PLeL.cons (PLe.gsl hL.symm (nums_row hf)) (PLeL.cons (.refl _) (PLeL.cons (PLe.gsl hL.symm fun i hi => ?_) (PLeL.cons (PLe.of_eq ?_) (.refl _))))), .refl _⟩
        · rw [hnn]
          exact nums_row hf' i hi
        · rw [hL]
      have hout : KLe ([.lit (.int .u8 w), .gsl 1 (numsOf n f).length (nRow (numsOf n f)), .ptr 0 0], [zBk]) ([.lit (.int .u8 w), .gsl 1 n (nRow (numsOf n f)), .ptr 0 0], [zBk]) := ⟨PLeL.cons (.refl _) (PLeL.cons (PLe.gsl hL fun _ _ => rfl) (.refl _)), .refl _⟩
      simp only [Tr.run] at h
      cases c : (numsOf n f).contains (0 : Int) with
      | true =>
        rw [c] at h key
        simp only [cond_true, Option.some.injEq, Prod.mk.injEq] at h
        obtain ⟨rfl, rfl⟩ := h
        exact .le hin key
      | false =>
        rw [c] at h key
        simp only [cond_false, Option.some.injEq, Prod.mk.injEq] at h
        obtain ⟨rfl, rfl⟩ := h
        exact .le hin (.out key hout)
    · cases h
  · cases h
noncomputable abbrev ofdCut (G : GT) := cutOf G 74 roOuts 0 roF
theorem rof_raw_v (m : Int) (t : TypeId) (fr : Nat × Nat) (w : Int) (n : Nat) (ns : List Int) : ((fnPure Tryz.prog ((Eof (GG m t fr)).withCuts (cut1 0 (ofdCut (GG m t fr)))) 60 Tryz.f7 (GG m t fr) [.lit (.int .u8 w), .gsl 1 n (nRow ns)])).val =
 (bif (decide (w > (15 : Int))) then
 (.some (.tup [(.agg [(.lit (.int .u8 (0 : Int))), (.lit (.int .i64 (0 : Int))), (.lit (.int .u32 (0 : Int))), (.lit (.int .u32 (0 : Int))), (.lit (.slice .none 0 0))]), (.lit (.int .i64 (1 : Int)))]))
 else bif (List.contains (numsOf n (nRow ns)) (0 : Int)) then
 (.some (.tup [(.agg [(.lit (.int .u8 (0 : Int))), (.lit (.int .i64 (0 : Int))), (.lit (.int .u32 (0 : Int))), (.lit (.int .u32 (0 : Int))), (.lit (.slice .none 0 0))]), (.lit (.int .i64 (1 : Int)))]))
 else bif (bne (posE (numsOf n (nRow (numsOf n (nRow ns))))) (0 : Int)) then
 (.some (.tup [(.agg [(.lit (.int .u8 (0 : Int))), (.lit (.int .i64 (0 : Int))), (.lit (.int .u32 (0 : Int))), (.lit (.int .u32 (0 : Int))), (.lit (.slice .none 0 0))]), (.lit (.int .i64 (posE (numsOf n (nRow (numsOf n (nRow ns)))))))]))
 else bif (bne (IntKind.wrap .u8 (((BitVec.toNat (HAnd.hAnd (BitVec.ofInt 8 w) (BitVec.ofInt 8 (8 : Int)))) : Nat) : Int)) (0 : Int)) then
 bif (((n : Nat) : Int) == (0 : Int)) then
 (.some (.tup [(.agg [(.lit (.int .u8 w)), (.lit (.int .i64 ((n : Nat) : Int))), (.lit (.int .u32 (0 : Int))), (.lit (.int .u32 (0 : Int))), (.lit (.slice .none 0 0))]), (.lit (.int .i64 (0 : Int)))]))
 else bif (bne (IntKind.wrap .u8 (((BitVec.toNat (HAnd.hAnd (BitVec.ofInt 8 w) (BitVec.ofInt 8 (1 : Int)))) : Nat) : Int)) (0 : Int)) then
 bif (bne (IntKind.wrap .u8 (((BitVec.toNat (HAnd.hAnd (BitVec.ofInt 8 w) (BitVec.ofInt 8 (2 : Int)))) : Nat) : Int)) (0 : Int)) then
 bif (bne (IntKind.wrap .u8 (((BitVec.toNat (HAnd.hAnd (BitVec.ofInt 8 w) (BitVec.ofInt 8 (4 : Int)))) : Nat) : Int)) (0 : Int)) then
 bif (bne (packE (numsOf n (nRow (numsOf n (nRow ns))))) (0 : Int)) then
 (.some (.tup [(.agg [(.lit (.int .u8 (0 : Int))), (.lit (.int .i64 (0 : Int))), (.lit (.int .u32 (0 : Int))), (.lit (.int .u32 (0 : Int))), (.lit (.slice .none 0 0))]), (.lit (.int .i64 (15 : Int)))]))
 else (.some (.tup [(.agg [(.lit (.int .u8 w)), (.lit (.int .i64 ((n : Nat) : Int))), (.lit (.int .u32 (nu (numsOf n (nRow ns)) 0))), (.lit (.int .u32 (nu (numsOf n (nRow ns)) (Int.toNat (IntKind.wrap .i64 (((n : Nat) : Int) - (1 : Int))))))), (.gsl 2 (List.length (packR (numsOf n (nRow (numsOf n (nRow ns)))))) (sRow (packR (numsOf n (nRow (numsOf n (nRow ns)))))))]), (.lit (.int .i64 (0 : Int)))]))
 else (.some (.tup [(.agg [(.lit (.int .u8 w)), (.lit (.int .i64 ((n : Nat) : Int))), (.lit (.int .u32 (nu (numsOf n (nRow ns)) 0))), (.lit (.int .u32 (nu (numsOf n (nRow ns)) (Int.toNat (IntKind.wrap .i64 (((n : Nat) : Int) - (1 : Int))))))), (.lit (.slice .none 0 0))]), (.lit (.int .i64 (0 : Int)))]))
 else bif (bne (IntKind.wrap .u8 (((BitVec.toNat (HAnd.hAnd (BitVec.ofInt 8 w) (BitVec.ofInt 8 (4 : Int)))) : Nat) : Int)) (0 : Int)) then
 bif (bne (packE (numsOf n (nRow (numsOf n (nRow ns))))) (0 : Int)) then
 (.some (.tup [(.agg [(.lit (.int .u8 (0 : Int))), (.lit (.int .i64 (0 : Int))), (.lit (.int .u32 (0 : Int))), (.lit (.int .u32 (0 : Int))), (.lit (.slice .none 0 0))]), (.lit (.int .i64 (15 : Int)))]))
 else (.some (.tup [(.agg [(.lit (.int .u8 w)), (.lit (.int .i64 ((n : Nat) : Int))), (.lit (.int .u32 (nu (numsOf n (nRow ns)) 0))), (.lit (.int .u32 (0 : Int))), (.gsl 2 (List.length (packR (numsOf n (nRow (numsOf n (nRow ns)))))) (sRow (packR (numsOf n (nRow (numsOf n (nRow ns)))))))]), (.lit (.int .i64 (0 : Int)))]))
 else (.some (.tup [(.agg [(.lit (.int .u8 w)), (.lit (.int .i64 ((n : Nat) : Int))), (.lit (.int .u32 (nu (numsOf n (nRow ns)) 0))), (.lit (.int .u32 (0 : Int))), (.lit (.slice .none 0 0))]), (.lit (.int .i64 (0 : Int)))]))
 else bif (bne (IntKind.wrap .u8 (((BitVec.toNat (HAnd.hAnd (BitVec.ofInt 8 w) (BitVec.ofInt 8 (2 : Int)))) : Nat) : Int)) (0 : Int)) then
 bif (bne (IntKind.wrap .u8 (((BitVec.toNat (HAnd.hAnd (BitVec.ofInt 8 w) (BitVec.ofInt 8 (4 : Int)))) : Nat) : Int)) (0 : Int)) then
 bif (bne (packE (numsOf n (nRow (numsOf n (nRow ns))))) (0 : Int)) then
 (.some (.tup [(.agg [(.lit (.int .u8 (0 : Int))), (.lit (.int .i64 (0 : Int))), (.lit (.int .u32 (0 : Int))), (.lit (.int .u32 (0 : Int))), (.lit (.slice .none 0 0))]), (.lit (.int .i64 (15 : Int)))]))
 else (.some (.tup [(.agg [(.lit (.int .u8 w)), (.lit (.int .i64 ((n : Nat) : Int))), (.lit (.int .u32 (0 : Int))), (.lit (.int .u32 (nu (numsOf n (nRow ns)) (Int.toNat (IntKind.wrap .i64 (((n : Nat) : Int) - (1 : Int))))))), (.gsl 2 (List.length (packR (numsOf n (nRow (numsOf n (nRow ns)))))) (sRow (packR (numsOf n (nRow (numsOf n (nRow ns)))))))]), (.lit (.int .i64 (0 : Int)))]))
 else (.some (.tup [(.agg [(.lit (.int .u8 w)), (.lit (.int .i64 ((n : Nat) : Int))), (.lit (.int .u32 (0 : Int))), (.lit (.int .u32 (nu (numsOf n (nRow ns)) (Int.toNat (IntKind.wrap .i64 (((n : Nat) : Int) - (1 : Int))))))), (.lit (.slice .none 0 0))]), (.lit (.int .i64 (0 : Int)))]))
 else bif (bne (IntKind.wrap .u8 (((BitVec.toNat (HAnd.hAnd (BitVec.ofInt 8 w) (BitVec.ofInt 8 (4 : Int)))) : Nat) : Int)) (0 : Int)) then
 bif (bne (packE (numsOf n (nRow (numsOf n (nRow ns))))) (0 : Int)) then
 (.some (.tup [(.agg [(.lit (.int .u8 (0 : Int))), (.lit (.int .i64 (0 : Int))), (.lit (.int .u32 (0 : Int))), (.lit (.int .u32 (0 : Int))), (.lit (.slice .none 0 0))]), (.lit (.int .i64 (15 : Int)))]))
 else (.some (.tup [(.agg [(.lit (.int .u8 w)), (.lit (.int .i64 ((n : Nat) : Int))), (.lit (.int .u32 (0 : Int))), (.lit (.int .u32 (0 : Int))), (.gsl 2 (List.length (packR (numsOf n (nRow (numsOf n (nRow ns)))))) (sRow (packR (numsOf n (nRow (numsOf n (nRow ns)))))))]), (.lit (.int .i64 (0 : Int)))]))
 else (.some (.tup [(.agg [(.lit (.int .u8 w)), (.lit (.int .i64 ((n : Nat) : Int))), (.lit (.int .u32 (0 : Int))), (.lit (.int .u32 (0 : Int))), (.lit (.slice .none 0 0))]), (.lit (.int .i64 (0 : Int)))]))
 else bif (((n : Nat) : Int) == (0 : Int)) then
 (.some (.tup [(.agg [(.lit (.int .u8 w)), (.lit (.int .i64 (0 : Int))), (.lit (.int .u32 (0 : Int))), (.lit (.int .u32 (0 : Int))), (.lit (.slice .none 0 0))]), (.lit (.int .i64 (0 : Int)))]))
 else bif (bne (IntKind.wrap .u8 (((BitVec.toNat (HAnd.hAnd (BitVec.ofInt 8 w) (BitVec.ofInt 8 (1 : Int)))) : Nat) : Int)) (0 : Int)) then
 bif (bne (IntKind.wrap .u8 (((BitVec.toNat (HAnd.hAnd (BitVec.ofInt 8 w) (BitVec.ofInt 8 (2 : Int)))) : Nat) : Int)) (0 : Int)) then
 bif (bne (IntKind.wrap .u8 (((BitVec.toNat (HAnd.hAnd (BitVec.ofInt 8 w) (BitVec.ofInt 8 (4 : Int)))) : Nat) : Int)) (0 : Int)) then
 bif (bne (packE (numsOf n (nRow (numsOf n (nRow ns))))) (0 : Int)) then
 (.some (.tup [(.agg [(.lit (.int .u8 (0 : Int))), (.lit (.int .i64 (0 : Int))), (.lit (.int .u32 (0 : Int))), (.lit (.int .u32 (0 : Int))), (.lit (.slice .none 0 0))]), (.lit (.int .i64 (15 : Int)))]))
 else (.some (.tup [(.agg [(.lit (.int .u8 w)), (.lit (.int .i64 (0 : Int))), (.lit (.int .u32 (nu (numsOf n (nRow ns)) 0))), (.lit (.int .u32 (nu (numsOf n (nRow ns)) (Int.toNat (IntKind.wrap .i64 (((n : Nat) : Int) - (1 : Int))))))), (.gsl 2 (List.length (packR (numsOf n (nRow (numsOf n (nRow ns)))))) (sRow (packR (numsOf n (nRow (numsOf n (nRow ns)))))))]), (.lit (.int .i64 (0 : Int)))]))
 else (.some (.tup [(.agg [(.lit (.int .u8 w)), (.lit (.int .i64 (0 : Int))), (.lit (.int .u32 (nu (numsOf n (nRow ns)) 0))), (.lit (.int .u32 (nu (numsOf n (nRow ns)) (Int.toNat (IntKind.wrap .i64 (((n : Nat) : Int) - (1 : Int))))))), (.lit (.slice .none 0 0))]), (.lit (.int .i64 (0 : Int)))]))
 else bif (bne (IntKind.wrap .u8 (((BitVec.toNat (HAnd.hAnd (BitVec.ofInt 8 w) (BitVec.ofInt 8 (4 : Int)))) : Nat) : Int)) (0 : Int)) then
 bif (bne (packE (numsOf n (nRow (numsOf n (nRow ns))))) (0 : Int)) then
 (.some (.tup [(.agg [(.lit (.int .u8 (0 : Int))), (.lit (.int .i64 (0 : Int))), (.lit (.int .u32 (0 : Int))), (.lit (.int .u32 (0 : Int))), (.lit (.slice .none 0 0))]), (.lit (.int .i64 (15 : Int)))]))
 else (.some (.tup [(.agg [(.lit (.int .u8 w)), (.lit (.int .i64 (0 : Int))), (.lit (.int .u32 (nu (numsOf n (nRow ns)) 0))), (.lit (.int .u32 (0 : Int))), (.gsl 2 (List.length (packR (numsOf n (nRow (numsOf n (nRow ns)))))) (sRow (packR (numsOf n (nRow (numsOf n (nRow ns)))))))]), (.lit (.int .i64 (0 : Int)))]))
 else (.some (.tup [(.agg [(.lit (.int .u8 w)), (.lit (.int .i64 (0 : Int))), (.lit (.int .u32 (nu (numsOf n (nRow ns)) 0))), (.lit (.int .u32 (0 : Int))), (.lit (.slice .none 0 0))]), (.lit (.int .i64 (0 : Int)))]))
 else bif (bne (IntKind.wrap .u8 (((BitVec.toNat (HAnd.hAnd (BitVec.ofInt 8 w) (BitVec.ofInt 8 (2 : Int)))) : Nat) : Int)) (0 : Int)) then
 bif (bne (IntKind.wrap .u8 (((BitVec.toNat (HAnd.hAnd (BitVec.ofInt 8 w) (BitVec.ofInt 8 (4 : Int)))) : Nat) : Int)) (0 : Int)) then
 bif (bne (packE (numsOf n (nRow (numsOf n (nRow ns))))) (0 : Int)) then
 (.some (.tup [(.agg [(.lit (.int .u8 (0 : Int))), (.lit (.int .i64 (0 : Int))), (.lit (.int .u32 (0 : Int))), (.lit (.int .u32 (0 : Int))), (.lit (.slice .none 0 0))]), (.lit (.int .i64 (15 : Int)))]))
 else (.some (.tup [(.agg [(.lit (.int .u8 w)), (.lit (.int .i64 (0 : Int))), (.lit (.int .u32 (0 : Int))), (.lit (.int .u32 (nu (numsOf n (nRow ns)) (Int.toNat (IntKind.wrap .i64 (((n : Nat) : Int) - (1 : Int))))))), (.gsl 2 (List.length (packR (numsOf n (nRow (numsOf n (nRow ns)))))) (sRow (packR (numsOf n (nRow (numsOf n (nRow ns)))))))]), (.lit (.int .i64 (0 : Int)))]))
 else (.some (.tup [(.agg [(.lit (.int .u8 w)), (.lit (.int .i64 (0 : Int))), (.lit (.int .u32 (0 : Int))), (.lit (.int .u32 (nu (numsOf n (nRow ns)) (Int.toNat (IntKind.wrap .i64 (((n : Nat) : Int) - (1 : Int))))))), (.lit (.slice .none 0 0))]), (.lit (.int .i64 (0 : Int)))]))
 else bif (bne (IntKind.wrap .u8 (((BitVec.toNat (HAnd.hAnd (BitVec.ofInt 8 w) (BitVec.ofInt 8 (4 : Int)))) : Nat) : Int)) (0 : Int)) then
 bif (bne (packE (numsOf n (nRow (numsOf n (nRow ns))))) (0 : Int)) then
 (.some (.tup [(.agg [(.lit (.int .u8 (0 : Int))), (.lit (.int .i64 (0 : Int))), (.lit (.int .u32 (0 : Int))), (.lit (.int .u32 (0 : Int))), (.lit (.slice .none 0 0))]), (.lit (.int .i64 (15 : Int)))]))
 else (.some (.tup [(.agg [(.lit (.int .u8 w)), (.lit (.int .i64 (0 : Int))), (.lit (.int .u32 (0 : Int))), (.lit (.int .u32 (0 : Int))), (.gsl 2 (List.length (packR (numsOf n (nRow (numsOf n (nRow ns)))))) (sRow (packR (numsOf n (nRow (numsOf n (nRow ns)))))))]), (.lit (.int .i64 (0 : Int)))]))
 else (.some (.tup [(.agg [(.lit (.int .u8 w)), (.lit (.int .i64 (0 : Int))), (.lit (.int .u32 (0 : Int))), (.lit (.int .u32 (0 : Int))), (.lit (.slice .none 0 0))]), (.lit (.int .i64 (0 : Int)))])) : Option PV) := by
  kernel_rfl
theorem rof_raw_c (m : Int) (t : TypeId) (fr : Nat × Nat) (w : Int) (n : Nat) (ns : List Int) : ((fnPure Tryz.prog ((Eof (GG m t fr)).withCuts (cut1 0 (ofdCut (GG m t fr)))) 60 Tryz.f7 (GG m t fr) [.lit (.int .u8 w), .gsl 1 n (nRow ns)])).conds =
 (bif (decide (w > (15 : Int))) then
 true
 else bif ((((areNums n (nRow ns)) && (((areNums n (nRow ns)) && (decide (n = n))) && (decide ((numsOf n (nRow ns)) = (numsOf n (nRow ns)))))) && (decide (((n : Nat) : Int) = ((n : Nat) : Int)))) && (Nat.ble n (4294967280 : Nat))) then
 bif (List.contains (numsOf n (nRow ns)) (0 : Int)) then
 true
 else bif ((areNums n (nRow (numsOf n (nRow ns)))) && (Nat.ble n (4294967280 : Nat))) then
 bif (bne (posE (numsOf n (nRow (numsOf n (nRow ns))))) (0 : Int)) then
 true
 else bif (bne (IntKind.wrap .u8 (((BitVec.toNat (HAnd.hAnd (BitVec.ofInt 8 w) (BitVec.ofInt 8 (8 : Int)))) : Nat) : Int)) (0 : Int)) then
 bif (((n : Nat) : Int) == (0 : Int)) then
 true
 else bif (bne (IntKind.wrap .u8 (((BitVec.toNat (HAnd.hAnd (BitVec.ofInt 8 w) (BitVec.ofInt 8 (1 : Int)))) : Nat) : Int)) (0 : Int)) then
 bif (Nat.blt 0 n) then
 bif (bne (IntKind.wrap .u8 (((BitVec.toNat (HAnd.hAnd (BitVec.ofInt 8 w) (BitVec.ofInt 8 (2 : Int)))) : Nat) : Int)) (0 : Int)) then
 bif ((decide ((0 : Int) ≤ (IntKind.wrap .i64 (((n : Nat) : Int) - (1 : Int))))) && (Nat.blt (Int.toNat (IntKind.wrap .i64 (((n : Nat) : Int) - (1 : Int)))) n)) then
 bif (bne (IntKind.wrap .u8 (((BitVec.toNat (HAnd.hAnd (BitVec.ofInt 8 w) (BitVec.ofInt 8 (4 : Int)))) : Nat) : Int)) (0 : Int)) then
 bif ((areNums n (nRow (numsOf n (nRow ns)))) && (Nat.ble n (4294967280 : Nat))) then
 bif ((areNums n (nRow (numsOf n (nRow ns)))) && (Nat.ble n (4294967280 : Nat))) then
 bif (bne (packE (numsOf n (nRow (numsOf n (nRow ns))))) (0 : Int)) then
 true
 else true
 else false
 else false
 else true
 else false
 else bif (bne (IntKind.wrap .u8 (((BitVec.toNat (HAnd.hAnd (BitVec.ofInt 8 w) (BitVec.ofInt 8 (4 : Int)))) : Nat) : Int)) (0 : Int)) then
 bif ((areNums n (nRow (numsOf n (nRow ns)))) && (Nat.ble n (4294967280 : Nat))) then
 bif ((areNums n (nRow (numsOf n (nRow ns)))) && (Nat.ble n (4294967280 : Nat))) then
 bif (bne (packE (numsOf n (nRow (numsOf n (nRow ns))))) (0 : Int)) then
 true
 else true
 else false
 else false
 else true
 else false
 else bif (bne (IntKind.wrap .u8 (((BitVec.toNat (HAnd.hAnd (BitVec.ofInt 8 w) (BitVec.ofInt 8 (2 : Int)))) : Nat) : Int)) (0 : Int)) then
 bif ((decide ((0 : Int) ≤ (IntKind.wrap .i64 (((n : Nat) : Int) - (1 : Int))))) && (Nat.blt (Int.toNat (IntKind.wrap .i64 (((n : Nat) : Int) - (1 : Int)))) n)) then
 bif (bne (IntKind.wrap .u8 (((BitVec.toNat (HAnd.hAnd (BitVec.ofInt 8 w) (BitVec.ofInt 8 (4 : Int)))) : Nat) : Int)) (0 : Int)) then
 bif ((areNums n (nRow (numsOf n (nRow ns)))) && (Nat.ble n (4294967280 : Nat))) then
 bif ((areNums n (nRow (numsOf n (nRow ns)))) && (Nat.ble n (4294967280 : Nat))) then
 bif (bne (packE (numsOf n (nRow (numsOf n (nRow ns))))) (0 : Int)) then
 true
 else true
 else false
 else false
 else true
 else false
 else bif (bne (IntKind.wrap .u8 (((BitVec.toNat (HAnd.hAnd (BitVec.ofInt 8 w) (BitVec.ofInt 8 (4 : Int)))) : Nat) : Int)) (0 : Int)) then
 bif ((areNums n (nRow (numsOf n (nRow ns)))) && (Nat.ble n (4294967280 : Nat))) then
 bif ((areNums n (nRow (numsOf n (nRow ns)))) && (Nat.ble n (4294967280 : Nat))) then
 bif (bne (packE (numsOf n (nRow (numsOf n (nRow ns))))) (0 : Int)) then
 true
 else true
 else false
 else false
 else true
 else bif (((n : Nat) : Int) == (0 : Int)) then
 true
 else bif (bne (IntKind.wrap .u8 (((BitVec.toNat (HAnd.hAnd (BitVec.ofInt 8 w) (BitVec.ofInt 8 (1 : Int)))) : Nat) : Int)) (0 : Int)) then
 bif (Nat.blt 0 n) then
 bif (bne (IntKind.wrap .u8 (((BitVec.toNat (HAnd.hAnd (BitVec.ofInt 8 w) (BitVec.ofInt 8 (2 : Int)))) : Nat) : Int)) (0 : Int)) then
 bif ((decide ((0 : Int) ≤ (IntKind.wrap .i64 (((n : Nat) : Int) - (1 : Int))))) && (Nat.blt (Int.toNat (IntKind.wrap .i64 (((n : Nat) : Int) - (1 : Int)))) n)) then
 bif (bne (IntKind.wrap .u8 (((BitVec.toNat (HAnd.hAnd (BitVec.ofInt 8 w) (BitVec.ofInt 8 (4 : Int)))) : Nat) : Int)) (0 : Int)) then
 bif ((areNums n (nRow (numsOf n (nRow ns)))) && (Nat.ble n (4294967280 : Nat))) then
 bif ((areNums n (nRow (numsOf n (nRow ns)))) && (Nat.ble n (4294967280 : Nat))) then
 bif (bne (packE (numsOf n (nRow (numsOf n (nRow ns))))) (0 : Int)) then
 true
 else true
 else false
 else false
 else true
 else false
 else bif (bne (IntKind.wrap .u8 (((BitVec.toNat (HAnd.hAnd (BitVec.ofInt 8 w) (BitVec.ofInt 8 (4 : Int)))) : Nat) : Int)) (0 : Int)) then
 bif ((areNums n (nRow (numsOf n (nRow ns)))) && (Nat.ble n (4294967280 : Nat))) then
 bif ((areNums n (nRow (numsOf n (nRow ns)))) && (Nat.ble n (4294967280 : Nat))) then
 bif (bne (packE (numsOf n (nRow (numsOf n (nRow ns))))) (0 : Int)) then
 true
 else true
 else false
 else false
 else true
 else false
 else bif (bne (IntKind.wrap .u8 (((BitVec.toNat (HAnd.hAnd (BitVec.ofInt 8 w) (BitVec.ofInt 8 (2 : Int)))) : Nat) : Int)) (0 : Int)) then
 bif ((decide ((0 : Int) ≤ (IntKind.wrap .i64 (((n : Nat) : Int) - (1 : Int))))) && (Nat.blt (Int.toNat (IntKind.wrap .i64 (((n : Nat) : Int) - (1 : Int)))) n)) then
 bif (bne (IntKind.wrap .u8 (((BitVec.toNat (HAnd.hAnd (BitVec.ofInt 8 w) (BitVec.ofInt 8 (4 : Int)))) : Nat) : Int)) (0 : Int)) then
 bif ((areNums n (nRow (numsOf n (nRow ns)))) && (Nat.ble n (4294967280 : Nat))) then
 bif ((areNums n (nRow (numsOf n (nRow ns)))) && (Nat.ble n (4294967280 : Nat))) then
 bif (bne (packE (numsOf n (nRow (numsOf n (nRow ns))))) (0 : Int)) then
 true
 else true
 else false
 else false
 else true
 else false
 else bif (bne (IntKind.wrap .u8 (((BitVec.toNat (HAnd.hAnd (BitVec.ofInt 8 w) (BitVec.ofInt 8 (4 : Int)))) : Nat) : Int)) (0 : Int)) then
 bif ((areNums n (nRow (numsOf n (nRow ns)))) && (Nat.ble n (4294967280 : Nat))) then
 bif ((areNums n (nRow (numsOf n (nRow ns)))) && (Nat.ble n (4294967280 : Nat))) then
 bif (bne (packE (numsOf n (nRow (numsOf n (nRow ns))))) (0 : Int)) then
 true
 else true
 else false
 else false
 else true
 else false
 else false : Bool) := by
  kernel_rfl
end
end Go.Proofs.YtcdghinmmhcfcaaGreatDoor.Ev

/- The document's tally of numbers, as a contract. No condition. -/
namespace Go.Proofs.YtcdghinmmhcfcaaGreatDoor.Ev
open Go Go.RowKit Go.Proofs Go.Proofs.YtcdghinmmhcfcaaGreatDoor.Str
set_option linter.unusedVariables false
set_option linter.unusedSimpArgs false
section
variable {m : Int} {t : TypeId} {fr : Nat × Nat}
def rofG : List PV → Tr PV
  | [.lit (.int .u8 w), .gsl 1 n f] => .br ((areNums n f && Nat.ble n 4294967280) && (decide (0 ≤ w) && decide (w < 256))) (.br (ofE w (numsOf n f) == 0) (.leaf (.tup [tlV (ofT w (numsOf n f)), int 0])) (.leaf (.tup [tlZ, int (ofE w (numsOf n f))]))) .fail
  | _ => .fail
theorem rof_ok : PureOK Tryz.prog (GG m t fr) 7 rofG := by
  intro ps p hp
  unfold rofG at hp
  split at hp
  · rename_i w n f
    have hb := br_run hp
    clear hp
    obtain ⟨hc0, hp⟩ := hb
    simp only [Bool.and_eq_true, decide_eq_true_eq] at hc0
    obtain ⟨hc0, hw0, hw1⟩ := hc0
    have hL := nums_len n f
    refine PureAt.pre (qs := [.lit (.int .u8 w), .gsl 1 (numsOf n f).length (nRow (numsOf n f))]) ?_ (PLeL.cons (.refl _) (PLeL.cons (PLe.gsl hL.symm (nums_row hc0.1)) .nil))
    have base := fn_cuts mixed (Eof_ok (m := m) (t := t) (fr := fr)) (f := 7) (fn := Tryz.f7) (cuts := cut1 0 (ofdCut (GG m t fr))) (by kernel_rfl) (CutLaws.one (by omega) (by kernel_rfl) fun st e st' h => cutOf_ok Eof_ok mixed (noCuts_ok (envOf_cuts ..) _) roF_ok h)
    have hu := nums_u32 hc0.1
    have hn : Nat.ble (numsOf n f).length 4294967280 = true := by rw [hL]; exact hc0.2
    have hn' := Nat.le_of_ble_eq_true hn
    generalize numsOf n f = ns at hp hu hn hn' ⊢
    have hv := rof_raw_v m t fr w ns.length ns
    have hc := rof_raw_c m t fr w ns.length ns
    simp only [nums_nRow] at hv hc
    simp only [are_nRow hu, hn, decide_true, Bool.and_self, Bool.and_true] at hc
    have e8 : ∀ k : Int, bne (IntKind.wrap .u8 (((BitVec.toNat (HAnd.hAnd (BitVec.ofInt 8 w) (BitVec.ofInt 8 k))) : Nat) : Int)) (0 : Int) = wb w k := fun _ => rfl
    rw [← aN_gt ⟨hw0, hw1⟩] at hv hc
    simp only [e8] at hv hc
    simp only [Tr.run] at hp
    have same : ∀ {o : Option PV} {q : PV}, o = some q → ∀ {r : PV}, PLe q r → some r = some p → o = some q ∧ PLe q p := fun h1 _ h2 h3 => ⟨h1, by cases h3; exact h2⟩
    unfold ofE at hp
    cases c1 : aN w with
    | true =>
      rw [c1] at hv hc hp
      simp only [cond_true, show ((1 : Int) == 0) = false from rfl, cond_false, Option.some.injEq] at hp
      subst hp
      exact base _ _ (Tr.run_vc hv hc rfl rfl)
    | false =>
      rw [c1] at hv hc hp
      cases c2 : ns.contains (0 : Int) with
      | true =>
        rw [c2] at hv hc hp
        simp only [cond_true, show ((1 : Int) == 0) = false from rfl, cond_false, Option.some.injEq] at hp
        subst hp
        exact base _ _ (Tr.run_vc hv hc rfl rfl)
      | false =>
        rw [c2] at hv hc hp
        simp only [cond_false] at hp
        cases c3 : bne (posE ns) 0 with
        | true =>
          have c3' : (posE ns == 0) = false := by
            have := c3
            unfold bne at this
            simpa using this
          rw [c3] at hv hc hp
          simp only [cond_true, c3', cond_false, Option.some.injEq] at hp
          subst hp
          exact base _ _ (Tr.run_vc hv hc rfl rfl)
        | false =>
          rw [c3] at hv hc hp
          simp only [cond_false] at hp
          by_cases hz : ns.length = 0
          · have d0 : (((ns.length : Nat) : Int) == 0) = true := by rw [hz]; rfl
            simp only [d0, cond_true, show ((0 : Int) == 0) = true from rfl, Option.some.injEq] at hp
            subst hp
            rw [d0] at hv hc
            unfold ofT ofMany ofLeast ofMost ofL tlV tlP
            simp only [d0, cond_true]
            have nil : ∀ {a b c d : PV}, PLe (.tup [.agg [a, b, c, d, .lit (.slice none 0 0)], int 0]) (.tup [.agg [a, b, c, d, .gsl 2 ([] : List Sp).length (sRow [])], int 0]) := PLe.tup (PLeL.cons (PLe.agg (PLeL.cons (.refl _) (PLeL.cons (.refl _) (PLeL.cons (.refl _) (PLeL.cons (.refl _) (PLeL.cons (PLe.nil 2 _) .nil)))))) (.refl _))
            cases c4 : wb w 8 with
            | true =>
              rw [c4] at hv hc
              exact (base _ _ (Tr.run_vc hv hc rfl rfl)).post nil
            | false =>
              rw [c4] at hv hc
              exact (base _ _ (Tr.run_vc hv hc rfl rfl)).post nil
          · have d0 : (((ns.length : Nat) : Int) == 0) = false := by
              rw [beqD]
              exact decide_eq_false (by omega)
            have hw : IntKind.i64.wrap (((ns.length : Nat) : Int) - 1) = ((ns.length - 1 : Nat) : Int) := by
              have e : ((ns.length : Nat) : Int) - 1 = ((ns.length - 1 : Nat) : Int) := by omega
              rw [e]
              exact wrap_nat (by omega)
            have b1 : Nat.blt 0 ns.length = true := by rw [Nat.blt_eq]; omega
            have b2 : Nat.blt (ns.length - 1) ns.length = true := by rw [Nat.blt_eq]; omega
            have b3 : ∀ k : Nat, decide ((0 : Int) ≤ (k : Int)) = true := fun k => by simp
            rw [hw, Int.toNat_natCast] at hv hc
            rw [b3, b1, b2] at hc
            rw [d0] at hv hc
            simp only [d0, cond_false] at hp
            unfold ofT ofMany ofLeast ofMost ofL tlV tlP at hp
            simp only [d0, cond_false] at hp
            have nil : ∀ {a b c d : PV}, PLe (.tup [.agg [a, b, c, d, .lit (.slice none 0 0)], int 0]) (.tup [.agg [a, b, c, d, .gsl 2 ([] : List Sp).length (sRow [])], int 0]) := PLe.tup (PLeL.cons (PLe.agg (PLeL.cons (.refl _) (PLeL.cons (.refl _) (PLeL.cons (.refl _) (PLeL.cons (.refl _) (PLeL.cons (PLe.nil 2 _) .nil)))))) (.refl _))
            cases g8 : wb w 8 <;> cases g1 : wb w 1 <;> cases g2 : wb w 2 <;> cases g4 : wb w 4 <;> cases g5 : bne (packE ns) 0 <;> simp only [g8, g1, g2, g4, g5, cond_true, cond_false, show ((15 : Int) == 0) = false from rfl, show ((0 : Int) == 0) = true from rfl, Option.some.injEq] at hv hc hp <;> subst hp <;>
              first | exact base _ _ (Tr.run_vc hv hc rfl rfl) | exact (base _ _ (Tr.run_vc hv hc rfl rfl)).post nil
  · cases hp
end
end Go.Proofs.YtcdghinmmhcfcaaGreatDoor.Ev

/- Whether two tallies are one; what the laws ask of the program at fixed numbers. No condition. -/
namespace Go.Proofs.YtcdghinmmhcfcaaGreatDoor.Ev
open Go Go.RowKit Go.Proofs Go.Proofs.YtcdghinmmhcfcaaGreatDoor.Str
set_option linter.unusedVariables false
set_option linter.unusedSimpArgs false
section
variable {m : Int} {t : TypeId} {fr : Nat × Nat}
theorem tsame_raw_v (m : Int) (t : TypeId) (fr : Nat × Nat) (w many least most w' many' least' most' : Int) (n n' : Nat) (f f' : Nat → List PV) : ((fnPure Tryz.prog ((E24 (GG m t fr)).withCuts (mrg [(1, none)] noCuts)) 60 Tryz.f15 (GG m t fr) [tlP w many least most n f, tlP w' many' least' most' n' f'])).val =
 ((.some (.lit (.bool (bif (w == w') then (bif (many == many') then (bif (least == least') then (bif (most == most') then (bif (((areSps n f) && (areSps n' f')) && (Nat.ble n (4294967280 : Nat))) then (decide ((spsOf n f) = (spsOf n' f'))) else false) else false) else false) else false) else false)))) : Option PV) := by
  kernel_rfl
theorem tsame_raw_c (m : Int) (t : TypeId) (fr : Nat × Nat) (w many least most w' many' least' most' : Int) (n n' : Nat) (f f' : Nat → List PV) : ((fnPure Tryz.prog ((E24 (GG m t fr)).withCuts (mrg [(1, none)] noCuts)) 60 Tryz.f15 (GG m t fr) [tlP w many least most n f, tlP w' many' least' most' n' f'])).conds =
 (bif (bif (w == w') then (bif (many == many') then (bif (least == least') then (bif (most == most') then (bif (((areSps n f) && (areSps n' f')) && (Nat.ble n (4294967280 : Nat))) then true else false) else true) else true) else true) else true) then
 true
 else false : Bool) := by
  kernel_rfl
theorem lives_raw_v (m : Int) (t : TypeId) (fr : Nat × Nat) : ((fnPure Tryz.prog (E24 (GG m t fr)) 60 Tryz.f14 (GG m t fr) [])).val =
 ((.some (.lit (.bool true))) : Option PV) := by
  kernel_rfl
theorem lives_raw_c (m : Int) (t : TypeId) (fr : Nat × Nat) : ((fnPure Tryz.prog (E24 (GG m t fr)) 60 Tryz.f14 (GG m t fr) [])).conds =
 (true : Bool) := by
  kernel_rfl
def livesTG : List PV → Tr PV
  | [] => .leaf (bool true)
  | _ => .fail
theorem livesT_ok : PureOK Tryz.prog (GG m t fr) 14 livesTG := by
  refine PureOK.of (fn_pure mixed E24_ok (envOf_cuts ..) (fn := Tryz.f14) (by kernel_rfl)) fun ps p hp => ?_
  unfold livesTG at hp
  split at hp
  · simp only [Tr.run, Option.some.injEq] at hp
    subst hp
    exact ⟨_, Tr.run_vc (lives_raw_v m t fr) (lives_raw_c m t fr) rfl rfl, PLe.of_eq rfl⟩
  · cases hp
/-- two tallies are one -/
def tlEq (w many least most : Int) (l : List Sp) (w' many' least' most' : Int) (l' : List Sp) : Bool := w == w' && (many == many' && (least == least' && (most == most' && decide (l = l'))))
def tsameG : List PV → Tr PV
  | [p, q] => match tlOf p, tlOf q with
    | some (w, many, least, most, n, f), some (w', many', least', most', n', f') => .br (areSps n f && areSps n' f' && Nat.ble n 4294967280) (.leaf (bool (tlEq w many least most (spsOf n f) w' many' least' most' (spsOf n' f')))) .fail
    | _, _ => .fail
  | _ => .fail
theorem tsame_ok : PureOK Tryz.prog (GG m t fr) 15 tsameG := by
  intro ps p hp
  unfold tsameG at hp
  split at hp
  · rename_i q q'
    split at hp
    · rename_i w many least most n f w' many' least' most' n' f' h1 h2
      obtain ⟨hb, hp⟩ := br_run hp
      simp only [Tr.run, Option.some.injEq] at hp
      subst hp
      refine PureAt.pre (qs := [tlP w many least most n f, tlP w' many' least' most' n' f']) ?_ (PLeL.cons (tlOf_le h1) (PLeL.cons (tlOf_le h2) .nil))
      have base := fn_mrg mixed (E24_ok (m := m) (t := t) (fr := fr)) (rs := [(1, none)]) (f := 15) (fn := Tryz.f15) (by kernel_rfl) (by kernel_rfl)
      have hv := tsame_raw_v m t fr w many least most w' many' least' most' n n' f f'
      have hc := tsame_raw_c m t fr w many least most w' many' least' most' n n' f f'
      rw [hb] at hv hc
      unfold tlEq
      cases a : w == w' <;> cases b : many == many' <;> cases c : least == least' <;> cases d : most == most' <;> simp only [a, b, c, d, cond_true, cond_false, Bool.true_and, Bool.false_and] at hv hc ⊢ <;> exact base _ _ (Tr.run_vc hv hc rfl rfl)
    · cases hp
  · cases hp
def tsPure : List (Nat × (List PV → Tr PV)) := (14, livesTG) :: (15, tsameG) :: trPure
theorem tsPure_ok {m : Int} {t : TypeId} {fr : Nat × Nat} : TabOK Tryz.prog (GG m t fr) tsPure := (TabOK.cons livesT_ok (fn := Tryz.f14) (by kernel_rfl) (by kernel_rfl) (TabOK.cons tsame_ok (fn := Tryz.f15) (by kernel_rfl) (by kernel_rfl) trPure_ok))
noncomputable abbrev E25 (G : GT) : Env := envOf Tryz.prog G tsPure tlFull
theorem E25_ok : (E25 (GG m t fr)).ok Tryz.prog (GG m t fr) := envOf_ok mixed tsPure_ok tlFull_ok
end
end Go.Proofs.YtcdghinmmhcfcaaGreatDoor.Ev

/- TallyTells as evaluated. No condition. -/
namespace Go.Proofs.YtcdghinmmhcfcaaGreatDoor.Ev
open Go Go.RowKit Go.Proofs Go.Proofs.YtcdghinmmhcfcaaGreatDoor.Str
set_option linter.unusedVariables false
set_option linter.unusedSimpArgs false
def zT : Tl := ⟨0, 0, 0, 0, []⟩
theorem zT_le : PLe tlZ (tlV zT) := PLe.agg (PLeL.cons (.refl _) (PLeL.cons (.refl _) (PLeL.cons (.refl _) (PLeL.cons (.refl _) (PLeL.cons (PLe.nil 2 _) .nil)))))
/-- numbers' tally, or none -/
def ofZ (w : Int) (ns : List Int) : Tl := bif ofE w ns == 0 then ofT w ns else zT
/-- a tally's text, or none -/
def wrZ (w many least most : Int) (l : List Sp) : List UInt8 := bif ckP w many least most l then twS w many least most l else []
def ckE (w many least most : Int) (l : List Sp) : Int := bif ckP w many least most l then 0 else 2
/-- a text's tally, or none -/
def paT (w : Int) (l : List UInt8) : Tl := bif aN w then zT else bif ptOk w l then ptT w l else zT
def paE (w : Int) (l : List UInt8) : Int := bif aN w then 1 else bif ptOk w l then 0 else 7
def ofN : List PV → Tr PV
  | [.lit (.int .u8 w), .gsl 1 n f] => .br ((areNums n f && Nat.ble n 4294967280) && (decide (0 ≤ w) && decide (w < 256))) (.leaf (.tup [tlV (ofZ w (numsOf n f)), int (ofE w (numsOf n f))])) .fail
  | _ => .fail
def writeN : List PV → Tr PV
  | [q] => match tlOf q with
    | some (w, many, least, most, n, f) => .br (tlB w least most n f) (.leaf (.tup [str (bs (wrZ w many least most (spsOf n f))), int (ckE w many least most (spsOf n f))])) .fail
    | none => .fail
  | _ => .fail
def checkN : List PV → Tr PV
  | [q] => match tlOf q with
    | some (w, many, least, most, n, f) => .br (tlB w least most n f) (.leaf (int (ckE w many least most (spsOf n f)))) .fail
    | none => .fail
  | _ => .fail
def parseN : List PV → Tr PV
  | [.lit (.int .u8 w), .lit (.string s)] => .br (okS s && (decide (0 ≤ w) && decide (w < 256))) (.leaf (.tup [tlV (paT w (ls s)), int (paE w (ls s))])) .fail
  | _ => .fail
theorem beq0 {x : Int} (h : (x == 0) = true) : x = 0 := by simpa using h
theorem ofN_of {P : Program} {G : GT} {f : FuncId} (h : PureOK P G f rofG) : PureOK P G f ofN := by
  refine PureOK.of h fun ps p hp => ?_
  unfold ofN at hp
  split at hp
  · rename_i w n f
    obtain ⟨hb, hp⟩ := br_run hp
    unfold rofG
    simp only [Tr.run, Option.some.injEq] at hp ⊢
    subst hp
    rw [hb]
    unfold ofZ
    cases c : ofE w (numsOf n f) == 0 with
    | true =>
      rw [cond_true, cond_true, beq0 c]
      exact ⟨_, rfl, .refl _⟩
    | false =>
      exact ⟨_, rfl, PLe.tup (PLeL.cons zT_le (PLeL.refl _))⟩
  · cases hp
theorem rof_of {P : Program} {G : GT} {f : FuncId} (h : PureOK P G f ofG) : PureOK P G f rofG := by
  refine PureOK.of h fun ps p hp => ?_
  unfold rofG at hp
  split at hp
  · rename_i w n f
    obtain ⟨hb, hp⟩ := br_run hp
    simp only [Bool.and_eq_true] at hb
    unfold ofG
    simp only [Tr.run] at hp ⊢
    rw [hb.1.1, hb.1.2]
    exact ⟨p, hp, .refl _⟩
  · cases hp
theorem writeN_of {P : Program} {G : GT} {f : FuncId} (h : PureOK P G f twriteG) : PureOK P G f writeN := by
  refine PureOK.of h fun ps p hp => ?_
  unfold writeN at hp
  split at hp
  · rename_i q
    split at hp
    · rename_i w many least most n f hq
      obtain ⟨hb, hp⟩ := br_run hp
      unfold twriteG
      dsimp only
      rw [hq]
      simp only [Tr.run, Option.some.injEq] at hp ⊢
      subst hp
      rw [hb]
      unfold wrZ ckE
      cases c : ckP w many least most (spsOf n f) <;> exact ⟨_, rfl, .refl _⟩
    · cases hp
  · cases hp
theorem checkN_of {P : Program} {G : GT} {f : FuncId} (h : PureOK P G f checkG) : PureOK P G f checkN := by
  refine PureOK.of h fun ps p hp => ?_
  unfold checkN at hp
  split at hp
  · rename_i q
    split at hp
    · rename_i w many least most n f hq
      obtain ⟨hb, hp⟩ := br_run hp
      unfold checkG
      dsimp only
      rw [hq]
      simp only [Tr.run, Option.some.injEq] at hp ⊢
      subst hp
      rw [hb]
      unfold ckE
      cases c : ckP w many least most (spsOf n f) <;> exact ⟨_, rfl, .refl _⟩
    · cases hp
  · cases hp
theorem parseN_of {P : Program} {G : GT} {f : FuncId} (h : PureOK P G f tparseG) : PureOK P G f parseN := by
  refine PureOK.of h fun ps p hp => ?_
  unfold parseN at hp
  split at hp
  · rename_i w s
    obtain ⟨hb, hp⟩ := br_run hp
    unfold tparseG
    simp only [Tr.run, Option.some.injEq] at hp ⊢
    subst hp
    rw [hb]
    unfold paT paE
    have no : ∀ x : PV, PLe (.tup [tlZ, x]) (.tup [tlV zT, x]) := fun x => PLe.tup (PLeL.cons zT_le (PLeL.refl _))
    cases c : aN w with
    | true => exact ⟨_, rfl, no _⟩
    | false =>
      cases d : ptOk w (ls s) with
      | true => exact ⟨_, rfl, .refl _⟩
      | false => exact ⟨_, rfl, no _⟩
  · cases hp
section
variable {m : Int} {t : TypeId} {fr : Nat × Nat}
theorem tofN_ok : PureOK Tryz.prog (GG m t fr) 6 ofN := ofN_of (rof_of of_ok)
theorem rofN_ok : PureOK Tryz.prog (GG m t fr) 7 ofN := ofN_of rof_ok
theorem twN_ok : PureOK Tryz.prog (GG m t fr) 8 writeN := writeN_of twrite_ok
theorem rwN_ok : PureOK Tryz.prog (GG m t fr) 9 writeN := writeN_of rwrite_ok
theorem tpN_ok : PureOK Tryz.prog (GG m t fr) 10 parseN := parseN_of tparse_ok
theorem rpN_ok : PureOK Tryz.prog (GG m t fr) 11 parseN := parseN_of rparse_ok
theorem tcN_ok : PureOK Tryz.prog (GG m t fr) 16 checkN := checkN_of check_ok
theorem rcN_ok : PureOK Tryz.prog (GG m t fr) 17 checkN := checkN_of rcheck_ok
def ttPure : List (Nat × (List PV → Tr PV)) := (6, ofN) :: (7, ofN) :: (8, writeN) :: (9, writeN) :: (10, parseN) :: (11, parseN) :: (13, twordG) :: (16, checkN) :: (17, checkN) :: tsPure
theorem ttPure_ok {m : Int} {t : TypeId} {fr : Nat × Nat} : TabOK Tryz.prog (GG m t fr) ttPure := (TabOK.cons tofN_ok (fn := Tryz.f6) (by kernel_rfl) (by kernel_rfl) (TabOK.cons rofN_ok (fn := Tryz.f7) (by kernel_rfl) (by kernel_rfl) (TabOK.cons twN_ok (fn := Tryz.f8) (by kernel_rfl) (by kernel_rfl) (TabOK.cons rwN_ok (fn := Tryz.f9) (by kernel_rfl) (by kernel_rfl) (TabOK.cons tpN_ok (fn := Tryz.f10) (by kernel_rfl) (by kernel_rfl) (TabOK.cons rpN_ok (fn := Tryz.f11) (by kernel_rfl) (by kernel_rfl) (TabOK.cons rword_ok (fn := Tryz.f13) (by kernel_rfl) (by kernel_rfl) (TabOK.cons tcN_ok (fn := Tryz.f16) (by kernel_rfl) (by kernel_rfl) (TabOK.cons rcN_ok (fn := Tryz.f17) (by kernel_rfl) (by kernel_rfl) tsPure_ok)))))))))
noncomputable abbrev Ett (G : GT) : Env := envOf Tryz.prog G ttPure tlFull
theorem Ett_ok : (Ett (GG m t fr)).ok Tryz.prog (GG m t fr) := envOf_ok mixed ttPure_ok tlFull_ok
theorem ttells_raw_v (m : Int) (t : TypeId) (fr : Nat × Nat) (w : Int) (n : Nat) (f : Nat → List PV) (w' many least most : Int) (n' : Nat) (f' : Nat → List PV) (s : ByteArray) : ((fnPure Tryz.prog (Ett (GG m t fr)) 60 Tryz.f3 (GG m t fr) [.lit (.int .u8 w), .gsl 1 n f, tlP w' many least most n' f', str s])).val =
 (bif (tlEq (Tl.w (ofZ w (numsOf n f))) (Tl.many (ofZ w (numsOf n f))) (Tl.least (ofZ w (numsOf n f))) (Tl.most (ofZ w (numsOf n f))) (spsOf (List.length (Tl.l (ofZ w (numsOf n f)))) (sRow (Tl.l (ofZ w (numsOf n f))))) (Tl.w (ofZ w (numsOf n f))) (Tl.many (ofZ w (numsOf n f))) (Tl.least (ofZ w (numsOf n f))) (Tl.most (ofZ w (numsOf n f))) (spsOf (List.length (Tl.l (ofZ w (numsOf n f)))) (sRow (Tl.l (ofZ w (numsOf n f)))))) then
 bif ((ofE w (numsOf n f)) == (ofE w (numsOf n f))) then
 bif ((ByteArray.toList (bs (wrZ w' many least most (spsOf n' f')))) == (ByteArray.toList (bs (wrZ w' many least most (spsOf n' f'))))) then
 bif ((ckE w' many least most (spsOf n' f')) == (ckE w' many least most (spsOf n' f'))) then
 bif (tlEq (Tl.w (paT w (ls s))) (Tl.many (paT w (ls s))) (Tl.least (paT w (ls s))) (Tl.most (paT w (ls s))) (spsOf (List.length (Tl.l (paT w (ls s)))) (sRow (Tl.l (paT w (ls s))))) (Tl.w (paT w (ls s))) (Tl.many (paT w (ls s))) (Tl.least (paT w (ls s))) (Tl.most (paT w (ls s))) (spsOf (List.length (Tl.l (paT w (ls s)))) (sRow (Tl.l (paT w (ls s)))))) then
 bif ((paE w (ls s)) == (paE w (ls s))) then
 bif ((wdV (ls s)) == (wdV (ls s))) then
 bif ((wdE (ls s)) == (wdE (ls s))) then
 (.some (.lit (.bool ((ckE w' many least most (spsOf n' f')) == (ckE w' many least most (spsOf n' f'))))))
 else (.some (.lit (.bool false)))
 else (.some (.lit (.bool false)))
 else (.some (.lit (.bool false)))
 else (.some (.lit (.bool false)))
 else (.some (.lit (.bool false)))
 else (.some (.lit (.bool false)))
 else (.some (.lit (.bool false)))
 else (.some (.lit (.bool false))) : Option PV) := by
  kernel_rfl
theorem ttells_raw_c (m : Int) (t : TypeId) (fr : Nat × Nat) (w : Int) (n : Nat) (f : Nat → List PV) (w' many least most : Int) (n' : Nat) (f' : Nat → List PV) (s : ByteArray) : ((fnPure Tryz.prog (Ett (GG m t fr)) 60 Tryz.f3 (GG m t fr) [.lit (.int .u8 w), .gsl 1 n f, tlP w' many least most n' f', str s])).conds =
 (bif (((areNums n f) && (Nat.ble n (4294967280 : Nat))) && ((decide ((0 : Int) ≤ w)) && (decide (w < (256 : Int))))) then
 bif (((areNums n f) && (Nat.ble n (4294967280 : Nat))) && ((decide ((0 : Int) ≤ w)) && (decide (w < (256 : Int))))) then
 bif (((areNums n f) && (Nat.ble n (4294967280 : Nat))) && ((decide ((0 : Int) ≤ w)) && (decide (w < (256 : Int))))) then
 bif (((areNums n f) && (Nat.ble n (4294967280 : Nat))) && ((decide ((0 : Int) ≤ w)) && (decide (w < (256 : Int))))) then
 bif (tlB w' least most n' f') then
 bif (tlB w' least most n' f') then
 bif ((okS s) && ((decide ((0 : Int) ≤ w)) && (decide (w < (256 : Int))))) then
 bif ((okS s) && ((decide ((0 : Int) ≤ w)) && (decide (w < (256 : Int))))) then
 bif ((okS s) && ((decide ((0 : Int) ≤ w)) && (decide (w < (256 : Int))))) then
 bif ((okS s) && ((decide ((0 : Int) ≤ w)) && (decide (w < (256 : Int))))) then
 bif (okS s) then
 bif (okS s) then
 bif (((areSps (List.length (Tl.l (ofZ w (numsOf n f)))) (sRow (Tl.l (ofZ w (numsOf n f))))) && (areSps (List.length (Tl.l (ofZ w (numsOf n f)))) (sRow (Tl.l (ofZ w (numsOf n f)))))) && (Nat.ble (List.length (Tl.l (ofZ w (numsOf n f)))) (4294967280 : Nat))) then
 bif (tlEq (Tl.w (ofZ w (numsOf n f))) (Tl.many (ofZ w (numsOf n f))) (Tl.least (ofZ w (numsOf n f))) (Tl.most (ofZ w (numsOf n f))) (spsOf (List.length (Tl.l (ofZ w (numsOf n f)))) (sRow (Tl.l (ofZ w (numsOf n f))))) (Tl.w (ofZ w (numsOf n f))) (Tl.many (ofZ w (numsOf n f))) (Tl.least (ofZ w (numsOf n f))) (Tl.most (ofZ w (numsOf n f))) (spsOf (List.length (Tl.l (ofZ w (numsOf n f)))) (sRow (Tl.l (ofZ w (numsOf n f)))))) then
 bif ((ofE w (numsOf n f)) == (ofE w (numsOf n f))) then
 bif ((ByteArray.toList (bs (wrZ w' many least most (spsOf n' f')))) == (ByteArray.toList (bs (wrZ w' many least most (spsOf n' f'))))) then
 bif ((ckE w' many least most (spsOf n' f')) == (ckE w' many least most (spsOf n' f'))) then
 bif (((areSps (List.length (Tl.l (paT w (ls s)))) (sRow (Tl.l (paT w (ls s))))) && (areSps (List.length (Tl.l (paT w (ls s)))) (sRow (Tl.l (paT w (ls s)))))) && (Nat.ble (List.length (Tl.l (paT w (ls s)))) (4294967280 : Nat))) then
 bif (tlEq (Tl.w (paT w (ls s))) (Tl.many (paT w (ls s))) (Tl.least (paT w (ls s))) (Tl.most (paT w (ls s))) (spsOf (List.length (Tl.l (paT w (ls s)))) (sRow (Tl.l (paT w (ls s))))) (Tl.w (paT w (ls s))) (Tl.many (paT w (ls s))) (Tl.least (paT w (ls s))) (Tl.most (paT w (ls s))) (spsOf (List.length (Tl.l (paT w (ls s)))) (sRow (Tl.l (paT w (ls s)))))) then
 bif ((paE w (ls s)) == (paE w (ls s))) then
 bif ((wdV (ls s)) == (wdV (ls s))) then
 bif ((wdE (ls s)) == (wdE (ls s))) then
 bif (tlB w' least most n' f') then
 bif (tlB w' least most n' f') then
 true
 else false
 else false
 else true
 else true
 else true
 else true
 else false
 else true
 else true
 else true
 else true
 else false
 else false
 else false
 else false
 else false
 else false
 else false
 else false
 else false
 else false
 else false
 else false
 else false : Bool) := by
  kernel_rfl
end
end Go.Proofs.YtcdghinmmhcfcaaGreatDoor.Ev

/- TallyTells, a law. No condition. -/
namespace Go.Proofs.YtcdghinmmhcfcaaGreatDoor.Ev
open Go Go.RowKit Go.Proofs Go.Proofs.YtcdghinmmhcfcaaGreatDoor.Str
set_option linter.unusedVariables false
set_option linter.unusedSimpArgs false
theorem tlEq_self (x : Tl) : tlEq x.w x.many x.least x.most x.l x.w x.many x.least x.most x.l = true := by
  unfold tlEq
  simp
theorem ofZ_fit (w : Int) {ns : List Int} (hu : ns.all u32N = true) : (ofZ w ns).l.all u32B = true ∧ (ofZ w ns).l.length ≤ 1024 := by
  unfold ofZ
  cases ofE w ns == 0 with
  | true =>
    obtain ⟨_, _, k3⟩ := of_u32 (w := w) hu
    refine ⟨k3, ?_⟩
    show (ofL w ns).length ≤ 1024
    unfold ofL
    cases ((ns.length : Nat) : Int) == 0
    · cases wb w 4
      · simp
      · exact packE_len
    · simp
  | false => exact ⟨rfl, by simp [zT]⟩
theorem paT_fit (w : Int) (l : List UInt8) : (paT w l).l.all u32B = true ∧ (paT w l).l.length ≤ 1024 := by
  obtain ⟨_, f2, _, _, f5⟩ := ptT_fit w l
  unfold paT
  cases aN w with
  | true => exact ⟨rfl, by simp [zT]⟩
  | false =>
    cases ptOk w l with
    | true => exact ⟨f5, f2⟩
    | false => exact ⟨rfl, by simp [zT]⟩
section
variable {m : Int} {t : TypeId} {fr : Nat × Nat}
def ttellsG : List PV → Tr PV
  | [.lit (.int .u8 w), .gsl 1 n f, q, .lit (.string s)] => match tlOf q with
    | some (w', many', least', most', n', f') => .br ((areNums n f && Nat.ble n 4294967280) && (decide (0 ≤ w) && decide (w < 256)) && (tlB w' least' most' n' f' && okS s)) (.leaf (bool true)) .fail
    | none => .fail
  | _ => .fail
theorem ttells_ok : PureOK Tryz.prog (GG m t fr) 3 ttellsG := by
  intro ps p hp
  unfold ttellsG at hp
  split at hp
  · rename_i w n f q s
    split at hp
    · rename_i w' many' least' most' n' f' hq
      obtain ⟨hc0, hp⟩ := br_run hp
      simp only [Bool.and_eq_true] at hc0
      obtain ⟨⟨⟨hf, hn⟩, hw0, hw1⟩, hB, hs⟩ := hc0
      simp only [Tr.run, Option.some.injEq] at hp
      subst hp
      refine PureAt.pre (qs := [.lit (.int .u8 w), .gsl 1 n f, tlP w' many' least' most' n' f', .lit (.string s)]) ?_ (PLeL.cons (.refl _) (PLeL.cons (.refl _) (PLeL.cons (tlOf_le hq) (PLeL.refl _))))
      have base := fn_pure mixed (Ett_ok (m := m) (t := t) (fr := fr)) (envOf_cuts ..) (f := 3) (fn := Tryz.f3) (by kernel_rfl)
      have hv := ttells_raw_v m t fr w n f w' many' least' most' n' f' s
      have hc := ttells_raw_c m t fr w n f w' many' least' most' n' f' s
      obtain ⟨k1, k2⟩ := ofZ_fit w (nums_u32 hf)
      obtain ⟨k3, k4⟩ := paT_fit w (ls s)
      have b1 : Nat.ble (ofZ w (numsOf n f)).l.length 4294967280 = true := Nat.ble_eq_true_of_le (by omega)
      have b2 : Nat.ble (paT w (ls s)).l.length 4294967280 = true := Nat.ble_eq_true_of_le (by omega)
      have c1 : ∀ x : Int, (x == x) = true := fun x => by simp
      have c2 : ∀ x : List UInt8, (ByteArray.toList (bs x) == ByteArray.toList (bs x)) = true := fun x => by rw [eqB]; simp
      simp only [sps_sRow, tlEq_self, c1, c2, cond_true] at hv
      simp only [sps_sRow, tlEq_self, c1, c2, cond_true, hf, hn, hw0, hw1, hB, hs, are_sRow k1, are_sRow k3, b1, b2, Bool.and_self] at hc
      exact base _ _ (Tr.run_vc hv hc rfl rfl)
    · cases hp
  · cases hp
def ttellsSh : List ASh := [.one (.sc (.int .u8)), .one (.sl [.int .u32]), .agg [.sc (.int .u8), .sc (.int .i64), .sc (.int .u32), .sc (.int .u32), .sl [.int .u32, .int .u32]], .one (.sc .str)]
theorem u8_given {v : Value} (h : isSc (.int .u8) v = true) : ∃ a, v = .int .u8 a ∧ 0 ≤ a ∧ a < 256 := by
  obtain ⟨a, rfl, h1, h2⟩ := sc_int h
  have e1 : IntKind.u8.min = 0 := by decide
  have e2 : IntKind.u8.max = 255 := by decide
  exact ⟨a, rfl, by omega, by omega⟩
theorem ttells_args {qs : List PV} (ha : areArgs ttellsSh qs = true) (hb : argsBulk qs ≤ 1048576) : (ttellsG qs).run = some (bool true) := by
  obtain ⟨q0, r0, rfl, h0, hr0⟩ := args_cons ha
  obtain ⟨q1, r1, rfl, h1, hr1⟩ := args_cons hr0
  obtain ⟨q2, r2, rfl, h2, hr2⟩ := args_cons hr1
  obtain ⟨q3, r3, rfl, h3, hr3⟩ := args_cons hr2
  obtain rfl := args_nil hr3
  obtain ⟨v, rfl, hv⟩ := ak_sc h0
  obtain ⟨w, rfl, hw⟩ := u8_given hv
  obtain ⟨k, g, rfl, hg⟩ := ak_sl h1
  obtain ⟨l, rfl, hl⟩ := arg_agg h2
  obtain ⟨c0, l0, rfl, d0, hl⟩ := aks_cons hl
  obtain ⟨c1, l1, rfl, d1, hl⟩ := aks_cons hl
  obtain ⟨c2, l2, rfl, d2, hl⟩ := aks_cons hl
  obtain ⟨c3, l3, rfl, d3, hl⟩ := aks_cons hl
  obtain ⟨c4, l4, rfl, d4, hl⟩ := aks_cons hl
  obtain rfl := aks_nil hl
  obtain ⟨v0, rfl, e0⟩ := ak_sc d0
  obtain ⟨w', rfl, hw'⟩ := u8_given e0
  obtain ⟨v1, rfl, e1⟩ := ak_sc d1
  obtain ⟨many', rfl, _, _⟩ := sc_int e1
  obtain ⟨v2, rfl, e2⟩ := ak_sc d2
  obtain ⟨least', rfl, hle⟩ := u32_given e2
  obtain ⟨v3, rfl, e3⟩ := ak_sc d3
  obtain ⟨most', rfl, hmo⟩ := u32_given e3
  obtain ⟨n, f, rfl, hf⟩ := ak_sl d4
  obtain ⟨v4, rfl, e4⟩ := ak_sc h3
  obtain ⟨s, rfl⟩ := sc_str e4
  have hb' : 1 + ((((List.range k).map fun i => scsBulk (g i)).sum + 1) + ((1 + (1 + (1 + (1 + ((((List.range n).map fun i => scsBulk (f i)).sum + 1) + 0))))) + ((s.size + 1) + 0))) ≤ 1048576 := hb
  obtain ⟨o1, o2⟩ := nums_given hg (by omega)
  obtain ⟨o3, o4⟩ := sps_given hf (by omega)
  have o5 : Nat.ble k 4294967280 = true := Nat.ble_eq_true_of_le (by omega)
  have o6 : Nat.ble n 4294967280 = true := Nat.ble_eq_true_of_le (by omega)
  have o7 : okS s = true := okS_of (by omega)
  have hB : tlB w' least' most' n f = true := by
    unfold tlB
    rw [decide_eq_true hw'.1, decide_eq_true hw'.2, hle, hmo, o3, o6]
    rfl
  show (Tr.br ((areNums k g && Nat.ble k 4294967280) && (decide (0 ≤ w) && decide (w < 256)) && (tlB w' least' most' n f && okS s)) (.leaf (bool true)) .fail).run = some (bool true)
  rw [o1, o5, decide_eq_true hw.1, decide_eq_true hw.2, hB, o7]
  rfl
end
end Go.Proofs.YtcdghinmmhcfcaaGreatDoor.Ev

/- tally: what the variables hold, from what the rows list. Condition: the rows' own. -/
namespace Go.Proofs.YtcdghinmmhcfcaaGreatDoor.Ev
open Go Go.RowKit Go.Proofs Go.ChangeShapes Go.WideShapes Go.ChangeAt
theorem starX : "*" ++ "errors.errorString" = "*errors.errorString" := by decide
theorem rowErr (u : TypeId) (h : Tryz.prog.typeName? 3 u = some "*errors.errorString") : u = 207 :=
  typeName_ptr_named (P := Tryz.prog) (nm := "errors.errorString") (by rw [starX]; kernel_rfl) (by kernel_rfl) (by decide) u (by rw [starX]; exact h)
/-- A listed table of strings: its cells. -/
theorem strs_of_reads {P : Program} {W : World} {name : String} {zs : List (List UInt8)} {g : Nat} {t e : TypeId} {n : Nat}
    (hg : P.globalNamed name = some g) (hty : (P.globals[g]?).map (·.type) = some t) (ht : P.underlying t = some (.array n e)) (he : P.underlying e = some .string) (hce : P.cellsOf e = 1)
    (h : Lib.VarReads P W name (.agg (zs.map fun z => .lit (.string z)))) (i : Nat) (hi : i < zs.length) : W.cell? ⟨g, i, none⟩ = some (.string ⟨(zs.getD i []).toArray⟩) := by
  obtain ⟨g', t', cs, fuel, p, hg', ht', hvar, hd⟩ := h
  obtain rfl := Option.some.inj (hg.symm.trans hg')
  obtain rfl := Option.some.inj (hty.symm.trans ht')
  obtain ⟨xs, m, rfl, hx, hl, hxl, hall⟩ := DataW.trod_array ht hd
  have hxs : xs.map (·.1) = zs.map fun z => (DataW.lit (.string z) : DataW Unit) := by
    have := congrArg Prod.fst hx
    simpa using this.symm
  have hzl : zs.length = n := by
    have := congrArg List.length hxs
    simp at this
    omega
  obtain ⟨b, hb⟩ : ∃ b, xs[i]? = some b := ⟨xs[i]'(by omega), List.getElem?_eq_getElem (by omega)⟩
  have h1 := hall i (by omega)
  rw [hb, hce] at h1
  obtain ⟨s, hc, rfl, _⟩ := DataW.trod_string he h1
  have h2 : cs.toList[i]? = some (.string s) := by
    have := congrArg (·[0]?) hc
    simpa [List.getElem?_take, List.getElem?_drop] using this
  have h3 : (xs.map (·.1))[i]? = some (DataW.lit (.string s.data.toList) : DataW Unit) := by simp [hb]
  rw [hxs] at h3
  simp only [List.getElem?_map, Option.map_eq_some_iff, DataW.lit.injEq, Lit.string.injEq] at h3
  obtain ⟨z, hz, rfl⟩ := h3
  have h4 : zs.getD i [] = s.data.toList := by simp [List.getD, hz]
  have := World.var?_cell hg hvar i
  rw [this, h4]
  simpa using h2
theorem gptrN {C : Nat → Nat → Value → Prop} {m : Nat → Option Value} {g : Nat} {zs : List Value} (hc : ∀ i v, zs[i]? = some v → C g i v) (h1 : ∀ v, v ∈ zs → v.oneCell' = true) : Rep C m (.gptr (zs.map PV.lit)) (.pointer (some ⟨g, 0, none⟩)) := by
  refine .gptr m (zs.map PV.lit) g 0 (fun j => zs.getD j (.bool true)) (fun j hj => ?_) (fun j q hq => ?_)
  · have hj' : j < zs.length := by simpa using hj
    have e : zs[j]? = some (zs.getD j (.bool true)) := by simp [List.getD, hj']
    refine ⟨?_, h1 _ (List.mem_of_getElem? e)⟩
    have := hc j _ e
    simpa using this
  · rw [List.getElem?_map, Option.map_eq_some_iff] at hq
    obtain ⟨v, hv, rfl⟩ := hq
    have e : zs.getD j (.bool true) = v := by simp [List.getD, hv]
    rw [e]
    exact .lit _ _
theorem globsW {W : World} (hS : W.ShapedOpen Tryz.prog) (hL : laidMetH Tryz.prog Rows.tallyTellsUptoRow.laid W) : ∃ m t fr, Globs (GG m t fr) (Held W) ∧ Objs (GG m t fr) W := by
  have hL2 := laid_plain (l := Rows.tallyTellsUptoRow.laid) (by kernel_rfl) hL
  have hd : Rows.laid_internal_strconv_uint64pow10 = Lib.tabData (H := Unit) .u64 Lib.pow10Tab := by kernel_rfl
  have hT := tab_of_reads (g := 1) (t := 167) (e := 40) (n := 20) (by kernel_rfl) (by kernel_rfl) Tryz.underlying167 Tryz.underlying40 (by kernel_rfl) (by kernel_rfl) (hd ▸ Lib.laidMet.reads hL2 (.tail _ (.tail _ (.head _))))
  have hdW : (Rows.laid_missive_tally_words (H := Unit)) = .agg (([[77, 73, 78], [77, 65, 88], [65, 76, 76], [67, 79, 85, 78, 84]] : List (List UInt8)).map fun z => .lit (.string z)) := by kernel_rfl
  have hW := strs_of_reads (g := 0) (t := 61) (e := 9) (n := 4) (by kernel_rfl) (by kernel_rfl) Tryz.underlying61 Tryz.underlying9 (by kernel_rfl) (hdW ▸ Lib.laidMet.reads hL2 (.tail _ (.tail _ (.tail _ (.tail _ (.tail _ (.tail _ (.head _))))))))
  obtain ⟨m, hm⟩ := cell_of_shapedOpen_int (g := 2) (t := 3) (zero := #[.int .i64 0]) (k := .i64) hS (of_decide_eq_true (by kernel_rfl)) (by kernel_rfl) rfl (by kernel_rfl) (by kernel_rfl) Tryz.underlying3
  obtain ⟨a0, s0, hv0, -, -, -⟩ := laid_sentinel (hL2.tail.tail.tail.tail) (g := 4) (ti := 108) (tp := 207) (te := 209) (ts := 9) (by kernel_rfl) (by kernel_rfl) Tryz.underlying108 rowErr Tryz.underlying207 Tryz.underlying209 rfl rfl Tryz.underlying9 (by kernel_rfl) (by kernel_rfl)
  obtain ⟨a1, s1, hv1, -, -, -⟩ := laid_sentinel (hL2.tail.tail.tail.tail.tail) (g := 3) (ti := 108) (tp := 207) (te := 209) (ts := 9) (by kernel_rfl) (by kernel_rfl) Tryz.underlying108 rowErr Tryz.underlying207 Tryz.underlying209 rfl rfl Tryz.underlying9 (by kernel_rfl) (by kernel_rfl)
  have hc0 : Held W 4 0 (.iface 207 (.pointer (some a0))) := by
    have h0 := World.var?_cell (g := 4) (by kernel_rfl) hv0 0
    unfold Held
    simpa using h0
  have hc1 : Held W 3 0 (.iface 207 (.pointer (some a1))) := by
    have h0 := World.var?_cell (g := 3) (by kernel_rfl) hv1 0
    unfold Held
    simpa using h0
  have hob : ∃ t fr, W.heap[1]? = some (.cells ((Lib.pow10Tab.map fun z => Value.int .u64 z).toArray) t fr) := by
    unfold Lib.TabIs World.var? at hT
    have hg : Tryz.prog.globalNamed "internal/strconv.uint64pow10" = some 1 := by kernel_rfl
    rw [hg] at hT
    simp only [Option.bind_some] at hT
    split at hT
    · rename_i cs t fr hh
      simp only [Option.some.injEq] at hT
      subst hT
      exact ⟨t, fr, hh⟩
    · cases hT
  obtain ⟨t, fr, ho⟩ := hob
  refine ⟨m, t, fr, fun g cs hg => ?_, fun g o hg => ?_⟩
  · unfold GG at hg
    dsimp only at hg
    split at hg
    · rename_i he
      obtain rfl := Nat.eq_of_beq_eq_true he
      cases hg
      exact gptr1 hm rfl (.lit _ _)
    · split at hg
      · rename_i he
        cases hg
        simp only [Bool.or_eq_true] at he
        rcases he with he | he
        · obtain rfl := Nat.eq_of_beq_eq_true he
          exact gptr1 hc1 rfl (.iface _ _ _ _ (.junk _ _))
        · obtain rfl := Nat.eq_of_beq_eq_true he
          exact gptr1 hc0 rfl (.iface _ _ _ _ (.junk _ _))
      · unfold gxTab at hg
        split at hg
        · rename_i he
          obtain rfl := Nat.eq_of_beq_eq_true he
          cases hg
          refine gptrN (zs := [.string (bs [77, 73, 78]), .string (bs [77, 65, 88]), .string (bs [65, 76, 76]), .string (bs [67, 79, 85, 78, 84])]) (fun i v hv => ?_) (fun v hv => ?_)
          · have hi : i < 4 := by
              have := (List.getElem?_eq_some_iff.1 hv).1
              simpa using this
            have h0 := hW i hi
            unfold Held
            rw [h0]
            match i, hi with
            | 0, _ => cases hv; rfl
            | 1, _ => cases hv; rfl
            | 2, _ => cases hv; rfl
            | 3, _ => cases hv; rfl
          · simp only [List.mem_cons, List.not_mem_nil, or_false] at hv
            rcases hv with rfl | rfl | rfl | rfl <;> rfl
        · cases hg
  · unfold GG at hg
    dsimp only at hg
    split at hg
    · rename_i he
      obtain rfl := Nat.eq_of_beq_eq_true he
      cases hg
      exact ho
    · cases hg
end Go.Proofs.YtcdghinmmhcfcaaGreatDoor.Ev
