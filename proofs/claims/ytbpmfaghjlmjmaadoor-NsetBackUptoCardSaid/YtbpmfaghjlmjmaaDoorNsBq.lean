/- NsetBack: its loop, the law. No condition. -/
import Derived.Test.YtbpmfaghjlmjmaaDoorNsZ
namespace Go.Proofs.YtbpmfaghjlmjmaaDoor.Ev
open Go Go.RowKit Go.Proofs Go.Proofs.YtbpmfaghjlmjmaaDoor.Str
set_option linter.unusedVariables false
set_option linter.unusedSimpArgs false
section
variable {m : Int} {t : TypeId} {fr : Nat × Nat}
def isOuts : Exit → Outs
  | .normal => { ks := [1, 2, 13, 15, 68, 69, 70] }
  | .exit _ => { ks := [1, 2, 13, 15] }
  | _ => { ks := [] }
noncomputable abbrev isRound (G : GT) := roundT Tryd.prog (E12 G) 60 G 102 isOuts .normal (theLoop 0 Tryd.f5)
-- from: is_round [bs, okS, ls, nu, nRow] (m : Int) (t : TypeId) (fr : Nat × Nat) (ns : List Int) (n n1 np : Nat) (f1 fp : Nat → List PV) (x u i : Int) (b : Bool) : (isRound (GG m t fr) ([.gsl 1 n1 f1, .lit (.int .u32 x), .gsl 2 np fp, bool b, .gsl 1 n (nRow ns), int u, int i], [])).run2
theorem is_round (m : Int) (t : TypeId) (fr : Nat × Nat) (ns : List Int) (n n1 np : Nat) (f1 fp : Nat → List PV) (x u i : Int) (b : Bool) : (isRound (GG m t fr) ([.gsl 1 n1 f1, .lit (.int .u32 x), .gsl 2 np fp, bool b, .gsl 1 n (nRow ns), int u, int i], [])).run2 =
    (bif (decide (i < u)) then
        bif b then
          (.some ((.normal, ([(.gsl 1 n1 f1), (.lit (.int .u32 x)), (.gsl 2 np fp), (.lit (.bool true)), (.gsl 1 n (nRow ns)), (.lit (.int .i64 u)), (.lit (.int .i64 (IntKind.wrap .i64 (i + (1 : Int)))))], [])), [true, ((decide ((0 : Int) ≤ i)) && (Nat.blt (Int.toNat i) n))]))
        else (.some ((.normal, ([(.gsl 1 n1 f1), (.lit (.int .u32 x)), (.gsl 2 np fp), (.lit (.bool ((nu ns (Int.toNat i)) == x))), (.gsl 1 n (nRow ns)), (.lit (.int .i64 u)), (.lit (.int .i64 (IntKind.wrap .i64 (i + (1 : Int)))))], [])), [((decide ((0 : Int) ≤ i)) && (Nat.blt (Int.toNat i) n))]))
      else (.some (((.exit 0), ([(.gsl 1 n1 f1), (.lit (.int .u32 x)), (.gsl 2 np fp), (.lit (.bool b))], [])), [])) : Option ((Exit × Kept) × List Bool)) := by
  kernel_rfl
def isIn (n1 np : Nat) (f1 fp : Nat → List PV) (x : Int) (ns : List Int) (i : Nat) (b : Bool) : Kept := ([.gsl 1 n1 f1, .lit (.int .u32 x), .gsl 2 np fp, bool b, .gsl 1 ns.length (nRow ns), int ns.length, int i], [])
theorem is_LR (n1 np : Nat) (f1 fp : Nat → List PV) (x : Int) (ns : List Int) (hn : ns.length ≤ 4294967280) : ∀ (s : List Int) (i : Nat) (b : Bool), ns.drop i = s →
    LR Tryd.prog (E12 (GG m t fr)) 60 (GG m t fr) 102 isOuts .normal (theLoop 0 Tryd.f5) (isIn n1 np f1 fp x ns i b) (.exit 0) ([.gsl 1 n1 f1, .lit (.int .u32 x), .gsl 2 np fp, bool (b || s.contains x)], [])
  | [], i, b, hr => by
    have h := is_round m t fr ns ns.length n1 np f1 fp x ns.length i b
    have hlen := List.drop_eq_nil_iff.1 hr
    have hd : decide ((i : Int) < (ns.length : Int)) = false := by simp; omega
    rw [hd, cond_false] at h
    have e : (b || ([] : List Int).contains x) = b := by simp
    rw [e]
    exact .last (Tr.run_of h (by simp)) (by simp) (by simp)
  | y :: s, i, b, hr => by
    have h := is_round m t fr ns ns.length n1 np f1 fp x ns.length i b
    obtain ⟨hlt, hx, hdr⟩ := nu_drop hr
    have hd : decide ((i : Int) < (ns.length : Int)) = true := by simp; omega
    have hw : IntKind.i64.wrap ((i : Int) + 1) = ((i + 1 : Nat) : Int) := wrap_succ (by omega)
    rw [hd, hw, Int.toNat_natCast, hx] at h
    have e : (b || (y :: s).contains x) = ((b || y == x) || s.contains x) := by
      have : (x == y) = (y == x) := by rw [Bool.eq_iff_iff]; simp; exact eq_comm
      rw [List.contains_cons, this, Bool.or_assoc]
    rw [e]
    cases b with
    | true =>
      rw [Bool.true_or]
      exact .more (Tr.run_of h (by simp; omega)) (is_LR n1 np f1 fp x ns hn s (i + 1) true hdr)
    | false =>
      rw [Bool.false_or]
      exact .more (Tr.run_of h (by simp; omega)) (is_LR n1 np f1 fp x ns hn s (i + 1) (y == x) hdr)
def isF : Kept → Tr (Exit × Kept)
  | ([.gsl 1 n1 f1, .lit (.int .u32 x), .gsl 2 np fp, .lit (.bool false), .gsl 1 n f, .lit (.int .i64 u), .lit (.int .i64 0)], []) => .br (areNums n f && decide (u = (n : Int)) && Nat.ble n 4294967280) (.leaf (.exit 0, ([.gsl 1 n1 f1, .lit (.int .u32 x), .gsl 2 np fp, bool ((numsOf n f).contains x)], []))) .fail
  | _ => .fail
theorem isF_ok (k : Kept) (e : Exit) (y : Kept) (h : (isF k).run = some (e, y)) : LR Tryd.prog (E12 (GG m t fr)) 60 (GG m t fr) 102 isOuts .normal (theLoop 0 Tryd.f5) k e y := by
  unfold isF at h
  split at h
  · rename_i n1 f1 x np fp n f u
    have hb := br_run h
    clear h
    obtain ⟨hc, h⟩ := hb
    simp only [Bool.and_eq_true, decide_eq_true_eq, Nat.ble_eq] at hc
    obtain ⟨⟨hf, rfl⟩, hn⟩ := hc
    simp only [Tr.run, Option.some.injEq, Prod.mk.injEq] at h
    obtain ⟨rfl, rfl⟩ := h
    have hL := nums_len n f
    have key := is_LR (m := m) (t := t) (fr := fr) n1 np f1 fp x (numsOf n f) (by omega) (numsOf n f) 0 false rfl
    rw [Bool.false_or] at key
    have hin : KLe ([.gsl 1 n1 f1, .lit (.int .u32 x), .gsl 2 np fp, bool false, .gsl 1 n f, int (n : Int), int 0], []) (isIn n1 np f1 fp x (numsOf n f) 0 false) := by
      refine ⟨PLeL.cons (.refl _) (PLeL.cons (.refl _) (PLeL.cons (.refl _) (PLeL.cons (.refl _) (PLeL.cons (PLe.gsl hL.symm (nums_row hf)) (PLeL.cons (PLe.of_eq ?_) (.refl _)))))), .refl _⟩
      rw [hL]
    exact .le hin key
  · cases h
noncomputable abbrev isCut (G : GT) := cutOf G 102 isOuts 0 isF
-- from: back_raw [bs, okS, ls, sp, areSps, spsOf, areNums, numsOf, u32N, srtR, srtE, cnS, hasS, sRow, nRow, nu, areS, spansS, writeS, packR, packE] (m : Int) (t : TypeId) (fr : Nat × Nat) (s : ByteArray) (n : Nat) (f : Nat → List PV) (x : Int) : (fnPure Tryd.prog ((E12 (GG m t fr)).withCuts (cut1 0 (isCut (GG m t fr)))) 60 Tryd.f5 (GG m t fr) [str s, .gsl 1 n f, .lit (.int .u32 x)]).run2
theorem back_raw (m : Int) (t : TypeId) (fr : Nat × Nat) (s : ByteArray) (n : Nat) (f : Nat → List PV) (x : Int) : (fnPure Tryd.prog ((E12 (GG m t fr)).withCuts (cut1 0 (isCut (GG m t fr)))) 60 Tryd.f5 (GG m t fr) [str s, .gsl 1 n f, .lit (.int .u32 x)]).run2 =
    (bif (areS (ls s)) then
        bif (Nat.ble (List.length (spansS (ls s))) (1024 : Nat)) then
          bif (areS (ls s)) then
            bif (Nat.ble (List.length (spansS (ls s))) (1024 : Nat)) then
              bif ((Nat.blt 0 (List.length (spansS (ls s)))) && (Nat.ble (List.length (spansS (ls s))) (1024 : Nat))) then
                bif (areS (writeS (spsOf (List.length (spansS (ls s))) (sRow (spansS (ls s)))))) then
                  bif (Nat.ble (List.length (spansS (writeS (spsOf (List.length (spansS (ls s))) (sRow (spansS (ls s))))))) (1024 : Nat)) then
                    bif (areS (writeS (spsOf (List.length (spansS (ls s))) (sRow (spansS (ls s)))))) then
                      bif (Nat.ble (List.length (spansS (writeS (spsOf (List.length (spansS (ls s))) (sRow (spansS (ls s))))))) (1024 : Nat)) then
                        bif (!(decide ((spsOf (List.length (spansS (ls s))) (sRow (spansS (ls s)))) = (spsOf (List.length (spansS (writeS (spsOf (List.length (spansS (ls s))) (sRow (spansS (ls s))))))) (sRow (spansS (writeS (spsOf (List.length (spansS (ls s))) (sRow (spansS (ls s))))))))))) then
                          (.some ((.lit (.bool false)), [true, true, true, true, (((areSps (List.length (spansS (ls s))) (sRow (spansS (ls s)))) && (areSps (List.length (spansS (writeS (spsOf (List.length (spansS (ls s))) (sRow (spansS (ls s))))))) (sRow (spansS (writeS (spsOf (List.length (spansS (ls s))) (sRow (spansS (ls s))))))))) && (Nat.ble (List.length (spansS (ls s))) (4294967280 : Nat))), (okS (bs (writeS (spsOf (List.length (spansS (ls s))) (sRow (spansS (ls s))))))), (okS (bs (writeS (spsOf (List.length (spansS (ls s))) (sRow (spansS (ls s))))))), ((areSps (List.length (spansS (ls s))) (sRow (spansS (ls s)))) && (Nat.ble (List.length (spansS (ls s))) (4294967280 : Nat))), (okS s), (okS s)]))
                        else bif (decide ((((List.length (writeS (spsOf (List.length (spansS (ls s))) (sRow (spansS (ls s)))))) : Nat) : Int) > (((List.length (ls s)) : Nat) : Int))) then
                            (.some ((.lit (.bool false)), [(((areSps (List.length (spansS (ls s))) (sRow (spansS (ls s)))) && (areSps (List.length (spansS (writeS (spsOf (List.length (spansS (ls s))) (sRow (spansS (ls s))))))) (sRow (spansS (writeS (spsOf (List.length (spansS (ls s))) (sRow (spansS (ls s))))))))) && (Nat.ble (List.length (spansS (ls s))) (4294967280 : Nat))), (okS (bs (writeS (spsOf (List.length (spansS (ls s))) (sRow (spansS (ls s))))))), (okS (bs (writeS (spsOf (List.length (spansS (ls s))) (sRow (spansS (ls s))))))), ((areSps (List.length (spansS (ls s))) (sRow (spansS (ls s)))) && (Nat.ble (List.length (spansS (ls s))) (4294967280 : Nat))), (okS s), (okS s)]))
                          else bif (bne (packE (numsOf n f)) (0 : Int)) then
                              (.some ((.lit (.bool ((((List.length (packR (numsOf n f))) : Nat) : Int) == (0 : Int)))), [((areNums n f) && (Nat.ble n (4294967280 : Nat))), ((areNums n f) && (Nat.ble n (4294967280 : Nat))), (((areSps (List.length (spansS (ls s))) (sRow (spansS (ls s)))) && (areSps (List.length (spansS (writeS (spsOf (List.length (spansS (ls s))) (sRow (spansS (ls s))))))) (sRow (spansS (writeS (spsOf (List.length (spansS (ls s))) (sRow (spansS (ls s))))))))) && (Nat.ble (List.length (spansS (ls s))) (4294967280 : Nat))), (okS (bs (writeS (spsOf (List.length (spansS (ls s))) (sRow (spansS (ls s))))))), (okS (bs (writeS (spsOf (List.length (spansS (ls s))) (sRow (spansS (ls s))))))), ((areSps (List.length (spansS (ls s))) (sRow (spansS (ls s)))) && (Nat.ble (List.length (spansS (ls s))) (4294967280 : Nat))), (okS s), (okS s)]))
                            else bif ((srtE (spsOf (List.length (packR (numsOf n f))) (sRow (packR (numsOf n f))))) == (0 : Int)) then
                                bif ((cnS (srtR (0 : Int) (spsOf (List.length (packR (numsOf n f))) (sRow (packR (numsOf n f))))) (0 : Int)) == (IntKind.wrap .u64 ((n : Nat) : Int))) then
                                  (.some ((.lit (.bool ((hasS (0 : Int) x (spsOf (List.length (packR (numsOf n f))) (sRow (packR (numsOf n f))))) == (List.contains (numsOf n f) x)))), [(((areSps (List.length (packR (numsOf n f))) (sRow (packR (numsOf n f)))) && (Nat.ble (List.length (packR (numsOf n f))) (4294967280 : Nat))) && true), (((areSps (List.length (packR (numsOf n f))) (sRow (packR (numsOf n f)))) && (Nat.ble (List.length (packR (numsOf n f))) (4294967280 : Nat))) && true), (((areNums n f) && (decide (((n : Nat) : Int) = ((n : Nat) : Int)))) && (Nat.ble n (4294967280 : Nat))), ((areNums n f) && (Nat.ble n (4294967280 : Nat))), ((areNums n f) && (Nat.ble n (4294967280 : Nat))), (((areSps (List.length (spansS (ls s))) (sRow (spansS (ls s)))) && (areSps (List.length (spansS (writeS (spsOf (List.length (spansS (ls s))) (sRow (spansS (ls s))))))) (sRow (spansS (writeS (spsOf (List.length (spansS (ls s))) (sRow (spansS (ls s))))))))) && (Nat.ble (List.length (spansS (ls s))) (4294967280 : Nat))), (okS (bs (writeS (spsOf (List.length (spansS (ls s))) (sRow (spansS (ls s))))))), (okS (bs (writeS (spsOf (List.length (spansS (ls s))) (sRow (spansS (ls s))))))), ((areSps (List.length (spansS (ls s))) (sRow (spansS (ls s)))) && (Nat.ble (List.length (spansS (ls s))) (4294967280 : Nat))), (okS s), (okS s)]))
                                else (.some ((.lit (.bool false)), [(((areSps (List.length (packR (numsOf n f))) (sRow (packR (numsOf n f)))) && (Nat.ble (List.length (packR (numsOf n f))) (4294967280 : Nat))) && true), (((areNums n f) && (decide (((n : Nat) : Int) = ((n : Nat) : Int)))) && (Nat.ble n (4294967280 : Nat))), ((areNums n f) && (Nat.ble n (4294967280 : Nat))), ((areNums n f) && (Nat.ble n (4294967280 : Nat))), (((areSps (List.length (spansS (ls s))) (sRow (spansS (ls s)))) && (areSps (List.length (spansS (writeS (spsOf (List.length (spansS (ls s))) (sRow (spansS (ls s))))))) (sRow (spansS (writeS (spsOf (List.length (spansS (ls s))) (sRow (spansS (ls s))))))))) && (Nat.ble (List.length (spansS (ls s))) (4294967280 : Nat))), (okS (bs (writeS (spsOf (List.length (spansS (ls s))) (sRow (spansS (ls s))))))), (okS (bs (writeS (spsOf (List.length (spansS (ls s))) (sRow (spansS (ls s))))))), ((areSps (List.length (spansS (ls s))) (sRow (spansS (ls s)))) && (Nat.ble (List.length (spansS (ls s))) (4294967280 : Nat))), (okS s), (okS s)]))
                              else (.some ((.lit (.bool false)), [(((areSps (List.length (packR (numsOf n f))) (sRow (packR (numsOf n f)))) && (Nat.ble (List.length (packR (numsOf n f))) (4294967280 : Nat))) && true), (((areNums n f) && (decide (((n : Nat) : Int) = ((n : Nat) : Int)))) && (Nat.ble n (4294967280 : Nat))), ((areNums n f) && (Nat.ble n (4294967280 : Nat))), ((areNums n f) && (Nat.ble n (4294967280 : Nat))), (((areSps (List.length (spansS (ls s))) (sRow (spansS (ls s)))) && (areSps (List.length (spansS (writeS (spsOf (List.length (spansS (ls s))) (sRow (spansS (ls s))))))) (sRow (spansS (writeS (spsOf (List.length (spansS (ls s))) (sRow (spansS (ls s))))))))) && (Nat.ble (List.length (spansS (ls s))) (4294967280 : Nat))), (okS (bs (writeS (spsOf (List.length (spansS (ls s))) (sRow (spansS (ls s))))))), (okS (bs (writeS (spsOf (List.length (spansS (ls s))) (sRow (spansS (ls s))))))), ((areSps (List.length (spansS (ls s))) (sRow (spansS (ls s)))) && (Nat.ble (List.length (spansS (ls s))) (4294967280 : Nat))), (okS s), (okS s)]))
                      else (.some ((.lit (.bool false)), [true, true, true, true, true, true, true, (okS (bs (writeS (spsOf (List.length (spansS (ls s))) (sRow (spansS (ls s))))))), (okS (bs (writeS (spsOf (List.length (spansS (ls s))) (sRow (spansS (ls s))))))), ((areSps (List.length (spansS (ls s))) (sRow (spansS (ls s)))) && (Nat.ble (List.length (spansS (ls s))) (4294967280 : Nat))), (okS s), (okS s)]))
                    else (.some ((.lit (.bool false)), [true, true, true, true, true, true, true, (okS (bs (writeS (spsOf (List.length (spansS (ls s))) (sRow (spansS (ls s))))))), (okS (bs (writeS (spsOf (List.length (spansS (ls s))) (sRow (spansS (ls s))))))), ((areSps (List.length (spansS (ls s))) (sRow (spansS (ls s)))) && (Nat.ble (List.length (spansS (ls s))) (4294967280 : Nat))), (okS s), (okS s)]))
                  else (.some ((.lit (.bool false)), [true, true, true, true, true, true, true, (okS (bs (writeS (spsOf (List.length (spansS (ls s))) (sRow (spansS (ls s))))))), ((areSps (List.length (spansS (ls s))) (sRow (spansS (ls s)))) && (Nat.ble (List.length (spansS (ls s))) (4294967280 : Nat))), (okS s), (okS s)]))
                else (.some ((.lit (.bool false)), [true, true, true, true, true, true, true, (okS (bs (writeS (spsOf (List.length (spansS (ls s))) (sRow (spansS (ls s))))))), ((areSps (List.length (spansS (ls s))) (sRow (spansS (ls s)))) && (Nat.ble (List.length (spansS (ls s))) (4294967280 : Nat))), (okS s), (okS s)]))
              else (.some ((.lit (.bool false)), [true, true, true, true, true, true, true, true, true, true, ((areSps (List.length (spansS (ls s))) (sRow (spansS (ls s)))) && (Nat.ble (List.length (spansS (ls s))) (4294967280 : Nat))), (okS s), (okS s)]))
            else bif (bne (packE (numsOf n f)) (0 : Int)) then
                (.some ((.lit (.bool ((((List.length (packR (numsOf n f))) : Nat) : Int) == (0 : Int)))), [((areNums n f) && (Nat.ble n (4294967280 : Nat))), ((areNums n f) && (Nat.ble n (4294967280 : Nat))), (okS s), (okS s)]))
              else bif ((srtE (spsOf (List.length (packR (numsOf n f))) (sRow (packR (numsOf n f))))) == (0 : Int)) then
                  bif ((cnS (srtR (0 : Int) (spsOf (List.length (packR (numsOf n f))) (sRow (packR (numsOf n f))))) (0 : Int)) == (IntKind.wrap .u64 ((n : Nat) : Int))) then
                    (.some ((.lit (.bool ((hasS (0 : Int) x (spsOf (List.length (packR (numsOf n f))) (sRow (packR (numsOf n f))))) == (List.contains (numsOf n f) x)))), [(((areSps (List.length (packR (numsOf n f))) (sRow (packR (numsOf n f)))) && (Nat.ble (List.length (packR (numsOf n f))) (4294967280 : Nat))) && true), (((areSps (List.length (packR (numsOf n f))) (sRow (packR (numsOf n f)))) && (Nat.ble (List.length (packR (numsOf n f))) (4294967280 : Nat))) && true), (((areNums n f) && (decide (((n : Nat) : Int) = ((n : Nat) : Int)))) && (Nat.ble n (4294967280 : Nat))), ((areNums n f) && (Nat.ble n (4294967280 : Nat))), ((areNums n f) && (Nat.ble n (4294967280 : Nat))), (okS s), (okS s)]))
                  else (.some ((.lit (.bool false)), [(((areSps (List.length (packR (numsOf n f))) (sRow (packR (numsOf n f)))) && (Nat.ble (List.length (packR (numsOf n f))) (4294967280 : Nat))) && true), (((areNums n f) && (decide (((n : Nat) : Int) = ((n : Nat) : Int)))) && (Nat.ble n (4294967280 : Nat))), ((areNums n f) && (Nat.ble n (4294967280 : Nat))), ((areNums n f) && (Nat.ble n (4294967280 : Nat))), (okS s), (okS s)]))
                else (.some ((.lit (.bool false)), [(((areSps (List.length (packR (numsOf n f))) (sRow (packR (numsOf n f)))) && (Nat.ble (List.length (packR (numsOf n f))) (4294967280 : Nat))) && true), (((areNums n f) && (decide (((n : Nat) : Int) = ((n : Nat) : Int)))) && (Nat.ble n (4294967280 : Nat))), ((areNums n f) && (Nat.ble n (4294967280 : Nat))), ((areNums n f) && (Nat.ble n (4294967280 : Nat))), (okS s), (okS s)]))
          else bif (bne (packE (numsOf n f)) (0 : Int)) then
              (.some ((.lit (.bool ((((List.length (packR (numsOf n f))) : Nat) : Int) == (0 : Int)))), [((areNums n f) && (Nat.ble n (4294967280 : Nat))), ((areNums n f) && (Nat.ble n (4294967280 : Nat))), (okS s), (okS s)]))
            else bif ((srtE (spsOf (List.length (packR (numsOf n f))) (sRow (packR (numsOf n f))))) == (0 : Int)) then
                bif ((cnS (srtR (0 : Int) (spsOf (List.length (packR (numsOf n f))) (sRow (packR (numsOf n f))))) (0 : Int)) == (IntKind.wrap .u64 ((n : Nat) : Int))) then
                  (.some ((.lit (.bool ((hasS (0 : Int) x (spsOf (List.length (packR (numsOf n f))) (sRow (packR (numsOf n f))))) == (List.contains (numsOf n f) x)))), [(((areSps (List.length (packR (numsOf n f))) (sRow (packR (numsOf n f)))) && (Nat.ble (List.length (packR (numsOf n f))) (4294967280 : Nat))) && true), (((areSps (List.length (packR (numsOf n f))) (sRow (packR (numsOf n f)))) && (Nat.ble (List.length (packR (numsOf n f))) (4294967280 : Nat))) && true), (((areNums n f) && (decide (((n : Nat) : Int) = ((n : Nat) : Int)))) && (Nat.ble n (4294967280 : Nat))), ((areNums n f) && (Nat.ble n (4294967280 : Nat))), ((areNums n f) && (Nat.ble n (4294967280 : Nat))), (okS s), (okS s)]))
                else (.some ((.lit (.bool false)), [(((areSps (List.length (packR (numsOf n f))) (sRow (packR (numsOf n f)))) && (Nat.ble (List.length (packR (numsOf n f))) (4294967280 : Nat))) && true), (((areNums n f) && (decide (((n : Nat) : Int) = ((n : Nat) : Int)))) && (Nat.ble n (4294967280 : Nat))), ((areNums n f) && (Nat.ble n (4294967280 : Nat))), ((areNums n f) && (Nat.ble n (4294967280 : Nat))), (okS s), (okS s)]))
              else (.some ((.lit (.bool false)), [(((areSps (List.length (packR (numsOf n f))) (sRow (packR (numsOf n f)))) && (Nat.ble (List.length (packR (numsOf n f))) (4294967280 : Nat))) && true), (((areNums n f) && (decide (((n : Nat) : Int) = ((n : Nat) : Int)))) && (Nat.ble n (4294967280 : Nat))), ((areNums n f) && (Nat.ble n (4294967280 : Nat))), ((areNums n f) && (Nat.ble n (4294967280 : Nat))), (okS s), (okS s)]))
        else bif (bne (packE (numsOf n f)) (0 : Int)) then
            (.some ((.lit (.bool ((((List.length (packR (numsOf n f))) : Nat) : Int) == (0 : Int)))), [((areNums n f) && (Nat.ble n (4294967280 : Nat))), ((areNums n f) && (Nat.ble n (4294967280 : Nat))), (okS s)]))
          else bif ((srtE (spsOf (List.length (packR (numsOf n f))) (sRow (packR (numsOf n f))))) == (0 : Int)) then
              bif ((cnS (srtR (0 : Int) (spsOf (List.length (packR (numsOf n f))) (sRow (packR (numsOf n f))))) (0 : Int)) == (IntKind.wrap .u64 ((n : Nat) : Int))) then
                (.some ((.lit (.bool ((hasS (0 : Int) x (spsOf (List.length (packR (numsOf n f))) (sRow (packR (numsOf n f))))) == (List.contains (numsOf n f) x)))), [(((areSps (List.length (packR (numsOf n f))) (sRow (packR (numsOf n f)))) && (Nat.ble (List.length (packR (numsOf n f))) (4294967280 : Nat))) && true), (((areSps (List.length (packR (numsOf n f))) (sRow (packR (numsOf n f)))) && (Nat.ble (List.length (packR (numsOf n f))) (4294967280 : Nat))) && true), (((areNums n f) && (decide (((n : Nat) : Int) = ((n : Nat) : Int)))) && (Nat.ble n (4294967280 : Nat))), ((areNums n f) && (Nat.ble n (4294967280 : Nat))), ((areNums n f) && (Nat.ble n (4294967280 : Nat))), (okS s)]))
              else (.some ((.lit (.bool false)), [(((areSps (List.length (packR (numsOf n f))) (sRow (packR (numsOf n f)))) && (Nat.ble (List.length (packR (numsOf n f))) (4294967280 : Nat))) && true), (((areNums n f) && (decide (((n : Nat) : Int) = ((n : Nat) : Int)))) && (Nat.ble n (4294967280 : Nat))), ((areNums n f) && (Nat.ble n (4294967280 : Nat))), ((areNums n f) && (Nat.ble n (4294967280 : Nat))), (okS s)]))
            else (.some ((.lit (.bool false)), [(((areSps (List.length (packR (numsOf n f))) (sRow (packR (numsOf n f)))) && (Nat.ble (List.length (packR (numsOf n f))) (4294967280 : Nat))) && true), (((areNums n f) && (decide (((n : Nat) : Int) = ((n : Nat) : Int)))) && (Nat.ble n (4294967280 : Nat))), ((areNums n f) && (Nat.ble n (4294967280 : Nat))), ((areNums n f) && (Nat.ble n (4294967280 : Nat))), (okS s)]))
      else bif (bne (packE (numsOf n f)) (0 : Int)) then
          (.some ((.lit (.bool ((((List.length (packR (numsOf n f))) : Nat) : Int) == (0 : Int)))), [((areNums n f) && (Nat.ble n (4294967280 : Nat))), ((areNums n f) && (Nat.ble n (4294967280 : Nat))), (okS s)]))
        else bif ((srtE (spsOf (List.length (packR (numsOf n f))) (sRow (packR (numsOf n f))))) == (0 : Int)) then
            bif ((cnS (srtR (0 : Int) (spsOf (List.length (packR (numsOf n f))) (sRow (packR (numsOf n f))))) (0 : Int)) == (IntKind.wrap .u64 ((n : Nat) : Int))) then
              (.some ((.lit (.bool ((hasS (0 : Int) x (spsOf (List.length (packR (numsOf n f))) (sRow (packR (numsOf n f))))) == (List.contains (numsOf n f) x)))), [(((areSps (List.length (packR (numsOf n f))) (sRow (packR (numsOf n f)))) && (Nat.ble (List.length (packR (numsOf n f))) (4294967280 : Nat))) && true), (((areSps (List.length (packR (numsOf n f))) (sRow (packR (numsOf n f)))) && (Nat.ble (List.length (packR (numsOf n f))) (4294967280 : Nat))) && true), (((areNums n f) && (decide (((n : Nat) : Int) = ((n : Nat) : Int)))) && (Nat.ble n (4294967280 : Nat))), ((areNums n f) && (Nat.ble n (4294967280 : Nat))), ((areNums n f) && (Nat.ble n (4294967280 : Nat))), (okS s)]))
            else (.some ((.lit (.bool false)), [(((areSps (List.length (packR (numsOf n f))) (sRow (packR (numsOf n f)))) && (Nat.ble (List.length (packR (numsOf n f))) (4294967280 : Nat))) && true), (((areNums n f) && (decide (((n : Nat) : Int) = ((n : Nat) : Int)))) && (Nat.ble n (4294967280 : Nat))), ((areNums n f) && (Nat.ble n (4294967280 : Nat))), ((areNums n f) && (Nat.ble n (4294967280 : Nat))), (okS s)]))
          else (.some ((.lit (.bool false)), [(((areSps (List.length (packR (numsOf n f))) (sRow (packR (numsOf n f)))) && (Nat.ble (List.length (packR (numsOf n f))) (4294967280 : Nat))) && true), (((areNums n f) && (decide (((n : Nat) : Int) = ((n : Nat) : Int)))) && (Nat.ble n (4294967280 : Nat))), ((areNums n f) && (Nat.ble n (4294967280 : Nat))), ((areNums n f) && (Nat.ble n (4294967280 : Nat))), (okS s)])) : Option (PV × List Bool)) := by
  kernel_rfl
theorem cnS_sum : ∀ (l : List Sp) (c : Int), cnS l c = c + sumS l
  | [], c => by simp [cnS, sumS]
  | y :: r, c => by
    rw [cnS, cnS_sum r, sumS]
    omega
/-- a pack that is one -/
theorem pack_is {ns : List Int} (hu : ns.all u32N = true) (h : packE ns = 0) (x : Int) : okM none (packR ns) = true ∧ (∀ y ∈ packR ns, fine y) ∧ sumS (packR ns) = ns.length ∧ hasS 0 x (packR ns) = ns.contains x ∧ srtR 0 (packR ns) = packR ns ∧ srtE (packR ns) = 0 := by
  have hl := packE_len (ns := ns)
  have e : packR ns = theK (packZ ns) := by unfold packR; rw [h]; rfl
  have hk : hasK (packZ ns) = true := by
    cases c : hasK (packZ ns) with
    | true => rfl
    | false => unfold packE at h; rw [c] at h; cases h
  rw [e] at hl ⊢
  cases hq : packZ ns with
  | none => rw [hq] at hk; cases hk
  | some q =>
    have hok := packZ_ok hu hq
    rw [hq] at hl
    change q.length ≤ 1024 at hl
    show okM none q = true ∧ (∀ y ∈ q, fine y) ∧ sumS q = ns.length ∧ hasS 0 x q = ns.contains x ∧ srtR 0 q = q ∧ srtE q = 0
    refine ⟨hok.1, hok.2.1, hok.2.2.1, ?_, srtR_id hok.1 hok.2.1 hl, ?_⟩
    · unfold hasS
      have hid : q.map (bandS 0) = q := (List.map_congr_left fun y hy => bandS_id (hok.2.1 y hy).1 (.inl rfl)).trans (List.map_id _)
      rw [hid, hok.2.2.2 x]
    · unfold srtE
      have : Nat.blt 1024 q.length = false := by rw [Bool.eq_false_iff, ne_eq, Nat.blt_eq]; omega
      rw [this]
      rfl
theorem pack_not {ns : List Int} (h : packE ns ≠ 0) : packR ns = [] := by
  unfold packR
  have : (packE ns == 0) = false := by simpa using h
  rw [this]
  rfl
def backG : List PV → Tr PV
  | [.lit (.string s), .gsl 1 n f, .lit (.int .u32 x)] => .br (okS s && areNums n f && Nat.ble n 4294967280) (.leaf (bool true)) .fail
  | _ => .fail
theorem back_ok : PureOK Tryd.prog (GG m t fr) 5 backG := by
  refine PureOK.of (fn_cuts mixed E12_ok (fn := Tryd.f5) (cuts := cut1 0 (isCut (GG m t fr))) (by kernel_rfl) (CutLaws.one (by omega) (by kernel_rfl) fun st e st' h => cutOf_ok E12_ok mixed (noCuts_ok (envOf_cuts ..) _) isF_ok h)) fun ps p hp => ?_
  unfold backG at hp
  split at hp
  · rename_i s n f x
    obtain ⟨hc, hp⟩ := br_run hp
    simp only [Bool.and_eq_true] at hc
    obtain ⟨⟨hs, hf⟩, hn⟩ := hc
    simp only [Tr.run, Option.some.injEq] at hp
    subst hp
    have h := back_raw m t fr s n f x
    have hu := nums_u32 hf
    have hL := nums_len n f
    have hn' := hn
    rw [Nat.ble_eq] at hn'
    have hw : IntKind.wrap .u64 ((n : Nat) : Int) = (n : Int) := by rw [IntKind.wrap_u64]; omega
    have hpl : Nat.ble (packR (numsOf n f)).length 4294967280 = true := Nat.ble_eq_true_of_le (Nat.le_trans packE_len (by omega))
    have hpu : packE (numsOf n f) = 0 → areSps (packR (numsOf n f)).length (sRow (packR (numsOf n f))) = true := fun h0 => are_sRow (List.all_eq_true.2 fun y hy => fine_u32 ((pack_is hu h0 x).2.1 y hy))
    rw [sps_sRow (packR (numsOf n f)), hw, hs, hf, hn, hpl] at h
    cases cE : bne (packE (numsOf n f)) 0 with
    | true =>
      have hE : packE (numsOf n f) ≠ 0 := by simpa using cE
      have hR := pack_not hE
      rw [cE, hR] at h
      simp only [cond_true] at h
      cases c1 : areS (ls s) with
      | false =>
        rw [c1] at h
        exact ⟨_, Tr.run_of h (by simp), PLe.of_eq rfl⟩
      | true =>
        rw [c1] at h
        cases c2 : Nat.ble (spansS (ls s)).length 1024 with
        | false =>
          rw [c2] at h
          exact ⟨_, Tr.run_of h (by simp), PLe.of_eq rfl⟩
        | true =>
          obtain ⟨t1, t2, t3, t4, t5⟩ := text_back c1
          have hws : okS (bs (writeS (spansS (ls s)))) = true := okS_of (by rw [← ls_len, ls_bs]; have := okS_le hs; rw [← ls_len] at this; omega)
          have c3 : Nat.blt 0 (spansS (ls s)).length = true := by rw [Nat.blt_eq]; exact List.length_pos_iff.2 t5
          have c4 : decide ((((writeS (spansS (ls s))).length : Nat) : Int) > (((ls s).length : Nat) : Int)) = false := by simp; omega
          have c5 : Nat.ble (spansS (ls s)).length 4294967280 = true := by
            rw [Nat.ble_eq] at c2
            exact Nat.ble_eq_true_of_le (by omega)
          rw [c2, sps_sRow (spansS (ls s)), t1, t2, sps_sRow (spansS (ls s)), c2, c3, hws, are_sRow t4, c4, c5, decide_eq_true rfl] at h
          exact ⟨_, Tr.run_of h (by simp), PLe.of_eq rfl⟩
    | false =>
      have hE : packE (numsOf n f) = 0 := by simpa using cE
      obtain ⟨p1, p2, p3, p4, p5, p6⟩ := pack_is hu hE x
      have d1 : cnS (packR (numsOf n f)) 0 = (n : Int) := by rw [cnS_sum, p3, hL]; omega
      rw [cE, p5, p6, d1, p4, hpu hE] at h
      simp only [cond_false, beq_self_eq_true, cond_true] at h
      cases c1 : areS (ls s) with
      | false =>
        rw [c1] at h
        exact ⟨_, Tr.run_of h (by simp), PLe.of_eq rfl⟩
      | true =>
        rw [c1] at h
        cases c2 : Nat.ble (spansS (ls s)).length 1024 with
        | false =>
          rw [c2] at h
          exact ⟨_, Tr.run_of h (by simp), PLe.of_eq rfl⟩
        | true =>
          obtain ⟨t1, t2, t3, t4, t5⟩ := text_back c1
          have hws : okS (bs (writeS (spansS (ls s)))) = true := okS_of (by rw [← ls_len, ls_bs]; have := okS_le hs; rw [← ls_len] at this; omega)
          have c3 : Nat.blt 0 (spansS (ls s)).length = true := by rw [Nat.blt_eq]; exact List.length_pos_iff.2 t5
          have c4 : decide ((((writeS (spansS (ls s))).length : Nat) : Int) > (((ls s).length : Nat) : Int)) = false := by simp; omega
          have c5 : Nat.ble (spansS (ls s)).length 4294967280 = true := by
            rw [Nat.ble_eq] at c2
            exact Nat.ble_eq_true_of_le (by omega)
          rw [c2, sps_sRow (spansS (ls s)), t1, t2, sps_sRow (spansS (ls s)), c2, c3, hws, are_sRow t4, c4, c5, decide_eq_true rfl] at h
          exact ⟨_, Tr.run_of h (by simp), PLe.of_eq rfl⟩
  · cases hp
def backSh : List ASh := [.one (.sc .str), .one (.sl [.int .u32]), .one (.sc (.int .u32))]
theorem back_args {qs : List PV} (ha : areArgs backSh qs = true) (hb : argsBulk qs ≤ 1048576) : (backG qs).run = some (bool true) := by
  obtain ⟨q0, r0, rfl, h0, hr0⟩ := args_cons ha
  obtain ⟨q1, r1, rfl, h1, hr1⟩ := args_cons hr0
  obtain ⟨q2, r2, rfl, h2, hr2⟩ := args_cons hr1
  obtain rfl := args_nil hr2
  obtain ⟨v, rfl, hv⟩ := ak_sc h0
  obtain ⟨s, rfl⟩ := sc_str hv
  obtain ⟨n, f, rfl, hf⟩ := ak_sl h1
  obtain ⟨v', rfl, hv'⟩ := ak_sc h2
  obtain ⟨x, rfl, hx⟩ := u32_given hv'
  have hb' : (s.size + 1) + ((((List.range n).map fun i => scsBulk (f i)).sum + 1) + (1 + 0)) ≤ 1048576 := hb
  obtain ⟨o1, o2⟩ := nums_given hf (by omega)
  have o3 : okS s = true := okS_of (by omega)
  have o5 : Nat.ble n 4294967280 = true := Nat.ble_eq_true_of_le (Nat.le_trans o2 (by omega))
  show (backG [.lit (.string s), .gsl 1 n f, .lit (.int .u32 x)]).run = some (bool true)
  simp [backG, Tr.run, o1, o3, o5]
end
end Go.Proofs.YtbpmfaghjlmjmaaDoor.Ev
