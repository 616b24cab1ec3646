/- lex: the tokens of a text. No condition. -/
import Derived.Test.YtnidaonmigjgkaaDoorLxS
namespace Go.Proofs.YtnidaonmigjgkaaDoor.Ev
open Go Go.RowKit Go.Proofs Go.Proofs.YtnidaonmigjgkaaDoor.Str
set_option linter.unusedVariables false
set_option linter.unusedSimpArgs false
section
variable {m : Int} {t : TypeId} {fr : Nat × Nat}
def rdPure : List (Nat × (List PV → Tr PV)) := (8, annG) :: wrPure
theorem rdPure_ok : TabOK Tryd.prog (GG m t fr) rdPure :=
  TabOK.cons ann_ok (fn := Tryd.f8) (by kernel_rfl) (by kernel_rfl) wrPure_ok
def rdFull : List (Nat × (List PV → Mem → Tr (PV × Mem))) := (42, spotG 61 wordG) :: (40, spotG 61 quotedG) :: libFull
theorem rdFull_ok : FullOK Tryd.prog (GG m t fr) rdFull :=
  FullOK.cons (spot_fn word_ok) (fn := Tryd.f42) (by kernel_rfl) (by kernel_rfl) (FullOK.cons (spot_fn quoted_ok) (fn := Tryd.f40) (by kernel_rfl) (by kernel_rfl) libFull_ok)
noncomputable abbrev E9 (G : GT) : Env := envOf Tryd.prog G rdPure rdFull
theorem E9_ok : (E9 (GG m t fr)).ok Tryd.prog (GG m t fr) := envOf_ok mixed rdPure_ok rdFull_ok
/-- the reader's functions, each in the reader's block alone -/
noncomputable abbrev spot9 (G : GT) := fnSpot Tryd.prog (E9 G) 60
-- from: bl_raw [bs, okS, ls] (m : Int) (t : TypeId) (fr : Nat × Nat) (s : ByteArray) (g d : Bool) : (spot9 (GG m t fr) Tryd.f26 (GG m t fr) 61 [str s, bool g, bool d] []).run2
theorem bl_raw (m : Int) (t : TypeId) (fr : Nat × Nat) (s : ByteArray) (g d : Bool) : (spot9 (GG m t fr) Tryd.f26 (GG m t fr) 61 [str s, bool g, bool d] []).run2 =
    (bif g then
        (.some (((.tup []), [(.lit (.string (bs (Lib.trimLeftB (ls s) (32 : UInt8))))), (.lit (.bool true)), (.lit (.bool d))]), [true, true, true, true, true, true, true, true]))
      else (.some (((.tup []), [(.lit (.string (bs (Lib.trimLeftB (ls s) (32 : UInt8))))), (.lit (.bool (decide ((((List.length (Lib.trimLeftB (ls s) (32 : UInt8))) : Nat) : Int) < (((List.length (ls s)) : Nat) : Int))))), (.lit (.bool d))]), [true])) : Option ((PV × List PV) × List Bool)) := by
  kernel_rfl
-- from: li_raw [bs, okS, ls, annI, annR, lineS] (m : Int) (t : TypeId) (fr : Nat × Nat) (s : ByteArray) (g d : Bool) : (spot9 (GG m t fr) Tryd.f41 (GG m t fr) 61 [str s, bool g, bool d] []).run2
theorem li_raw (m : Int) (t : TypeId) (fr : Nat × Nat) (s : ByteArray) (g d : Bool) : (spot9 (GG m t fr) Tryd.f41 (GG m t fr) 61 [str s, bool g, bool d] []).run2 =
    (bif (!(Prod.snd (Prod.snd (lineS (ls s))))) then
        (.some (((.lit (.string (.mk (List.toArray [])))), [(.lit (.string s)), (.lit (.bool g)), (.lit (.bool true))]), [true, true, true, true, true, true, true, true, (okS (bs (Prod.fst (lineS (ls s))))), (okS s)]))
      else bif (!(annI (Prod.fst (lineS (ls s))))) then
          (.some (((.lit (.string (.mk (List.toArray [])))), [(.lit (.string s)), (.lit (.bool g)), (.lit (.bool true))]), [true, true, true, true, true, true, (okS (bs (Prod.fst (lineS (ls s))))), (okS s)]))
        else bif (decide ((Lib.lastIndexByte (bs (Prod.fst (lineS (ls s)))) (123 : Int)) > (0 : Int))) then
            (.some (((.lit (.string (.mk (List.toArray [])))), [(.lit (.string s)), (.lit (.bool g)), (.lit (.bool true))]), [true, true, true, (okS (bs (Prod.fst (lineS (ls s))))), (okS (bs (Prod.fst (lineS (ls s))))), (okS s)]))
          else bif (decide ((((annR (Prod.fst (lineS (ls s)))) : Nat) : Int) > (((List.length (Prod.fst (Prod.snd (lineS (ls s))))) : Nat) : Int))) then
              (.some (((.lit (.string (.mk (List.toArray [])))), [(.lit (.string s)), (.lit (.bool g)), (.lit (.bool true))]), [(okS (bs (Prod.fst (lineS (ls s))))), (okS (bs (Prod.fst (lineS (ls s))))), (okS s)]))
            else (.some (((.lit (.string (ByteArray.extract (bs (Prod.fst (Prod.snd (lineS (ls s))))) 0 (Int.toNat (((annR (Prod.fst (lineS (ls s)))) : Nat) : Int))))), [(.lit (.string (ByteArray.extract (bs (Prod.fst (Prod.snd (lineS (ls s))))) (Int.toNat (((annR (Prod.fst (lineS (ls s)))) : Nat) : Int)) (Int.toNat (((List.length (Prod.fst (Prod.snd (lineS (ls s))))) : Nat) : Int))))), (.lit (.bool g)), (.lit (.bool d))]), [((decide ((0 : Int) ≤ (((annR (Prod.fst (lineS (ls s)))) : Nat) : Int))) && (decide ((((annR (Prod.fst (lineS (ls s)))) : Nat) : Int) ≤ (((List.length (Prod.fst (Prod.snd (lineS (ls s))))) : Nat) : Int)))), (((decide ((0 : Int) ≤ (((annR (Prod.fst (lineS (ls s)))) : Nat) : Int))) && (decide ((((annR (Prod.fst (lineS (ls s)))) : Nat) : Int) ≤ (((List.length (Prod.fst (Prod.snd (lineS (ls s))))) : Nat) : Int)))) && (decide ((((List.length (Prod.fst (Prod.snd (lineS (ls s))))) : Nat) : Int) ≤ (((List.length (Prod.fst (Prod.snd (lineS (ls s))))) : Nat) : Int)))), (okS (bs (Prod.fst (lineS (ls s))))), (okS (bs (Prod.fst (lineS (ls s))))), (okS s)])) : Option ((PV × List PV) × List Bool)) := by
  kernel_rfl
-- from: tk_raw [bs, okS, ls, annI, annR, lineS, wdLen, hasQ, theQ, restQ] (m : Int) (t : TypeId) (fr : Nat × Nat) (s : ByteArray) (g d : Bool) : (spot9 (GG m t fr) Tryd.f27 (GG m t fr) 61 [str s, bool g, bool d] []).run2
theorem tk_raw (m : Int) (t : TypeId) (fr : Nat × Nat) (s : ByteArray) (g d : Bool) : (spot9 (GG m t fr) Tryd.f27 (GG m t fr) 61 [str s, bool g, bool d] []).run2 =
    (bif ((((UInt8.toNat (Array.getD (ByteArray.data s) 0 (0 : UInt8))) : Nat) : Int) == (40 : Int)) then
        (.some (((.agg [(.lit (.int .u8 (3 : Int))), (.lit (.string (.mk (List.toArray [(40 : UInt8)]))))]), [(.lit (.string (ByteArray.extract s 1 (Int.toNat (((List.length (ls s)) : Nat) : Int))))), (.lit (.bool g)), (.lit (.bool d))]), [((decide ((1 : Int) ≤ (((List.length (ls s)) : Nat) : Int))) && (decide ((((List.length (ls s)) : Nat) : Int) ≤ (((List.length (ls s)) : Nat) : Int)))), (Nat.blt 0 (List.length (ls s)))]))
      else bif ((((UInt8.toNat (Array.getD (ByteArray.data s) 0 (0 : UInt8))) : Nat) : Int) == (41 : Int)) then
          (.some (((.agg [(.lit (.int .u8 (4 : Int))), (.lit (.string (.mk (List.toArray [(41 : UInt8)]))))]), [(.lit (.string (ByteArray.extract s 1 (Int.toNat (((List.length (ls s)) : Nat) : Int))))), (.lit (.bool g)), (.lit (.bool d))]), [((decide ((1 : Int) ≤ (((List.length (ls s)) : Nat) : Int))) && (decide ((((List.length (ls s)) : Nat) : Int) ≤ (((List.length (ls s)) : Nat) : Int)))), (Nat.blt 0 (List.length (ls s)))]))
        else bif ((((UInt8.toNat (Array.getD (ByteArray.data s) 0 (0 : UInt8))) : Nat) : Int) == (34 : Int)) then
            bif (hasQ (ls (ByteArray.extract s 1 (Int.toNat (((List.length (ls s)) : Nat) : Int))))) then
              (.some (((.agg [(.lit (.int .u8 (2 : Int))), (.lit (.string (bs (theQ (ls (ByteArray.extract s 1 (Int.toNat (((List.length (ls s)) : Nat) : Int))))))))]), [(.lit (.string (bs (restQ (ls (ByteArray.extract s 1 (Int.toNat (((List.length (ls s)) : Nat) : Int)))))))), (.lit (.bool g)), (.lit (.bool d))]), [(okS (ByteArray.extract s 1 (Int.toNat (((List.length (ls s)) : Nat) : Int)))), ((decide ((1 : Int) ≤ (((List.length (ls s)) : Nat) : Int))) && (decide ((((List.length (ls s)) : Nat) : Int) ≤ (((List.length (ls s)) : Nat) : Int)))), (Nat.blt 0 (List.length (ls s)))]))
            else (.some (((.agg [(.lit (.int .u8 (2 : Int))), (.lit (.string (bs [])))]), [(.lit (.string (bs (restQ (ls (ByteArray.extract s 1 (Int.toNat (((List.length (ls s)) : Nat) : Int)))))))), (.lit (.bool g)), (.lit (.bool true))]), [(okS (ByteArray.extract s 1 (Int.toNat (((List.length (ls s)) : Nat) : Int)))), ((decide ((1 : Int) ≤ (((List.length (ls s)) : Nat) : Int))) && (decide ((((List.length (ls s)) : Nat) : Int) ≤ (((List.length (ls s)) : Nat) : Int)))), (Nat.blt 0 (List.length (ls s)))]))
          else bif ((((UInt8.toNat (Array.getD (ByteArray.data s) 0 (0 : UInt8))) : Nat) : Int) == (123 : Int)) then
              bif (!(Prod.snd (Prod.snd (lineS (ls s))))) then
                (.some (((.agg [(.lit (.int .u8 (2 : Int))), (.lit (.string (.mk (List.toArray []))))]), [(.lit (.string s)), (.lit (.bool g)), (.lit (.bool true))]), [true, true, true, true, true, true, true, true, (okS (bs (Prod.fst (lineS (ls s))))), (okS s), (Nat.blt 0 (List.length (ls s)))]))
              else bif (!(annI (Prod.fst (lineS (ls s))))) then
                  (.some (((.agg [(.lit (.int .u8 (2 : Int))), (.lit (.string (.mk (List.toArray []))))]), [(.lit (.string s)), (.lit (.bool g)), (.lit (.bool true))]), [true, true, true, true, true, true, (okS (bs (Prod.fst (lineS (ls s))))), (okS s), (Nat.blt 0 (List.length (ls s)))]))
                else bif (decide ((Lib.lastIndexByte (bs (Prod.fst (lineS (ls s)))) (123 : Int)) > (0 : Int))) then
                    (.some (((.agg [(.lit (.int .u8 (2 : Int))), (.lit (.string (.mk (List.toArray []))))]), [(.lit (.string s)), (.lit (.bool g)), (.lit (.bool true))]), [true, true, true, (okS (bs (Prod.fst (lineS (ls s))))), (okS (bs (Prod.fst (lineS (ls s))))), (okS s), (Nat.blt 0 (List.length (ls s)))]))
                  else bif (decide ((((annR (Prod.fst (lineS (ls s)))) : Nat) : Int) > (((List.length (Prod.fst (Prod.snd (lineS (ls s))))) : Nat) : Int))) then
                      (.some (((.agg [(.lit (.int .u8 (2 : Int))), (.lit (.string (.mk (List.toArray []))))]), [(.lit (.string s)), (.lit (.bool g)), (.lit (.bool true))]), [(okS (bs (Prod.fst (lineS (ls s))))), (okS (bs (Prod.fst (lineS (ls s))))), (okS s), (Nat.blt 0 (List.length (ls s)))]))
                    else (.some (((.agg [(.lit (.int .u8 (2 : Int))), (.lit (.string (ByteArray.extract (bs (Prod.fst (Prod.snd (lineS (ls s))))) 0 (Int.toNat (((annR (Prod.fst (lineS (ls s)))) : Nat) : Int)))))]), [(.lit (.string (ByteArray.extract (bs (Prod.fst (Prod.snd (lineS (ls s))))) (Int.toNat (((annR (Prod.fst (lineS (ls s)))) : Nat) : Int)) (Int.toNat (((List.length (Prod.fst (Prod.snd (lineS (ls s))))) : Nat) : Int))))), (.lit (.bool g)), (.lit (.bool d))]), [((decide ((0 : Int) ≤ (((annR (Prod.fst (lineS (ls s)))) : Nat) : Int))) && (decide ((((annR (Prod.fst (lineS (ls s)))) : Nat) : Int) ≤ (((List.length (Prod.fst (Prod.snd (lineS (ls s))))) : Nat) : Int)))), (((decide ((0 : Int) ≤ (((annR (Prod.fst (lineS (ls s)))) : Nat) : Int))) && (decide ((((annR (Prod.fst (lineS (ls s)))) : Nat) : Int) ≤ (((List.length (Prod.fst (Prod.snd (lineS (ls s))))) : Nat) : Int)))) && (decide ((((List.length (Prod.fst (Prod.snd (lineS (ls s))))) : Nat) : Int) ≤ (((List.length (Prod.fst (Prod.snd (lineS (ls s))))) : Nat) : Int)))), (okS (bs (Prod.fst (lineS (ls s))))), (okS (bs (Prod.fst (lineS (ls s))))), (okS s), (Nat.blt 0 (List.length (ls s)))]))
            else (.some (((.agg [(.lit (.int .u8 (1 : Int))), (.lit (.string (bs (List.take (wdLen (ls s)) (ls s)))))]), [(.lit (.string (bs (List.drop (wdLen (ls s)) (ls s))))), (.lit (.bool g)), (.lit (.bool (decide ((wdLen (ls s)) = 0))))]), [(okS s), (Nat.blt 0 (List.length (ls s)))])) : Option ((PV × List PV) × List Bool)) := by
  kernel_rfl
/-- is a literal whole? -/
def litB (l : List UInt8) : Bool := (lineS l).2.2 && (annI (lineS l).1 && (!decide (Lib.lastIndexByte (bs (lineS l).1) 123 > 0) && !decide ((lineS l).2.1.length < annR (lineS l).1)))
/-- the token that a text begins with: its kind, its text, what is behind it, and whether it is none -/
def tokR : List UInt8 → Int × List UInt8 × List UInt8 × Bool
  | [] => (0, [], [], true)
  | c :: r => bif decide (c = 40) then (3, [40], r, false) else bif decide (c = 41) then (4, [41], r, false) else bif decide (c = 34) then (2, theQ r, restQ r, !hasQ r)
    else bif decide (c = 123) then (bif litB (c :: r) then (2, (lineS (c :: r)).2.1.take (annR (lineS (c :: r)).1), (lineS (c :: r)).2.1.drop (annR (lineS (c :: r)).1), false) else (2, [], c :: r, true))
    else (1, (c :: r).take (wdLen (c :: r)), (c :: r).drop (wdLen (c :: r)), decide (wdLen (c :: r) = 0))
def tokenG (cs ps : List PV) : Tr (PV × List PV) := match cs, ps with
  | [.lit (.string s), .lit (.bool g), .lit (.bool false)], [] => .br (okS s && Nat.blt 0 s.size) (.leaf (.agg [.lit (.int .u8 (tokR (ls s)).1), str (bs (tokR (ls s)).2.1)], [str (bs (tokR (ls s)).2.2.1), bool g, bool (tokR (ls s)).2.2.2])) .fail
  | _, _ => .fail
theorem spot9_ok (f : FuncId) (fn : Func) (hf : Tryd.prog.funcs[f]? = some fn) (ty : TypeId) : SpotOK Tryd.prog (GG m t fr) f ty (spot9 (GG m t fr) fn (GG m t fr) ty) :=
  spot_of_ev (n := 60) E9_ok mixed hf (fun c _ => noCuts_ok (envOf_cuts ..) c) ty
theorem token_ok : SpotOK Tryd.prog (GG m t fr) 27 61 tokenG := by
  refine SpotOK.of (spot9_ok _ Tryd.f27 (by kernel_rfl) _) fun cs ps p cs' hp => ?_
  unfold tokenG at hp
  split at hp
  · rename_i s g
    obtain ⟨hs, hp⟩ := br_run hp
    simp only [Bool.and_eq_true, Nat.blt_eq] at hs
    have h := tk_raw m t fr s g false
    obtain ⟨l, rfl⟩ : ∃ l, s = bs l := ⟨ls s, (bs_ls s).symm⟩
    have os := hs.1
    have hsl := okS_le hs.1
    rw [bs_len] at hsl hs
    rw [ls_bs] at hp
    rcases l with _ | ⟨c, r⟩
    · simp at hs
    · simp only [List.length_cons] at hsl
      have e40 : (40 : Int) = (((40 : UInt8).toNat : Nat) : Int) := rfl
      have e41 : (41 : Int) = (((41 : UInt8).toNat : Nat) : Int) := rfl
      have e34 : (34 : Int) = (((34 : UInt8).toNat : Nat) : Int) := rfl
      have e123 : ((((c.toNat : Nat) : Int)) == 123) = decide (c = 123) := byte_eq c 123
      have hg0 : (c :: r).getD 0 0 = c := rfl
      have hb0 : Nat.blt 0 (c :: r).length = true := rfl
      have hl1 : decide ((1 : Int) ≤ (((c :: r).length : Nat) : Int)) = true := by simp; omega
      have hle : ∀ j : Nat, decide ((j : Int) ≤ (j : Int)) = true := by intro j; simp
      have or' : okS (bs r) = true := okS_of (by rw [bs_len]; omega)
      have hL := lineS_len (c :: r)
      rw [List.length_cons] at hL
      have oL : okS (bs (lineS (c :: r)).1) = true := okS_of (by rw [bs_len]; omega)
      rw [ls_bs, Int.toNat_natCast, ext_tail, ls_bs] at h
      simp only [getD_ls, ls_bs, hg0, hb0, hl1, hle, or', oL, os, e123] at h
      rw [e40, byte_eq, e41, byte_eq, e34, byte_eq] at h
      have fin : ∀ {cd : List Bool} {z : Int × List UInt8 × List UInt8 × Bool}, tokR (c :: r) = z → cd.all id = true → (spot9 (GG m t fr) Tryd.f27 (GG m t fr) 61 [str (bs (c :: r)), bool g, bool false] []).run2 = some ((.agg [.lit (.int .u8 z.1), .lit (.string (bs z.2.1))], [.lit (.string (bs z.2.2.1)), .lit (.bool g), .lit (.bool z.2.2.2)]), cd) →
          (spot9 (GG m t fr) Tryd.f27 (GG m t fr) 61 [str (bs (c :: r)), bool g, bool false] []).run = some (p, cs') := by
        rintro cd z rfl hcd hh
        simp only [Tr.run, Option.some.injEq, Prod.mk.injEq] at hp
        obtain ⟨rfl, rfl⟩ := hp
        exact Tr.run_of hh hcd
      cases c1 : decide (c = 40) with
      | true =>
        rw [c1] at h
        exact fin (z := (3, [40], r, false)) (by simp [tokR, c1]) (by simp) h
      | false =>
      rw [c1] at h
      simp only [cond_false] at h
      cases c2 : decide (c = 41) with
      | true =>
        rw [c2] at h
        exact fin (z := (4, [41], r, false)) (by simp [tokR, c1, c2]) (by simp) h
      | false =>
      rw [c2] at h
      simp only [cond_false] at h
      cases c3 : decide (c = 34) with
      | true =>
        rw [c3] at h
        simp only [cond_true] at h
        cases hq : hasQ r with
        | true =>
          rw [hq] at h
          exact fin (z := (2, theQ r, restQ r, false)) (by simp [tokR, c1, c2, c3, hq]) (by simp) h
        | false =>
          rw [hq] at h
          have hz : theQ r = [] := by
            unfold hasQ at hq
            unfold theQ
            rcases hx : (qR r).1 with _ | q
            · rfl
            · rw [hx] at hq
              cases hq
          exact fin (z := (2, [], restQ r, true)) (by simp [tokR, c1, c2, c3, hq, hz]) (by simp) h
      | false =>
      rw [c3] at h
      simp only [cond_false] at h
      cases c4 : decide (c = 123) with
      | false =>
        rw [c4] at h
        exact fin (z := (1, (c :: r).take (wdLen (c :: r)), (c :: r).drop (wdLen (c :: r)), decide (wdLen (c :: r) = 0))) (by simp [tokR, c1, c2, c3, c4]) (by simp) h
      | true =>
      rw [c4] at h
      simp only [cond_true] at h
      have hT : tokR (c :: r) = (bif litB (c :: r) then (2, (lineS (c :: r)).2.1.take (annR (lineS (c :: r)).1), (lineS (c :: r)).2.1.drop (annR (lineS (c :: r)).1), false) else (2, [], c :: r, true)) := by simp only [tokR, c1, c2, c3, c4, cond_false, cond_true]
      have bad : litB (c :: r) = false → tokR (c :: r) = (2, [], c :: r, true) := fun hb => by rw [hT, hb]; rfl
      have d4 : decide ((((annR (lineS (c :: r)).1 : Nat) : Int)) > (((lineS (c :: r)).2.1.length : Nat) : Int)) = decide ((lineS (c :: r)).2.1.length < annR (lineS (c :: r)).1) := by
        rw [decide_eq_decide]
        omega
      rw [d4] at h
      cases k1 : (lineS (c :: r)).2.2 with
      | false =>
        rw [k1] at h
        exact fin (z := (2, [], c :: r, true)) (bad (by unfold litB; rw [k1]; rfl)) (by simp) h
      | true =>
      rw [k1] at h
      simp only [Bool.not_true, cond_false] at h
      cases k2 : annI (lineS (c :: r)).1 with
      | false =>
        rw [k2] at h
        exact fin (z := (2, [], c :: r, true)) (bad (by unfold litB; rw [k1, k2]; rfl)) (by simp) h
      | true =>
      rw [k2] at h
      simp only [Bool.not_true, cond_false] at h
      cases k3 : decide (Lib.lastIndexByte (bs (lineS (c :: r)).1) 123 > 0) with
      | true =>
        rw [k3] at h
        exact fin (z := (2, [], c :: r, true)) (bad (by unfold litB; rw [k1, k2, k3]; rfl)) (by simp) h
      | false =>
      rw [k3] at h
      simp only [cond_false] at h
      cases k4 : decide ((lineS (c :: r)).2.1.length < annR (lineS (c :: r)).1) with
      | true =>
        rw [k4] at h
        exact fin (z := (2, [], c :: r, true)) (bad (by unfold litB; rw [k1, k2, k3, k4]; rfl)) (by simp) h
      | false =>
        have k4' := of_decide_eq_false k4
        rw [k4, Int.toNat_natCast, Int.toNat_natCast, bs_ext, bs_ext, ls_bs, List.take_length, List.drop_zero] at h
        exact fin (z := (2, (lineS (c :: r)).2.1.take (annR (lineS (c :: r)).1), (lineS (c :: r)).2.1.drop (annR (lineS (c :: r)).1), false)) (by rw [hT]; unfold litB; rw [k1, k2, k3, k4]; rfl) (by simp; omega) h
  · cases hp
end
end Go.Proofs.YtnidaonmigjgkaaDoor.Ev
