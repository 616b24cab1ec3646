/- lex: a token's text. No condition. -/
import Derived.Test.YtnidaonmigjgkaaDoorLxQ
namespace Go.Proofs.YtnidaonmigjgkaaDoor.Ev
open Go Go.RowKit Go.Proofs Go.Proofs.YtnidaonmigjgkaaDoor.Str
set_option linter.unusedVariables false
set_option linter.unusedSimpArgs false
section
variable {m : Int} {t : TypeId} {fr : Nat × Nat}
-- from: let_raw [] (m : Int) (t : TypeId) (fr : Nat × Nat) (c : Int) : (fnPure Tryd.prog (E1 (GG m t fr)) 60 Tryd.f54 (GG m t fr) [.lit (.int .u8 c)]).run2
theorem let_raw (m : Int) (t : TypeId) (fr : Nat × Nat) (c : Int) : (fnPure Tryd.prog (E1 (GG m t fr)) 60 Tryd.f54 (GG m t fr) [.lit (.int .u8 c)]).run2 =
    (bif (decide (c > (32 : Int))) then
        bif (decide (c < (127 : Int))) then
          bif (bne c (40 : Int)) then
            bif (bne c (41 : Int)) then
              bif (bne c (34 : Int)) then
                (.some ((.lit (.bool (bne c (123 : Int)))), []))
              else (.some ((.lit (.bool false)), []))
            else (.some ((.lit (.bool false)), []))
          else (.some ((.lit (.bool false)), []))
        else (.some ((.lit (.bool false)), []))
      else (.some ((.lit (.bool false)), [])) : Option (PV × List Bool)) := by
  kernel_rfl
def ltrI (c : Int) : Bool := decide (c > 32) && decide (c < 127) && !(c == 40) && !(c == 41) && !(c == 34) && !(c == 123)
def letterG : List PV → Tr PV
  | [.lit (.int .u8 c)] => .leaf (bool (ltrI c))
  | _ => .fail
theorem letter_ok : PureOK Tryd.prog (GG m t fr) 54 letterG := by
  refine PureOK.of (fn_pure mixed E1_ok (envOf_cuts ..) (fn := Tryd.f54) (by kernel_rfl)) fun ps p hp => ?_
  unfold letterG at hp
  split at hp
  · rename_i c
    simp only [Tr.run, Option.some.injEq] at hp
    subst hp
    have h := let_raw m t fr c
    simp only [bne] at h
    unfold ltrI
    cases c1 : decide (c > 32) <;> cases c2 : decide (c < 127) <;> cases c3 : (c == 40) <;> cases c4 : (c == 41) <;> cases c5 : (c == 34) <;> simp only [c1, c2, c3, c4, c5] at h <;>
      exact ⟨_, Tr.run_of h (by simp), PLe.of_eq (by simp)⟩
  · cases hp
def ltPure : List (Nat × (List PV → Tr PV)) := (54, letterG) :: (14, quoteG) :: plPure
theorem ltPure_ok : TabOK Tryd.prog (GG m t fr) ltPure :=
  TabOK.cons letter_ok (fn := Tryd.f54) (by kernel_rfl) (by kernel_rfl) (TabOK.cons quote_ok (fn := Tryd.f14) (by kernel_rfl) (by kernel_rfl) plPure_ok)
noncomputable abbrev E6 (G : GT) : Env := envOf Tryd.prog G ltPure libFull
theorem E6_ok : (E6 (GG m t fr)).ok Tryd.prog (GG m t fr) := envOf_ok mixed ltPure_ok libFull_ok
def atOuts : Exit → Outs
  | .normal => { ks := [0, 5, 6] }
  | .exit _ => { ks := [0] }
  | .ret => { ks := [2] }
  | _ => { ks := [] }
noncomputable abbrev atRound (G : GT) := roundT Tryd.prog (E6 G) 60 G 17 atOuts .normal (theLoop 0 Tryd.f36)
-- from: at_round [bs, okS, ls, ltrI] (m : Int) (t : TypeId) (fr : Nat × Nat) (s : ByteArray) (n i : Int) : (atRound (GG m t fr) ([str s, int n, int i], [])).run2
theorem at_round (m : Int) (t : TypeId) (fr : Nat × Nat) (s : ByteArray) (n i : Int) : (atRound (GG m t fr) ([str s, int n, int i], [])).run2 =
    (bif (decide (i < n)) then
        bif (!(ltrI (((UInt8.toNat (Array.getD (ByteArray.data s) (Int.toNat i) (0 : UInt8))) : Nat) : Int))) then
          (.some ((.ret, ([(.lit (.bool false))], [])), [((decide ((0 : Int) ≤ i)) && (Nat.blt (Int.toNat i) (List.length (ls s))))]))
        else (.some ((.normal, ([(.lit (.string s)), (.lit (.int .i64 n)), (.lit (.int .i64 (IntKind.wrap .i64 (i + (1 : Int)))))], [])), [((decide ((0 : Int) ≤ i)) && (Nat.blt (Int.toNat i) (List.length (ls s))))]))
      else (.some (((.exit 0), ([(.lit (.string s))], [])), [])) : Option ((Exit × Kept) × List Bool)) := by
  kernel_rfl
def ltB (c : UInt8) : Bool := ltrI ((c.toNat : Nat) : Int)
def atF : Kept → Tr (Exit × Kept)
  | ([.lit (.string s), .lit (.int .i64 n), .lit (.int .i64 i)], []) => .br (okS s && decide (n = (s.size : Int)) && decide (0 ≤ i) && decide (i ≤ n)) (.br (((ls s).drop i.toNat).all ltB) (.leaf (.exit 0, ([str s], []))) (.leaf (.ret, ([bool false], [])))) .fail
  | _ => .fail
def atEnd (s : ByteArray) (r : List UInt8) : Exit × Kept := bif r.all ltB then (.exit 0, ([str s], [])) else (.ret, ([bool false], []))
theorem at_LR (s : ByteArray) (hs : s.size ≤ 4294967280) : ∀ (r : List UInt8) (i : Nat), (ls s).drop i = r → i ≤ s.size →
    LR Tryd.prog (E6 (GG m t fr)) 60 (GG m t fr) 17 atOuts .normal (theLoop 0 Tryd.f36) ([str s, int s.size, int i], []) (atEnd s r).1 (atEnd s r).2
  | [], i, hr, hi => by
    have h := at_round m t fr s s.size i
    have hlen : s.size ≤ i := by
      have := List.drop_eq_nil_iff.1 hr
      rwa [ls_len] at this
    have hd : decide ((i : Int) < (s.size : Int)) = false := by simp; omega
    rw [hd] at h
    exact .last (Tr.run_of h rfl) (by simp [atEnd]) (by simp [atEnd])
  | c :: r, i, hr, hi => by
    have h := at_round m t fr s s.size i
    obtain ⟨hlt, hget, hdrop⟩ := get_drop hr
    have hd : decide ((i : Int) < (s.size : Int)) = true := by simp; omega
    have hw : IntKind.i64.wrap ((i : Int) + 1) = ((i + 1 : Nat) : Int) := wrap_succ (by omega)
    have hb : Nat.blt i (ls s).length = true := by rw [Nat.blt_eq, ls_len]; exact hlt
    have hL : ltrI ((c.toNat : Nat) : Int) = ltB c := rfl
    rw [hd, hw, Int.toNat_natCast, hget, hb, hL] at h
    simp only [cond_true] at h
    have ih := at_LR s hs r (i + 1) hdrop (by omega)
    cases c1 : ltB c with
    | true =>
      rw [c1] at h
      have he : atEnd s (c :: r) = atEnd s r := by unfold atEnd; rw [List.all_cons, c1]; rfl
      rw [he]
      exact .more (Tr.run_of h (by simp)) ih
    | false =>
      rw [c1] at h
      have he : atEnd s (c :: r) = (.ret, ([bool false], [])) := by unfold atEnd; rw [List.all_cons, c1]; rfl
      rw [he]
      exact .last (Tr.run_of h (by simp)) (by simp) (by simp)
theorem atF_ok (x : Kept) (e : Exit) (y : Kept) (h : (atF x).run = some (e, y)) : LR Tryd.prog (E6 (GG m t fr)) 60 (GG m t fr) 17 atOuts .normal (theLoop 0 Tryd.f36) x e y := by
  unfold atF at h
  split at h
  · rename_i s n i
    have hb := br_run h
    clear h
    obtain ⟨hc, h⟩ := hb
    simp only [Bool.and_eq_true, decide_eq_true_eq] at hc
    obtain ⟨⟨⟨hs, rfl⟩, h1⟩, h2⟩ := hc
    obtain ⟨i, rfl⟩ : ∃ k : Nat, i = k := ⟨i.toNat, by omega⟩
    have := at_LR (m := m) (t := t) (fr := fr) s (okS_le hs) ((ls s).drop i) i rfl (by omega)
    rw [Int.toNat_natCast] at h
    unfold atEnd at this
    cases hd : ((ls s).drop i).all ltB with
    | true =>
      rw [hd] at this h
      simp only [Tr.run, cond_true, Option.some.injEq, Prod.mk.injEq] at h
      obtain ⟨rfl, rfl⟩ := h
      exact this
    | false =>
      rw [hd] at this h
      simp only [Tr.run, cond_false, Option.some.injEq, Prod.mk.injEq] at h
      obtain ⟨rfl, rfl⟩ := h
      exact this
  · cases h
noncomputable abbrev atCut (G : GT) := cutOf G 17 atOuts 0 atF
-- from: at_raw [bs, okS, ltB, ls] (m : Int) (t : TypeId) (fr : Nat × Nat) (s : ByteArray) : (fnPure Tryd.prog ((E6 (GG m t fr)).withCuts (cut1 0 (atCut (GG m t fr)))) 60 Tryd.f36 (GG m t fr) [str s]).run2
theorem at_raw (m : Int) (t : TypeId) (fr : Nat × Nat) (s : ByteArray) : (fnPure Tryd.prog ((E6 (GG m t fr)).withCuts (cut1 0 (atCut (GG m t fr)))) 60 Tryd.f36 (GG m t fr) [str s]).run2 =
    (bif (List.all (List.drop 0 (ls s)) (ltB)) then
        (.some ((.lit (.bool (!((ByteArray.toList s) == (ByteArray.toList (.mk (List.toArray []))))))), [((((okS s) && (decide ((((List.length (ls s)) : Nat) : Int) = (((List.length (ls s)) : Nat) : Int)))) && true) && (decide ((0 : Int) ≤ (((List.length (ls s)) : Nat) : Int))))]))
      else (.some ((.lit (.bool false)), [((((okS s) && (decide ((((List.length (ls s)) : Nat) : Int) = (((List.length (ls s)) : Nat) : Int)))) && true) && (decide ((0 : Int) ≤ (((List.length (ls s)) : Nat) : Int))))])) : Option (PV × List Bool)) := by
  kernel_rfl
def atomB (l : List UInt8) : Bool := l.all ltB && !decide (l = [])
def atomG : List PV → Tr PV
  | [.lit (.string s)] => .br (okS s) (.leaf (bool (atomB (ls s)))) .fail
  | _ => .fail
theorem atom_ok : PureOK Tryd.prog (GG m t fr) 36 atomG := by
  refine PureOK.of (fn_cuts mixed E6_ok (fn := Tryd.f36) (cuts := cut1 0 (atCut (GG m t fr))) (by kernel_rfl) (CutLaws.one (by omega) (by kernel_rfl) fun st e st' h => cutOf_ok E6_ok mixed (noCuts_ok (envOf_cuts ..) _) atF_ok h)) fun ps p hp => ?_
  unfold atomG at hp
  split at hp
  · rename_i s
    obtain ⟨hs, hp⟩ := br_run hp
    simp only [Tr.run, Option.some.injEq] at hp
    subst hp
    have h := at_raw m t fr s
    have e0 : ls (ByteArray.mk (List.toArray [])) = [] := rfl
    rw [List.drop_zero, eqB, e0] at h
    unfold atomB
    cases ha : (ls s).all ltB with
    | true =>
      rw [ha] at h
      exact ⟨_, Tr.run_of h (by simp [hs, ls_len]), PLe.of_eq rfl⟩
    | false =>
      rw [ha] at h
      exact ⟨_, Tr.run_of h (by simp [hs, ls_len]), PLe.of_eq rfl⟩
  · cases hp
def txPure : List (Nat × (List PV → Tr PV)) := (36, atomG) :: ltPure
theorem txPure_ok : TabOK Tryd.prog (GG m t fr) txPure :=
  TabOK.cons atom_ok (fn := Tryd.f36) (by kernel_rfl) (by kernel_rfl) ltPure_ok
noncomputable abbrev E7 (G : GT) : Env := envOf Tryd.prog G txPure libFull
theorem E7_ok : (E7 (GG m t fr)).ok Tryd.prog (GG m t fr) := envOf_ok mixed txPure_ok libFull_ok
-- from: text_raw [bs, okS, plB, ls, atomB, quoteS] (m : Int) (t : TypeId) (fr : Nat × Nat) (k : Int) (s : ByteArray) : (fnPure Tryd.prog (E7 (GG m t fr)) 60 Tryd.f22 (GG m t fr) [.agg [.lit (.int .u8 k), .lit (.string s)]]).run2
theorem text_raw (m : Int) (t : TypeId) (fr : Nat × Nat) (k : Int) (s : ByteArray) : (fnPure Tryd.prog (E7 (GG m t fr)) 60 Tryd.f22 (GG m t fr) [.agg [.lit (.int .u8 k), .lit (.string s)]]).run2 =
    (bif (k == (3 : Int)) then
        (.some ((.tup [(.lit (.string (.mk (List.toArray [(40 : UInt8)])))), (.lit (.bool ((ByteArray.toList s) == (ByteArray.toList (.mk (List.toArray [(40 : UInt8)]))))))]), []))
      else bif (k == (4 : Int)) then
          (.some ((.tup [(.lit (.string (.mk (List.toArray [(41 : UInt8)])))), (.lit (.bool ((ByteArray.toList s) == (ByteArray.toList (.mk (List.toArray [(41 : UInt8)]))))))]), []))
        else bif (k == (1 : Int)) then
            (.some ((.tup [(.lit (.string s)), (.lit (.bool (atomB (ls s))))]), [(okS s)]))
          else bif (k == (2 : Int)) then
              bif (List.all (ls s) (plB)) then
                (.some ((.tup [(.lit (.string (bs (quoteS (ls s))))), (.lit (.bool true))]), [(okS s)]))
              else (.some ((.tup [(.lit (.string ((((.mk (List.toArray [(123 : UInt8)])) ++ (bs (Lib.itoa (((List.length (ls s)) : Nat) : Int)))) ++ (.mk (List.toArray [(125 : UInt8), (13 : UInt8), (10 : UInt8)]))) ++ s))), (.lit (.bool (decide ((((List.length (Lib.itoa (((List.length (ls s)) : Nat) : Int))) : Nat) : Int) ≤ (9 : Int)))))]), [(Nat.ble ((List.length (ls (((.mk (List.toArray [(123 : UInt8)])) ++ (bs (Lib.itoa (((List.length (ls s)) : Nat) : Int)))) ++ (.mk (List.toArray [(125 : UInt8), (13 : UInt8), (10 : UInt8)]))))) + (List.length (ls s))) (9223372036854775807 : Nat)), (Nat.ble ((List.length (ls ((.mk (List.toArray [(123 : UInt8)])) ++ (bs (Lib.itoa (((List.length (ls s)) : Nat) : Int)))))) + 3) (9223372036854775807 : Nat)), (Nat.ble (1 + (List.length (Lib.itoa (((List.length (ls s)) : Nat) : Int)))) (9223372036854775807 : Nat)), ((decide ((-9223372036854775808 : Int) ≤ (((List.length (ls s)) : Nat) : Int))) && (decide ((((List.length (ls s)) : Nat) : Int) ≤ (9223372036854775807 : Int)))), (okS s)]))
            else (.some ((.tup [(.lit (.string (.mk (List.toArray [])))), (.lit (.bool false))]), [])) : Option (PV × List Bool)) := by
  kernel_rfl
end
end Go.Proofs.YtnidaonmigjgkaaDoor.Ev
