/- JTopTallied21: several texts in one. Condition: each part's own. -/
import Derived.Test.YtcdghinmmhcfcaaGreatDoorJTopTallied16
import Derived.Test.YtcdghinmmhcfcaaGreatDoorJTopTallied20
import Derived.Test.YtcdghinmmhcfcaaGreatDoorJTopTallied13
import Derived.Test.YtcdghinmmhcfcaaGreatDoorJTopTallied12
import Derived.Test.YtcdghinmmhcfcaaGreatDoorJTopTallied08
import Derived.Stop.LaidErr
/- TopTallied: a round. No condition. -/
namespace Go.Proofs.YtcdghinmmhcfcaaGreatDoor.Ev
open Go Go.RowKit Go.Proofs Go.Proofs.YtcdghinmmhcfcaaGreatDoor.Str
set_option linter.unusedVariables false
set_option linter.unusedSimpArgs false
def tokOf : List PV → Int × ByteArray
  | [.lit (.int .u8 k), .lit (.string s)] => (k, s)
  | _ => (0, .empty)
def isTok : List PV → Bool
  | [.lit (.int .u8 _), .lit (.string _)] => true
  | _ => false
def toksOf (n : Nat) (f : Nat → List PV) : List (Int × ByteArray) := (List.range n).map fun i => tokOf (f i)
def areToks (n : Nat) (f : Nat → List PV) : Bool := (List.range n).all fun i => isTok (f i)
theorem toks_len (n : Nat) (f : Nat → List PV) : (toksOf n f).length = n := by simp [toksOf]
theorem tok_isTok {l : List PV} (h : isTok l = true) : l = [.lit (.int .u8 (tokOf l).1), .lit (.string (tokOf l).2)] := by
  unfold isTok at h
  split at h
  · rfl
  · cases h
theorem toks_row {n : Nat} {f : Nat → List PV} (h : areToks n f = true) (i : Nat) (hi : i < n) : f i = tRow (toksOf n f) i := by
  have h1 := List.all_eq_true.1 h i (List.mem_range.2 hi)
  have h2 : tok (toksOf n f) i = tokOf (f i) := by simp [tok, toksOf, hi]
  unfold tRow
  rw [h2]
  exact tok_isTok h1
theorem toks_tRow (ts : List (Int × ByteArray)) : toksOf ts.length (tRow ts) = ts := by
  unfold toksOf
  refine List.ext_getElem (by simp) fun i h1 h2 => ?_
  simp [tRow, tokOf, tok, h2]
theorem are_tRow (n : Nat) (ts : List (Int × ByteArray)) : areToks n (tRow ts) = true := by
  unfold areToks
  rw [List.all_eq_true]
  intro i _
  rfl
section
variable {m : Int} {t : TypeId} {fr : Nat × Nat}
def beginsG : List PV → Tr PV
  | [] => .leaf (bool true)
  | _ => .fail
theorem begins_ok : PureOK Tryz.prog (GG m t fr) 19 beginsG := by
  refine PureOK.of (fn_pure mixed E1_ok (envOf_cuts ..) (fn := Tryz.f19) (by kernel_rfl)) fun ps p hp => ?_
  unfold beginsG at hp
  split at hp
  · simp only [Tr.run, Option.some.injEq] at hp
    subst hp
    exact ⟨_, Tr.run_of (begins_raw m t fr) rfl, PLe.of_eq rfl⟩
  · cases hp
/-- lex.Tokens of words -/
def tokWG : List PV → Tr PV
  | [.lit (.string s)] => .br (okS s && (wordsB (ls s) && Nat.ble (wT (ls s)).length 4096)) (.leaf (.tup [.gsl 2 (wT (ls s)).length (tRow (wT (ls s))), int 0])) .fail
  | _ => .fail
theorem tokWG_ok : PureOK Tryz.prog (GG m t fr) 20 tokWG := by
  refine PureOK.of (fn_cuts mixed Ely_ok (fn := Tryz.f20) (cuts := cut1 0 (twCut (GG m t fr))) (by kernel_rfl) (CutLaws.one (by omega) (by kernel_rfl) fun st e st' h => cutOf_ok Ely_ok mixed (noCuts_ok (envOf_cuts ..) _) twF_ok h)) fun ps p hp => ?_
  unfold tokWG at hp
  split at hp
  · rename_i s
    obtain ⟨hc, hp⟩ := br_run hp
    simp only [Bool.and_eq_true] at hc
    obtain ⟨hs, hw, hn⟩ := hc
    simp only [Tr.run, Option.some.injEq] at hp
    subst hp
    have h := tokw_raw m t fr s
    have e : blS (ls s) = ls s := by
      cases hq : splitC 32 (ls s) with
      | nil => exact absurd hq (splitC_ne 32 (ls s))
      | cons a r =>
        have ha : wordOK a = true := List.all_eq_true.1 hw a (by rw [hq]; simp)
        obtain ⟨c, q, e1, e2⟩ := join_head (r := r) ha
        rw [← hq, joinC_splitC] at e1
        rw [e1, bl_word e2]
    have hn' := Nat.le_of_ble_eq_true hn
    rw [e, bs_ls, hs, hw, decide_eq_false (show ¬ (((wT (ls s)).length : Nat) : Int) > 4096 by omega)] at h
    exact ⟨_, Tr.run_of h rfl, PLe.of_eq rfl⟩
  · cases hp
def pE (v : List UInt8) : Int := bif areS v then (bif Nat.ble (spansS v).length 1024 then 0 else 15) else 7
def parseN3 : List PV → Tr PV
  | [.lit (.string s)] => .br (okS s) (.leaf (.tup [.gsl 2 (rdL (ls s)).length (sRow (rdL (ls s))), int (pE (ls s))])) .fail
  | _ => .fail
theorem parseN3_ok : PureOK Tryz.prog (GG m t fr) 21 parseN3 := by
  refine PureOK.of parse_ok fun ps p hp => ?_
  unfold parseN3 at hp
  split at hp
  · rename_i s
    obtain ⟨hs, hp⟩ := br_run hp
    simp only [Tr.run, Option.some.injEq] at hp
    subst hp
    unfold parseG
    simp only [Tr.run]
    rw [hs]
    have no : ∀ x : PV, PLe (.tup [.lit (.slice none 0 0), x]) (.tup [.gsl 2 ([] : List Sp).length (sRow []), x]) := fun x => PLe.tup (PLeL.cons (PLe.nil 2 _) (PLeL.refl _))
    unfold rdL pE
    cases areS (ls s) with
    | true =>
      cases Nat.ble (spansS (ls s)).length 1024 with
      | true => exact ⟨_, rfl, .refl _⟩
      | false => exact ⟨_, rfl, no _⟩
    | false => exact ⟨_, rfl, no _⟩
  · cases hp
def tpTop : List (Nat × (List PV → Tr PV)) := (19, beginsG) :: (20, tokWG) :: (21, parseN3) :: (22, s1G) :: (23, onG) :: (18, cntG) :: trPure
theorem tpTop_ok {m : Int} {t : TypeId} {fr : Nat × Nat} : TabOK Tryz.prog (GG m t fr) tpTop := (TabOK.cons begins_ok (fn := Tryz.f19) (by kernel_rfl) (by kernel_rfl) (TabOK.cons tokWG_ok (fn := Tryz.f20) (by kernel_rfl) (by kernel_rfl) (TabOK.cons parseN3_ok (fn := Tryz.f21) (by kernel_rfl) (by kernel_rfl) (TabOK.cons sm_ok (fn := Tryz.f22) (by kernel_rfl) (by kernel_rfl) (TabOK.cons only_ok (fn := Tryz.f23) (by kernel_rfl) (by kernel_rfl) (TabOK.cons cnnt_ok (fn := Tryz.f18) (by kernel_rfl) (by kernel_rfl) trPure_ok))))))
noncomputable abbrev Etp (G : GT) : Env := envOf Tryz.prog G tpTop tlFull
theorem Etp_ok : (Etp (GG m t fr)).ok Tryz.prog (GG m t fr) := envOf_ok mixed tpTop_ok tlFull_ok
def lwOutsT : Exit → Outs
  | .normal => { ks := [0, 7, 9] }
  | .exit _ => { ks := [0, 7] }
  | _ => { ks := [2] }
noncomputable abbrev tpRound (G : GT) := roundT Tryz.prog (Etp G) 60 G 112 lwOutsT .normal (theLoop 0 Tryz.f5)
theorem tp_round (m : Int) (t : TypeId) (fr : Nat × Nat) (ns : List Int) (ts : List (Int × ByteArray)) (n k : Nat) (i : Int) : (tpRound (GG m t fr) ([.gsl 1 n (nRow ns), .gsl 2 k (tRow ts), int i], [])).run2 =
 (bif (decide (i < ((k : Nat) : Int))) then
 bif (bne (wdE (ls (Prod.snd (tok ts (Int.toNat i))))) (0 : Int)) then
 (.some ((.ret, ([(.lit (.bool false))], [])), [(okS (Prod.snd (tok ts (Int.toNat i)))), ((decide ((0 : Int) ≤ i)) && (Nat.blt (Int.toNat i) k))]))
 else bif (bne (wdV (ls (Prod.snd (tok ts (Int.toNat i))))) (4 : Int)) then
 (.some ((.normal, ([(.gsl 1 n (nRow ns)), (.gsl 2 k (tRow ts)), (.lit (.int .i64 (IntKind.wrap .i64 (i + (2 : Int)))))], [])), [(okS (Prod.snd (tok ts (Int.toNat i)))), ((decide ((0 : Int) ≤ i)) && (Nat.blt (Int.toNat i) k))]))
 else bif (bne (pE (ls (Prod.snd (tok ts (Int.toNat (IntKind.wrap .i64 (i + (1 : Int)))))))) (0 : Int)) then
 (.some ((.ret, ([(.lit (.bool false))], [])), [true, true, true, true, (okS (Prod.snd (tok ts (Int.toNat (IntKind.wrap .i64 (i + (1 : Int))))))), (okS (Prod.snd (tok ts (Int.toNat (IntKind.wrap .i64 (i + (1 : Int))))))), ((decide ((0 : Int) ≤ (IntKind.wrap .i64 (i + (1 : Int))))) && (Nat.blt (Int.toNat (IntKind.wrap .i64 (i + (1 : Int)))) k)), (okS (Prod.snd (tok ts (Int.toNat i)))), ((decide ((0 : Int) ≤ i)) && (Nat.blt (Int.toNat i) k))]))
 else bif (!(decide ((numsOf (List.length (onS (0 : Int) (spsOf (List.length (rdL (ls (Prod.snd (tok ts (Int.toNat (IntKind.wrap .i64 (i + (1 : Int))))))))) (sRow (rdL (ls (Prod.snd (tok ts (Int.toNat (IntKind.wrap .i64 (i + (1 : Int)))))))))) (numsOf n (nRow ns)) [])) (nRow (onS (0 : Int) (spsOf (List.length (rdL (ls (Prod.snd (tok ts (Int.toNat (IntKind.wrap .i64 (i + (1 : Int))))))))) (sRow (rdL (ls (Prod.snd (tok ts (Int.toNat (IntKind.wrap .i64 (i + (1 : Int)))))))))) (numsOf n (nRow ns)) []))) = (numsOf n (nRow ns))))) then
 (.some ((.ret, ([(.lit (.bool false))], [])), [(((areNums (List.length (onS (0 : Int) (spsOf (List.length (rdL (ls (Prod.snd (tok ts (Int.toNat (IntKind.wrap .i64 (i + (1 : Int))))))))) (sRow (rdL (ls (Prod.snd (tok ts (Int.toNat (IntKind.wrap .i64 (i + (1 : Int)))))))))) (numsOf n (nRow ns)) [])) (nRow (onS (0 : Int) (spsOf (List.length (rdL (ls (Prod.snd (tok ts (Int.toNat (IntKind.wrap .i64 (i + (1 : Int))))))))) (sRow (rdL (ls (Prod.snd (tok ts (Int.toNat (IntKind.wrap .i64 (i + (1 : Int)))))))))) (numsOf n (nRow ns)) []))) && (areNums n (nRow ns))) && (Nat.ble (List.length (onS (0 : Int) (spsOf (List.length (rdL (ls (Prod.snd (tok ts (Int.toNat (IntKind.wrap .i64 (i + (1 : Int))))))))) (sRow (rdL (ls (Prod.snd (tok ts (Int.toNat (IntKind.wrap .i64 (i + (1 : Int)))))))))) (numsOf n (nRow ns)) [])) (4294967280 : Nat))), (((((areSps (List.length (rdL (ls (Prod.snd (tok ts (Int.toNat (IntKind.wrap .i64 (i + (1 : Int))))))))) (sRow (rdL (ls (Prod.snd (tok ts (Int.toNat (IntKind.wrap .i64 (i + (1 : Int)))))))))) && (Nat.ble (List.length (rdL (ls (Prod.snd (tok ts (Int.toNat (IntKind.wrap .i64 (i + (1 : Int))))))))) (4294967280 : Nat))) && true) && (areNums n (nRow ns))) && (Nat.ble n (4294967280 : Nat))), (((((areSps (List.length (rdL (ls (Prod.snd (tok ts (Int.toNat (IntKind.wrap .i64 (i + (1 : Int))))))))) (sRow (rdL (ls (Prod.snd (tok ts (Int.toNat (IntKind.wrap .i64 (i + (1 : Int)))))))))) && (Nat.ble (List.length (rdL (ls (Prod.snd (tok ts (Int.toNat (IntKind.wrap .i64 (i + (1 : Int))))))))) (4294967280 : Nat))) && true) && (areNums n (nRow ns))) && (Nat.ble n (4294967280 : Nat))), (okS (Prod.snd (tok ts (Int.toNat (IntKind.wrap .i64 (i + (1 : Int))))))), (okS (Prod.snd (tok ts (Int.toNat (IntKind.wrap .i64 (i + (1 : Int))))))), ((decide ((0 : Int) ≤ (IntKind.wrap .i64 (i + (1 : Int))))) && (Nat.blt (Int.toNat (IntKind.wrap .i64 (i + (1 : Int)))) k)), (okS (Prod.snd (tok ts (Int.toNat i)))), ((decide ((0 : Int) ≤ i)) && (Nat.blt (Int.toNat i) k))]))
 else bif (bne (srtE (spsOf (List.length (rdL (ls (Prod.snd (tok ts (Int.toNat (IntKind.wrap .i64 (i + (1 : Int))))))))) (sRow (rdL (ls (Prod.snd (tok ts (Int.toNat (IntKind.wrap .i64 (i + (1 : Int))))))))))) (0 : Int)) then
 (.some ((.ret, ([(.lit (.bool false))], [])), [true, true, true, true, (((areSps (List.length (rdL (ls (Prod.snd (tok ts (Int.toNat (IntKind.wrap .i64 (i + (1 : Int))))))))) (sRow (rdL (ls (Prod.snd (tok ts (Int.toNat (IntKind.wrap .i64 (i + (1 : Int)))))))))) && (Nat.ble (List.length (rdL (ls (Prod.snd (tok ts (Int.toNat (IntKind.wrap .i64 (i + (1 : Int))))))))) (4294967280 : Nat))) && true), (((areNums (List.length (onS (0 : Int) (spsOf (List.length (rdL (ls (Prod.snd (tok ts (Int.toNat (IntKind.wrap .i64 (i + (1 : Int))))))))) (sRow (rdL (ls (Prod.snd (tok ts (Int.toNat (IntKind.wrap .i64 (i + (1 : Int)))))))))) (numsOf n (nRow ns)) [])) (nRow (onS (0 : Int) (spsOf (List.length (rdL (ls (Prod.snd (tok ts (Int.toNat (IntKind.wrap .i64 (i + (1 : Int))))))))) (sRow (rdL (ls (Prod.snd (tok ts (Int.toNat (IntKind.wrap .i64 (i + (1 : Int)))))))))) (numsOf n (nRow ns)) []))) && (areNums n (nRow ns))) && (Nat.ble (List.length (onS (0 : Int) (spsOf (List.length (rdL (ls (Prod.snd (tok ts (Int.toNat (IntKind.wrap .i64 (i + (1 : Int))))))))) (sRow (rdL (ls (Prod.snd (tok ts (Int.toNat (IntKind.wrap .i64 (i + (1 : Int)))))))))) (numsOf n (nRow ns)) [])) (4294967280 : Nat))), (((((areSps (List.length (rdL (ls (Prod.snd (tok ts (Int.toNat (IntKind.wrap .i64 (i + (1 : Int))))))))) (sRow (rdL (ls (Prod.snd (tok ts (Int.toNat (IntKind.wrap .i64 (i + (1 : Int)))))))))) && (Nat.ble (List.length (rdL (ls (Prod.snd (tok ts (Int.toNat (IntKind.wrap .i64 (i + (1 : Int))))))))) (4294967280 : Nat))) && true) && (areNums n (nRow ns))) && (Nat.ble n (4294967280 : Nat))), (((((areSps (List.length (rdL (ls (Prod.snd (tok ts (Int.toNat (IntKind.wrap .i64 (i + (1 : Int))))))))) (sRow (rdL (ls (Prod.snd (tok ts (Int.toNat (IntKind.wrap .i64 (i + (1 : Int)))))))))) && (Nat.ble (List.length (rdL (ls (Prod.snd (tok ts (Int.toNat (IntKind.wrap .i64 (i + (1 : Int))))))))) (4294967280 : Nat))) && true) && (areNums n (nRow ns))) && (Nat.ble n (4294967280 : Nat))), (okS (Prod.snd (tok ts (Int.toNat (IntKind.wrap .i64 (i + (1 : Int))))))), (okS (Prod.snd (tok ts (Int.toNat (IntKind.wrap .i64 (i + (1 : Int))))))), ((decide ((0 : Int) ≤ (IntKind.wrap .i64 (i + (1 : Int))))) && (Nat.blt (Int.toNat (IntKind.wrap .i64 (i + (1 : Int)))) k)), (okS (Prod.snd (tok ts (Int.toNat i)))), ((decide ((0 : Int) ≤ i)) && (Nat.blt (Int.toNat i) k))]))
 else bif (bne (cnS (srtR (0 : Int) (spsOf (List.length (rdL (ls (Prod.snd (tok ts (Int.toNat (IntKind.wrap .i64 (i + (1 : Int))))))))) (sRow (rdL (ls (Prod.snd (tok ts (Int.toNat (IntKind.wrap .i64 (i + (1 : Int))))))))))) (0 : Int)) (IntKind.wrap .u64 ((n : Nat) : Int))) then
 (.some ((.ret, ([(.lit (.bool false))], [])), [(((areSps (List.length (rdL (ls (Prod.snd (tok ts (Int.toNat (IntKind.wrap .i64 (i + (1 : Int))))))))) (sRow (rdL (ls (Prod.snd (tok ts (Int.toNat (IntKind.wrap .i64 (i + (1 : Int)))))))))) && (Nat.ble (List.length (rdL (ls (Prod.snd (tok ts (Int.toNat (IntKind.wrap .i64 (i + (1 : Int))))))))) (4294967280 : Nat))) && true), (((areNums (List.length (onS (0 : Int) (spsOf (List.length (rdL (ls (Prod.snd (tok ts (Int.toNat (IntKind.wrap .i64 (i + (1 : Int))))))))) (sRow (rdL (ls (Prod.snd (tok ts (Int.toNat (IntKind.wrap .i64 (i + (1 : Int)))))))))) (numsOf n (nRow ns)) [])) (nRow (onS (0 : Int) (spsOf (List.length (rdL (ls (Prod.snd (tok ts (Int.toNat (IntKind.wrap .i64 (i + (1 : Int))))))))) (sRow (rdL (ls (Prod.snd (tok ts (Int.toNat (IntKind.wrap .i64 (i + (1 : Int)))))))))) (numsOf n (nRow ns)) []))) && (areNums n (nRow ns))) && (Nat.ble (List.length (onS (0 : Int) (spsOf (List.length (rdL (ls (Prod.snd (tok ts (Int.toNat (IntKind.wrap .i64 (i + (1 : Int))))))))) (sRow (rdL (ls (Prod.snd (tok ts (Int.toNat (IntKind.wrap .i64 (i + (1 : Int)))))))))) (numsOf n (nRow ns)) [])) (4294967280 : Nat))), (((((areSps (List.length (rdL (ls (Prod.snd (tok ts (Int.toNat (IntKind.wrap .i64 (i + (1 : Int))))))))) (sRow (rdL (ls (Prod.snd (tok ts (Int.toNat (IntKind.wrap .i64 (i + (1 : Int)))))))))) && (Nat.ble (List.length (rdL (ls (Prod.snd (tok ts (Int.toNat (IntKind.wrap .i64 (i + (1 : Int))))))))) (4294967280 : Nat))) && true) && (areNums n (nRow ns))) && (Nat.ble n (4294967280 : Nat))), (((((areSps (List.length (rdL (ls (Prod.snd (tok ts (Int.toNat (IntKind.wrap .i64 (i + (1 : Int))))))))) (sRow (rdL (ls (Prod.snd (tok ts (Int.toNat (IntKind.wrap .i64 (i + (1 : Int)))))))))) && (Nat.ble (List.length (rdL (ls (Prod.snd (tok ts (Int.toNat (IntKind.wrap .i64 (i + (1 : Int))))))))) (4294967280 : Nat))) && true) && (areNums n (nRow ns))) && (Nat.ble n (4294967280 : Nat))), (okS (Prod.snd (tok ts (Int.toNat (IntKind.wrap .i64 (i + (1 : Int))))))), (okS (Prod.snd (tok ts (Int.toNat (IntKind.wrap .i64 (i + (1 : Int))))))), ((decide ((0 : Int) ≤ (IntKind.wrap .i64 (i + (1 : Int))))) && (Nat.blt (Int.toNat (IntKind.wrap .i64 (i + (1 : Int)))) k)), (okS (Prod.snd (tok ts (Int.toNat i)))), ((decide ((0 : Int) ≤ i)) && (Nat.blt (Int.toNat i) k))]))
 else (.some ((.normal, ([(.gsl 1 n (nRow ns)), (.gsl 2 k (tRow ts)), (.lit (.int .i64 (IntKind.wrap .i64 (i + (2 : Int)))))], [])), [(((areSps (List.length (rdL (ls (Prod.snd (tok ts (Int.toNat (IntKind.wrap .i64 (i + (1 : Int))))))))) (sRow (rdL (ls (Prod.snd (tok ts (Int.toNat (IntKind.wrap .i64 (i + (1 : Int)))))))))) && (Nat.ble (List.length (rdL (ls (Prod.snd (tok ts (Int.toNat (IntKind.wrap .i64 (i + (1 : Int))))))))) (4294967280 : Nat))) && true), (((areNums (List.length (onS (0 : Int) (spsOf (List.length (rdL (ls (Prod.snd (tok ts (Int.toNat (IntKind.wrap .i64 (i + (1 : Int))))))))) (sRow (rdL (ls (Prod.snd (tok ts (Int.toNat (IntKind.wrap .i64 (i + (1 : Int)))))))))) (numsOf n (nRow ns)) [])) (nRow (onS (0 : Int) (spsOf (List.length (rdL (ls (Prod.snd (tok ts (Int.toNat (IntKind.wrap .i64 (i + (1 : Int))))))))) (sRow (rdL (ls (Prod.snd (tok ts (Int.toNat (IntKind.wrap .i64 (i + (1 : Int)))))))))) (numsOf n (nRow ns)) []))) && (areNums n (nRow ns))) && (Nat.ble (List.length (onS (0 : Int) (spsOf (List.length (rdL (ls (Prod.snd (tok ts (Int.toNat (IntKind.wrap .i64 (i + (1 : Int))))))))) (sRow (rdL (ls (Prod.snd (tok ts (Int.toNat (IntKind.wrap .i64 (i + (1 : Int)))))))))) (numsOf n (nRow ns)) [])) (4294967280 : Nat))), (((((areSps (List.length (rdL (ls (Prod.snd (tok ts (Int.toNat (IntKind.wrap .i64 (i + (1 : Int))))))))) (sRow (rdL (ls (Prod.snd (tok ts (Int.toNat (IntKind.wrap .i64 (i + (1 : Int)))))))))) && (Nat.ble (List.length (rdL (ls (Prod.snd (tok ts (Int.toNat (IntKind.wrap .i64 (i + (1 : Int))))))))) (4294967280 : Nat))) && true) && (areNums n (nRow ns))) && (Nat.ble n (4294967280 : Nat))), (((((areSps (List.length (rdL (ls (Prod.snd (tok ts (Int.toNat (IntKind.wrap .i64 (i + (1 : Int))))))))) (sRow (rdL (ls (Prod.snd (tok ts (Int.toNat (IntKind.wrap .i64 (i + (1 : Int)))))))))) && (Nat.ble (List.length (rdL (ls (Prod.snd (tok ts (Int.toNat (IntKind.wrap .i64 (i + (1 : Int))))))))) (4294967280 : Nat))) && true) && (areNums n (nRow ns))) && (Nat.ble n (4294967280 : Nat))), (okS (Prod.snd (tok ts (Int.toNat (IntKind.wrap .i64 (i + (1 : Int))))))), (okS (Prod.snd (tok ts (Int.toNat (IntKind.wrap .i64 (i + (1 : Int))))))), ((decide ((0 : Int) ≤ (IntKind.wrap .i64 (i + (1 : Int))))) && (Nat.blt (Int.toNat (IntKind.wrap .i64 (i + (1 : Int)))) k)), (okS (Prod.snd (tok ts (Int.toNat i)))), ((decide ((0 : Int) ≤ i)) && (Nat.blt (Int.toNat i) k))]))
 else (.some (((.exit 0), ([(.gsl 1 n (nRow ns)), (.gsl 2 k (tRow ts))], [])), [])) : Option ((Exit × Kept) × List Bool)) := by
  kernel_rfl
end
end Go.Proofs.YtcdghinmmhcfcaaGreatDoor.Ev

/- TopTallied: the loop, and the law as evaluated. No condition. -/
namespace Go.Proofs.YtcdghinmmhcfcaaGreatDoor.Ev
open Go Go.RowKit Go.Proofs Go.Proofs.YtcdghinmmhcfcaaGreatDoor.Str
set_option linter.unusedVariables false
set_option linter.unusedSimpArgs false
/-- a set's text tells these numbers -/
def setOK (ns : List Int) (v : List UInt8) : Bool := pE v == 0 && (decide (onS 0 (rdL v) ns [] = ns) && (srtE (rdL v) == 0 && cnS (srtR 0 (rdL v)) 0 == (ns.length : Int)))
def pairsB (ns : List Int) : List (Int × ByteArray) → Bool
  | a :: v :: r => okS a.2 && okS v.2 && (wdE (ls a.2) == 0 && (bne (wdV (ls a.2)) 4 || setOK ns (ls v.2)) && pairsB ns r)
  | [] => true
  | [_] => false
section
variable {m : Int} {t : TypeId} {fr : Nat × Nat}
def tpIn (ns : List Int) (ts : List (Int × ByteArray)) (i : Nat) : Kept := ([.gsl 1 ns.length (nRow ns), .gsl 2 ts.length (tRow ts), int i], [])
def tpEnd (ns : List Int) (ts : List (Int × ByteArray)) : Kept := ([.gsl 1 ns.length (nRow ns), .gsl 2 ts.length (tRow ts)], [])
theorem tp_LR (ns : List Int) (hu : ns.all u32N = true) (hn : ns.length ≤ 4294967280) (ts : List (Int × ByteArray)) (hk : ts.length ≤ 4294967280) : ∀ (r : List (Int × ByteArray)) (i : Nat), ts.drop i = r → pairsB ns r = true →
    LR Tryz.prog (Etp (GG m t fr)) 60 (GG m t fr) 112 lwOutsT .normal (theLoop 0 Tryz.f5) (tpIn ns ts i) (.exit 0) (tpEnd ns ts)
  | [], i, hr, hp => by
    have h := tp_round m t fr ns ts ns.length ts.length i
    have hlen := List.drop_eq_nil_iff.1 hr
    have hd : decide ((i : Int) < (ts.length : Int)) = false := by simp; omega
    rw [hd] at h
    exact .last (Tr.run_of h rfl) (by simp) (by simp)
  | [_], i, hr, hp => by cases hp
  | a :: v :: r, i, hr, hp => by
    have h := tp_round m t fr ns ts ns.length ts.length i
    obtain ⟨h1, h2, h3⟩ := tok_drop hr
    obtain ⟨k1, k2, k3⟩ := tok_drop h3
    unfold pairsB at hp
    simp only [Bool.and_eq_true] at hp
    obtain ⟨⟨oa, ov⟩, ⟨pa, pb⟩, pr⟩ := hp
    have ih := tp_LR ns hu hn ts hk r (i + 1 + 1) k3 pr
    have hd : decide ((i : Int) < (ts.length : Int)) = true := by simp; omega
    have hw : IntKind.i64.wrap ((i : Int) + 1) = ((i + 1 : Nat) : Int) := wrap_succ (by omega)
    have hw2 : IntKind.i64.wrap ((i : Int) + 2) = ((i + 1 + 1 : Nat) : Int) := by
      have e : (i : Int) + 2 = ((i + 1 + 1 : Nat) : Int) := by omega
      rw [e]
      exact wrap_nat (by omega)
    have b1 : Nat.blt i ts.length = true := by rw [Nat.blt_eq]; exact h1
    have b2 : Nat.blt (i + 1) ts.length = true := by rw [Nat.blt_eq]; exact k1
    have b3 : ∀ k : Nat, decide ((0 : Int) ≤ (k : Int)) = true := fun k => by simp
    have ea : bne (wdE (ls a.2)) 0 = false := by unfold bne; rw [pa]; rfl
    simp only [hd, hw, hw2, Int.toNat_natCast, h2, k2, b1, b2, b3, oa, ov, ea, nums_nRow, sps_sRow] at h
    cases c : bne (wdV (ls a.2)) 4 with
    | true =>
      rw [c] at h
      exact .more (Tr.run_of h rfl) ih
    | false =>
      rw [c] at h pb
      rw [Bool.false_or] at pb
      unfold setOK at pb
      simp only [Bool.and_eq_true, decide_eq_true_eq] at pb
      obtain ⟨q1, q2, q3, q4⟩ := pb
      have e1 : bne (pE (ls v.2)) 0 = false := by unfold bne; rw [q1]; rfl
      have e3 : bne (srtE (rdL (ls v.2))) 0 = false := by unfold bne; rw [q3]; rfl
      have ew : IntKind.u64.wrap ((ns.length : Nat) : Int) = ((ns.length : Nat) : Int) := wrap_u64 (by omega)
      have e4 : bne (cnS (srtR 0 (rdL (ls v.2))) 0) ((ns.length : Nat) : Int) = false := by unfold bne; rw [q4]; rfl
      have e5 : Nat.ble (rdL (ls v.2)).length 4294967280 = true := by
        refine Nat.ble_eq_true_of_le ?_
        unfold rdL
        cases hc : (areS (ls v.2) && Nat.ble (spansS (ls v.2)).length 1024) with
        | true =>
          simp only [Bool.and_eq_true, Nat.ble_eq] at hc
          rw [cond_true]
          omega
        | false => simp
      have e6 : Nat.ble ns.length 4294967280 = true := Nat.ble_eq_true_of_le hn
      simp only [e1, q2, nums_nRow, e3, ew, e4, e5, e6, are_sRow (rdL_u32 (ls v.2)), are_nRow hu, decide_true, Bool.not_true, Bool.and_self, Bool.and_true] at h
      exact .more (Tr.run_of h (by simp)) ih
def tpF : Kept → Tr (Exit × Kept)
  | ([.gsl 1 n f, .gsl 2 k g, .lit (.int .i64 0)], []) => .br (areNums n f && Nat.ble n 4294967280 && (areToks k g && Nat.ble k 4294967280 && pairsB (numsOf n f) (toksOf k g))) (.leaf (.exit 0, ([.gsl 1 n (nRow (numsOf n f)), .gsl 2 k (tRow (toksOf k g))], []))) .fail
  | _ => .fail
theorem tpF_ok (x : Kept) (e : Exit) (y : Kept) (h : (tpF x).run = some (e, y)) : LR Tryz.prog (Etp (GG m t fr)) 60 (GG m t fr) 112 lwOutsT .normal (theLoop 0 Tryz.f5) x e y := by
  unfold tpF at h
  split at h
  · rename_i n f k g
    have hb := br_run h
    clear h
    obtain ⟨hc, h⟩ := hb
    simp only [Bool.and_eq_true, Nat.ble_eq] at hc
    obtain ⟨⟨hf, hn⟩, ⟨hg, hk⟩, hp⟩ := hc
    simp only [Tr.run, Option.some.injEq, Prod.mk.injEq] at h
    obtain ⟨rfl, rfl⟩ := h
    have hL := nums_len n f
    have hT := toks_len k g
    have key := tp_LR (m := m) (t := t) (fr := fr) (numsOf n f) (nums_u32 hf) (by omega) (toksOf k g) (by omega) _ 0 rfl hp
    have hin : KLe ([.gsl 1 n f, .gsl 2 k g, int 0], []) (tpIn (numsOf n f) (toksOf k g) 0) :=
      ⟨PLeL.cons (PLe.gsl hL.symm (nums_row hf)) (PLeL.cons (PLe.gsl hT.symm (toks_row hg)) (.refl _)), .refl _⟩
    have hout : KLe (tpEnd (numsOf n f) (toksOf k g)) ([.gsl 1 n (nRow (numsOf n f)), .gsl 2 k (tRow (toksOf k g))], []) :=
      ⟨PLeL.cons (PLe.gsl hL fun _ _ => rfl) (PLeL.cons (PLe.gsl hT fun _ _ => rfl) .nil), .refl _⟩
    exact .le hin (.out key hout)
  · cases h
noncomputable abbrev tpCut (G : GT) := cutOf G 112 lwOutsT 0 tpF
theorem ttop_raw_v (m : Int) (t : TypeId) (fr : Nat × Nat) (n : Nat) (f : Nat → List PV) : ((fnPure Tryz.prog ((Etp (GG m t fr)).withCuts (cut1 0 (tpCut (GG m t fr)))) 60 Tryz.f5 (GG m t fr) [.gsl 1 n f])).val =
 (bif ((ofE (15 : Int) (numsOf n f)) == (0 : Int)) then
 bif ((ofE (15 : Int) (numsOf n f)) == (0 : Int)) then
 bif (ckP (15 : Int) (ofMany (15 : Int) (numsOf n f)) (ofLeast (15 : Int) (numsOf n f)) (ofMost (15 : Int) (numsOf n f)) (spsOf (List.length (ofL (15 : Int) (numsOf n f))) (sRow (ofL (15 : Int) (numsOf n f))))) then
 bif (bne (Int.tmod (((List.length (wT (twS (15 : Int) (ofMany (15 : Int) (numsOf n f)) (ofLeast (15 : Int) (numsOf n f)) (ofMost (15 : Int) (numsOf n f)) (spsOf (List.length (ofL (15 : Int) (numsOf n f))) (sRow (ofL (15 : Int) (numsOf n f))))))) : Nat) : Int) (2 : Int)) (0 : Int)) then
 (.some (.lit (.bool false)))
 else bif (decide ((((List.length (wT (twS (15 : Int) (ofMany (15 : Int) (numsOf n f)) (ofLeast (15 : Int) (numsOf n f)) (ofMost (15 : Int) (numsOf n f)) (spsOf (List.length (ofL (15 : Int) (numsOf n f))) (sRow (ofL (15 : Int) (numsOf n f))))))) : Nat) : Int) ≥ (2 : Int))) then
 (.some (.lit (.bool ((((n : Nat) : Int) == (0 : Int)) == ((((List.length (wT (twS (15 : Int) (ofMany (15 : Int) (numsOf n f)) (ofLeast (15 : Int) (numsOf n f)) (ofMost (15 : Int) (numsOf n f)) (spsOf (List.length (ofL (15 : Int) (numsOf n f))) (sRow (ofL (15 : Int) (numsOf n f))))))) : Nat) : Int) == (2 : Int))))))
 else (.some (.lit (.bool false)))
 else (.some (.lit (.bool false)))
 else bif (bne (ofE (15 : Int) (numsOf n f)) (0 : Int)) then
 (.some (.lit (.bool true)))
 else (.some (.lit (.bool false)))
 else bif (bne (ofE (15 : Int) (numsOf n f)) (0 : Int)) then
 (.some (.lit (.bool true)))
 else (.some (.lit (.bool false))) : Option PV) := by
  kernel_rfl
theorem ttop_raw_c (m : Int) (t : TypeId) (fr : Nat × Nat) (n : Nat) (f : Nat → List PV) : ((fnPure Tryz.prog ((Etp (GG m t fr)).withCuts (cut1 0 (tpCut (GG m t fr)))) 60 Tryz.f5 (GG m t fr) [.gsl 1 n f])).conds =
 (bif ((areNums n f) && (Nat.ble n (4294967280 : Nat))) then
 bif ((ofE (15 : Int) (numsOf n f)) == (0 : Int)) then
 bif ((areNums n f) && (Nat.ble n (4294967280 : Nat))) then
 bif ((ofE (15 : Int) (numsOf n f)) == (0 : Int)) then
 bif (tlB (15 : Int) (ofLeast (15 : Int) (numsOf n f)) (ofMost (15 : Int) (numsOf n f)) (List.length (ofL (15 : Int) (numsOf n f))) (sRow (ofL (15 : Int) (numsOf n f)))) then
 bif (ckP (15 : Int) (ofMany (15 : Int) (numsOf n f)) (ofLeast (15 : Int) (numsOf n f)) (ofMost (15 : Int) (numsOf n f)) (spsOf (List.length (ofL (15 : Int) (numsOf n f))) (sRow (ofL (15 : Int) (numsOf n f))))) then
 bif ((okS (bs (twS (15 : Int) (ofMany (15 : Int) (numsOf n f)) (ofLeast (15 : Int) (numsOf n f)) (ofMost (15 : Int) (numsOf n f)) (spsOf (List.length (ofL (15 : Int) (numsOf n f))) (sRow (ofL (15 : Int) (numsOf n f))))))) && ((wordsB (twS (15 : Int) (ofMany (15 : Int) (numsOf n f)) (ofLeast (15 : Int) (numsOf n f)) (ofMost (15 : Int) (numsOf n f)) (spsOf (List.length (ofL (15 : Int) (numsOf n f))) (sRow (ofL (15 : Int) (numsOf n f)))))) && (Nat.ble (List.length (wT (twS (15 : Int) (ofMany (15 : Int) (numsOf n f)) (ofLeast (15 : Int) (numsOf n f)) (ofMost (15 : Int) (numsOf n f)) (spsOf (List.length (ofL (15 : Int) (numsOf n f))) (sRow (ofL (15 : Int) (numsOf n f))))))) (4096 : Nat)))) then
 bif ((okS (bs (twS (15 : Int) (ofMany (15 : Int) (numsOf n f)) (ofLeast (15 : Int) (numsOf n f)) (ofMost (15 : Int) (numsOf n f)) (spsOf (List.length (ofL (15 : Int) (numsOf n f))) (sRow (ofL (15 : Int) (numsOf n f))))))) && ((wordsB (twS (15 : Int) (ofMany (15 : Int) (numsOf n f)) (ofLeast (15 : Int) (numsOf n f)) (ofMost (15 : Int) (numsOf n f)) (spsOf (List.length (ofL (15 : Int) (numsOf n f))) (sRow (ofL (15 : Int) (numsOf n f)))))) && (Nat.ble (List.length (wT (twS (15 : Int) (ofMany (15 : Int) (numsOf n f)) (ofLeast (15 : Int) (numsOf n f)) (ofMost (15 : Int) (numsOf n f)) (spsOf (List.length (ofL (15 : Int) (numsOf n f))) (sRow (ofL (15 : Int) (numsOf n f))))))) (4096 : Nat)))) then
 bif (bne (Int.tmod (((List.length (wT (twS (15 : Int) (ofMany (15 : Int) (numsOf n f)) (ofLeast (15 : Int) (numsOf n f)) (ofMost (15 : Int) (numsOf n f)) (spsOf (List.length (ofL (15 : Int) (numsOf n f))) (sRow (ofL (15 : Int) (numsOf n f))))))) : Nat) : Int) (2 : Int)) (0 : Int)) then
 true
 else bif (((areNums n f) && (Nat.ble n (4294967280 : Nat))) && (((areToks (List.length (wT (twS (15 : Int) (ofMany (15 : Int) (numsOf n f)) (ofLeast (15 : Int) (numsOf n f)) (ofMost (15 : Int) (numsOf n f)) (spsOf (List.length (ofL (15 : Int) (numsOf n f))) (sRow (ofL (15 : Int) (numsOf n f))))))) (tRow (wT (twS (15 : Int) (ofMany (15 : Int) (numsOf n f)) (ofLeast (15 : Int) (numsOf n f)) (ofMost (15 : Int) (numsOf n f)) (spsOf (List.length (ofL (15 : Int) (numsOf n f))) (sRow (ofL (15 : Int) (numsOf n f)))))))) && (Nat.ble (List.length (wT (twS (15 : Int) (ofMany (15 : Int) (numsOf n f)) (ofLeast (15 : Int) (numsOf n f)) (ofMost (15 : Int) (numsOf n f)) (spsOf (List.length (ofL (15 : Int) (numsOf n f))) (sRow (ofL (15 : Int) (numsOf n f))))))) (4294967280 : Nat))) && (pairsB (numsOf n f) (toksOf (List.length (wT (twS (15 : Int) (ofMany (15 : Int) (numsOf n f)) (ofLeast (15 : Int) (numsOf n f)) (ofMost (15 : Int) (numsOf n f)) (spsOf (List.length (ofL (15 : Int) (numsOf n f))) (sRow (ofL (15 : Int) (numsOf n f))))))) (tRow (wT (twS (15 : Int) (ofMany (15 : Int) (numsOf n f)) (ofLeast (15 : Int) (numsOf n f)) (ofMost (15 : Int) (numsOf n f)) (spsOf (List.length (ofL (15 : Int) (numsOf n f))) (sRow (ofL (15 : Int) (numsOf n f))))))))))) then
 bif (decide ((((List.length (wT (twS (15 : Int) (ofMany (15 : Int) (numsOf n f)) (ofLeast (15 : Int) (numsOf n f)) (ofMost (15 : Int) (numsOf n f)) (spsOf (List.length (ofL (15 : Int) (numsOf n f))) (sRow (ofL (15 : Int) (numsOf n f))))))) : Nat) : Int) ≥ (2 : Int))) then
 true
 else true
 else false
 else false
 else false
 else false
 else false
 else bif (bne (ofE (15 : Int) (numsOf n f)) (0 : Int)) then
 true
 else false
 else false
 else bif (bne (ofE (15 : Int) (numsOf n f)) (0 : Int)) then
 true
 else false
 else false : Bool) := by
  kernel_rfl
end
end Go.Proofs.YtcdghinmmhcfcaaGreatDoor.Ev

/- TopTallied, a law. No condition. -/
namespace Go.Proofs.YtcdghinmmhcfcaaGreatDoor.Ev
open Go Go.RowKit Go.Proofs Go.Proofs.YtcdghinmmhcfcaaGreatDoor.Str
set_option linter.unusedVariables false
set_option linter.unusedSimpArgs false
theorem lt_digit {c : UInt8} (h1 : 48 ≤ c.toNat) (h2 : c.toNat ≤ 57) : ltB c = true := by
  unfold ltB ltrI
  simp only [Bool.and_eq_true, Bool.not_eq_true', decide_eq_true_eq, beq_eq_false_iff_ne, ne_eq]
  omega
theorem all_join {p : UInt8 → Bool} {c : UInt8} (hc : p c = true) : ∀ (L : List (List UInt8)), (∀ x ∈ L, x.all p = true) → (joinC c L).all p = true
  | [], _ => rfl
  | [a], h => h a (by simp)
  | a :: b :: r, h => by
    rw [joinC, List.all_append, List.all_cons, h a (by simp), hc, all_join hc (b :: r) fun x hx => h x (List.mem_cons_of_mem _ hx)]
    rfl
theorem dec_word (n : Nat) : wordOK (Lib.decDigits n) = true := by
  unfold wordOK
  rw [decide_eq_false (dec_ne n), Bool.not_false, Bool.true_and]
  exact List.all_eq_true.2 fun c hc => lt_digit (dec_dig n c hc).1 (dec_dig n c hc).2
theorem wordS_lt (n : Int) : (wordS n).all ltB = true ∧ wordS n ≠ [] := by
  unfold wordS
  cases n == 0 with
  | true => exact ⟨by rw [cond_true]; decide, by simp⟩
  | false =>
    have := dec_word n.toNat
    unfold wordOK at this
    simp only [Bool.and_eq_true, Bool.not_eq_true', decide_eq_false_iff_not] at this
    exact ⟨this.2, this.1⟩
theorem oneS_lt (x : Sp) : (oneS x).all ltB = true ∧ oneS x ≠ [] := by
  unfold oneS
  obtain ⟨h1, h2⟩ := wordS_lt x.1
  obtain ⟨h3, h4⟩ := wordS_lt x.2
  refine ⟨?_, by simp [h2]⟩
  rw [List.all_append, h1]
  cases bne x.2 x.1 with
  | true =>
    rw [cond_true, List.all_cons, h3]
    decide
  | false => rfl
theorem write_word {l : List Sp} (h : l ≠ []) : wordOK (writeS l) = true := by
  unfold wordOK writeS
  have hall : (joinC 44 (l.map oneS)).all ltB = true := all_join (by decide) _ fun x hx => by
    obtain ⟨y, _, rfl⟩ := List.mem_map.1 hx
    exact (oneS_lt y).1
  rw [hall, Bool.and_true]
  cases l with
  | nil => exact absurd rfl h
  | cons x r =>
    have hx := (oneS_lt x).2
    have : joinC 44 ((x :: r).map oneS) ≠ [] := by
      cases r with
      | nil => simpa [joinC] using hx
      | cons y r => simp [joinC]
    rw [decide_eq_false this]
    rfl
theorem write_len {l : List Sp} (hu : l.all u32B = true) (hl : l.length ≤ 1024) : (writeS l).length ≤ 30000 := by
  have := joinC_le 44 21 (l.map oneS) (fun x hx => by
    obtain ⟨y, hy, rfl⟩ := List.mem_map.1 hx
    exact oneS_len (List.all_eq_true.1 hu y hy))
  rw [List.length_map] at this
  have h2 : (21 + 1) * l.length ≤ (21 + 1) * 1024 := Nat.mul_le_mul_left _ hl
  unfold writeS
  omega
theorem on_all {l : List Sp} : ∀ (s r : List Int), (∀ x ∈ s, hasS 0 x l = true) → onS 0 l s r = r ++ s
  | [], r, h => by simp [onS]
  | x :: s, r, h => by
    rw [onS, h x (by simp), cond_true, on_all s (r ++ [x]) fun y hy => h y (List.mem_cons_of_mem _ hy)]
    simp
theorem set_ok {ns : List Int} (hu : ns.all u32N = true) (hp : packE ns = 0) (hne : packR ns ≠ []) : setOK ns (writeS (packR ns)) = true := by
  have hU := packR_u32 (ns := ns) hu
  have hl := packE_len (ns := ns)
  obtain ⟨g1, g2⟩ := spans_fwd hU hne
  have e1 : pE (writeS (packR ns)) = 0 := by
    unfold pE
    rw [g1, g2, Nat.ble_eq_true_of_le hl]
    rfl
  have e2 : rdL (writeS (packR ns)) = packR ns := by
    unfold rdL
    rw [g1, g2, Nat.ble_eq_true_of_le hl]
    rfl
  obtain ⟨k1, k2, k3, _, k5, k6⟩ := pack_is hu hp 0
  unfold setOK
  rw [e1, e2, k5, k6, cnS_sum, k3]
  have : onS 0 (packR ns) ns [] = ns := by
    rw [on_all ns [] fun x hx => ?_]
    · simp
    · obtain ⟨_, _, _, k4, _, _⟩ := pack_is hu hp x
      rw [k4]
      exact List.contains_iff_mem.2 hx
  rw [this]
  simp
theorem words_of {L : List (List UInt8)} (hL : L ≠ []) (h : ∀ x ∈ L, wordOK x = true) : splitC 32 (joinC 32 L) = L :=
  split_join 32 L hL fun x hx hm => by
    have := h x hx
    unfold wordOK at this
    simp only [Bool.and_eq_true] at this
    have := List.all_eq_true.1 this.2 32 hm
    revert this
    decide
theorem tlB_of' {w : Int} {ns : List Int} (hw : 0 ≤ w ∧ w < 256) (hu : ns.all u32N = true) : tlB w (ofLeast w ns) (ofMost w ns) (ofL w ns).length (sRow (ofL w ns)) = true := by
  obtain ⟨k1, k2, k3⟩ := of_u32 (w := w) hu
  have hl : (ofL w ns).length ≤ 1024 := by
    unfold ofL
    cases ((ns.length : Nat) : Int) == 0
    · cases wb w 4
      · simp
      · exact packE_len
    · simp
  unfold tlB
  rw [decide_eq_true hw.1, decide_eq_true hw.2, k1, k2, are_sRow k3, Nat.ble_eq_true_of_le (Nat.le_trans hl (by decide))]
  rfl
/-- all numbers' words -/
theorem all_words {ns : List Int} (hu : ns.all u32N = true) (h : ofE 15 ns = 0) : ∃ L : List (List UInt8), twL 15 (ofMany 15 ns) (ofLeast 15 ns) (ofMost 15 ns) (ofL 15 ns) = L ∧ (∀ x ∈ L, wordOK x = true ∧ x.length ≤ 30000) ∧ pairsB ns (L.map tkA) = true ∧ (L.length = if ns.length = 0 then 2 else 8) := by
  have b1 : wb 15 1 = true := by decide +kernel
  have b2 : wb 15 2 = true := by decide +kernel
  have b4 : wb 15 4 = true := by decide +kernel
  have b8 : wb 15 8 = true := by decide +kernel
  obtain ⟨_, h0, _, hlen, hpk⟩ := of_all h
  have dl : ∀ x : Int, x < 4294967296 → (decI x).length ≤ 30000 := fun x hx => decI_len hx
  have ok : ∀ x : List UInt8, x.length ≤ 30000 → okS (bs x) = true := fun x hx => okS_of (by rw [bs_len]; omega)
  have fixed : (wordOK wMIN = true ∧ wMIN.length ≤ 30000) ∧ (wordOK wMAX = true ∧ wMAX.length ≤ 30000) ∧ (wordOK wALL = true ∧ wALL.length ≤ 30000) ∧ (wordOK wCOUNT = true ∧ wCOUNT.length ≤ 30000) := by decide
  obtain ⟨f1, f2, f3, f4⟩ := fixed
  have v1 : wdE wMIN = 0 ∧ wdV wMIN = 1 := by decide
  have v2 : wdE wMAX = 0 ∧ wdV wMAX = 2 := by decide
  have v3 : wdE wALL = 0 ∧ wdV wALL = 4 := by decide
  have v4 : wdE wCOUNT = 0 ∧ wdV wCOUNT = 8 := by decide
  have n8 : (bne (8 : Int) 4) = true := by decide
  have n1 : (bne (1 : Int) 4) = true := by decide
  have n2 : (bne (2 : Int) 4) = true := by decide
  have n4 : (bne (4 : Int) 4) = false := by decide
  have z0 : ((0 : Int) == 0) = true := rfl
  by_cases hz : ns.length = 0
  · have d0 : (((ns.length : Nat) : Int) == 0) = true := by rw [hz]; rfl
    refine ⟨[wCOUNT, decI (ns.length : Int)], ?_, ?_, ?_, ?_⟩
    · unfold twL ofMany ofLeast ofMost ofL
      rw [d0, b8]
      rfl
    · intro x hx
      simp only [List.mem_cons, List.not_mem_nil, or_false] at hx
      rcases hx with rfl | rfl
      · exact f4
      · exact ⟨dec_word _, dl _ (by omega)⟩
    · simp only [List.map_cons, List.map_nil, pairsB, tkA, ls_bs, ok _ f4.2, ok _ (dl ((ns.length : Nat) : Int) (by omega)), v4.1, v4.2, n8, z0, Bool.true_or, Bool.and_self]
    · rw [if_pos hz]; rfl
  · have d0 : (((ns.length : Nat) : Int) == 0) = false := by
      rw [beqD]
      exact decide_eq_false (by omega)
    have hp := hpk hz b4
    have p1 := nu_pos hu h0 (show 0 < ns.length by omega)
    have p2 := nu_pos hu h0 (show ns.length - 1 < ns.length by omega)
    have u1 := nu_u32 hu 0
    have u2 := nu_u32 hu (ns.length - 1)
    have pe := (pack_ends hp hz).1
    have hne : packR ns ≠ [] := fun e => by
      rw [e] at pe
      have : (sp [] 0).1 = 0 := rfl
      omega
    have pl := List.length_pos_iff.2 hne
    have hU := packR_u32 (ns := ns) hu
    have hl := packE_len (ns := ns)
    have wl := write_len hU hl
    refine ⟨[wMIN, decI (nu ns 0), wMAX, decI (nu ns (ns.length - 1)), wALL, writeS (packR ns), wCOUNT, decI (ns.length : Int)], ?_, ?_, ?_, ?_⟩
    · unfold twL ofMany ofLeast ofMost ofL
      rw [d0, b1, b2, b4, b8]
      simp only [cond_true, cond_false]
      rw [decide_eq_true (show nu ns 0 > 0 by omega), decide_eq_true (show nu ns (ns.length - 1) > 0 by omega), decide_eq_true (show (((packR ns).length : Nat) : Int) > 0 by omega)]
      rfl
    · intro x hx
      simp only [List.mem_cons, List.not_mem_nil, or_false] at hx
      rcases hx with rfl | rfl | rfl | rfl | rfl | rfl | rfl | rfl
      · exact f1
      · exact ⟨dec_word _, dl _ (by omega)⟩
      · exact f2
      · exact ⟨dec_word _, dl _ (by omega)⟩
      · exact f3
      · exact ⟨write_word hne, wl⟩
      · exact f4
      · exact ⟨dec_word _, dl _ (by omega)⟩
    · simp only [List.map_cons, List.map_nil, pairsB, tkA, ls_bs, ok _ f1.2, ok _ f2.2, ok _ f3.2, ok _ f4.2, ok _ wl, ok _ (dl (nu ns 0) (by omega)), ok _ (dl (nu ns (ns.length - 1)) (by omega)), ok _ (dl ((ns.length : Nat) : Int) (by omega)), v1.1, v1.2, v2.1, v2.2, v3.1, v3.2, v4.1, v4.2, n1, n2, n4, n8, z0, set_ok hu hp hne, Bool.true_or, Bool.or_true, Bool.and_self]
    · rw [if_neg hz]; rfl
section
variable {m : Int} {t : TypeId} {fr : Nat × Nat}
def ttopG : List PV → Tr PV
  | [.gsl 1 n f] => .br (areNums n f && Nat.ble n 4294967280) (.leaf (bool true)) .fail
  | _ => .fail
theorem ttop_ok : PureOK Tryz.prog (GG m t fr) 5 ttopG := by
  refine PureOK.of (fn_cuts mixed Etp_ok (fn := Tryz.f5) (cuts := cut1 0 (tpCut (GG m t fr))) (by kernel_rfl) (CutLaws.one (by omega) (by kernel_rfl) fun st e st' h => cutOf_ok Etp_ok mixed (noCuts_ok (envOf_cuts ..) _) tpF_ok h)) fun ps p hp => ?_
  unfold ttopG at hp
  split at hp
  · rename_i n f
    obtain ⟨hc0, hp⟩ := br_run hp
    simp only [Bool.and_eq_true] at hc0
    obtain ⟨hf, hn⟩ := hc0
    simp only [Tr.run, Option.some.injEq] at hp
    subst hp
    have hv := ttop_raw_v m t fr n f
    have hc := ttop_raw_c m t fr n f
    have hu := nums_u32 hf
    have hL := nums_len n f
    cases c : ofE 15 (numsOf n f) == 0 with
    | false =>
      have c' : bne (ofE 15 (numsOf n f)) 0 = true := by unfold bne; rw [c]; rfl
      rw [c, c'] at hv hc
      rw [hf, hn] at hc
      exact ⟨_, Tr.run_vc hv hc rfl rfl, PLe.of_eq rfl⟩
    | true =>
      have h0 : ofE 15 (numsOf n f) = 0 := by simpa using c
      obtain ⟨L, hW, hok, hpb, hln⟩ := all_words hu h0
      have hLne : L ≠ [] := fun e => by
        rw [e] at hln
        revert hln
        split <;> simp
      have hck : ckP 15 (ofMany 15 (numsOf n f)) (ofLeast 15 (numsOf n f)) (ofMost 15 (numsOf n f)) (ofL 15 (numsOf n f)) = true := of_check hu h0
      have hsplit := words_of hLne fun x hx => (hok x hx).1
      have hT : twS 15 (ofMany 15 (numsOf n f)) (ofLeast 15 (numsOf n f)) (ofMost 15 (numsOf n f)) (ofL 15 (numsOf n f)) = joinC 32 L := by
        unfold twS
        rw [hW]
      have hwT : wT (joinC 32 L) = L.map tkA := by unfold wT; rw [hsplit]
      have hwB : wordsB (joinC 32 L) = true := by
        unfold wordsB
        rw [hsplit]
        exact List.all_eq_true.2 fun x hx => (hok x hx).1
      have hL8 : L.length ≤ 8 := by rw [hln]; split <;> omega
      have hS : okS (bs (joinC 32 L)) = true := by
        refine okS_of ?_
        rw [bs_len]
        exact Nat.le_of_ble_eq_true (jn_le (fun x hx => (hok x hx).2) hL8)
      have hlm : (L.map tkA).length = L.length := List.length_map ..
      have hB := tlB_of' (w := 15) (by omega) hu
      have h4 : Nat.ble (L.map tkA).length 4096 = true := Nat.ble_eq_true_of_le (by omega)
      have h5 : Nat.ble (L.map tkA).length 4294967280 = true := Nat.ble_eq_true_of_le (by omega)
      have hmod : bne (Int.tmod (((L.map tkA).length : Nat) : Int) 2) 0 = false := by
        rw [hlm, hln]
        split <;> rfl
      have hge : decide ((((L.map tkA).length : Nat) : Int) ≥ 2) = true := by
        rw [hlm, hln]
        split <;> rfl
      have hend : ((((n : Nat) : Int) == 0) == ((((L.map tkA).length : Nat) : Int) == 2)) = true := by
        rw [hlm, hln, hL]
        by_cases hz : n = 0
        · rw [if_pos hz, hz]; rfl
        · rw [if_neg hz]
          have : (((n : Nat) : Int) == 0) = false := by
            rw [beqD]
            exact decide_eq_false (by omega)
          rw [this]
          rfl
      simp only [sps_sRow, hT, hwT] at hv hc
      rw [c, hck, hmod, hge, hend] at hv
      simp only [c, hck, hmod, hge, hf, hn, hB, hS, hwB, h4, h5, hpb, are_tRow, toks_tRow, Bool.and_self, cond_true, cond_false] at hc
      exact ⟨_, Tr.run_vc hv hc rfl rfl, PLe.of_eq rfl⟩
  · cases hp
def ttopSh : List ASh := [.one (.sl [.int .u32])]
theorem ttop_args {qs : List PV} (ha : areArgs ttopSh qs = true) (hb : argsBulk qs ≤ 1048576) : (ttopG qs).run = some (bool true) := by
  obtain ⟨q0, r0, rfl, h0, hr0⟩ := args_cons ha
  obtain rfl := args_nil hr0
  obtain ⟨k, g, rfl, hg⟩ := ak_sl h0
  have hb' : (((List.range k).map fun i => scsBulk (g i)).sum + 1) + 0 ≤ 1048576 := hb
  obtain ⟨o1, o2⟩ := nums_given hg (by omega)
  have o5 : Nat.ble k 4294967280 = true := Nat.ble_eq_true_of_le (by omega)
  show (Tr.br (areNums k g && Nat.ble k 4294967280) (.leaf (bool true)) .fail).run = some (bool true)
  rw [o1, o5]
  rfl
end
end Go.Proofs.YtcdghinmmhcfcaaGreatDoor.Ev

/- tally: what the variables hold, from what the rows list. Condition: the rows' own. -/
namespace Go.Proofs.YtcdghinmmhcfcaaGreatDoor.Ev
open Go Go.RowKit Go.Proofs Go.ChangeShapes Go.WideShapes Go.ChangeAt
theorem starX : "*" ++ "errors.errorString" = "*errors.errorString" := by decide
theorem rowErr (u : TypeId) (h : Tryz.prog.typeName? 3 u = some "*errors.errorString") : u = 207 :=
  typeName_ptr_named (P := Tryz.prog) (nm := "errors.errorString") (by rw [starX]; kernel_rfl) (by kernel_rfl) (by decide) u (by rw [starX]; exact h)
/-- A listed table of strings: its cells. -/
theorem strs_of_reads {P : Program} {W : World} {name : String} {zs : List (List UInt8)} {g : Nat} {t e : TypeId} {n : Nat}
    (hg : P.globalNamed name = some g) (hty : (P.globals[g]?).map (·.type) = some t) (ht : P.underlying t = some (.array n e)) (he : P.underlying e = some .string) (hce : P.cellsOf e = 1)
    (h : Lib.VarReads P W name (.agg (zs.map fun z => .lit (.string z)))) (i : Nat) (hi : i < zs.length) : W.cell? ⟨g, i, none⟩ = some (.string ⟨(zs.getD i []).toArray⟩) := by
  obtain ⟨g', t', cs, fuel, p, hg', ht', hvar, hd⟩ := h
  obtain rfl := Option.some.inj (hg.symm.trans hg')
  obtain rfl := Option.some.inj (hty.symm.trans ht')
  obtain ⟨xs, m, rfl, hx, hl, hxl, hall⟩ := DataW.trod_array ht hd
  have hxs : xs.map (·.1) = zs.map fun z => (DataW.lit (.string z) : DataW Unit) := by
    have := congrArg Prod.fst hx
    simpa using this.symm
  have hzl : zs.length = n := by
    have := congrArg List.length hxs
    simp at this
    omega
  obtain ⟨b, hb⟩ : ∃ b, xs[i]? = some b := ⟨xs[i]'(by omega), List.getElem?_eq_getElem (by omega)⟩
  have h1 := hall i (by omega)
  rw [hb, hce] at h1
  obtain ⟨s, hc, rfl, _⟩ := DataW.trod_string he h1
  have h2 : cs.toList[i]? = some (.string s) := by
    have := congrArg (·[0]?) hc
    simpa [List.getElem?_take, List.getElem?_drop] using this
  have h3 : (xs.map (·.1))[i]? = some (DataW.lit (.string s.data.toList) : DataW Unit) := by simp [hb]
  rw [hxs] at h3
  simp only [List.getElem?_map, Option.map_eq_some_iff, DataW.lit.injEq, Lit.string.injEq] at h3
  obtain ⟨z, hz, rfl⟩ := h3
  have h4 : zs.getD i [] = s.data.toList := by simp [List.getD, hz]
  have := World.var?_cell hg hvar i
  rw [this, h4]
  simpa using h2
theorem gptrN {C : Nat → Nat → Value → Prop} {m : Nat → Option Value} {g : Nat} {zs : List Value} (hc : ∀ i v, zs[i]? = some v → C g i v) (h1 : ∀ v, v ∈ zs → v.oneCell' = true) : Rep C m (.gptr (zs.map PV.lit)) (.pointer (some ⟨g, 0, none⟩)) := by
  refine .gptr m (zs.map PV.lit) g 0 (fun j => zs.getD j (.bool true)) (fun j hj => ?_) (fun j q hq => ?_)
  · have hj' : j < zs.length := by simpa using hj
    have e : zs[j]? = some (zs.getD j (.bool true)) := by simp [List.getD, hj']
    refine ⟨?_, h1 _ (List.mem_of_getElem? e)⟩
    have := hc j _ e
    simpa using this
  · rw [List.getElem?_map, Option.map_eq_some_iff] at hq
    obtain ⟨v, hv, rfl⟩ := hq
    have e : zs.getD j (.bool true) = v := by simp [List.getD, hv]
    rw [e]
    exact .lit _ _
theorem globsW {W : World} (hS : W.ShapedOpen Tryz.prog) (hL : laidMetH Tryz.prog Rows.topTalliedUptoRow.laid W) : ∃ m t fr, Globs (GG m t fr) (Held W) ∧ Objs (GG m t fr) W := by
  have hL2 := laid_plain (l := Rows.topTalliedUptoRow.laid) (by kernel_rfl) hL
  have hd : Rows.laid_internal_strconv_uint64pow10 = Lib.tabData (H := Unit) .u64 Lib.pow10Tab := by kernel_rfl
  have hT := tab_of_reads (g := 1) (t := 167) (e := 40) (n := 20) (by kernel_rfl) (by kernel_rfl) Tryz.underlying167 Tryz.underlying40 (by kernel_rfl) (by kernel_rfl) (hd ▸ Lib.laidMet.reads hL2 (.tail _ (.tail _ (.head _))))
  have hdW : (Rows.laid_missive_tally_words (H := Unit)) = .agg (([[77, 73, 78], [77, 65, 88], [65, 76, 76], [67, 79, 85, 78, 84]] : List (List UInt8)).map fun z => .lit (.string z)) := by kernel_rfl
  have hW := strs_of_reads (g := 0) (t := 61) (e := 9) (n := 4) (by kernel_rfl) (by kernel_rfl) Tryz.underlying61 Tryz.underlying9 (by kernel_rfl) (hdW ▸ Lib.laidMet.reads hL2 (.tail _ (.tail _ (.tail _ (.tail _ (.tail _ (.tail _ (.head _))))))))
  obtain ⟨m, hm⟩ := cell_of_shapedOpen_int (g := 2) (t := 3) (zero := #[.int .i64 0]) (k := .i64) hS (of_decide_eq_true (by kernel_rfl)) (by kernel_rfl) rfl (by kernel_rfl) (by kernel_rfl) Tryz.underlying3
  obtain ⟨a0, s0, hv0, -, -, -⟩ := laid_sentinel (hL2.tail.tail.tail.tail) (g := 4) (ti := 108) (tp := 207) (te := 209) (ts := 9) (by kernel_rfl) (by kernel_rfl) Tryz.underlying108 rowErr Tryz.underlying207 Tryz.underlying209 rfl rfl Tryz.underlying9 (by kernel_rfl) (by kernel_rfl)
  obtain ⟨a1, s1, hv1, -, -, -⟩ := laid_sentinel (hL2.tail.tail.tail.tail.tail) (g := 3) (ti := 108) (tp := 207) (te := 209) (ts := 9) (by kernel_rfl) (by kernel_rfl) Tryz.underlying108 rowErr Tryz.underlying207 Tryz.underlying209 rfl rfl Tryz.underlying9 (by kernel_rfl) (by kernel_rfl)
  have hc0 : Held W 4 0 (.iface 207 (.pointer (some a0))) := by
    have h0 := World.var?_cell (g := 4) (by kernel_rfl) hv0 0
    unfold Held
    simpa using h0
  have hc1 : Held W 3 0 (.iface 207 (.pointer (some a1))) := by
    have h0 := World.var?_cell (g := 3) (by kernel_rfl) hv1 0
    unfold Held
    simpa using h0
  have hob : ∃ t fr, W.heap[1]? = some (.cells ((Lib.pow10Tab.map fun z => Value.int .u64 z).toArray) t fr) := by
    unfold Lib.TabIs World.var? at hT
    have hg : Tryz.prog.globalNamed "internal/strconv.uint64pow10" = some 1 := by kernel_rfl
    rw [hg] at hT
    simp only [Option.bind_some] at hT
    split at hT
    · rename_i cs t fr hh
      simp only [Option.some.injEq] at hT
      subst hT
      exact ⟨t, fr, hh⟩
    · cases hT
  obtain ⟨t, fr, ho⟩ := hob
  refine ⟨m, t, fr, fun g cs hg => ?_, fun g o hg => ?_⟩
  · unfold GG at hg
    dsimp only at hg
    split at hg
    · rename_i he
      obtain rfl := Nat.eq_of_beq_eq_true he
      cases hg
      exact gptr1 hm rfl (.lit _ _)
    · split at hg
      · rename_i he
        cases hg
        simp only [Bool.or_eq_true] at he
        rcases he with he | he
        · obtain rfl := Nat.eq_of_beq_eq_true he
          exact gptr1 hc1 rfl (.iface _ _ _ _ (.junk _ _))
        · obtain rfl := Nat.eq_of_beq_eq_true he
          exact gptr1 hc0 rfl (.iface _ _ _ _ (.junk _ _))
      · unfold gxTab at hg
        split at hg
        · rename_i he
          obtain rfl := Nat.eq_of_beq_eq_true he
          cases hg
          refine gptrN (zs := [.string (bs [77, 73, 78]), .string (bs [77, 65, 88]), .string (bs [65, 76, 76]), .string (bs [67, 79, 85, 78, 84])]) (fun i v hv => ?_) (fun v hv => ?_)
          · have hi : i < 4 := by
              have := (List.getElem?_eq_some_iff.1 hv).1
              simpa using this
            have h0 := hW i hi
            unfold Held
            rw [h0]
            match i, hi with
            | 0, _ => cases hv; rfl
            | 1, _ => cases hv; rfl
            | 2, _ => cases hv; rfl
            | 3, _ => cases hv; rfl
          · simp only [List.mem_cons, List.not_mem_nil, or_false] at hv
            rcases hv with rfl | rfl | rfl | rfl <;> rfl
        · cases hg
  · unfold GG at hg
    dsimp only at hg
    split at hg
    · rename_i he
      obtain rfl := Nat.eq_of_beq_eq_true he
      cases hg
      exact ho
    · cases hg
end Go.Proofs.YtcdghinmmhcfcaaGreatDoor.Ev
