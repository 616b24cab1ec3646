/- lex: the reader. No condition. -/
import Derived.Test.YtnidaonmigjgkaaDoorLxW
import Derived.Test.YtnidaonmigjgkaaDoorEvSpot
namespace Go.Proofs.YtnidaonmigjgkaaDoor.Ev
open Go Go.RowKit Go.Proofs Go.Proofs.YtnidaonmigjgkaaDoor.Str
set_option linter.unusedVariables false
set_option linter.unusedSimpArgs false
section
variable {m : Int} {t : TypeId} {fr : Nat × Nat}
def wdOuts : Exit → Outs := fun _ => { ks := [0, 3], rs := [.slot 0], pin := true }
noncomputable abbrev wdRound (G : GT) := roundT Tryd.prog (E8 G) 60 G 44 wdOuts .normal (theLoop 0 Tryd.f42)
-- from: wd_round [bs, okS, ls, ltrI] (m : Int) (t : TypeId) (fr : Nat × Nat) (s : ByteArray) (g d : Bool) (i : Int) : (wdRound (GG m t fr) ([.ptr 0 0, int i], [.cells 61 [str s, bool g, bool d]])).run2
theorem wd_round (m : Int) (t : TypeId) (fr : Nat × Nat) (s : ByteArray) (g d : Bool) (i : Int) : (wdRound (GG m t fr) ([.ptr 0 0, int i], [.cells 61 [str s, bool g, bool d]])).run2 =
    (bif (decide (i < (((List.length (ls s)) : Nat) : Int))) then
        bif (ltrI (((UInt8.toNat (Array.getD (ByteArray.data s) (Int.toNat i) (0 : UInt8))) : Nat) : Int)) then
          (.some ((.normal, ([(.ptr 0 0), (.lit (.int .i64 (IntKind.wrap .i64 (i + (1 : Int)))))], [(.cells (61 : TypeId) [(.lit (.string s)), (.lit (.bool g)), (.lit (.bool d))])])), [((decide ((0 : Int) ≤ i)) && (Nat.blt (Int.toNat i) (List.length (ls s))))]))
        else (.some (((.exit 0), ([(.ptr 0 0), (.lit (.int .i64 i))], [(.cells (61 : TypeId) [(.lit (.string s)), (.lit (.bool g)), (.lit (.bool d))])])), [((decide ((0 : Int) ≤ i)) && (Nat.blt (Int.toNat i) (List.length (ls s))))]))
      else (.some (((.exit 0), ([(.ptr 0 0), (.lit (.int .i64 i))], [(.cells (61 : TypeId) [(.lit (.string s)), (.lit (.bool g)), (.lit (.bool d))])])), [])) : Option ((Exit × Kept) × List Bool)) := by
  kernel_rfl
def wdLen (l : List UInt8) : Nat := (l.takeWhile ltB).length
def wdF : Kept → Tr (Exit × Kept)
  | ([.ptr 0 0, .lit (.int .i64 i)], [.cells a [.lit (.string s), .lit (.bool g), .lit (.bool d)]]) => match Nat.beq a 61 with
    | true => .br (okS s && decide (0 ≤ i) && decide (i ≤ (s.size : Int))) (.leaf (.exit 0, ([.ptr 0 0, int ((i.toNat + wdLen ((ls s).drop i.toNat) : Nat) : Int)], [.cells 61 [str s, bool g, bool d]]))) .fail
    | false => .fail
  | _ => .fail
theorem wd_LR (s : ByteArray) (g d : Bool) (hs : s.size ≤ 4294967280) : ∀ (r : List UInt8) (i : Nat), (ls s).drop i = r → i ≤ s.size →
    LR Tryd.prog (E8 (GG m t fr)) 60 (GG m t fr) 44 wdOuts .normal (theLoop 0 Tryd.f42) ([.ptr 0 0, int i], [.cells 61 [str s, bool g, bool d]]) (.exit 0) ([.ptr 0 0, int ((i + wdLen r : Nat) : Int)], [.cells 61 [str s, bool g, bool d]])
  | [], i, hr, hi => by
    have h := wd_round m t fr s g d i
    have hlen : s.size ≤ i := by
      have := List.drop_eq_nil_iff.1 hr
      rwa [ls_len] at this
    have hd : decide ((i : Int) < (((ls s).length : Nat) : Int)) = false := by rw [ls_len]; simp; omega
    rw [hd] at h
    exact .last (Tr.run_of h rfl) (by simp) (by simp)
  | c :: r, i, hr, hi => by
    have h := wd_round m t fr s g d i
    obtain ⟨hlt, hget, hdrop⟩ := get_drop hr
    have hd : decide ((i : Int) < (((ls s).length : Nat) : Int)) = true := by rw [ls_len]; simp; omega
    have hw : IntKind.i64.wrap ((i : Int) + 1) = ((i + 1 : Nat) : Int) := wrap_succ (by omega)
    have hb : Nat.blt i (ls s).length = true := by rw [Nat.blt_eq, ls_len]; exact hlt
    have hL : ltrI ((c.toNat : Nat) : Int) = ltB c := rfl
    rw [hd, hw, Int.toNat_natCast, hget, hb, hL] at h
    simp only [cond_true] at h
    cases c1 : ltB c with
    | true =>
      rw [c1] at h
      have ih := wd_LR s g d hs r (i + 1) hdrop (by omega)
      have e : i + wdLen (c :: r) = i + 1 + wdLen r := by
        unfold wdLen
        rw [List.takeWhile_cons, c1]
        simp
        omega
      rw [e]
      exact .more (Tr.run_of h (by simp)) ih
    | false =>
      rw [c1] at h
      have e : i + wdLen (c :: r) = i := by
        unfold wdLen
        rw [List.takeWhile_cons, c1]
        simp
      rw [e]
      exact .last (Tr.run_of h (by simp)) (by simp) (by simp)
theorem wdF_ok (x : Kept) (e : Exit) (y : Kept) (h : (wdF x).run = some (e, y)) : LR Tryd.prog (E8 (GG m t fr)) 60 (GG m t fr) 44 wdOuts .normal (theLoop 0 Tryd.f42) x e y := by
  unfold wdF at h
  split at h
  · rename_i i a s g d
    split at h
    · rename_i ha
      obtain rfl := Nat.eq_of_beq_eq_true ha
      have hb := br_run h
      clear h
      obtain ⟨hc, h⟩ := hb
      simp only [Bool.and_eq_true, decide_eq_true_eq] at hc
      obtain ⟨⟨hs, h1⟩, h2⟩ := hc
      obtain ⟨i, rfl⟩ : ∃ k : Nat, i = k := ⟨i.toNat, by omega⟩
      rw [Int.toNat_natCast] at h
      simp only [Tr.run, Option.some.injEq, Prod.mk.injEq] at h
      obtain ⟨rfl, rfl⟩ := h
      exact wd_LR s g d (okS_le hs) _ i rfl (by omega)
    · cases h
  · cases h
noncomputable abbrev wdCut (G : GT) := cutOf G 44 wdOuts 0 wdF
-- from: wd_raw [bs, okS, ls, wdLen] (m : Int) (t : TypeId) (fr : Nat × Nat) (s : ByteArray) (g d : Bool) : (fnSpot Tryd.prog ((E8 (GG m t fr)).withCuts (cut1 0 (wdCut (GG m t fr)))) 60 Tryd.f42 (GG m t fr) 61 [str s, bool g, bool d] []).run2
theorem wd_raw (m : Int) (t : TypeId) (fr : Nat × Nat) (s : ByteArray) (g d : Bool) : (fnSpot Tryd.prog ((E8 (GG m t fr)).withCuts (cut1 0 (wdCut (GG m t fr)))) 60 Tryd.f42 (GG m t fr) 61 [str s, bool g, bool d] []).run2 =
    ((.some (((.lit (.string (ByteArray.extract s 0 (Int.toNat (((0 + (wdLen (List.drop 0 (ls s)))) : Nat) : Int))))), [(.lit (.string (ByteArray.extract s (Int.toNat (((0 + (wdLen (List.drop 0 (ls s)))) : Nat) : Int)) (Int.toNat (((List.length (ls s)) : Nat) : Int))))), (.lit (.bool g)), (.lit (.bool ((((0 + (wdLen (List.drop 0 (ls s)))) : Nat) : Int) == (0 : Int))))]), [(((decide ((0 : Int) ≤ (((0 + (wdLen (List.drop 0 (ls s)))) : Nat) : Int))) && (decide ((((0 + (wdLen (List.drop 0 (ls s)))) : Nat) : Int) ≤ (((List.length (ls s)) : Nat) : Int)))) && (decide ((((List.length (ls s)) : Nat) : Int) ≤ (((List.length (ls s)) : Nat) : Int)))), ((decide ((0 : Int) ≤ (((0 + (wdLen (List.drop 0 (ls s)))) : Nat) : Int))) && (decide ((((0 + (wdLen (List.drop 0 (ls s)))) : Nat) : Int) ≤ (((List.length (ls s)) : Nat) : Int)))), (((okS s) && true) && (decide ((0 : Int) ≤ (((List.length (ls s)) : Nat) : Int))))])) : Option ((PV × List PV) × List Bool)) := by
  kernel_rfl
/-- (*reader).word -/
def wordG (cs ps : List PV) : Tr (PV × List PV) := match cs, ps with
  | [.lit (.string s), .lit (.bool g), .lit (.bool d)], [] => .br (okS s) (.leaf (str (bs ((ls s).take (wdLen (ls s)))), [str (bs ((ls s).drop (wdLen (ls s)))), bool g, bool (decide (wdLen (ls s) = 0))])) .fail
  | _, _ => .fail
theorem word_ok : SpotOK Tryd.prog (GG m t fr) 42 61 wordG := by
  refine SpotOK.of (spot_of_ev (n := 60) (E := (E8 (GG m t fr)).withCuts (cut1 0 (wdCut (GG m t fr)))) (E8_ok.withCuts _) mixed (fn := Tryd.f42) (by kernel_rfl)
    (CutLaws.ok (E := (E8 (GG m t fr)).withCuts (cut1 0 (wdCut (GG m t fr)))) (CutLaws.one (by omega) (by kernel_rfl) fun st e st' h => cutOf_okM (x0 := .pin) (fun h => by cases h) E8_ok mixed (noCuts_ok (envOf_cuts ..) _) (fun _ _ => rfl) wdF_ok h)) _) fun cs ps p cs' hp => ?_
  unfold wordG at hp
  split at hp
  · rename_i s g d
    obtain ⟨hs, hp⟩ := br_run hp
    simp only [Tr.run, Option.some.injEq, Prod.mk.injEq] at hp
    obtain ⟨rfl, rfl⟩ := hp
    have h := wd_raw m t fr s g d
    have hl : wdLen (ls s) ≤ (ls s).length := (List.takeWhile_prefix _).length_le
    have e0 : ((((wdLen (ls s) : Nat) : Int)) == 0) = decide (wdLen (ls s) = 0) := by
      rw [beqD, decide_eq_decide]
      omega
    rw [List.drop_zero, Nat.zero_add, Int.toNat_natCast, Int.toNat_natCast, bs_ext, bs_ext, List.take_length, List.drop_zero, e0] at h
    refine Tr.run_of h (by simp [hs]; omega)
  · cases hp
end
end Go.Proofs.YtnidaonmigjgkaaDoor.Ev
