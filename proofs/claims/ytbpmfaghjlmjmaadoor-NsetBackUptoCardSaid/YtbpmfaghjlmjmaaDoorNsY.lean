/- NsetNumbers: Count, Only, the law. No condition. -/
import Derived.Test.YtbpmfaghjlmjmaaDoorNsX
import Derived.Test.YtbpmfaghjlmjmaaDoorNsW
namespace Go.Proofs.YtbpmfaghjlmjmaaDoor.Ev
open Go Go.RowKit Go.Proofs Go.Proofs.YtbpmfaghjlmjmaaDoor.Str
set_option linter.unusedVariables false
set_option linter.unusedSimpArgs false
section
variable {m : Int} {t : TypeId} {fr : Nat × Nat}
def r3Pure : List (Nat × (List PV → Tr PV)) := (9, srtG) :: rsPure
theorem r3Pure_ok : TabOK Tryd.prog (GG m t fr) r3Pure := TabOK.cons rsort_ok (fn := Tryd.f9) (by kernel_rfl) (by kernel_rfl) rsPure_ok
noncomputable abbrev E10 (G : GT) : Env := envOf Tryd.prog G r3Pure nbFull
theorem E10_ok : (E10 (GG m t fr)).ok Tryd.prog (GG m t fr) := envOf_ok mixed r3Pure_ok nbFull_ok
-- from: cn_raw [bs, okS, ls, sp, areSps, spsOf, srtR, srtE, okM, u32N, cnS, sRow] (m : Int) (t : TypeId) (fr : Nat × Nat) (n : Nat) (f : Nat → List PV) (most : Int) : (fnPure Tryd.prog ((E10 (GG m t fr)).withCuts (cut1 0 (cnCut (GG m t fr)))) 60 Tryd.f10 (GG m t fr) [.gsl 2 n f, .lit (.int .u32 most)]).run2
theorem cn_raw (m : Int) (t : TypeId) (fr : Nat × Nat) (n : Nat) (f : Nat → List PV) (most : Int) : (fnPure Tryd.prog ((E10 (GG m t fr)).withCuts (cut1 0 (cnCut (GG m t fr)))) 60 Tryd.f10 (GG m t fr) [.gsl 2 n f, .lit (.int .u32 most)]).run2 =
    ((.some ((.tup [(.lit (.int .u64 (cnS (spsOf (List.length (srtR most (spsOf n f))) (sRow (srtR most (spsOf n f)))) (0 : Int)))), (.lit (.int .i64 (srtE (spsOf n f))))]), [((((areSps (List.length (srtR most (spsOf n f))) (sRow (srtR most (spsOf n f)))) && (decide ((((List.length (srtR most (spsOf n f))) : Nat) : Int) = (((List.length (srtR most (spsOf n f))) : Nat) : Int)))) && (Nat.ble (List.length (srtR most (spsOf n f))) (1024 : Nat))) && (okM .none (spsOf (List.length (srtR most (spsOf n f))) (sRow (srtR most (spsOf n f)))))), (((areSps n f) && (Nat.ble n (4294967280 : Nat))) && (u32N most)), (((areSps n f) && (Nat.ble n (4294967280 : Nat))) && (u32N most))])) : Option (PV × List Bool)) := by
  kernel_rfl
-- from: rc_raw [bs, okS, ls, sp, areSps, spsOf, srtR, srtE, okM, u32N, cnS, sRow] (m : Int) (t : TypeId) (fr : Nat × Nat) (n : Nat) (f : Nat → List PV) (most : Int) : (fnPure Tryd.prog ((E10 (GG m t fr)).withCuts (cut1 0 (rcCut (GG m t fr)))) 60 Tryd.f11 (GG m t fr) [.gsl 2 n f, .lit (.int .u32 most)]).run2
theorem rc_raw (m : Int) (t : TypeId) (fr : Nat × Nat) (n : Nat) (f : Nat → List PV) (most : Int) : (fnPure Tryd.prog ((E10 (GG m t fr)).withCuts (cut1 0 (rcCut (GG m t fr)))) 60 Tryd.f11 (GG m t fr) [.gsl 2 n f, .lit (.int .u32 most)]).run2 =
    ((.some ((.tup [(.lit (.int .u64 (cnS (spsOf (List.length (srtR most (spsOf n f))) (sRow (srtR most (spsOf n f)))) (0 : Int)))), (.lit (.int .i64 (srtE (spsOf n f))))]), [((((areSps (List.length (srtR most (spsOf n f))) (sRow (srtR most (spsOf n f)))) && (decide ((((List.length (srtR most (spsOf n f))) : Nat) : Int) = (((List.length (srtR most (spsOf n f))) : Nat) : Int)))) && (Nat.ble (List.length (srtR most (spsOf n f))) (1024 : Nat))) && (okM .none (spsOf (List.length (srtR most (spsOf n f))) (sRow (srtR most (spsOf n f)))))), (((areSps n f) && (Nat.ble n (4294967280 : Nat))) && (u32N most)), (((areSps n f) && (Nat.ble n (4294967280 : Nat))) && (u32N most))])) : Option (PV × List Bool)) := by
  kernel_rfl
-- from: on_raw [bs, okS, ls, sp, nu, areSps, spsOf, areNums, numsOf, u32N, onS, nRow] (m : Int) (t : TypeId) (fr : Nat × Nat) (n k : Nat) (f g : Nat → List PV) (most : Int) : (fnPure Tryd.prog ((E10 (GG m t fr)).withCuts (cut1 0 (onCut (GG m t fr)))) 60 Tryd.f17 (GG m t fr) [.gsl 2 n f, .lit (.int .u32 most), .gsl 1 k g]).run2
theorem on_raw (m : Int) (t : TypeId) (fr : Nat × Nat) (n k : Nat) (f g : Nat → List PV) (most : Int) : (fnPure Tryd.prog ((E10 (GG m t fr)).withCuts (cut1 0 (onCut (GG m t fr)))) 60 Tryd.f17 (GG m t fr) [.gsl 2 n f, .lit (.int .u32 most), .gsl 1 k g]).run2 =
    ((.some ((.gsl 1 (List.length (onS most (spsOf n f) (numsOf k g) [])) (nRow (onS most (spsOf n f) (numsOf k g) []))), [((((((areNums k g) && (decide (((k : Nat) : Int) = ((k : Nat) : Int)))) && (Nat.ble k (4294967280 : Nat))) && (areSps n f)) && (Nat.ble n (4294967280 : Nat))) && (u32N most))])) : Option (PV × List Bool)) := by
  kernel_rfl
-- from: ro_raw [bs, okS, ls, sp, nu, areSps, spsOf, areNums, numsOf, u32N, onS, nRow] (m : Int) (t : TypeId) (fr : Nat × Nat) (n k : Nat) (f g : Nat → List PV) (most : Int) : (fnPure Tryd.prog ((E10 (GG m t fr)).withCuts (cut1 0 (roCut (GG m t fr)))) 60 Tryd.f18 (GG m t fr) [.gsl 2 n f, .lit (.int .u32 most), .gsl 1 k g]).run2
theorem ro_raw (m : Int) (t : TypeId) (fr : Nat × Nat) (n k : Nat) (f g : Nat → List PV) (most : Int) : (fnPure Tryd.prog ((E10 (GG m t fr)).withCuts (cut1 0 (roCut (GG m t fr)))) 60 Tryd.f18 (GG m t fr) [.gsl 2 n f, .lit (.int .u32 most), .gsl 1 k g]).run2 =
    ((.some ((.gsl 1 (List.length (onS most (spsOf n f) (numsOf k g) [])) (nRow (onS most (spsOf n f) (numsOf k g) []))), [((((((areNums k g) && (decide (((k : Nat) : Int) = ((k : Nat) : Int)))) && (Nat.ble k (4294967280 : Nat))) && (areSps n f)) && (Nat.ble n (4294967280 : Nat))) && (u32N most))])) : Option (PV × List Bool)) := by
  kernel_rfl
-- from: s1_raw [bs, okS, ls, nu, areNums, numsOf] (m : Int) (t : TypeId) (fr : Nat × Nat) (n k : Nat) (f g : Nat → List PV) : (fnPure Tryd.prog ((E10 (GG m t fr)).withCuts (cut1 0 (s1Cut (GG m t fr)))) 60 Tryd.f16 (GG m t fr) [.gsl 1 n f, .gsl 1 k g]).run2
theorem s1_raw (m : Int) (t : TypeId) (fr : Nat × Nat) (n k : Nat) (f g : Nat → List PV) : (fnPure Tryd.prog ((E10 (GG m t fr)).withCuts (cut1 0 (s1Cut (GG m t fr)))) 60 Tryd.f16 (GG m t fr) [.gsl 1 n f, .gsl 1 k g]).run2 =
    (bif (bne ((n : Nat) : Int) ((k : Nat) : Int)) then
        (.some ((.lit (.bool false)), []))
      else bif (decide ((numsOf n f) = (numsOf k g))) then
          (.some ((.lit (.bool true)), [(((((areNums n f) && (areNums k g)) && (decide (n = k))) && (decide (((n : Nat) : Int) = ((n : Nat) : Int)))) && (Nat.ble n (4294967280 : Nat)))]))
        else (.some ((.lit (.bool false)), [(((((areNums n f) && (areNums k g)) && (decide (n = k))) && (decide (((n : Nat) : Int) = ((n : Nat) : Int)))) && (Nat.ble n (4294967280 : Nat)))])) : Option (PV × List Bool)) := by
  kernel_rfl
def cntG : List PV → Tr PV
  | [.gsl 2 n f, .lit (.int .u32 most)] => .br (areSps n f && Nat.ble n 4294967280 && u32N most) (.leaf (.tup [.lit (.int .u64 (cnS (srtR most (spsOf n f)) 0)), int (srtE (spsOf n f))])) .fail
  | _ => .fail
def onG : List PV → Tr PV
  | [.gsl 2 n f, .lit (.int .u32 most), .gsl 1 k g] => .br (areSps n f && Nat.ble n 4294967280 && u32N most && areNums k g && Nat.ble k 4294967280) (.leaf (.gsl 1 (onS most (spsOf n f) (numsOf k g) []).length (nRow (onS most (spsOf n f) (numsOf k g) [])))) .fail
  | _ => .fail
def s1G : List PV → Tr PV
  | [.gsl 1 n f, .gsl 1 k g] => .br (areNums n f && areNums k g && Nat.ble n 4294967280) (.leaf (bool (decide (numsOf n f = numsOf k g)))) .fail
  | _ => .fail
theorem cnnt_ok : PureOK Tryd.prog (GG m t fr) 10 cntG := by
  refine PureOK.of (fn_cuts mixed E10_ok (fn := Tryd.f10) (cuts := cut1 0 (cnCut (GG m t fr))) (by kernel_rfl) (CutLaws.one (by omega) (by kernel_rfl) fun st e st' h => cutOf_ok E9_ok mixed (noCuts_ok (envOf_cuts ..) _) cnF_ok h)) fun ps p hp => ?_
  unfold cntG at hp
  split at hp
  · rename_i n f most
    obtain ⟨hc, hp⟩ := br_run hp
    simp only [Bool.and_eq_true] at hc
    obtain ⟨⟨hf, hn⟩, hm⟩ := hc
    have hm' := hm
    unfold u32N at hm'
    simp only [Bool.and_eq_true, decide_eq_true_eq] at hm'
    simp only [Tr.run, Option.some.injEq] at hp
    subst hp
    have h := cn_raw m t fr n f most
    have hle : Nat.ble (srtR most (spsOf n f)).length 1024 = true := Nat.ble_eq_true_of_le srtR_len
    rw [sps_sRow, are_sRow (srtR_u32 hm' (sps_u32 hf)), srtR_okM hm' (sps_u32 hf), hle, hf, hn, hm] at h
    exact ⟨_, Tr.run_of h (by simp), PLe.of_eq rfl⟩
  · cases hp
theorem rcnt_ok : PureOK Tryd.prog (GG m t fr) 11 cntG := by
  refine PureOK.of (fn_cuts mixed E10_ok (fn := Tryd.f11) (cuts := cut1 0 (rcCut (GG m t fr))) (by kernel_rfl) (CutLaws.one (by omega) (by kernel_rfl) fun st e st' h => cutOf_ok E9_ok mixed (noCuts_ok (envOf_cuts ..) _) rcF_ok h)) fun ps p hp => ?_
  unfold cntG at hp
  split at hp
  · rename_i n f most
    obtain ⟨hc, hp⟩ := br_run hp
    simp only [Bool.and_eq_true] at hc
    obtain ⟨⟨hf, hn⟩, hm⟩ := hc
    have hm' := hm
    unfold u32N at hm'
    simp only [Bool.and_eq_true, decide_eq_true_eq] at hm'
    simp only [Tr.run, Option.some.injEq] at hp
    subst hp
    have h := rc_raw m t fr n f most
    have hle : Nat.ble (srtR most (spsOf n f)).length 1024 = true := Nat.ble_eq_true_of_le srtR_len
    rw [sps_sRow, are_sRow (srtR_u32 hm' (sps_u32 hf)), srtR_okM hm' (sps_u32 hf), hle, hf, hn, hm] at h
    exact ⟨_, Tr.run_of h (by simp), PLe.of_eq rfl⟩
  · cases hp
theorem only_ok : PureOK Tryd.prog (GG m t fr) 17 onG := by
  refine PureOK.of (fn_cuts mixed E10_ok (fn := Tryd.f17) (cuts := cut1 0 (onCut (GG m t fr))) (by kernel_rfl) (CutLaws.one (by omega) (by kernel_rfl) fun st e st' h => cutOf_ok E9_ok mixed (noCuts_ok (envOf_cuts ..) _) onF_ok h)) fun ps p hp => ?_
  unfold onG at hp
  split at hp
  · rename_i n f most k g
    obtain ⟨hc, hp⟩ := br_run hp
    simp only [Bool.and_eq_true] at hc
    obtain ⟨⟨⟨⟨hf, hn⟩, hm⟩, hg⟩, hk⟩ := hc
    simp only [Tr.run, Option.some.injEq] at hp
    subst hp
    have h := on_raw m t fr n k f g most
    rw [hf, hn, hm, hg, hk] at h
    exact ⟨_, Tr.run_of h (by simp), PLe.of_eq rfl⟩
  · cases hp
theorem roly_ok : PureOK Tryd.prog (GG m t fr) 18 onG := by
  refine PureOK.of (fn_cuts mixed E10_ok (fn := Tryd.f18) (cuts := cut1 0 (roCut (GG m t fr))) (by kernel_rfl) (CutLaws.one (by omega) (by kernel_rfl) fun st e st' h => cutOf_ok E9_ok mixed (noCuts_ok (envOf_cuts ..) _) roF_ok h)) fun ps p hp => ?_
  unfold onG at hp
  split at hp
  · rename_i n f most k g
    obtain ⟨hc, hp⟩ := br_run hp
    simp only [Bool.and_eq_true] at hc
    obtain ⟨⟨⟨⟨hf, hn⟩, hm⟩, hg⟩, hk⟩ := hc
    simp only [Tr.run, Option.some.injEq] at hp
    subst hp
    have h := ro_raw m t fr n k f g most
    rw [hf, hn, hm, hg, hk] at h
    exact ⟨_, Tr.run_of h (by simp), PLe.of_eq rfl⟩
  · cases hp
theorem s1_ok : PureOK Tryd.prog (GG m t fr) 16 s1G := by
  refine PureOK.of (fn_cuts mixed E10_ok (fn := Tryd.f16) (cuts := cut1 0 (s1Cut (GG m t fr))) (by kernel_rfl) (CutLaws.one (by omega) (by kernel_rfl) fun st e st' h => cutOf_ok E9_ok mixed (noCuts_ok (envOf_cuts ..) _) s1F_ok h)) fun ps p hp => ?_
  unfold s1G at hp
  split at hp
  · rename_i n f n' f'
    obtain ⟨hc, hp⟩ := br_run hp
    simp only [Bool.and_eq_true, Nat.ble_eq] at hc
    obtain ⟨⟨h1, h2⟩, h3⟩ := hc
    simp only [Tr.run, Option.some.injEq] at hp
    subst hp
    have h := s1_raw m t fr n n' f f'
    by_cases hn : n = n'
    · subst hn
      have hb : bne ((n : Nat) : Int) ((n : Nat) : Int) = false := by simp
      rw [hb] at h
      cases hd : decide (numsOf n f = numsOf n f') with
      | true =>
        rw [hd] at h
        exact ⟨_, Tr.run_of h (by simp [h1, h2, h3]), PLe.of_eq rfl⟩
      | false =>
        rw [hd] at h
        exact ⟨_, Tr.run_of h (by simp [h1, h2, h3]), PLe.of_eq rfl⟩
    · have hb : bne ((n : Nat) : Int) ((n' : Nat) : Int) = true := by simp; omega
      rw [hb] at h
      refine ⟨_, Tr.run_of h (by simp), PLe.of_eq ?_⟩
      have : decide (numsOf n f = numsOf n' f') = false := decide_eq_false fun e => hn (by rw [← nums_len n f, e, nums_len])
      rw [this]
  · cases hp
def cnPure : List (Nat × (List PV → Tr PV)) := (10, cntG) :: (11, cntG) :: (17, onG) :: (18, onG) :: (16, s1G) :: r3Pure
theorem cnPure_ok : TabOK Tryd.prog (GG m t fr) cnPure :=
  TabOK.cons cnnt_ok (fn := Tryd.f10) (by kernel_rfl) (by kernel_rfl) (TabOK.cons rcnt_ok (fn := Tryd.f11) (by kernel_rfl) (by kernel_rfl) (TabOK.cons only_ok (fn := Tryd.f17) (by kernel_rfl) (by kernel_rfl) (TabOK.cons roly_ok (fn := Tryd.f18) (by kernel_rfl) (by kernel_rfl) (TabOK.cons s1_ok (fn := Tryd.f16) (by kernel_rfl) (by kernel_rfl) r3Pure_ok))))
noncomputable abbrev E11 (G : GT) : Env := envOf Tryd.prog G cnPure nbFull
theorem E11_ok : (E11 (GG m t fr)).ok Tryd.prog (GG m t fr) := envOf_ok mixed cnPure_ok nbFull_ok
-- from: numbers_raw [bs, okS, ls, sp, nu, areSps, spsOf, areNums, numsOf, u32N, onS, nRow, srtR, srtE, cnS, hasS, sRow] (m : Int) (t : TypeId) (fr : Nat × Nat) (n k : Nat) (f g : Nat → List PV) (most x : Int) : (fnPure Tryd.prog (E11 (GG m t fr)) 60 Tryd.f3 (GG m t fr) [.gsl 2 n f, .lit (.int .u32 most), .lit (.int .u32 x), .gsl 1 k g]).run2
theorem numbers_raw (m : Int) (t : TypeId) (fr : Nat × Nat) (n k : Nat) (f g : Nat → List PV) (most x : Int) : (fnPure Tryd.prog (E11 (GG m t fr)) 60 Tryd.f3 (GG m t fr) [.gsl 2 n f, .lit (.int .u32 most), .lit (.int .u32 x), .gsl 1 k g]).run2 =
    (bif (decide ((spsOf (List.length (srtR most (spsOf n f))) (sRow (srtR most (spsOf n f)))) = (spsOf (List.length (srtR most (spsOf n f))) (sRow (srtR most (spsOf n f)))))) then
        bif ((srtE (spsOf n f)) == (srtE (spsOf n f))) then
          bif ((cnS (srtR most (spsOf n f)) (0 : Int)) == (cnS (srtR most (spsOf n f)) (0 : Int))) then
            bif ((srtE (spsOf n f)) == (srtE (spsOf n f))) then
              bif ((hasS most x (spsOf n f)) == (hasS most x (spsOf n f))) then
                (.some ((.lit (.bool (decide ((numsOf (List.length (onS most (spsOf n f) (numsOf k g) [])) (nRow (onS most (spsOf n f) (numsOf k g) []))) = (numsOf (List.length (onS most (spsOf n f) (numsOf k g) [])) (nRow (onS most (spsOf n f) (numsOf k g) []))))))), [(((areNums (List.length (onS most (spsOf n f) (numsOf k g) [])) (nRow (onS most (spsOf n f) (numsOf k g) []))) && (areNums (List.length (onS most (spsOf n f) (numsOf k g) [])) (nRow (onS most (spsOf n f) (numsOf k g) [])))) && (Nat.ble (List.length (onS most (spsOf n f) (numsOf k g) [])) (4294967280 : Nat))), (((((areSps n f) && (Nat.ble n (4294967280 : Nat))) && (u32N most)) && (areNums k g)) && (Nat.ble k (4294967280 : Nat))), (((((areSps n f) && (Nat.ble n (4294967280 : Nat))) && (u32N most)) && (areNums k g)) && (Nat.ble k (4294967280 : Nat))), (((((areSps n f) && (Nat.ble n (4294967280 : Nat))) && (u32N most)) && (areNums k g)) && (Nat.ble k (4294967280 : Nat))), (((((areSps n f) && (Nat.ble n (4294967280 : Nat))) && (u32N most)) && (areNums k g)) && (Nat.ble k (4294967280 : Nat))), ((areSps n f) && (Nat.ble n (4294967280 : Nat))), (((areSps n f) && (Nat.ble n (4294967280 : Nat))) && (u32N most)), (((areSps (List.length (srtR most (spsOf n f))) (sRow (srtR most (spsOf n f)))) && (areSps (List.length (srtR most (spsOf n f))) (sRow (srtR most (spsOf n f))))) && (Nat.ble (List.length (srtR most (spsOf n f))) (4294967280 : Nat))), (((areSps n f) && (Nat.ble n (4294967280 : Nat))) && (u32N most)), (((areSps n f) && (Nat.ble n (4294967280 : Nat))) && (u32N most)), (((areSps n f) && (Nat.ble n (4294967280 : Nat))) && (u32N most)), (((areSps n f) && (Nat.ble n (4294967280 : Nat))) && (u32N most)), (((areSps n f) && (Nat.ble n (4294967280 : Nat))) && (u32N most)), (((areSps n f) && (Nat.ble n (4294967280 : Nat))) && (u32N most))]))
              else (.some ((.lit (.bool false)), [((areSps n f) && (Nat.ble n (4294967280 : Nat))), (((areSps n f) && (Nat.ble n (4294967280 : Nat))) && (u32N most)), (((areSps (List.length (srtR most (spsOf n f))) (sRow (srtR most (spsOf n f)))) && (areSps (List.length (srtR most (spsOf n f))) (sRow (srtR most (spsOf n f))))) && (Nat.ble (List.length (srtR most (spsOf n f))) (4294967280 : Nat))), (((areSps n f) && (Nat.ble n (4294967280 : Nat))) && (u32N most)), (((areSps n f) && (Nat.ble n (4294967280 : Nat))) && (u32N most)), (((areSps n f) && (Nat.ble n (4294967280 : Nat))) && (u32N most)), (((areSps n f) && (Nat.ble n (4294967280 : Nat))) && (u32N most)), (((areSps n f) && (Nat.ble n (4294967280 : Nat))) && (u32N most)), (((areSps n f) && (Nat.ble n (4294967280 : Nat))) && (u32N most))]))
            else (.some ((.lit (.bool false)), [(((areSps (List.length (srtR most (spsOf n f))) (sRow (srtR most (spsOf n f)))) && (areSps (List.length (srtR most (spsOf n f))) (sRow (srtR most (spsOf n f))))) && (Nat.ble (List.length (srtR most (spsOf n f))) (4294967280 : Nat))), (((areSps n f) && (Nat.ble n (4294967280 : Nat))) && (u32N most)), (((areSps n f) && (Nat.ble n (4294967280 : Nat))) && (u32N most)), (((areSps n f) && (Nat.ble n (4294967280 : Nat))) && (u32N most)), (((areSps n f) && (Nat.ble n (4294967280 : Nat))) && (u32N most)), (((areSps n f) && (Nat.ble n (4294967280 : Nat))) && (u32N most)), (((areSps n f) && (Nat.ble n (4294967280 : Nat))) && (u32N most))]))
          else (.some ((.lit (.bool false)), [(((areSps (List.length (srtR most (spsOf n f))) (sRow (srtR most (spsOf n f)))) && (areSps (List.length (srtR most (spsOf n f))) (sRow (srtR most (spsOf n f))))) && (Nat.ble (List.length (srtR most (spsOf n f))) (4294967280 : Nat))), (((areSps n f) && (Nat.ble n (4294967280 : Nat))) && (u32N most)), (((areSps n f) && (Nat.ble n (4294967280 : Nat))) && (u32N most)), (((areSps n f) && (Nat.ble n (4294967280 : Nat))) && (u32N most)), (((areSps n f) && (Nat.ble n (4294967280 : Nat))) && (u32N most)), (((areSps n f) && (Nat.ble n (4294967280 : Nat))) && (u32N most)), (((areSps n f) && (Nat.ble n (4294967280 : Nat))) && (u32N most))]))
        else (.some ((.lit (.bool false)), [(((areSps (List.length (srtR most (spsOf n f))) (sRow (srtR most (spsOf n f)))) && (areSps (List.length (srtR most (spsOf n f))) (sRow (srtR most (spsOf n f))))) && (Nat.ble (List.length (srtR most (spsOf n f))) (4294967280 : Nat))), (((areSps n f) && (Nat.ble n (4294967280 : Nat))) && (u32N most)), (((areSps n f) && (Nat.ble n (4294967280 : Nat))) && (u32N most)), (((areSps n f) && (Nat.ble n (4294967280 : Nat))) && (u32N most)), (((areSps n f) && (Nat.ble n (4294967280 : Nat))) && (u32N most)), (((areSps n f) && (Nat.ble n (4294967280 : Nat))) && (u32N most)), (((areSps n f) && (Nat.ble n (4294967280 : Nat))) && (u32N most))]))
      else (.some ((.lit (.bool false)), [(((areSps (List.length (srtR most (spsOf n f))) (sRow (srtR most (spsOf n f)))) && (areSps (List.length (srtR most (spsOf n f))) (sRow (srtR most (spsOf n f))))) && (Nat.ble (List.length (srtR most (spsOf n f))) (4294967280 : Nat))), (((areSps n f) && (Nat.ble n (4294967280 : Nat))) && (u32N most)), (((areSps n f) && (Nat.ble n (4294967280 : Nat))) && (u32N most)), (((areSps n f) && (Nat.ble n (4294967280 : Nat))) && (u32N most)), (((areSps n f) && (Nat.ble n (4294967280 : Nat))) && (u32N most)), (((areSps n f) && (Nat.ble n (4294967280 : Nat))) && (u32N most)), (((areSps n f) && (Nat.ble n (4294967280 : Nat))) && (u32N most))])) : Option (PV × List Bool)) := by
  kernel_rfl
theorem onS_ok (most : Int) (l : List Sp) : ∀ (s r : List Int), s.all u32N = true → r.all u32N = true → (onS most l s r).all u32N = true ∧ (onS most l s r).length ≤ s.length + r.length
  | [], r, _, hr => ⟨hr, by simp [onS]⟩
  | x :: s, r, hs, hr => by
    have hx : u32N x = true := List.all_eq_true.1 hs x (by simp)
    have hs' : s.all u32N = true := List.all_eq_true.2 fun y hy => List.all_eq_true.1 hs y (by simp [hy])
    rw [onS]
    cases hasS most x l with
    | true =>
      have := onS_ok most l s (r ++ [x]) hs' (by rw [List.all_append, hr]; simp [hx])
      refine ⟨this.1, Nat.le_trans this.2 (by simp; omega)⟩
    | false =>
      have := onS_ok most l s r hs' hr
      refine ⟨this.1, Nat.le_trans this.2 (by simp <;> omega)⟩
def numbersG : List PV → Tr PV
  | [.gsl 2 n f, .lit (.int .u32 most), .lit (.int .u32 x), .gsl 1 k g] => .br (areSps n f && Nat.ble n 4294967280 && u32N most && areNums k g && Nat.ble k 4294967280) (.leaf (bool true)) .fail
  | _ => .fail
theorem numbers_ok : PureOK Tryd.prog (GG m t fr) 3 numbersG := by
  refine PureOK.of (fn_pure mixed E11_ok (envOf_cuts ..) (fn := Tryd.f3) (by kernel_rfl)) fun ps p hp => ?_
  unfold numbersG at hp
  split at hp
  · rename_i n f most x k g
    obtain ⟨hc, hp⟩ := br_run hp
    simp only [Bool.and_eq_true] at hc
    obtain ⟨⟨⟨⟨hf, hn⟩, hm⟩, hg⟩, hk⟩ := hc
    have hm' := hm
    unfold u32N at hm'
    simp only [Bool.and_eq_true, decide_eq_true_eq] at hm'
    simp only [Tr.run, Option.some.injEq] at hp
    subst hp
    have h := numbers_raw m t fr n k f g most x
    have hle : Nat.ble (srtR most (spsOf n f)).length 4294967280 = true := Nat.ble_eq_true_of_le (Nat.le_trans srtR_len (by omega))
    have ho := onS_ok most (spsOf n f) (numsOf k g) [] (nums_u32 hg) rfl
    have hlo : Nat.ble (onS most (spsOf n f) (numsOf k g) []).length 4294967280 = true := by
      rw [Nat.ble_eq] at hk
      refine Nat.ble_eq_true_of_le (Nat.le_trans ho.2 ?_)
      rw [nums_len]
      simpa using hk
    rw [are_sRow (srtR_u32 hm' (sps_u32 hf)), are_nRow ho.1, hle, hlo, hf, hn, hm, hg, hk] at h
    simp only [decide_true, beq_self_eq_true, cond_true] at h
    exact ⟨_, Tr.run_of h (by simp), PLe.of_eq rfl⟩
  · cases hp
def numbersSh : List ASh := [.one (.sl [.int .u32, .int .u32]), .one (.sc (.int .u32)), .one (.sc (.int .u32)), .one (.sl [.int .u32])]
theorem numbers_args {qs : List PV} (ha : areArgs numbersSh qs = true) (hb : argsBulk qs ≤ 1048576) : (numbersG qs).run = some (bool true) := by
  obtain ⟨q0, r0, rfl, h0, hr0⟩ := args_cons ha
  obtain ⟨q1, r1, rfl, h1, hr1⟩ := args_cons hr0
  obtain ⟨q2, r2, rfl, h2, hr2⟩ := args_cons hr1
  obtain ⟨q3, r3, rfl, h3, hr3⟩ := args_cons hr2
  obtain rfl := args_nil hr3
  obtain ⟨n, f, rfl, hf⟩ := ak_sl h0
  obtain ⟨v, rfl, hv⟩ := ak_sc h1
  obtain ⟨most, rfl, hm⟩ := u32_given hv
  obtain ⟨v', rfl, hv'⟩ := ak_sc h2
  obtain ⟨x, rfl, hx⟩ := u32_given hv'
  obtain ⟨k, g, rfl, hg⟩ := ak_sl h3
  have hb' : (((List.range n).map fun i => scsBulk (f i)).sum + 1) + (1 + (1 + ((((List.range k).map fun i => scsBulk (g i)).sum + 1) + 0))) ≤ 1048576 := hb
  obtain ⟨o1, o2⟩ := sps_given hf (by omega)
  obtain ⟨o3, o4⟩ := nums_given hg (by omega)
  have o5 : Nat.ble n 4294967280 = true := Nat.ble_eq_true_of_le (Nat.le_trans o2 (by omega))
  have o6 : Nat.ble k 4294967280 = true := Nat.ble_eq_true_of_le (Nat.le_trans o4 (by omega))
  show (numbersG [.gsl 2 n f, .lit (.int .u32 most), .lit (.int .u32 x), .gsl 1 k g]).run = some (bool true)
  simp [numbersG, Tr.run, o1, o3, o5, o6, hm]
end
end Go.Proofs.YtbpmfaghjlmjmaaDoor.Ev
