/- nset: Pack, the document's Pack, Same as contracts; NsetPacks, a law. No condition. -/
import Derived.Test.YtbpmfaghjlmjmaaDoorNsC
namespace Go.Proofs.YtbpmfaghjlmjmaaDoor.Ev
open Go Go.RowKit Go.Proofs Go.Proofs.YtbpmfaghjlmjmaaDoor.Str
set_option linter.unusedVariables false
set_option linter.unusedSimpArgs false
def packE (ns : List Int) : Int := bif hasK (packZ ns) then (bif decide ((((theK (packZ ns)).length : Nat) : Int) < 1) then 1 else bif decide ((((theK (packZ ns)).length : Nat) : Int) > 1024) then 1 else bif nu ns 0 == 0 then 1 else 0) else 12
def packR (ns : List Int) : List Sp := bif packE ns == 0 then theK (packZ ns) else []
def packG : List PV → Tr PV
  | [.gsl 1 n f] => .br (areNums n f && Nat.ble n 4294967280) (.leaf (.tup [.gsl 2 (packR (numsOf n f)).length (sRow (packR (numsOf n f))), int (packE (numsOf n f))])) .fail
  | _ => .fail
theorem packE_len {ns : List Int} : (packR ns).length ≤ 1024 := by
  unfold packR packE
  cases hasK (packZ ns) with
  | false => simp
  | true =>
    simp only [cond_true]
    by_cases h1 : (((theK (packZ ns)).length : Nat) : Int) < 1
    · simp [h1]
    · by_cases h2 : (((theK (packZ ns)).length : Nat) : Int) > 1024
      · simp [h1, h2]
      · cases nu ns 0 == 0 <;> simp [h1, h2] <;> omega
theorem pkS_u32 : ∀ (r : List Int) (o : List Sp) (c : Sp), r.all u32N = true → o.all u32B = true → u32B c = true → ∀ q, pkS r o c = some q → q.all u32B = true
  | [], o, c, _, ho, hc, q, h => by
    simp only [pkS, Option.some.injEq] at h
    subst h
    simp [List.all_append, ho, hc]
  | n :: r, o, c, hr, ho, hc, q, h => by
    simp only [List.all_cons, Bool.and_eq_true] at hr
    rw [pkS] at h
    have hn := hr.1
    have hc' := hc
    unfold u32N at hn
    unfold u32B at hc'
    simp only [Bool.and_eq_true, decide_eq_true_eq] at hn hc'
    cases c1 : decide (n ≤ c.2) with
    | true => rw [c1] at h; cases h
    | false =>
      rw [c1] at h
      cases c2 : decide (n = c.2 + 1) with
      | true =>
        rw [c2] at h
        exact pkS_u32 r o (c.1, n) hr.2 ho (by unfold u32B; simp; omega) q h
      | false =>
        rw [c2] at h
        exact pkS_u32 r (o ++ [c]) (n, n) hr.2 (by simp [List.all_append, ho, hc]) (by unfold u32B; simp; omega) q h
theorem packR_u32 {ns : List Int} (h : ns.all u32N = true) : (packR ns).all u32B = true := by
  unfold packR
  cases packE ns == 0 with
  | false => rfl
  | true =>
    simp only [cond_true]
    cases hz : packZ ns with
    | none => rfl
    | some q =>
      show q.all u32B = true
      cases ns with
      | nil =>
        simp only [packZ, Option.some.injEq] at hz
        subst hz
        rfl
      | cons n r =>
        simp only [List.all_cons, Bool.and_eq_true] at h
        have hn := h.1
        unfold u32N at hn
        simp only [Bool.and_eq_true, decide_eq_true_eq] at hn
        exact pkS_u32 r [] (n, n) h.2 rfl (by unfold u32B; simp; omega) q hz
section
variable {m : Int} {t : TypeId} {fr : Nat × Nat}
theorem pack_raw {raw : Option (PV × List Bool)} {n : Nat} {f : Nat → List PV} (hf : areNums n f = true) (hn : Nat.ble n 4294967280 = true) {bsA bsB bsC bsD bsE : List Bool}
    (h : raw = bif hasK (packZ (numsOf n f)) then (bif decide ((((theK (packZ (numsOf n f))).length : Nat) : Int) < 1) then some (.tup [.lit (.slice none 0 0), int 1], bsA) else bif decide ((((theK (packZ (numsOf n f))).length : Nat) : Int) > 1024) then some (.tup [.lit (.slice none 0 0), int 1], bsB)
      else bif nu (numsOf n f) 0 == 0 then some (.tup [.lit (.slice none 0 0), int 1], Nat.blt 0 n :: bsC) else some (.tup [.gsl 2 (theK (packZ (numsOf n f))).length (sRow (theK (packZ (numsOf n f)))), int 0], Nat.blt 0 n :: bsD)) else some (.tup [.lit (.slice none 0 0), int 12], bsE))
    (hA : bsA.all id = true) (hB : bsB.all id = true) (hC : bsC.all id = true) (hD : bsD.all id = true) (hE : bsE.all id = true) :
    ∃ q bs, raw = some (q, bs) ∧ bs.all id = true ∧ PLe q (.tup [.gsl 2 (packR (numsOf n f)).length (sRow (packR (numsOf n f))), int (packE (numsOf n f))]) := by
  have hnil : ∀ e : Int, (packE (numsOf n f) = e) → e ≠ 0 → PLe (.tup [.lit (.slice none 0 0), int e]) (.tup [.gsl 2 (packR (numsOf n f)).length (sRow (packR (numsOf n f))), int (packE (numsOf n f))]) := by
    intro e he h0
    have : packR (numsOf n f) = [] := by
      unfold packR
      rw [he, beq_false_of_ne h0]
      rfl
    rw [this, he]
    exact PLe.tup (PLeL.cons (PLe.nil _ _) (.refl _))
  unfold packE at hnil
  cases c0 : hasK (packZ (numsOf n f)) with
  | false =>
    rw [c0] at h hnil
    exact ⟨_, _, h, hE, by unfold packE; rw [c0]; exact hnil 12 rfl (by decide)⟩
  | true =>
    rw [c0] at h hnil
    simp only [cond_true] at h hnil
    cases c1 : decide ((((theK (packZ (numsOf n f))).length : Nat) : Int) < 1) with
    | true =>
      rw [c1] at h hnil
      exact ⟨_, _, h, hA, by unfold packE; rw [c0, c1]; exact hnil 1 rfl (by decide)⟩
    | false =>
      rw [c1] at h hnil
      simp only [cond_false] at h hnil
      cases c2 : decide ((((theK (packZ (numsOf n f))).length : Nat) : Int) > 1024) with
      | true =>
        rw [c2] at h hnil
        exact ⟨_, _, h, hB, by unfold packE; rw [c0, c1, c2]; exact hnil 1 rfl (by decide)⟩
      | false =>
        have hpos : Nat.blt 0 n = true := by
          rw [Nat.blt_eq]
          rcases Nat.eq_zero_or_pos n with h0 | h0
          · subst h0
            exact absurd (show decide ((((theK (packZ (numsOf 0 f))).length : Nat) : Int) < 1) = true from rfl) (by rw [c1]; decide)
          · exact h0
        rw [c2] at h hnil
        simp only [cond_false] at h hnil
        rw [hpos] at h
        cases c3 : nu (numsOf n f) 0 == 0 with
        | true =>
          rw [c3] at h hnil
          exact ⟨_, _, h, by simpa using hC, by unfold packE; rw [c0, c1, c2, c3]; exact hnil 1 rfl (by decide)⟩
        | false =>
          rw [c3] at h
          refine ⟨_, _, h, by simpa using hD, PLe.of_eq ?_⟩
          have e : packE (numsOf n f) = 0 := by unfold packE; rw [c0, c1, c2, c3]; rfl
          unfold packR
          rw [e]
          rfl
theorem npack_ok : PureOK Tryd.prog (GG m t fr) 19 packG := by
  refine PureOK.of (fn_cuts mixed E4_ok (fn := Tryd.f19) (cuts := cut1 0 (pkCut (GG m t fr))) (by kernel_rfl) (CutLaws.one (by omega) (by kernel_rfl) fun st e st' h => cutOf_ok E4_ok mixed (noCuts_ok (envOf_cuts ..) _) pkF_ok h)) fun ps p hp => ?_
  unfold packG at hp
  split at hp
  · rename_i n f
    obtain ⟨hc, hp⟩ := br_run hp
    simp only [Bool.and_eq_true] at hc
    simp only [Tr.run, Option.some.injEq] at hp
    subst hp
    obtain ⟨q, bs, h1, h2, h3⟩ := pack_raw hc.1 hc.2 (pk_raw m t fr n f) (by simp [hc.1]; simpa using hc.2) (by simp [hc.1]; simpa using hc.2) (by simp [hc.1]; simpa using hc.2) (by simp [hc.1]; simpa using hc.2) (by simp [hc.1]; simpa using hc.2)
    exact ⟨q, Tr.run_of h1 h2, h3⟩
  · cases hp
theorem rpack_ok : PureOK Tryd.prog (GG m t fr) 20 packG := by
  refine PureOK.of (fn_cuts mixed E4_ok (fn := Tryd.f20) (cuts := cut1 0 (rpCut (GG m t fr))) (by kernel_rfl) (CutLaws.one (by omega) (by kernel_rfl) fun st e st' h => cutOf_ok E4_ok mixed (noCuts_ok (envOf_cuts ..) _) rpF_ok h)) fun ps p hp => ?_
  unfold packG at hp
  split at hp
  · rename_i n f
    obtain ⟨hc, hp⟩ := br_run hp
    simp only [Bool.and_eq_true] at hc
    simp only [Tr.run, Option.some.injEq] at hp
    subst hp
    obtain ⟨q, bs, h1, h2, h3⟩ := pack_raw hc.1 hc.2 (rp_raw m t fr n f) (by simp [hc.1]; simpa using hc.2) (by simp [hc.1]; simpa using hc.2) (by simp [hc.1]; simpa using hc.2) (by simp [hc.1]; simpa using hc.2) (by simp [hc.1]; simpa using hc.2)
    exact ⟨q, Tr.run_of h1 h2, h3⟩
  · cases hp
def same3G : List PV → Tr PV
  | [.gsl 2 n f, .gsl 2 n' f'] => .br (areSps n f && areSps n' f' && Nat.ble n 4294967280) (.leaf (bool (decide (spsOf n f = spsOf n' f')))) .fail
  | _ => .fail
theorem same3_ok : PureOK Tryd.prog (GG m t fr) 13 same3G := by
  refine PureOK.of (fn_cuts mixed E4_ok (fn := Tryd.f13) (cuts := cut1 0 (s3Cut (GG m t fr))) (by kernel_rfl) (CutLaws.one (by omega) (by kernel_rfl) fun st e st' h => cutOf_ok E4_ok mixed (noCuts_ok (envOf_cuts ..) _) s3F_ok h)) fun ps p hp => ?_
  unfold same3G at hp
  split at hp
  · rename_i n f n' f'
    obtain ⟨hc, hp⟩ := br_run hp
    simp only [Bool.and_eq_true, Nat.ble_eq] at hc
    obtain ⟨⟨h1, h2⟩, h3⟩ := hc
    simp only [Tr.run, Option.some.injEq] at hp
    subst hp
    have h := s3_raw m t fr n n' f f'
    by_cases hn : n = n'
    · subst hn
      have hb : bne ((n : Nat) : Int) ((n : Nat) : Int) = false := by simp
      rw [hb] at h
      cases hd : decide (spsOf n f = spsOf n f') with
      | true =>
        rw [hd] at h
        exact ⟨_, Tr.run_of h (by simp [h1, h2, h3]), PLe.of_eq rfl⟩
      | false =>
        rw [hd] at h
        exact ⟨_, Tr.run_of h (by simp [h1, h2, h3]), PLe.of_eq rfl⟩
    · have hb : bne ((n : Nat) : Int) ((n' : Nat) : Int) = true := by simp; omega
      rw [hb] at h
      refine ⟨_, Tr.run_of h (by simp), PLe.of_eq ?_⟩
      have : decide (spsOf n f = spsOf n' f') = false := decide_eq_false fun e => hn (by rw [← sps_len n f, e, sps_len])
      rw [this]
  · cases hp
def npPure : List (Nat × (List PV → Tr PV)) := (12, livesG) :: (19, packG) :: (20, packG) :: (13, same3G) :: nsPure
theorem npPure_ok : TabOK Tryd.prog (GG m t fr) npPure :=
  TabOK.cons lives_ok (fn := Tryd.f12) (by kernel_rfl) (by kernel_rfl) (TabOK.cons npack_ok (fn := Tryd.f19) (by kernel_rfl) (by kernel_rfl) (TabOK.cons rpack_ok (fn := Tryd.f20) (by kernel_rfl) (by kernel_rfl) (TabOK.cons same3_ok (fn := Tryd.f13) (by kernel_rfl) (by kernel_rfl) nsPure_ok)))
noncomputable abbrev E5 (G : GT) : Env := envOf Tryd.prog G npPure nbFull
theorem E5_ok : (E5 (GG m t fr)).ok Tryd.prog (GG m t fr) := envOf_ok mixed npPure_ok nbFull_ok
-- from: nsetPacks_raw [bs, okS, ls, areNums, numsOf, areSps, spsOf, packR, packE, sRow] (m : Int) (t : TypeId) (fr : Nat × Nat) (n : Nat) (f : Nat → List PV) : (fnPure Tryd.prog (E5 (GG m t fr)) 60 Tryd.f4 (GG m t fr) [.gsl 1 n f]).run2
theorem nsetPacks_raw (m : Int) (t : TypeId) (fr : Nat × Nat) (n : Nat) (f : Nat → List PV) : (fnPure Tryd.prog (E5 (GG m t fr)) 60 Tryd.f4 (GG m t fr) [.gsl 1 n f]).run2 =
    (bif (decide ((spsOf (List.length (packR (numsOf n f))) (sRow (packR (numsOf n f)))) = (spsOf (List.length (packR (numsOf n f))) (sRow (packR (numsOf n f)))))) then
        (.some ((.lit (.bool ((packE (numsOf n f)) == (packE (numsOf n f))))), [(((areSps (List.length (packR (numsOf n f))) (sRow (packR (numsOf n f)))) && (areSps (List.length (packR (numsOf n f))) (sRow (packR (numsOf n f))))) && (Nat.ble (List.length (packR (numsOf n f))) (4294967280 : Nat))), ((areNums n f) && (Nat.ble n (4294967280 : Nat))), ((areNums n f) && (Nat.ble n (4294967280 : Nat))), ((areNums n f) && (Nat.ble n (4294967280 : Nat))), ((areNums n f) && (Nat.ble n (4294967280 : Nat)))]))
      else (.some ((.lit (.bool false)), [(((areSps (List.length (packR (numsOf n f))) (sRow (packR (numsOf n f)))) && (areSps (List.length (packR (numsOf n f))) (sRow (packR (numsOf n f))))) && (Nat.ble (List.length (packR (numsOf n f))) (4294967280 : Nat))), ((areNums n f) && (Nat.ble n (4294967280 : Nat))), ((areNums n f) && (Nat.ble n (4294967280 : Nat))), ((areNums n f) && (Nat.ble n (4294967280 : Nat))), ((areNums n f) && (Nat.ble n (4294967280 : Nat)))])) : Option (PV × List Bool)) := by
  kernel_rfl
end
end Go.Proofs.YtbpmfaghjlmjmaaDoor.Ev
