/- nset: Sort as a contract; the document's Has. No condition. -/
import Derived.Test.YtbpmfaghjlmjmaaDoorNsS
namespace Go.Proofs.YtbpmfaghjlmjmaaDoor.Ev
open Go Go.RowKit Go.Proofs Go.Proofs.YtbpmfaghjlmjmaaDoor.Str
set_option linter.unusedVariables false
set_option linter.unusedSimpArgs false
section
variable {m : Int} {t : TypeId} {fr : Nat × Nat}
def srtR (most : Int) (l : List Sp) : List Sp := bif Nat.blt 1024 l.length then [] else mgZ (sortS (l.map (bandS most)))
def srtE (l : List Sp) : Int := bif Nat.blt 1024 l.length then 1 else 0
def srtG : List PV → Tr PV
  | [.gsl 2 n f, .lit (.int .u32 most)] => .br (areSps n f && Nat.ble n 4294967280 && u32N most) (.leaf (.tup [.gsl 2 (srtR most (spsOf n f)).length (sRow (srtR most (spsOf n f))), int (srtE (spsOf n f))])) .fail
  | _ => .fail
theorem sortS_u32 {l : List Sp} (h : l.all u32B = true) : (sortS l).all u32B = true := by
  rw [List.all_eq_true] at h ⊢
  intro x hx
  exact h x ((sortS_perm l).subset hx)
theorem srt_ok : PureOK Tryd.prog (GG m t fr) 8 srtG := by
  refine PureOK.of (fn_cuts mixed E5_ok (fn := Tryd.f8) (cuts := cut1 0 (soCut (GG m t fr))) (by kernel_rfl) (CutLaws.one (by omega) (by kernel_rfl) fun st e st' h => cutOf_ok E5_ok mixed (noCuts_ok (envOf_cuts ..) _) soF_ok h)) fun ps p hp => ?_
  unfold srtG at hp
  split at hp
  · rename_i n f most
    obtain ⟨hc, hp⟩ := br_run hp
    simp only [Bool.and_eq_true] at hc
    obtain ⟨⟨hf, hn⟩, hm⟩ := hc
    unfold u32N at hm
    simp only [Bool.and_eq_true, decide_eq_true_eq] at hm
    simp only [Tr.run, Option.some.injEq] at hp
    subst hp
    have h := sort_raw m t fr n f most
    dsimp only at h
    have hl := sps_len n f
    have hL : ((spsOf n f).map (bandS most)).length = n := by rw [List.length_map, sps_len]
    have hu := bands_u32 hm (sps_u32 hf)
    have e1 : spsOf n (sRow ((spsOf n f).map (bandS most))) = (spsOf n f).map (bandS most) := by
      have := sps_sRow ((spsOf n f).map (bandS most))
      rwa [hL] at this
    have e2 : areSps n (sRow ((spsOf n f).map (bandS most))) = true := by
      have := are_sRow hu
      rwa [hL] at this
    have hS : (sortS ((spsOf n f).map (bandS most))).length = n := by rw [sortS_len, hL]
    have e3 : spsOf n (sRow (sortS ((spsOf n f).map (bandS most)))) = sortS ((spsOf n f).map (bandS most)) := by
      have := sps_sRow (sortS ((spsOf n f).map (bandS most)))
      rwa [hS] at this
    have e4 : areSps n (sRow (sortS ((spsOf n f).map (bandS most)))) = true := by
      have := are_sRow (sortS_u32 hu)
      rwa [hS] at this
    rw [e1, e3, e2, e4, hn, hf] at h
    unfold srtR srtE
    rw [hl]
    cases c : Nat.blt 1024 n with
    | true =>
      have hd : decide ((n : Int) > 1024) = true := by rw [Nat.blt_eq] at c; simp; omega
      rw [hd] at h
      exact ⟨_, Tr.run_of h (by simp), PLe.tup (PLeL.cons (PLe.nil _ _) (.refl _))⟩
    | false =>
      have hd : decide ((n : Int) > 1024) = false := by
        rw [Bool.eq_false_iff, ne_eq, Nat.blt_eq] at c
        simp
        omega
      rw [hd] at h
      exact ⟨_, Tr.run_of h (by simp), PLe.of_eq rfl⟩
  · cases hp
/-! ### the document's Has -/
def endsG : List PV → Tr PV
  | [.agg [.lit (.int .u32 a), .lit (.int .u32 b)], .lit (.int .u32 most)] => .leaf (.tup [.lit (.int .u32 (bandS most (a, b)).1), .lit (.int .u32 (bandS most (a, b)).2)])
  | _ => .fail
theorem eS_zero (most : Int) : eS most 0 = most := by
  unfold eS
  cases h : bne most 0 with
  | true => simp
  | false =>
    have : most = 0 := by simpa using h
    subst this
    rfl
theorem eS_pos {most a : Int} (h : a ≠ 0) : eS most a = a := by
  unfold eS
  have : bne a 0 = true := by simpa using h
  rw [this]
  rfl
theorem ends_ok : PureOK Tryd.prog (GG m t fr) 27 endsG := by
  refine PureOK.of (fn_pure mixed E6_ok (envOf_cuts ..) (fn := Tryd.f27) (by kernel_rfl)) fun ps p hp => ?_
  unfold endsG at hp
  split at hp
  · rename_i a b most
    simp only [Tr.run, Option.some.injEq] at hp
    subst hp
    have h := ends_raw m t fr a b most
    unfold bandS
    dsimp only
    cases c1 : a == 0 with
    | true =>
      have ha : a = 0 := by simpa using c1
      rw [c1] at h
      subst ha
      rw [eS_zero]
      cases c2 : b == 0 with
      | true =>
        have hb : b = 0 := by simpa using c2
        rw [c2] at h
        subst hb
        rw [eS_zero, decide_eq_false (Int.lt_irrefl most)]
        rw [decide_eq_false (show ¬ most > most from Int.lt_irrefl most)] at h
        exact ⟨_, Tr.run_of h (by simp), PLe.of_eq rfl⟩
      | false =>
        have hb : b ≠ 0 := by simpa using c2
        rw [c2] at h
        rw [eS_pos hb]
        cases c3 : decide (most > b) with
        | true =>
          rw [c3] at h
          exact ⟨_, Tr.run_of h (by simp), PLe.of_eq rfl⟩
        | false =>
          rw [c3] at h
          exact ⟨_, Tr.run_of h (by simp), PLe.of_eq rfl⟩
    | false =>
      have ha : a ≠ 0 := by simpa using c1
      rw [c1] at h
      rw [eS_pos ha]
      cases c2 : b == 0 with
      | true =>
        have hb : b = 0 := by simpa using c2
        rw [c2] at h
        subst hb
        rw [eS_zero]
        cases c3 : decide (a > most) with
        | true =>
          rw [c3] at h
          exact ⟨_, Tr.run_of h (by simp), PLe.of_eq rfl⟩
        | false =>
          rw [c3] at h
          exact ⟨_, Tr.run_of h (by simp), PLe.of_eq rfl⟩
      | false =>
        have hb : b ≠ 0 := by simpa using c2
        rw [c2] at h
        rw [eS_pos hb]
        cases c3 : decide (a > b) with
        | true =>
          rw [c3] at h
          exact ⟨_, Tr.run_of h (by simp), PLe.of_eq rfl⟩
        | false =>
          rw [c3] at h
          exact ⟨_, Tr.run_of h (by simp), PLe.of_eq rfl⟩
  · cases hp
def enPure : List (Nat × (List PV → Tr PV)) := (8, srtG) :: (27, endsG) :: hsPure
theorem enPure_ok : TabOK Tryd.prog (GG m t fr) enPure := TabOK.cons srt_ok (fn := Tryd.f8) (by kernel_rfl) (by kernel_rfl) (TabOK.cons ends_ok (fn := Tryd.f27) (by kernel_rfl) (by kernel_rfl) hsPure_ok)
noncomputable abbrev E8 (G : GT) : Env := envOf Tryd.prog G enPure nbFull
theorem E8_ok : (E8 (GG m t fr)).ok Tryd.prog (GG m t fr) := envOf_ok mixed enPure_ok nbFull_ok
def rhOuts : Exit → Outs
  | .normal => { ks := [1, 2, 11, 12, 13] }
  | .exit _ => { ks := [] }
  | _ => { ks := [6] }
noncomputable abbrev rhRound (G : GT) := roundT Tryd.prog (E8 G) 60 G 32 rhOuts .normal (theLoop 0 Tryd.f15)
-- from: rh_round [bs, okS, ls, sp, bandS] (m : Int) (t : TypeId) (fr : Nat × Nat) (l : List Sp) (n : Nat) (most x u i : Int) : (rhRound (GG m t fr) ([.lit (.int .u32 most), .lit (.int .u32 x), .gsl 2 n (sRow l), int u, int i], [])).run2
theorem rh_round (m : Int) (t : TypeId) (fr : Nat × Nat) (l : List Sp) (n : Nat) (most x u i : Int) : (rhRound (GG m t fr) ([.lit (.int .u32 most), .lit (.int .u32 x), .gsl 2 n (sRow l), int u, int i], [])).run2 =
    (bif (decide (i < u)) then
        bif (decide ((Prod.fst (bandS most ((Prod.fst (sp l (Int.toNat i))), (Prod.snd (sp l (Int.toNat i)))))) ≤ x)) then
          bif (decide (x ≤ (Prod.snd (bandS most ((Prod.fst (sp l (Int.toNat i))), (Prod.snd (sp l (Int.toNat i)))))))) then
            (.some ((.ret, ([(.lit (.bool true))], [])), [((decide ((0 : Int) ≤ i)) && (Nat.blt (Int.toNat i) n))]))
          else (.some ((.normal, ([(.lit (.int .u32 most)), (.lit (.int .u32 x)), (.gsl 2 n (fun i => [PV.lit (Value.int IntKind.u32 (sp l i).fst), PV.lit (Value.int IntKind.u32 (sp l i).snd)])), (.lit (.int .i64 u)), (.lit (.int .i64 (IntKind.wrap .i64 (i + (1 : Int)))))], [])), [((decide ((0 : Int) ≤ i)) && (Nat.blt (Int.toNat i) n))]))
        else (.some ((.normal, ([(.lit (.int .u32 most)), (.lit (.int .u32 x)), (.gsl 2 n (fun i => [PV.lit (Value.int IntKind.u32 (sp l i).fst), PV.lit (Value.int IntKind.u32 (sp l i).snd)])), (.lit (.int .i64 u)), (.lit (.int .i64 (IntKind.wrap .i64 (i + (1 : Int)))))], [])), [((decide ((0 : Int) ≤ i)) && (Nat.blt (Int.toNat i) n))]))
      else (.some (((.exit 0), ([], [])), [])) : Option ((Exit × Kept) × List Bool)) := by
  kernel_rfl
def nsOuts : Exit → Outs
  | .normal => { ks := [0, 1, 2, 7, 26, 27, 28] }
  | .exit _ => { ks := [0, 1, 2, 7] }
  | _ => { ks := [6] }
noncomputable abbrev nsRound (G : GT) := roundT Tryd.prog (E8 G) 60 G 112 nsOuts .normal (theLoop 0 Tryd.f6)
-- from: ns_round [bs, okS, ls, sp] (m : Int) (t : TypeId) (fr : Nat × Nat) (l : List Sp) (n n0 : Nat) (f0 : Nat → List PV) (most x u i : Int) : (nsRound (GG m t fr) ([.gsl 2 n0 f0, .lit (.int .u32 most), .lit (.int .u32 x), .gsl 2 n (sRow l), .gsl 2 n (sRow l), int u, int i], [])).run2
theorem ns_round (m : Int) (t : TypeId) (fr : Nat × Nat) (l : List Sp) (n n0 : Nat) (f0 : Nat → List PV) (most x u i : Int) : (nsRound (GG m t fr) ([.gsl 2 n0 f0, .lit (.int .u32 most), .lit (.int .u32 x), .gsl 2 n (sRow l), .gsl 2 n (sRow l), int u, int i], [])).run2 =
    (bif (decide (i < u)) then
        bif (decide ((Prod.fst (sp l (Int.toNat i))) > (Prod.snd (sp l (Int.toNat i))))) then
          (.some ((.ret, ([(.lit (.bool false))], [])), [true, true, true, ((decide ((0 : Int) ≤ i)) && (Nat.blt (Int.toNat i) n))]))
        else bif (decide (i > (0 : Int))) then
            bif (decide ((Prod.fst (sp l (Int.toNat i))) ≤ (Prod.snd (sp l (Int.toNat (IntKind.wrap .i64 (i - (1 : Int)))))))) then
              (.some ((.ret, ([(.lit (.bool false))], [])), [true, true, true, true, true, true, true, ((decide ((0 : Int) ≤ (IntKind.wrap .i64 (i - (1 : Int))))) && (Nat.blt (Int.toNat (IntKind.wrap .i64 (i - (1 : Int)))) n)), ((decide ((0 : Int) ≤ i)) && (Nat.blt (Int.toNat i) n))]))
            else bif (decide ((IntKind.wrap .u32 ((Prod.fst (sp l (Int.toNat i))) - (Prod.snd (sp l (Int.toNat (IntKind.wrap .i64 (i - (1 : Int)))))))) < (2 : Int))) then
                (.some ((.ret, ([(.lit (.bool false))], [])), [((decide ((0 : Int) ≤ (IntKind.wrap .i64 (i - (1 : Int))))) && (Nat.blt (Int.toNat (IntKind.wrap .i64 (i - (1 : Int)))) n)), ((decide ((0 : Int) ≤ (IntKind.wrap .i64 (i - (1 : Int))))) && (Nat.blt (Int.toNat (IntKind.wrap .i64 (i - (1 : Int)))) n)), ((decide ((0 : Int) ≤ i)) && (Nat.blt (Int.toNat i) n))]))
              else (.some ((.normal, ([(.gsl 2 n0 f0), (.lit (.int .u32 most)), (.lit (.int .u32 x)), (.gsl 2 n (fun i => [PV.lit (Value.int IntKind.u32 (sp l i).fst), PV.lit (Value.int IntKind.u32 (sp l i).snd)])), (.gsl 2 n (fun i => [PV.lit (Value.int IntKind.u32 (sp l i).fst), PV.lit (Value.int IntKind.u32 (sp l i).snd)])), (.lit (.int .i64 u)), (.lit (.int .i64 (IntKind.wrap .i64 (i + (1 : Int)))))], [])), [((decide ((0 : Int) ≤ (IntKind.wrap .i64 (i - (1 : Int))))) && (Nat.blt (Int.toNat (IntKind.wrap .i64 (i - (1 : Int)))) n)), ((decide ((0 : Int) ≤ (IntKind.wrap .i64 (i - (1 : Int))))) && (Nat.blt (Int.toNat (IntKind.wrap .i64 (i - (1 : Int)))) n)), ((decide ((0 : Int) ≤ i)) && (Nat.blt (Int.toNat i) n))]))
          else (.some ((.normal, ([(.gsl 2 n0 f0), (.lit (.int .u32 most)), (.lit (.int .u32 x)), (.gsl 2 n (fun i => [PV.lit (Value.int IntKind.u32 (sp l i).fst), PV.lit (Value.int IntKind.u32 (sp l i).snd)])), (.gsl 2 n (fun i => [PV.lit (Value.int IntKind.u32 (sp l i).fst), PV.lit (Value.int IntKind.u32 (sp l i).snd)])), (.lit (.int .i64 u)), (.lit (.int .i64 (IntKind.wrap .i64 (i + (1 : Int)))))], [])), [((decide ((0 : Int) ≤ i)) && (Nat.blt (Int.toNat i) n))]))
      else (.some (((.exit 0), ([(.gsl 2 n0 f0), (.lit (.int .u32 most)), (.lit (.int .u32 x)), (.gsl 2 n (fun i => [PV.lit (Value.int IntKind.u32 (sp l i).fst), PV.lit (Value.int IntKind.u32 (sp l i).snd)]))], [])), [])) : Option ((Exit × Kept) × List Bool)) := by
  kernel_rfl
def rhEnd (most x : Int) (r : List Sp) : Exit × Kept := bif hasS most x r then (.ret, ([bool true], [])) else (.exit 0, ([], []))
def rhIn (l : List Sp) (most x : Int) (i : Nat) : Kept := ([.lit (.int .u32 most), .lit (.int .u32 x), .gsl 2 l.length (sRow l), int l.length, int i], [])
theorem hasS_cons (most x : Int) (b : Sp) (r : List Sp) : hasS most x (b :: r) = (withinB x (bandS most b) || hasS most x r) := rfl
theorem rh_LR (l : List Sp) (most x : Int) (hn : l.length ≤ 4294967280) : ∀ (r : List Sp) (i : Nat), l.drop i = r →
    LR Tryd.prog (E8 (GG m t fr)) 60 (GG m t fr) 32 rhOuts .normal (theLoop 0 Tryd.f15) (rhIn l most x i) (rhEnd most x r).1 (rhEnd most x r).2
  | [], i, hr => by
    have h := rh_round m t fr l l.length most x l.length i
    have hlen := List.drop_eq_nil_iff.1 hr
    have hd : decide ((i : Int) < (l.length : Int)) = false := by simp; omega
    rw [hd] at h
    exact .last (Tr.run_of h (by simp)) (by simp [rhEnd, hasS]) (by simp [rhEnd, hasS])
  | b :: r, i, hr => by
    have h := rh_round m t fr l l.length most x l.length i
    obtain ⟨hlt, hx, hdr⟩ := sp_drop hr
    have hd : decide ((i : Int) < (l.length : Int)) = true := by simp; omega
    have hw : IntKind.i64.wrap ((i : Int) + 1) = ((i + 1 : Nat) : Int) := wrap_succ (by omega)
    rw [hd, hw, Int.toNat_natCast, hx] at h
    simp only [cond_true] at h
    have ih := rh_LR l most x hn r (i + 1) hdr
    cases c1 : decide ((bandS most b).1 ≤ x) with
    | false =>
      rw [c1] at h
      have e : rhEnd most x (b :: r) = rhEnd most x r := by unfold rhEnd; rw [hasS_cons]; simp [withinB, c1]
      rw [e]
      exact .more (Tr.run_of h (by simp; omega)) ih
    | true =>
      rw [c1] at h
      cases c2 : decide (x ≤ (bandS most b).2) with
      | false =>
        rw [c2] at h
        have e : rhEnd most x (b :: r) = rhEnd most x r := by unfold rhEnd; rw [hasS_cons]; simp [withinB, c1, c2]
        rw [e]
        exact .more (Tr.run_of h (by simp; omega)) ih
      | true =>
        rw [c2] at h
        have e : rhEnd most x (b :: r) = (.ret, ([bool true], [])) := by unfold rhEnd; rw [hasS_cons]; simp [withinB, c1, c2]
        rw [e]
        exact .last (Tr.run_of h (by simp; omega)) (by simp) (by simp)
def rhF : Kept → Tr (Exit × Kept)
  | ([.lit (.int .u32 most), .lit (.int .u32 x), .gsl 2 n f, .lit (.int .i64 u), .lit (.int .i64 0)], []) => .br (areSps n f && decide (u = (n : Int)) && Nat.ble n 4294967280) (.br (hasS most x (spsOf n f)) (.leaf (.ret, ([bool true], []))) (.leaf (.exit 0, ([], [])))) .fail
  | _ => .fail
theorem rhF_ok (k : Kept) (e : Exit) (y : Kept) (h : (rhF k).run = some (e, y)) : LR Tryd.prog (E8 (GG m t fr)) 60 (GG m t fr) 32 rhOuts .normal (theLoop 0 Tryd.f15) k e y := by
  unfold rhF at h
  split at h
  · rename_i most x n f u
    have hb := br_run h
    clear h
    obtain ⟨hc, h⟩ := hb
    simp only [Bool.and_eq_true, decide_eq_true_eq, Nat.ble_eq] at hc
    obtain ⟨⟨hf, rfl⟩, hn⟩ := hc
    have hL := sps_len n f
    have key := rh_LR (m := m) (t := t) (fr := fr) (spsOf n f) most x (by omega) (spsOf n f) 0 rfl
    have hin : KLe ([.lit (.int .u32 most), .lit (.int .u32 x), .gsl 2 n f, int (n : Int), int 0], []) (rhIn (spsOf n f) most x 0) := by
      refine ⟨PLeL.cons (.refl _) (PLeL.cons (.refl _) (PLeL.cons (PLe.gsl hL.symm (sps_row hf)) (PLeL.cons (PLe.of_eq ?_) (.refl _)))), .refl _⟩
      rw [hL]
    unfold rhEnd at key
    cases hd : hasS most x (spsOf n f) with
    | true =>
      rw [hd] at key h
      simp only [Tr.run, cond_true, Option.some.injEq, Prod.mk.injEq] at h
      obtain ⟨rfl, rfl⟩ := h
      exact .le hin key
    | false =>
      rw [hd] at key h
      simp only [Tr.run, cond_false, Option.some.injEq, Prod.mk.injEq] at h
      obtain ⟨rfl, rfl⟩ := h
      exact .le hin key
  · cases h
noncomputable abbrev rhCut (G : GT) := cutOf G 32 rhOuts 0 rhF
/-! ### the law's own loop: spans that rise go through it -/
def nsIn (n0 : Nat) (f0 : Nat → List PV) (most x : Int) (l : List Sp) (i : Nat) : Kept := ([.gsl 2 n0 f0, .lit (.int .u32 most), .lit (.int .u32 x), .gsl 2 l.length (sRow l), .gsl 2 l.length (sRow l), int l.length, int i], [])
def nsEnd (n0 : Nat) (f0 : Nat → List PV) (most x : Int) (l : List Sp) : Kept := ([.gsl 2 n0 f0, .lit (.int .u32 most), .lit (.int .u32 x), .gsl 2 l.length (sRow l)], [])
theorem ns_LR (n0 : Nat) (f0 : Nat → List PV) (most x : Int) (l : List Sp) (hu : l.all u32B = true) (hn : l.length ≤ 4294967280) : ∀ (r : List Sp) (i : Nat) (p : Option Sp), l.drop i = r → okM p r = true → (i = 0 ↔ p = none) → (∀ q, p = some q → sp l (i - 1) = q) →
    LR Tryd.prog (E8 (GG m t fr)) 60 (GG m t fr) 112 nsOuts .normal (theLoop 0 Tryd.f6) (nsIn n0 f0 most x l i) (.exit 0) (nsEnd n0 f0 most x l)
  | [], i, p, hr, ho, hp, hq => by
    have h := ns_round m t fr l l.length n0 f0 most x l.length i
    have hlen := List.drop_eq_nil_iff.1 hr
    have hd : decide ((i : Int) < (l.length : Int)) = false := by simp; omega
    rw [hd] at h
    exact .last (Tr.run_of h (by simp)) (by simp) (by simp)
  | b :: r, i, p, hr, ho, hp, hq => by
    have h := ns_round m t fr l l.length n0 f0 most x l.length i
    obtain ⟨hlt, hx, hdr⟩ := sp_drop hr
    rw [okM_cons] at ho
    simp only [Bool.and_eq_true, decide_eq_true_eq] at ho
    obtain ⟨⟨hb1, hgap⟩, ho⟩ := ho
    have uat : ∀ j, j < l.length → 0 ≤ (sp l j).1 ∧ (sp l j).1 < 4294967296 ∧ 0 ≤ (sp l j).2 ∧ (sp l j).2 < 4294967296 := by
      intro j hj
      have := List.all_eq_true.1 hu l[j] (List.getElem_mem hj)
      have e : sp l j = l[j] := by simp [sp, hj]
      unfold u32B at this
      simp only [Bool.and_eq_true, decide_eq_true_eq] at this
      rw [e]
      omega
    have hd : decide ((i : Int) < (l.length : Int)) = true := by simp; omega
    have hw : IntKind.i64.wrap ((i : Int) + 1) = ((i + 1 : Nat) : Int) := wrap_succ (by omega)
    have c0 : decide (b.1 > b.2) = false := by simp; omega
    have ih := ns_LR n0 f0 most x l hu hn r (i + 1) (some b) hdr ho (by simp) (fun q hq => by cases hq; simpa using hx)
    have hbu := uat i hlt
    rw [hx] at hbu
    rw [hd, hw, Int.toNat_natCast, hx, c0] at h
    simp only [cond_true, cond_false] at h
    cases p with
    | none =>
      have hi : i = 0 := hp.2 rfl
      have c1 : decide ((i : Int) > 0) = false := by simp; omega
      rw [c1] at h
      exact .more (Tr.run_of h (by simp; omega)) ih
    | some q =>
      have hi : i ≠ 0 := fun e => by have := hp.1 e; cases this
      have hq' := hq q rfl
      have hqu := uat (i - 1) (by omega)
      rw [hq'] at hqu
      simp only [gapM, decide_eq_true_eq] at hgap
      have c1 : decide ((i : Int) > 0) = true := by simp; omega
      have hw1 : IntKind.i64.wrap ((i : Int) - 1) = ((i - 1 : Nat) : Int) := by
        have : ((i : Int) - 1) = ((i - 1 : Nat) : Int) := by omega
        rw [this]
        exact wrap_nat (by omega)
      have c2 : decide (b.1 ≤ q.2) = false := by simp; omega
      have c3 : decide (IntKind.wrap .u32 (b.1 - q.2) < 2) = false := by
        rw [IntKind.wrap_u32]
        simp
        omega
      rw [c1, hw1, Int.toNat_natCast, hq', c2, c3] at h
      exact .more (Tr.run_of h (by simp; omega)) ih
def nsF : Kept → Tr (Exit × Kept)
  | ([.gsl 2 n0 f0, .lit (.int .u32 most), .lit (.int .u32 x), .gsl 2 n f, .gsl 2 n' f', .lit (.int .i64 u), .lit (.int .i64 0)], []) => .br (areSps n f && (areSps n' f' && decide (n = n') && decide (spsOf n f = spsOf n' f')) && decide (u = (n : Int)) && Nat.ble n 4294967280 && okM none (spsOf n f))
      (.leaf (.exit 0, ([.gsl 2 n0 f0, .lit (.int .u32 most), .lit (.int .u32 x), .gsl 2 n (sRow (spsOf n f))], []))) .fail
  | _ => .fail
theorem nsF_ok (k : Kept) (e : Exit) (y : Kept) (h : (nsF k).run = some (e, y)) : LR Tryd.prog (E8 (GG m t fr)) 60 (GG m t fr) 112 nsOuts .normal (theLoop 0 Tryd.f6) k e y := by
  unfold nsF at h
  split at h
  · rename_i n0 f0 most x n f n' f' u
    have hb := br_run h
    clear h
    obtain ⟨hc, h⟩ := hb
    simp only [Bool.and_eq_true, decide_eq_true_eq, Nat.ble_eq] at hc
    obtain ⟨⟨⟨⟨hf, ⟨hf', rfl⟩, hff⟩, rfl⟩, hn⟩, ho⟩ := hc
    simp only [Tr.run, Option.some.injEq, Prod.mk.injEq] at h
    obtain ⟨rfl, rfl⟩ := h
    have hL := sps_len n f
    have key := ns_LR (m := m) (t := t) (fr := fr) n0 f0 most x (spsOf n f) (sps_u32 hf) (by omega) (spsOf n f) 0 none rfl ho (by simp) (fun q hq => by cases hq)
    have hin : KLe ([.gsl 2 n0 f0, .lit (.int .u32 most), .lit (.int .u32 x), .gsl 2 n f, .gsl 2 n f', int (n : Int), int 0], []) (nsIn n0 f0 most x (spsOf n f) 0) := by
      refine ⟨PLeL.cons (.refl _) (PLeL.cons (.refl _) (PLeL.cons (.refl _) (PLeL.cons (PLe.gsl hL.symm (sps_row hf)) (PLeL.cons (PLe.gsl hL.symm fun i hi => ?_) (PLeL.cons (PLe.of_eq ?_) (.refl _)))))), .refl _⟩
      · rw [hff]
        exact sps_row hf' i hi
      · rw [hL]
    exact .out (.le hin key) ⟨PLeL.cons (.refl _) (PLeL.cons (.refl _) (PLeL.cons (.refl _) (PLeL.cons (PLe.gsl hL fun i hi => rfl) (.refl _)))), .refl _⟩
  · cases h
noncomputable abbrev nsCut (G : GT) := cutOf G 112 nsOuts 0 nsF
-- from: rhas_raw [bs, okS, ls, sp, areSps, spsOf, hasS] (m : Int) (t : TypeId) (fr : Nat × Nat) (n : Nat) (f : Nat → List PV) (most x : Int) : (fnPure Tryd.prog ((E8 (GG m t fr)).withCuts (cut1 0 (rhCut (GG m t fr)))) 60 Tryd.f15 (GG m t fr) [.gsl 2 n f, .lit (.int .u32 most), .lit (.int .u32 x)]).run2
theorem rhas_raw (m : Int) (t : TypeId) (fr : Nat × Nat) (n : Nat) (f : Nat → List PV) (most x : Int) : (fnPure Tryd.prog ((E8 (GG m t fr)).withCuts (cut1 0 (rhCut (GG m t fr)))) 60 Tryd.f15 (GG m t fr) [.gsl 2 n f, .lit (.int .u32 most), .lit (.int .u32 x)]).run2 =
    (bif (hasS most x (spsOf n f)) then
        (.some ((.lit (.bool true)), [(((areSps n f) && (decide (((n : Nat) : Int) = ((n : Nat) : Int)))) && (Nat.ble n (4294967280 : Nat)))]))
      else (.some ((.lit (.bool false)), [(((areSps n f) && (decide (((n : Nat) : Int) = ((n : Nat) : Int)))) && (Nat.ble n (4294967280 : Nat)))])) : Option (PV × List Bool)) := by
  kernel_rfl
end
end Go.Proofs.YtbpmfaghjlmjmaaDoor.Ev
