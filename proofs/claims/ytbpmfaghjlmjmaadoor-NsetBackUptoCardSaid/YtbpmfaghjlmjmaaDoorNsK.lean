/- NsetSame as a contract. No condition. -/
import Derived.Test.YtbpmfaghjlmjmaaDoorNsI
namespace Go.Proofs.YtbpmfaghjlmjmaaDoor.Ev
open Go Go.RowKit Go.Proofs Go.Proofs.YtbpmfaghjlmjmaaDoor.Str
set_option linter.unusedVariables false
set_option linter.unusedSimpArgs false
def lowB (a : Int) (y : Sp) : Prop := a ≤ y.1 ∧ fine y
theorem mgS_all (a : Int) : ∀ (r o : List Sp) (c : Sp), (∀ y ∈ r, lowB a y) → lowB a c → (∀ y ∈ o, lowB a y) → ∀ y ∈ mgS r o c, lowB a y
  | [], o, c, _, hc, ho, y, hy => by
    rw [mgS, List.mem_append] at hy
    rcases hy with h | h
    · exact ho y h
    · have : y = c := by simpa using h
      rw [this]
      exact hc
  | b :: r, o, c, hr, hc, ho, y, hy => by
    have hb := hr b (by simp)
    have hr' : ∀ y ∈ r, lowB a y := fun y hy => hr y (by simp [hy])
    rw [mgS] at hy
    cases ht : bne c.2 4294967295 && decide (c.2 + 1 < b.1) with
    | true =>
      rw [ht] at hy
      refine mgS_all a r (o ++ [c]) b hr' hb (fun z hz => ?_) y hy
      rw [List.mem_append] at hz
      rcases hz with h | h
      · exact ho z h
      · have : z = c := by simpa using h
        rw [this]
        exact hc
    | false =>
      rw [ht] at hy
      refine mgS_all a r o _ hr' ?_ ho y hy
      unfold lowB fine at *
      cases hd : decide (c.2 < b.2) with
      | true =>
        have := of_decide_eq_true hd
        simp only [cond_true]
        omega
      | false =>
        simp only [cond_false]
        exact hc
theorem mgS_head : ∀ (r o : List Sp) (c : Sp), (sp (mgS r o c) 0).1 = (sp (o ++ [c]) 0).1
  | [], o, c => rfl
  | b :: r, o, c => by
    rw [mgS]
    cases ht : bne c.2 4294967295 && decide (c.2 + 1 < b.1) with
    | true =>
      rw [cond_true, mgS_head r (o ++ [c]) b]
      cases o <;> rfl
    | false =>
      rw [cond_false, mgS_head r o]
      cases o <;> rfl
theorem mgS_ne : ∀ (r o : List Sp) (c : Sp), mgS r o c ≠ []
  | [], o, c => by simp [mgS]
  | b :: r, o, c => by
    rw [mgS]
    cases ht : bne c.2 4294967295 && decide (c.2 + 1 < b.1) with
    | true => exact mgS_ne r _ _
    | false => exact mgS_ne r _ _
theorem sp_mem {l : List Sp} (h : 0 < l.length) : sp l 0 ∈ l := by
  cases l with
  | nil => exact absurd h (Nat.lt_irrefl 0)
  | cons a r => exact List.mem_cons_self ..
theorem fine_u32 {y : Sp} (h : fine y) : u32B y = true := by
  unfold fine at h
  unfold u32B
  simp
  omega
section
variable {most : Int} {l : List Sp}
theorem band_mem (hm : 0 ≤ most ∧ most < 4294967296) (hu : l.all u32B = true) : ∀ y ∈ sortS (l.map (bandS most)), fine y ∧ (y.1 = 0 → most = 0) := by
  intro y hy
  have h1 := (sortS_perm (l.map (bandS most))).subset hy
  obtain ⟨x, hx, rfl⟩ := List.mem_map.1 h1
  have hx' := List.all_eq_true.1 hu x hx
  exact ⟨bandS_fine hm hx', bandS_zero hm.1 hx'⟩
theorem sort_any (x : Int) (L : List Sp) : (sortS L).any (withinB x) = L.any (withinB x) := by
  rw [Bool.eq_iff_iff, List.any_eq_true, List.any_eq_true]
  exact ⟨fun ⟨y, hy, h⟩ => ⟨y, (sortS_perm L).subset hy, h⟩, fun ⟨y, hy, h⟩ => ⟨y, (sortS_perm L).symm.subset hy, h⟩⟩
theorem srtR_eq (hl : l.length ≤ 1024) : srtR most l = mgZ (sortS (l.map (bandS most))) := by
  unfold srtR
  have : Nat.blt 1024 l.length = false := by rw [Bool.eq_false_iff, ne_eq, Nat.blt_eq]; omega
  rw [this]
  rfl
theorem srtR_len : (srtR most l).length ≤ 1024 := by
  unfold srtR
  cases h : Nat.blt 1024 l.length with
  | true => exact Nat.zero_le _
  | false =>
    rw [Bool.eq_false_iff, ne_eq, Nat.blt_eq] at h
    have h1 := mgZ_len (sortS (l.map (bandS most)))
    rw [sortS_len, List.length_map] at h1
    simp only [cond_false]
    omega
theorem srt_sorted : ∀ (i j : Nat), i < j → j < (sortS (l.map (bandS most))).length → (sp (sortS (l.map (bandS most))) i).1 ≤ (sp (sortS (l.map (bandS most))) j).1 := by
  intro i j hij hj
  rw [sortS_len] at hj
  exact sortS_sorted _ i j hij hj
theorem srtR_okM (hm : 0 ≤ most ∧ most < 4294967296) (hu : l.all u32B = true) : okM none (srtR most l) = true := by
  rcases Nat.lt_or_ge 1024 l.length with h | h
  · unfold srtR
    have : Nat.blt 1024 l.length = true := by rw [Nat.blt_eq]; exact h
    rw [this]
    rfl
  · rw [srtR_eq h]
    exact (mgZ_ok (fun b hb => (band_mem hm hu b hb).1) srt_sorted).1
theorem mgZ_low {S : List Sp} (hf : ∀ b ∈ S, fine b) (hs : ∀ (i j : Nat), i < j → j < S.length → (sp S i).1 ≤ (sp S j).1) : (∀ y ∈ mgZ S, lowB (sp S 0).1 y) ∧ (sp (mgZ S) 0).1 = (sp S 0).1 ∧ (mgZ S = [] → S = []) := by
  cases S with
  | nil => exact ⟨fun y hy => (by cases hy), rfl, fun _ => rfl⟩
  | cons b r =>
    refine ⟨mgS_all _ r [] b (fun y hy => ⟨?_, hf y (by simp [hy])⟩) ⟨Int.le_refl _, hf b (by simp)⟩ (fun y hy => by cases hy), ?_, fun h => absurd h (mgS_ne r [] b)⟩
    · obtain ⟨j, hj, hjb⟩ := List.getElem_of_mem hy
      have := hs 0 (j + 1) (by omega) (by simp; omega)
      have e1 : sp (b :: r) (j + 1) = y := by simp [sp, hj, hjb]
      rw [e1] at this
      exact this
    · show (sp (mgS r [] b) 0).1 = _
      rw [mgS_head]
      rfl
theorem srtR_all (hm : 0 ≤ most ∧ most < 4294967296) (hu : l.all u32B = true) : ∀ y ∈ srtR most l, lowB (sp (srtR most l) 0).1 y := by
  rcases Nat.lt_or_ge 1024 l.length with h | h
  · unfold srtR
    have : Nat.blt 1024 l.length = true := by rw [Nat.blt_eq]; exact h
    rw [this]
    intro y hy
    cases hy
  · rw [srtR_eq h]
    have := mgZ_low (fun b hb => (band_mem (most := most) (l := l) hm hu b hb).1) srt_sorted
    rw [this.2.1]
    exact this.1
theorem srtR_u32 (hm : 0 ≤ most ∧ most < 4294967296) (hu : l.all u32B = true) : (srtR most l).all u32B = true :=
  List.all_eq_true.2 fun y hy => fine_u32 (srtR_all hm hu y hy).2
/-- the first one from 0: there is no last one -/
theorem srtR_zero (hm : 0 ≤ most ∧ most < 4294967296) (hu : l.all u32B = true) (hp : 0 < (srtR most l).length) (h0 : (sp (srtR most l) 0).1 = 0) : most = 0 := by
  rcases Nat.lt_or_ge 1024 l.length with h | h
  · unfold srtR at hp
    have : Nat.blt 1024 l.length = true := by rw [Nat.blt_eq]; exact h
    rw [this] at hp
    exact absurd hp (Nat.lt_irrefl 0)
  · rw [srtR_eq h] at h0 hp
    have hz := mgZ_low (fun b hb => (band_mem (most := most) (l := l) hm hu b hb).1) srt_sorted
    rw [hz.2.1] at h0
    have hS : 0 < (sortS (l.map (bandS most))).length := by
      have := mgZ_len (sortS (l.map (bandS most)))
      omega
    exact (band_mem hm hu _ (sp_mem hS)).2 h0
theorem srtR_has (hm : 0 ≤ most ∧ most < 4294967296) (hu : l.all u32B = true) (hl : l.length ≤ 1024) (h0 : most = 0 ∨ srtR most l = [] ∨ (sp (srtR most l) 0).1 ≠ 0) (x : Int) :
    srtR most (srtR most l) = srtR most l ∧ hasS most x (srtR most l) = hasS most x l := by
  have hall := srtR_all hm hu
  have hok := srtR_okM hm hu
  have hid : (srtR most l).map (bandS most) = srtR most l := by
    have : ∀ y ∈ srtR most l, bandS most y = y := by
      intro y hy
      obtain ⟨h1, h2⟩ := hall y hy
      refine bandS_id h2.1 ?_
      rcases h0 with h | h | h
      · exact .inl h
      · rw [h] at hy
        cases hy
      · have h3 : fine (sp (srtR most l) 0) := (hall _ (sp_mem (by
          cases hh : srtR most l with
          | nil => rw [hh] at hy; cases hy
          | cons a r => exact Nat.zero_lt_succ _))).2
        unfold fine at h2 h3
        right
        omega
    exact (List.map_congr_left this).trans (List.map_id _)
  have hperm : sortS (srtR most l) = srtR most l := by
    refine perm_st (srtR most l) _ (fun b r h => ?_) (sortS_perm _) fun i j hij hj => ?_
    · rw [h, okM_cons] at hok
      simp only [Bool.and_eq_true, decide_eq_true_eq] at hok
      exact okM_st b r hok.2 hok.1.1
    · rw [sortS_len] at hj
      exact sortS_sorted _ i j hij hj
  refine ⟨?_, ?_⟩
  · have e : srtR most (srtR most l) = mgZ (sortS ((srtR most l).map (bandS most))) := srtR_eq srtR_len
    rw [e, hid, hperm]
    exact mgZ_id hok fun b hb => (hall b hb).2
  · unfold hasS
    rw [hid, srtR_eq hl, (mgZ_ok (fun b hb => (band_mem hm hu b hb).1) srt_sorted).2 x, sort_any]
theorem srtE_zero : srtE (srtR most l) = 0 := by
  unfold srtE
  have : Nat.blt 1024 (srtR most l).length = false := by
    have := @srtR_len most l
    rw [Bool.eq_false_iff, ne_eq, Nat.blt_eq]
    omega
  rw [this]
  rfl
end
section
variable {m : Int} {t : TypeId} {fr : Nat × Nat}
def sameG : List PV → Tr PV
  | [.gsl 2 n f, .lit (.int .u32 most), .lit (.int .u32 x)] => .br (areSps n f && Nat.ble n 4294967280 && u32N most) (.leaf (bool true)) .fail
  | _ => .fail
theorem same_ok : PureOK Tryd.prog (GG m t fr) 6 sameG := by
  refine PureOK.of (fn_cuts mixed E9_ok (fn := Tryd.f6) (cuts := cut1 0 (nsCut (GG m t fr))) (by kernel_rfl) (CutLaws.one (by omega) (by kernel_rfl) fun st e st' h => cutOf_ok E8_ok mixed (noCuts_ok (envOf_cuts ..) _) nsF_ok h)) fun ps p hp => ?_
  unfold sameG at hp
  split at hp
  · rename_i n f most x
    obtain ⟨hc, hp⟩ := br_run hp
    simp only [Bool.and_eq_true] at hc
    obtain ⟨⟨hf, hn⟩, hm⟩ := hc
    have hm' := hm
    unfold u32N at hm'
    simp only [Bool.and_eq_true, decide_eq_true_eq] at hm'
    simp only [Tr.run, Option.some.injEq] at hp
    subst hp
    have h := same_raw m t fr n f most x
    have hu := sps_u32 hf
    rw [sps_sRow, sps_sRow, are_sRow (srtR_u32 hm' hu), srtR_okM hm' hu, srtE_zero, hf, hn, hm] at h
    have hle : Nat.ble (srtR most (spsOf n f)).length 4294967280 = true := Nat.ble_eq_true_of_le (Nat.le_trans srtR_len (by omega))
    rw [hle] at h
    cases c0 : bne (srtE (spsOf n f)) 0 with
    | true =>
      rw [c0] at h
      have e : srtR most (spsOf n f) = [] := by
        unfold srtE at c0
        unfold srtR
        cases hb : Nat.blt 1024 (spsOf n f).length with
        | true => rfl
        | false => rw [hb] at c0; cases c0
      rw [e] at h
      exact ⟨_, Tr.run_of h (by simp), PLe.of_eq rfl⟩
    | false =>
      have hl : (spsOf n f).length ≤ 1024 := by
        unfold srtE at c0
        cases hb : Nat.blt 1024 (spsOf n f).length with
        | true => rw [hb] at c0; cases c0
        | false => rw [Bool.eq_false_iff, ne_eq, Nat.blt_eq] at hb; omega
      rw [c0] at h
      have key := srtR_has (x := x) hm' hu hl
      have z := srtR_zero hm' hu
      have hA := are_sRow (srtR_u32 hm' hu)
      have z0 : ((0 : Int) == 0) = true := rfl
      generalize srtR most (spsOf n f) = R at h key z hA
      have hR : decide (R = R) = true := decide_eq_true rfl
      simp only [cond_false] at h
      cases c1 : decide ((R.length : Int) > 0) with
      | true =>
        have hpos : 0 < R.length := by have := of_decide_eq_true c1; omega
        cases c2 : (sp R 0).1 == 0 with
        | true =>
          have h0 : (sp R 0).1 = 0 := by simpa using c2
          have hz := z hpos h0
          subst hz
          obtain ⟨k1, k2⟩ := key (.inl rfl)
          rw [c1, c2, k2, z0] at h
          exact ⟨_, Tr.run_of h (by simp <;> omega), PLe.of_eq (by simp)⟩
        | false =>
          have h0 : (sp R 0).1 ≠ 0 := by simpa using c2
          obtain ⟨k1, k2⟩ := key (.inr (.inr h0))
          rw [c1, c2, k1, k2, sps_sRow, hA, z0, hR] at h
          exact ⟨_, Tr.run_of h (by simp <;> omega), PLe.of_eq (by simp)⟩
      | false =>
        have hnil : R = [] := by
          have := of_decide_eq_false c1
          cases R with
          | nil => rfl
          | cons a r => simp at this
        obtain ⟨k1, k2⟩ := key (.inr (.inl hnil))
        rw [c1, k1, k2, sps_sRow, hA, z0, hR] at h
        exact ⟨_, Tr.run_of h (by simp), PLe.of_eq (by simp)⟩
  · cases hp
def sameSh : List ASh := [.one (.sl [.int .u32, .int .u32]), .one (.sc (.int .u32)), .one (.sc (.int .u32))]
theorem same_args {qs : List PV} (ha : areArgs sameSh qs = true) (hb : argsBulk qs ≤ 1048576) : (sameG qs).run = some (bool true) := by
  obtain ⟨q0, r0, rfl, h0, hr0⟩ := args_cons ha
  obtain ⟨q2, r2, rfl, h2, hr2⟩ := args_cons hr0
  obtain ⟨q3, r3, rfl, h3, hr3⟩ := args_cons hr2
  obtain rfl := args_nil hr3
  obtain ⟨n, f, rfl, hf⟩ := ak_sl h0
  obtain ⟨v, rfl, hv⟩ := ak_sc h2
  obtain ⟨most, rfl, hm⟩ := u32_given hv
  obtain ⟨v', rfl, hv'⟩ := ak_sc h3
  obtain ⟨x, rfl, hx⟩ := u32_given hv'
  have hb' : (((List.range n).map fun i => scsBulk (f i)).sum + 1) + (1 + (1 + 0)) ≤ 1048576 := hb
  obtain ⟨o1, o2⟩ := sps_given hf (by omega)
  have o5 : Nat.ble n 4294967280 = true := Nat.ble_eq_true_of_le (Nat.le_trans o2 (by omega))
  show (sameG [.gsl 2 n f, .lit (.int .u32 most), .lit (.int .u32 x)]).run = some (bool true)
  simp [sameG, Tr.run, o1, o5, hm]
end
end Go.Proofs.YtbpmfaghjlmjmaaDoor.Ev
