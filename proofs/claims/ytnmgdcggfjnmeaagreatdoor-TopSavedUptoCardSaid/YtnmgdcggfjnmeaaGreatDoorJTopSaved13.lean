/- JTopSaved13: several texts in one. Condition: each part's own. -/
import Derived.Test.YtnmgdcggfjnmeaaGreatDoorJTopSaved12
import Derived.Test.YtnmgdcggfjnmeaaGreatDoorJTopSaved07
/- NsetSame as a contract. No condition. -/
namespace Go.Proofs.YtnmgdcggfjnmeaaGreatDoor.Ev
open Go Go.RowKit Go.Proofs Go.Proofs.YtnmgdcggfjnmeaaGreatDoor.Str
set_option linter.unusedVariables false
set_option linter.unusedSimpArgs false
def lowB (a : Int) (y : Sp) : Prop := a ≤ y.1 ∧ fine y
theorem mgS_all (a : Int) : ∀ (r o : List Sp) (c : Sp), (∀ y ∈ r, lowB a y) → lowB a c → (∀ y ∈ o, lowB a y) → ∀ y ∈ mgS r o c, lowB a y
  | [], o, c, _, hc, ho, y, hy => by
    rw [mgS, List.mem_append] at hy
    rcases hy with h | h
    · exact ho y h
    · have : y = c := by simpa using h
      rw [this]
      exact hc
  | b :: r, o, c, hr, hc, ho, y, hy => by
    have hb := hr b (by simp)
    have hr' : ∀ y ∈ r, lowB a y := fun y hy => hr y (by simp [hy])
    rw [mgS] at hy
    cases ht : bne c.2 4294967295 && decide (c.2 + 1 < b.1) with
    | true =>
      rw [ht] at hy
      refine mgS_all a r (o ++ [c]) b hr' hb (fun z hz => ?_) y hy
      rw [List.mem_append] at hz
      rcases hz with h | h
      · exact ho z h
      · have : z = c := by simpa using h
        rw [this]
        exact hc
    | false =>
      rw [ht] at hy
      refine mgS_all a r o _ hr' ?_ ho y hy
      unfold lowB fine at *
      cases hd : decide (c.2 < b.2) with
      | true =>
        have := of_decide_eq_true hd
        simp only [cond_true]
        omega
      | false =>
        simp only [cond_false]
        exact hc
theorem mgS_head : ∀ (r o : List Sp) (c : Sp), (sp (mgS r o c) 0).1 = (sp (o ++ [c]) 0).1
  | [], o, c => rfl
  | b :: r, o, c => by
    rw [mgS]
    cases ht : bne c.2 4294967295 && decide (c.2 + 1 < b.1) with
    | true =>
      rw [cond_true, mgS_head r (o ++ [c]) b]
      cases o <;> rfl
    | false =>
      rw [cond_false, mgS_head r o]
      cases o <;> rfl
theorem mgS_ne : ∀ (r o : List Sp) (c : Sp), mgS r o c ≠ []
  | [], o, c => by simp [mgS]
  | b :: r, o, c => by
    rw [mgS]
    cases ht : bne c.2 4294967295 && decide (c.2 + 1 < b.1) with
    | true => exact mgS_ne r _ _
    | false => exact mgS_ne r _ _
theorem sp_mem {l : List Sp} (h : 0 < l.length) : sp l 0 ∈ l := by
  cases l with
  | nil => exact absurd h (Nat.lt_irrefl 0)
  | cons a r => exact List.mem_cons_self ..
theorem fine_u32 {y : Sp} (h : fine y) : u32B y = true := by
  unfold fine at h
  unfold u32B
  simp
  omega
section
variable {most : Int} {l : List Sp}
theorem band_mem (hm : 0 ≤ most ∧ most < 4294967296) (hu : l.all u32B = true) : ∀ y ∈ sortS (l.map (bandS most)), fine y ∧ (y.1 = 0 → most = 0) := by
  intro y hy
  have h1 := (sortS_perm (l.map (bandS most))).subset hy
  obtain ⟨x, hx, rfl⟩ := List.mem_map.1 h1
  have hx' := List.all_eq_true.1 hu x hx
  exact ⟨bandS_fine hm hx', bandS_zero hm.1 hx'⟩
theorem sort_any (x : Int) (L : List Sp) : (sortS L).any (withinB x) = L.any (withinB x) := by
  rw [Bool.eq_iff_iff, List.any_eq_true, List.any_eq_true]
  exact ⟨fun ⟨y, hy, h⟩ => ⟨y, (sortS_perm L).subset hy, h⟩, fun ⟨y, hy, h⟩ => ⟨y, (sortS_perm L).symm.subset hy, h⟩⟩
theorem srtR_eq (hl : l.length ≤ 1024) : srtR most l = mgZ (sortS (l.map (bandS most))) := by
  unfold srtR
  have : Nat.blt 1024 l.length = false := by rw [Bool.eq_false_iff, ne_eq, Nat.blt_eq]; omega
  rw [this]
  rfl
theorem srtR_len : (srtR most l).length ≤ 1024 := by
  unfold srtR
  cases h : Nat.blt 1024 l.length with
  | true => exact Nat.zero_le _
  | false =>
    rw [Bool.eq_false_iff, ne_eq, Nat.blt_eq] at h
    have h1 := mgZ_len (sortS (l.map (bandS most)))
    rw [sortS_len, List.length_map] at h1
    simp only [cond_false]
    omega
theorem srt_sorted : ∀ (i j : Nat), i < j → j < (sortS (l.map (bandS most))).length → (sp (sortS (l.map (bandS most))) i).1 ≤ (sp (sortS (l.map (bandS most))) j).1 := by
  intro i j hij hj
  rw [sortS_len] at hj
  exact sortS_sorted _ i j hij hj
theorem srtR_okM (hm : 0 ≤ most ∧ most < 4294967296) (hu : l.all u32B = true) : okM none (srtR most l) = true := by
  rcases Nat.lt_or_ge 1024 l.length with h | h
  · unfold srtR
    have : Nat.blt 1024 l.length = true := by rw [Nat.blt_eq]; exact h
    rw [this]
    rfl
  · rw [srtR_eq h]
    exact (mgZ_ok (fun b hb => (band_mem hm hu b hb).1) srt_sorted).1
theorem mgZ_low {S : List Sp} (hf : ∀ b ∈ S, fine b) (hs : ∀ (i j : Nat), i < j → j < S.length → (sp S i).1 ≤ (sp S j).1) : (∀ y ∈ mgZ S, lowB (sp S 0).1 y) ∧ (sp (mgZ S) 0).1 = (sp S 0).1 ∧ (mgZ S = [] → S = []) := by
  cases S with
  | nil => exact ⟨fun y hy => (by cases hy), rfl, fun _ => rfl⟩
  | cons b r =>
    refine ⟨mgS_all _ r [] b (fun y hy => ⟨?_, hf y (by simp [hy])⟩) ⟨Int.le_refl _, hf b (by simp)⟩ (fun y hy => by cases hy), ?_, fun h => absurd h (mgS_ne r [] b)⟩
    · obtain ⟨j, hj, hjb⟩ := List.getElem_of_mem hy
      have := hs 0 (j + 1) (by omega) (by simp; omega)
      have e1 : sp (b :: r) (j + 1) = y := by simp [sp, hj, hjb]
      rw [e1] at this
      exact this
    · show (sp (mgS r [] b) 0).1 = _
      rw [mgS_head]
      rfl
theorem srtR_all (hm : 0 ≤ most ∧ most < 4294967296) (hu : l.all u32B = true) : ∀ y ∈ srtR most l, lowB (sp (srtR most l) 0).1 y := by
  rcases Nat.lt_or_ge 1024 l.length with h | h
  · unfold srtR
    have : Nat.blt 1024 l.length = true := by rw [Nat.blt_eq]; exact h
    rw [this]
    intro y hy
    cases hy
  · rw [srtR_eq h]
    have := mgZ_low (fun b hb => (band_mem (most := most) (l := l) hm hu b hb).1) srt_sorted
    rw [this.2.1]
    exact this.1
theorem srtR_u32 (hm : 0 ≤ most ∧ most < 4294967296) (hu : l.all u32B = true) : (srtR most l).all u32B = true :=
  List.all_eq_true.2 fun y hy => fine_u32 (srtR_all hm hu y hy).2
/-- the first one from 0: there is no last one -/
theorem srtR_zero (hm : 0 ≤ most ∧ most < 4294967296) (hu : l.all u32B = true) (hp : 0 < (srtR most l).length) (h0 : (sp (srtR most l) 0).1 = 0) : most = 0 := by
  rcases Nat.lt_or_ge 1024 l.length with h | h
  · unfold srtR at hp
    have : Nat.blt 1024 l.length = true := by rw [Nat.blt_eq]; exact h
    rw [this] at hp
    exact absurd hp (Nat.lt_irrefl 0)
  · rw [srtR_eq h] at h0 hp
    have hz := mgZ_low (fun b hb => (band_mem (most := most) (l := l) hm hu b hb).1) srt_sorted
    rw [hz.2.1] at h0
    have hS : 0 < (sortS (l.map (bandS most))).length := by
      have := mgZ_len (sortS (l.map (bandS most)))
      omega
    exact (band_mem hm hu _ (sp_mem hS)).2 h0
theorem srtR_has (hm : 0 ≤ most ∧ most < 4294967296) (hu : l.all u32B = true) (hl : l.length ≤ 1024) (h0 : most = 0 ∨ srtR most l = [] ∨ (sp (srtR most l) 0).1 ≠ 0) (x : Int) :
    srtR most (srtR most l) = srtR most l ∧ hasS most x (srtR most l) = hasS most x l := by
  have hall := srtR_all hm hu
  have hok := srtR_okM hm hu
  have hid : (srtR most l).map (bandS most) = srtR most l := by
    have : ∀ y ∈ srtR most l, bandS most y = y := by
      intro y hy
      obtain ⟨h1, h2⟩ := hall y hy
      refine bandS_id h2.1 ?_
      rcases h0 with h | h | h
      · exact .inl h
      · rw [h] at hy
        cases hy
      · have h3 : fine (sp (srtR most l) 0) := (hall _ (sp_mem (by
          cases hh : srtR most l with
          | nil => rw [hh] at hy; cases hy
          | cons a r => exact Nat.zero_lt_succ _))).2
        unfold fine at h2 h3
        right
        omega
    exact (List.map_congr_left this).trans (List.map_id _)
  have hperm : sortS (srtR most l) = srtR most l := by
    refine perm_st (srtR most l) _ (fun b r h => ?_) (sortS_perm _) fun i j hij hj => ?_
    · rw [h, okM_cons] at hok
      simp only [Bool.and_eq_true, decide_eq_true_eq] at hok
      exact okM_st b r hok.2 hok.1.1
    · rw [sortS_len] at hj
      exact sortS_sorted _ i j hij hj
  refine ⟨?_, ?_⟩
  · have e : srtR most (srtR most l) = mgZ (sortS ((srtR most l).map (bandS most))) := srtR_eq srtR_len
    rw [e, hid, hperm]
    exact mgZ_id hok fun b hb => (hall b hb).2
  · unfold hasS
    rw [hid, srtR_eq hl, (mgZ_ok (fun b hb => (band_mem hm hu b hb).1) srt_sorted).2 x, sort_any]
theorem srtE_zero : srtE (srtR most l) = 0 := by
  unfold srtE
  have : Nat.blt 1024 (srtR most l).length = false := by
    have := @srtR_len most l
    rw [Bool.eq_false_iff, ne_eq, Nat.blt_eq]
    omega
  rw [this]
  rfl
end
section
variable {m : Int} {t : TypeId} {fr : Nat × Nat}
def sameG : List PV → Tr PV
  | [.gsl 2 n f, .lit (.int .u32 most), .lit (.int .u32 x)] => .br (areSps n f && Nat.ble n 4294967280 && u32N most) (.leaf (bool true)) .fail
  | _ => .fail
def sameSh : List ASh := [.one (.sl [.int .u32, .int .u32]), .one (.sc (.int .u32)), .one (.sc (.int .u32))]
theorem same_args {qs : List PV} (ha : areArgs sameSh qs = true) (hb : argsBulk qs ≤ 1048576) : (sameG qs).run = some (bool true) := by
  obtain ⟨q0, r0, rfl, h0, hr0⟩ := args_cons ha
  obtain ⟨q2, r2, rfl, h2, hr2⟩ := args_cons hr0
  obtain ⟨q3, r3, rfl, h3, hr3⟩ := args_cons hr2
  obtain rfl := args_nil hr3
  obtain ⟨n, f, rfl, hf⟩ := ak_sl h0
  obtain ⟨v, rfl, hv⟩ := ak_sc h2
  obtain ⟨most, rfl, hm⟩ := u32_given hv
  obtain ⟨v', rfl, hv'⟩ := ak_sc h3
  obtain ⟨x, rfl, hx⟩ := u32_given hv'
  have hb' : (((List.range n).map fun i => scsBulk (f i)).sum + 1) + (1 + (1 + 0)) ≤ 1048576 := hb
  obtain ⟨o1, o2⟩ := sps_given hf (by omega)
  have o5 : Nat.ble n 4294967280 = true := Nat.ble_eq_true_of_le (Nat.le_trans o2 (by omega))
  show (sameG [.gsl 2 n f, .lit (.int .u32 most), .lit (.int .u32 x)]).run = some (bool true)
  simp [sameG, Tr.run, o1, o5, hm]
end
end Go.Proofs.YtnmgdcggfjnmeaaGreatDoor.Ev

/- nset: the document's own sorting, put together; two lists of spans that do not touch and hold the same are the same. No condition, and no program in it. -/
namespace Go.Proofs.YtnmgdcggfjnmeaaGreatDoor.Ev
open Go Go.RowKit Go.Proofs Go.Proofs.YtnmgdcggfjnmeaaGreatDoor.Str
set_option linter.unusedVariables false
set_option linter.unusedSimpArgs false
/-- the spans that one does not touch; that one, with those that it touches -/
def riS : List Sp → Int → Int → List Sp → (Int × Int) × List Sp
  | [], a, b, r => ((a, b), r)
  | y :: s, a, b, r => bif (decide (y.2 + 1 < a) || decide (b + 1 < y.1)) then riS s a b (r ++ [y]) else riS s (bif decide (y.1 < a) then y.1 else a) (bif decide (y.2 > b) then y.2 else b) r
/-- how many begin before it -/
def rjS (a : Int) : List Sp → Nat
  | [] => 0
  | y :: r => bif decide (y.1 < a) then rjS a r + 1 else 0
def roS (o : List Sp) (c : Sp) : List Sp :=
  let z := riS o c.1 c.2 []
  z.2.take (rjS z.1.1 z.2) ++ (z.1 :: z.2.drop (rjS z.1.1 z.2))
def rsS (most : Int) (l : List Sp) : List Sp := l.foldl (fun o x => roS o (bandS most x)) []
/-- apart, and each one right -/
def gapP (x y : Sp) : Prop := x.2 + 2 ≤ y.1
def okP (l : List Sp) : Prop := l.Pairwise gapP ∧ ∀ x ∈ l, fine x
def sepB (a b : Int) (z : Sp) : Prop := z.2 + 1 < a ∨ b + 1 < z.1
theorem riS_ok (x : Int) : ∀ (s : List Sp) (a b : Int) (r : List Sp), okP (r ++ s) → (∀ z ∈ r, sepB a b z) → fine (a, b) →
    okP (riS s a b r).2 ∧ (∀ z ∈ (riS s a b r).2, sepB (riS s a b r).1.1 (riS s a b r).1.2 z) ∧ fine (riS s a b r).1 ∧
    (withinB x (riS s a b r).1 || (riS s a b r).2.any (withinB x)) = (withinB x (a, b) || (r ++ s).any (withinB x))
  | [], a, b, r, h, hz, hf => by
    rw [List.append_nil] at h ⊢
    exact ⟨h, hz, hf, rfl⟩
  | y :: s, a, b, r, h, hz, hf => by
    have hy : fine y := h.2 y (by simp)
    have hry : ∀ z ∈ r, gapP z y := fun z hz => (List.pairwise_append.1 h.1).2.2 z hz y (by simp)
    have hfr : ∀ z ∈ r, fine z := fun z hz => h.2 z (by simp [hz])
    rw [riS]
    cases ht : (decide (y.2 + 1 < a) || decide (b + 1 < y.1)) with
    | true =>
      simp only [Bool.or_eq_true, decide_eq_true_eq] at ht
      have e : r ++ y :: s = (r ++ [y]) ++ s := by simp
      rw [cond_true, e]
      rw [e] at h
      exact riS_ok x s a b (r ++ [y]) h (fun z hz' => by
        rcases List.mem_append.1 hz' with h' | h'
        · exact hz z h'
        · have : z = y := by simpa using h'
          rw [this]
          exact ht) hf
    | false =>
      rw [Bool.or_eq_false_iff] at ht
      have t1 := of_decide_eq_false ht.1
      have t2 := of_decide_eq_false ht.2
      have h' : okP (r ++ s) := by
        refine ⟨?_, fun z hz => h.2 z ?_⟩
        · exact h.1.sublist (List.Sublist.append_left (List.sublist_cons_self y s) r)
        · rcases List.mem_append.1 hz with h | h
          · simp [h]
          · simp [h]
      have hf' : fine ((bif decide (y.1 < a) then y.1 else a), (bif decide (y.2 > b) then y.2 else b)) := by
        unfold fine at *
        cases d1 : decide (y.1 < a) <;> cases d2 : decide (y.2 > b) <;> simp at d1 d2 ⊢ <;> omega
      have hz' : ∀ z ∈ r, sepB (bif decide (y.1 < a) then y.1 else a) (bif decide (y.2 > b) then y.2 else b) z := by
        intro z hz0
        have g := hry z hz0
        have s0 := hz z hz0
        have fz := hfr z hz0
        unfold sepB gapP fine at *
        left
        cases d1 : decide (y.1 < a) <;> simp at d1 ⊢ <;> omega
      have key := riS_ok x s _ _ r h' hz' hf'
      rw [cond_false]
      refine ⟨key.1, key.2.1, key.2.2.1, ?_⟩
      rw [key.2.2.2]
      have e : withinB x ((bif decide (y.1 < a) then y.1 else a), (bif decide (y.2 > b) then y.2 else b)) = (withinB x (a, b) || withinB x y) := by
        unfold fine at hf hy
        rw [Bool.eq_iff_iff]
        cases d1 : decide (y.1 < a) <;> cases d2 : decide (y.2 > b) <;> simp [withinB] at d1 d2 ⊢ <;> omega
      rw [e]
      simp only [List.any_append, List.any_cons]
      cases withinB x (a, b) <;> cases withinB x y <;> cases r.any (withinB x) <;> rfl
theorem rjS_le (a : Int) : ∀ (l : List Sp), rjS a l ≤ l.length
  | [] => Nat.le_refl _
  | y :: r => by
    rw [rjS]
    have := rjS_le a r
    cases decide (y.1 < a) <;> simp <;> omega
theorem ins_ok (x : Int) (c : Sp) (hc : fine c) : ∀ (l : List Sp), okP l → (∀ z ∈ l, sepB c.1 c.2 z) →
    okP (l.take (rjS c.1 l) ++ (c :: l.drop (rjS c.1 l))) ∧ (l.take (rjS c.1 l) ++ (c :: l.drop (rjS c.1 l))).any (withinB x) = (withinB x c || l.any (withinB x))
  | [], h, hz => by
    refine ⟨⟨by simp [rjS], fun z hz => ?_⟩, by simp [rjS]⟩
    have : z = c := by simpa [rjS] using hz
    rw [this]
    exact hc
  | y :: r, h, hz => by
    have hy := h.2 y (by simp)
    have hzy := hz y (by simp)
    have hp := List.pairwise_cons.1 h.1
    have hr : okP r := ⟨hp.2, fun z hz => h.2 z (by simp [hz])⟩
    rw [rjS]
    cases d : decide (y.1 < c.1) with
    | true =>
      have hlt := of_decide_eq_true d
      have ih := ins_ok x c hc r hr fun z hz' => hz z (by simp [hz'])
      simp only [cond_true, List.take_succ_cons, List.drop_succ_cons, List.cons_append]
      refine ⟨⟨List.pairwise_cons.2 ⟨fun z hz' => ?_, ih.1.1⟩, fun z hz' => ?_⟩, ?_⟩
      · rcases List.mem_append.1 hz' with h' | h'
        · exact hp.1 z (List.mem_of_mem_take h')
        · rcases List.mem_cons.1 h' with rfl | h'
          · unfold sepB gapP fine at *
            omega
          · exact hp.1 z (List.mem_of_mem_drop h')
      · rcases List.mem_cons.1 hz' with rfl | h'
        · exact hy
        · exact ih.1.2 z h'
      · rw [List.any_cons, ih.2, List.any_cons]
        cases withinB x y <;> cases withinB x c <;> rfl
    | false =>
      have hge := of_decide_eq_false d
      simp only [cond_false, List.take_zero, List.drop_zero, List.nil_append]
      have hb : c.2 + 2 ≤ y.1 := by
        unfold sepB fine at *
        omega
      refine ⟨⟨List.pairwise_cons.2 ⟨fun z hz' => ?_, h.1⟩, fun z hz' => ?_⟩, rfl⟩
      · rcases List.mem_cons.1 hz' with rfl | h'
        · exact hb
        · have := hp.1 z h'
          unfold gapP fine at *
          omega
      · rcases List.mem_cons.1 hz' with rfl | h'
        · exact hc
        · exact h.2 z h'
theorem roS_ok (x : Int) {o : List Sp} {c : Sp} (ho : okP o) (hc : fine c) : okP (roS o c) ∧ (roS o c).any (withinB x) = (o.any (withinB x) || withinB x c) := by
  have h1 := riS_ok x o c.1 c.2 [] ho (fun z hz => by cases hz) hc
  have h2 := ins_ok x (riS o c.1 c.2 []).1 h1.2.2.1 (riS o c.1 c.2 []).2 h1.1 h1.2.1
  refine ⟨h2.1, ?_⟩
  show List.any (_ ++ _ :: _) _ = _
  rw [h2.2, h1.2.2.2, Bool.or_comm]
  rfl
theorem fold_ok (x most : Int) (hm : 0 ≤ most ∧ most < 4294967296) : ∀ (l o : List Sp), okP o → l.all u32B = true →
    okP (l.foldl (fun o x => roS o (bandS most x)) o) ∧ (l.foldl (fun o x => roS o (bandS most x)) o).any (withinB x) = (o.any (withinB x) || hasS most x l)
  | [], o, ho, _ => ⟨ho, by simp [hasS]⟩
  | y :: r, o, ho, hl => by
    have hy := List.all_eq_true.1 hl y (by simp)
    have h1 := roS_ok x ho (bandS_fine hm hy)
    have ih := fold_ok x most hm r (roS o (bandS most y)) h1.1 (List.all_eq_true.2 fun z hz => List.all_eq_true.1 hl z (by simp [hz]))
    refine ⟨ih.1, ?_⟩
    show List.any (List.foldl _ (roS o (bandS most y)) r) _ = _
    rw [ih.2, h1.2, hasS_cons, Bool.or_assoc]
theorem same_any : ∀ (L M : List Sp), okP L → okP M → (∀ x, L.any (withinB x) = M.any (withinB x)) → L = M
  | [], [], _, _, _ => rfl
  | [], y :: s, _, hM, h => by
    have := h y.1
    have hy := hM.2 y (by simp)
    unfold fine at hy
    simp [withinB] at this
    omega
  | x :: r, [], hL, _, h => by
    have := h x.1
    have hx := hL.2 x (by simp)
    unfold fine at hx
    simp [withinB] at this
    omega
  | x :: r, y :: s, hL, hM, h => by
    have px := List.pairwise_cons.1 hL.1
    have py := List.pairwise_cons.1 hM.1
    have fx := hL.2 x (by simp)
    have fy := hM.2 y (by simp)
    have lowL : ∀ v, r.any (withinB v) = true → x.2 + 2 ≤ v := by
      intro v hv
      obtain ⟨z, hz, hzv⟩ := List.any_eq_true.1 hv
      have := px.1 z hz
      unfold gapP at this
      simp [withinB] at hzv
      omega
    have lowM : ∀ v, s.any (withinB v) = true → y.2 + 2 ≤ v := by
      intro v hv
      obtain ⟨z, hz, hzv⟩ := List.any_eq_true.1 hv
      have := py.1 z hz
      unfold gapP at this
      simp [withinB] at hzv
      omega
    have inx : ∀ v, withinB v x = true ↔ x.1 ≤ v ∧ v ≤ x.2 := by intro v; simp [withinB]
    have iny : ∀ v, withinB v y = true ↔ y.1 ≤ v ∧ v ≤ y.2 := by intro v; simp [withinB]
    have hv : ∀ v, (withinB v x = true ∨ r.any (withinB v) = true) ↔ (withinB v y = true ∨ s.any (withinB v) = true) := by
      intro v
      have := h v
      rw [List.any_cons, List.any_cons] at this
      rw [← Bool.or_eq_true, ← Bool.or_eq_true, this]
    unfold fine at fx fy
    have e1 : x.1 = y.1 := by
      have a1 := (hv x.1).1 (.inl ((inx _).2 ⟨Int.le_refl _, fx.1⟩))
      have a2 := (hv y.1).2 (.inl ((iny _).2 ⟨Int.le_refl _, fy.1⟩))
      rcases a1 with a1 | a1
      · rcases a2 with a2 | a2
        · have := (iny _).1 a1
          have := (inx _).1 a2
          omega
        · have := lowL _ a2
          have := (iny _).1 a1
          omega
      · have := lowM _ a1
        rcases a2 with a2 | a2
        · have := (inx _).1 a2
          omega
        · have := lowL _ a2
          omega
    have e2 : x.2 = y.2 := by
      rcases Int.lt_trichotomy x.2 y.2 with hlt | heq | hgt
      · have a := (hv (x.2 + 1)).2 (.inl ((iny _).2 ⟨by omega, by omega⟩))
        rcases a with a | a
        · have := (inx _).1 a
          omega
        · have := lowL _ a
          omega
      · exact heq
      · have a := (hv (y.2 + 1)).1 (.inl ((inx _).2 ⟨by omega, by omega⟩))
        rcases a with a | a
        · have := (iny _).1 a
          omega
        · have := lowM _ a
          omega
    have exy : x = y := Prod.ext e1 e2
    subst exy
    rw [same_any r s ⟨px.2, fun z hz => hL.2 z (by simp [hz])⟩ ⟨py.2, fun z hz => hM.2 z (by simp [hz])⟩ fun v => ?_]
    have h0 := hv v
    rw [Bool.eq_iff_iff]
    constructor
    · intro hr
      rcases h0.1 (.inr hr) with h' | h'
      · have := lowL _ hr
        have := (inx _).1 h'
        omega
      · exact h'
    · intro hs
      rcases h0.2 (.inr hs) with h' | h'
      · have := lowM _ hs
        have := (iny _).1 h'
        omega
      · exact h'
theorem okP_of : ∀ {l : List Sp} (p : Option Sp), okM p l = true → (∀ x ∈ l, fine x) → okP l ∧ ∀ q, p = some q → ∀ x ∈ l, gapP q x
  | [], p, _, _ => ⟨⟨List.Pairwise.nil, fun x hx => by cases hx⟩, fun q _ x hx => by cases hx⟩
  | y :: r, p, h, hf => by
    rw [okM_cons] at h
    simp only [Bool.and_eq_true, decide_eq_true_eq] at h
    have ih := okP_of (some y) h.2 fun x hx => hf x (by simp [hx])
    refine ⟨⟨List.pairwise_cons.2 ⟨ih.2 y rfl, ih.1.1⟩, hf⟩, fun q hq x hx => ?_⟩
    subst hq
    have g : gapP q y := by
      have := h.1.2
      simpa [gapM, gapP] using this
    rcases List.mem_cons.1 hx with rfl | hx
    · exact g
    · have := ih.2 y rfl x hx
      unfold gapP at *
      omega
/-- the document's list is the program's -/
theorem rsS_eq {most : Int} {l : List Sp} (hm : 0 ≤ most ∧ most < 4294967296) (hu : l.all u32B = true) (hl : l.length ≤ 1024) : rsS most l = srtR most l := by
  have hok := fun x => fold_ok x most hm l [] ⟨List.Pairwise.nil, fun x hx => by cases hx⟩ hu
  refine same_any _ _ (hok 0).1 (okP_of none (srtR_okM hm hu) fun b hb => (srtR_all hm hu b hb).2).1 fun x => ?_
  show List.any (List.foldl _ [] l) _ = _
  rw [(hok x).2, srtR_eq hl, (mgZ_ok (fun b hb => (band_mem hm hu b hb).1) srt_sorted).2 x, sort_any]
  rfl
end Go.Proofs.YtnmgdcggfjnmeaaGreatDoor.Ev

/- nset: the document's Sort, its loops. No condition. -/
namespace Go.Proofs.YtnmgdcggfjnmeaaGreatDoor.Ev
open Go Go.RowKit Go.Proofs Go.Proofs.YtnmgdcggfjnmeaaGreatDoor.Str
set_option linter.unusedVariables false
set_option linter.unusedSimpArgs false
section
variable {m : Int} {t : TypeId} {fr : Nat × Nat}
def riOuts : Exit → Outs
  | .normal => { ks := [1, 9, 10, 11, 18, 19, 20, 30, 31, 32], rs := [.slot 11], nils := [(11, 48, 2)] }
  | .exit _ => { ks := [1, 9, 10, 11, 18, 19, 20], rs := [.slot 11], nils := [(11, 48, 2)] }
  | _ => { ks := [] }
def rjOuts : Exit → Outs
  | .normal => { ks := [1, 9, 10, 11, 14, 18, 19, 20], frz := [11] }
  | .exit _ => { ks := [1, 9, 10, 11, 14, 18, 19, 20] }
  | _ => { ks := [] }
theorem w64 {a : Int} (h0 : 0 ≤ a) (h1 : a ≤ 8589934592) : IntKind.wrap .u64 a = a := by
  rw [IntKind.wrap_u64]
  omega
def riIn (most u0 i0 : Int) (n0 : Nat) (f0 : Nat → List PV) (o : List Sp) (i : Nat) (a b : Int) (r : List Sp) : Kept :=
  ([.lit (.int .u32 most), .lit (.int .u32 a), .lit (.int .u32 b), .own 0, .gsl 2 n0 f0, int u0, int i0, .gsl 2 o.length (sRow o), int o.length, int i], [.row 48 2 r.length (sRow r)])
def riEnd (most u0 i0 : Int) (n0 : Nat) (f0 : Nat → List PV) (z : (Int × Int) × List Sp) : Kept :=
  ([.lit (.int .u32 most), .lit (.int .u32 z.1.1), .lit (.int .u32 z.1.2), .own 0, .gsl 2 n0 f0, int u0, int i0], [.row 48 2 z.2.length (sRow z.2)])
def riA (s : List Sp) (a b : Int) : Int := (riS s a b []).1.1
def riB (s : List Sp) (a b : Int) : Int := (riS s a b []).1.2
def riR (s : List Sp) (a b : Int) : List Sp := (riS s a b []).2
def riF : Kept → Tr (Exit × Kept)
  | ([.lit (.int .u32 most), .lit (.int .u32 a), .lit (.int .u32 b), .own 0, .gsl 2 n0 f0, .lit (.int .i64 u0), .lit (.int .i64 i0), .gsl 2 n f, .lit (.int .i64 u), .lit (.int .i64 0)], [.row e 2 0 g]) => match Nat.beq e 48 with
    | true => .br (areSps n f && decide (u = (n : Int)) && Nat.ble n 4294967280 && u32N a && u32N b)
        (.leaf (.exit 2, ([.lit (.int .u32 most), .lit (.int .u32 (riA (spsOf n f) a b)), .lit (.int .u32 (riB (spsOf n f) a b)), .own 0, .gsl 2 n0 f0, int u0, int i0], [.row 48 2 (riR (spsOf n f) a b).length (sRow (riR (spsOf n f) a b))]))) .fail
    | false => .fail
  | _ => .fail
noncomputable abbrev riCut (G : GT) := cutOf G 100 riOuts 2 riF
/-! ### the place -/
def rjIn (most a b u0 i0 : Int) (n0 : Nat) (f0 : Nat → List PV) (r : List Sp) (j : Nat) : Kept := ([.lit (.int .u32 most), .lit (.int .u32 a), .lit (.int .u32 b), .gsl 2 r.length (sRow r), int j, .gsl 2 n0 f0, int u0, int i0], [])
def rjF : Kept → Tr (Exit × Kept)
  | ([.lit (.int .u32 most), .lit (.int .u32 a), .lit (.int .u32 b), .gsl 2 n f, .lit (.int .i64 0), .gsl 2 n0 f0, .lit (.int .i64 u0), .lit (.int .i64 i0)], []) => .br (areSps n f && Nat.ble n 4294967280)
      (.leaf (.exit 4, ([.lit (.int .u32 most), .lit (.int .u32 a), .lit (.int .u32 b), .gsl 2 n (sRow (spsOf n f)), int (rjS a (spsOf n f) : Nat), .gsl 2 n0 f0, int u0, int i0], []))) .fail
  | _ => .fail
noncomputable abbrev rjCut (G : GT) := cutOf G 100 rjOuts 4 rjF
end
end Go.Proofs.YtnmgdcggfjnmeaaGreatDoor.Ev

/- A loop within a loop: the cuts of a function's body are those of its loop's. No condition. -/
namespace Go.Proofs.YtnmgdcggfjnmeaaGreatDoor.Ev
open Go Go.RowKit
set_option linter.unusedVariables false
theorem blocks_sub {id j : Nat} {b d : Code} : ∀ (c : Code), b ∈ blocksOf id c → d ∈ blocksOf j b → d ∈ blocksOf j c := by
  intro c
  induction c <;> intro h hd
  case seq x y hx hy =>
    simp only [blocksOf, List.mem_append] at h ⊢
    exact h.imp (hx · hd) (hy · hd)
  case cond p x y hx hy =>
    simp only [blocksOf, List.mem_append] at h ⊢
    exact h.imp (hx · hd) (hy · hd)
  case block i c hc =>
    have key : d ∈ blocksOf j c := by
      simp only [blocksOf] at h
      split at h
      · rcases List.mem_cons.1 h with rfl | h
        · exact hd
        · exact hc h hd
      · exact hc h hd
    simp only [blocksOf]
    split
    · exact List.mem_cons_of_mem _ key
    · exact key
  case loop c hc => exact hc h hd
  case scope c hc => exact hc h hd
  all_goals exact absurd h (by simp [blocksOf])
theorem scopes_sub {id l : Nat} {b d : Code} : ∀ (c : Code), b ∈ blocksOf id c → d ∈ scopesOf l b → d ∈ scopesOf l c := by
  intro c
  induction c <;> intro h hd
  case seq x y hx hy =>
    simp only [blocksOf, scopesOf, List.mem_append] at h ⊢
    exact h.imp (hx · hd) (hy · hd)
  case cond p x y hx hy =>
    simp only [blocksOf, scopesOf, List.mem_append] at h ⊢
    exact h.imp (hx · hd) (hy · hd)
  case block i c hc =>
    simp only [blocksOf] at h
    split at h
    · rcases List.mem_cons.1 h with rfl | h
      · exact hd
      · exact hc h hd
    · exact hc h hd
  case loop c hc => exact hc h hd
  case scope c hc =>
    have key := hc h hd
    simp only [scopesOf]
    split
    · exact List.mem_cons_of_mem _ key
    · exact key
  all_goals exact absurd h (by simp [blocksOf])
theorem hasLoop_mem {id : Nat} {fn : Func} (h : hasLoop id fn = true) {c : Code} (hc : fn.body = some c) : .loop (theLoop id fn) ∈ blocksOf id c := by
  unfold hasLoop at h
  unfold theLoop
  rw [hc] at h ⊢
  dsimp only at h ⊢
  split at h
  · rename_i x hx
    rw [hx]
    exact List.mem_singleton.2 rfl
  · cases h
theorem CutsOK.inner {x : Mode} {P : Program} {G : GT} {E : Env} {fn : Func} {id : Nat} (h1 : hasLoop id fn = true) (h : ∀ c, fn.body = some c → CutsOK x P G E c) : CutsOK x P G E (theLoop id fn) := by
  cases hc : fn.body with
  | none =>
    unfold hasLoop at h1
    rw [hc] at h1
    cases h1
  | some c =>
    have hm := hasLoop_mem h1 hc
    exact ⟨fun j g hg b hb => (h c hc).blk j g hg b (blocks_sub c hm hb), fun l g hg b hb => (h c hc).lab l g hg b (scopes_sub c hm hb)⟩
theorem CutLaws.inner {x : Mode} {P : Program} {G : GT} {fn : Func} {E : Env} {id : Nat} (h1 : hasLoop id fn = true) (h : CutLaws x P G fn E.cuts) : CutsOK x P G E (theLoop id fn) := CutsOK.inner h1 (CutLaws.ok h)
end Go.Proofs.YtnmgdcggfjnmeaaGreatDoor.Ev

/- nset: the document's Sort as a contract. No condition. -/
namespace Go.Proofs.YtnmgdcggfjnmeaaGreatDoor.Ev
open Go Go.RowKit Go.Proofs Go.Proofs.YtnmgdcggfjnmeaaGreatDoor.Str
set_option linter.unusedVariables false
set_option linter.unusedSimpArgs false
section
variable {m : Int} {t : TypeId} {fr : Nat × Nat}
noncomputable abbrev rsCuts (G : GT) : Nat → Option (St → Tr (Exit × St)) := cutAlso 2 (riCut G) (cut1 4 (rjCut G))
noncomputable abbrev E9s (G : GT) : Env := (E9 G).withCuts (rsCuts G)
def rzOuts : Exit → Outs
  | .normal => { ks := [1, 6, 18, 19, 20], frz := [6] }
  | .exit _ => { ks := [6] }
  | _ => { ks := [] }
theorem ins_row (R : List Sp) (J : Nat) (hJ : J ≤ R.length) (a b : Int) (i : Nat) (hi : i < J + 1 + (R.length - J)) :
    rowApp (J + 1) (rowApp J (fun i => sRow R (Int.toNat 0 + i)) (rowOf [.lit (.int .u32 a), .lit (.int .u32 b)] 2)) (fun i => sRow R (J + i)) i = sRow (R.take J ++ (a, b) :: R.drop J) i := by
  have hl : (R.take J).length = J := by simp; omega
  rcases Nat.lt_trichotomy i J with h | h | h
  · rw [app_lo _ _ (by omega), app_lo _ _ h]
    show sRow R (0 + i) = _
    rw [Nat.zero_add]
    unfold sRow
    have : sp (R.take J ++ (a, b) :: R.drop J) i = sp R i := by
      unfold sp
      rw [List.getD_eq_getElem?_getD, List.getD_eq_getElem?_getD, List.getElem?_append_left (by omega), List.getElem?_take_of_lt h]
    rw [this]
  · subst h
    have e := app_hi i 0 (fun i => sRow R (Int.toNat 0 + i)) (rowOf [.lit (.int .u32 a), .lit (.int .u32 b)] 2)
    rw [app_lo _ _ (by omega)]
    rw [Nat.add_zero] at e
    rw [e]
    unfold sRow
    have : sp (R.take i ++ (a, b) :: R.drop i) i = (a, b) := by
      unfold sp
      rw [List.getD_eq_getElem?_getD, List.getElem?_append_right (by omega), hl, Nat.sub_self]
      rfl
    rw [this]
    rfl
  · obtain ⟨d, rfl⟩ : ∃ d, i = J + 1 + d := ⟨i - (J + 1), by omega⟩
    rw [app_hi]
    unfold sRow
    have : sp (R.take J ++ (a, b) :: R.drop J) (J + 1 + d) = sp R (J + d) := by
      unfold sp
      rw [List.getD_eq_getElem?_getD, List.getD_eq_getElem?_getD, List.getElem?_append_right (by omega), hl, show J + 1 + d - J = d + 1 by omega, List.getElem?_cons_succ, List.getElem?_drop]
    rw [this]
theorem riS_len : ∀ (s : List Sp) (a b : Int) (r : List Sp), (riS s a b r).2.length ≤ s.length + r.length
  | [], a, b, r => by simp [riS]
  | y :: s, a, b, r => by
    rw [riS]
    cases (decide (y.2 + 1 < a) || decide (b + 1 < y.1)) with
    | true =>
      have := riS_len s a b (r ++ [y])
      simp at this ⊢
      omega
    | false =>
      have := riS_len s (bif decide (y.1 < a) then y.1 else a) (bif decide (y.2 > b) then y.2 else b) r
      simp at this ⊢
      omega
theorem okP_u32 {l : List Sp} (h : okP l) : l.all u32B = true := List.all_eq_true.2 fun y hy => fine_u32 (h.2 y hy)
def rzIn (most : Int) (l : List Sp) (i : Nat) (o : List Sp) : Kept := ([.lit (.int .u32 most), .gsl 2 o.length (sRow o), .gsl 2 l.length (sRow l), int l.length, int i], [])
def rzF : Kept → Tr (Exit × Kept)
  | ([.lit (.int .u32 most), .lit (.slice none 0 0), .gsl 2 n f, .lit (.int .i64 u), .lit (.int .i64 0)], []) => .br (areSps n f && decide (u = (n : Int)) && Nat.ble n 1024 && u32N most) (.leaf (.exit 0, ([.gsl 2 (rsS most (spsOf n f)).length (sRow (rsS most (spsOf n f)))], []))) .fail
  | _ => .fail
noncomputable abbrev rzCut (G : GT) := cutOf G 100 rzOuts 0 rzF
end
end Go.Proofs.YtnmgdcggfjnmeaaGreatDoor.Ev

/- nset: numbers counted, numbers picked, numbers compared: loops. No condition. -/
namespace Go.Proofs.YtnmgdcggfjnmeaaGreatDoor.Ev
open Go Go.RowKit Go.Proofs Go.Proofs.YtnmgdcggfjnmeaaGreatDoor.Str
set_option linter.unusedVariables false
set_option linter.unusedSimpArgs false
section
variable {m : Int} {t : TypeId} {fr : Nat × Nat}
def cnOuts : Exit → Outs
  | .normal => { ks := [7, 8, 17, 18, 19] }
  | .exit _ => { ks := [7, 8] }
  | _ => { ks := [] }
def onOuts : Exit → Outs
  | .normal => { ks := [0, 1, 7, 10, 11, 12], rs := [.slot 7], nils := [(7, 24, 1)] }
  | .exit _ => { ks := [7], rs := [.slot 7], nils := [(7, 24, 1)] }
  | _ => { ks := [] }
def s1Outs : Exit → Outs
  | .normal => { ks := [0, 1, 12, 13] }
  | .exit _ => { ks := [] }
  | _ => { ks := [4] }
theorem okM_le : ∀ {p : Option Sp} {l : List Sp}, okM p l = true → ∀ y ∈ l, y.1 ≤ y.2
  | p, [], _, y, hy => by cases hy
  | p, x :: r, h, y, hy => by
    rw [okM_cons] at h
    simp only [Bool.and_eq_true, decide_eq_true_eq] at h
    rcases List.mem_cons.1 hy with rfl | hy
    · exact h.1.1
    · exact okM_le h.2 y hy
/-- how many numbers -/
def cnS : List Sp → Int → Int
  | [], c => c
  | y :: r, c => cnS r (c + (y.2 - y.1 + 1))
def cnIn (w : Int) (o : List Sp) (i : Nat) (c : Int) : Kept := ([int w, .lit (.int .u64 c), .gsl 2 o.length (sRow o), int o.length, int i], [])
def cnF : Kept → Tr (Exit × Kept)
  | ([.lit (.int .i64 w), .lit (.int .u64 0), .gsl 2 n f, .lit (.int .i64 u), .lit (.int .i64 0)], []) => .br (areSps n f && decide (u = (n : Int)) && Nat.ble n 1024 && okM none (spsOf n f)) (.leaf (.exit 0, ([int w, .lit (.int .u64 (cnS (spsOf n f) 0))], []))) .fail
  | _ => .fail

noncomputable abbrev cnCut (G : GT) := cutOf G 35 cnOuts 0 cnF

noncomputable abbrev rcCut (G : GT) := cutOf G 36 cnOuts 0 cnF

/-! ### Only -/
def onS (most : Int) (l : List Sp) : List Int → List Int → List Int
  | [], r => r
  | x :: s, r => bif hasS most x l then onS most l s (r ++ [x]) else onS most l s r
theorem n_snoc (o : List Int) (a : Int) (i : Nat) (hi : i < o.length + 1) : rowApp o.length (nRow o) (rowOf [.lit (.int .u32 a)] 1) i = nRow (o ++ [a]) i := by
  rcases Nat.lt_or_ge i o.length with h | h
  · rw [app_lo _ _ h]
    unfold nRow
    have : nu (o ++ [a]) i = nu o i := by simp [nu, List.getElem?_append_left h]
    rw [this]
  · have : i = o.length + 0 := by omega
    rw [this, app_hi]
    unfold nRow
    have : nu (o ++ [a]) (o.length + 0) = a := by simp [nu]
    rw [this]
    rfl
def onIn (most : Int) (n0 : Nat) (f0 : Nat → List PV) (ns : List Int) (i : Nat) (r : List Int) : Kept := ([.gsl 2 n0 f0, .lit (.int .u32 most), .own 0, .gsl 1 ns.length (nRow ns), int ns.length, int i], [.row 24 1 r.length (nRow r)])
def onEnd (q : List Int) : Kept := ([.own 0], [.row 24 1 q.length (nRow q)])
def onF : Kept → Tr (Exit × Kept)
  | ([.gsl 2 n0 f0, .lit (.int .u32 most), .own 0, .gsl 1 n f, .lit (.int .i64 u), .lit (.int .i64 0)], [.row e 1 0 g]) => match Nat.beq e 24 with
    | true => .br (areNums n f && decide (u = (n : Int)) && Nat.ble n 4294967280 && areSps n0 f0 && Nat.ble n0 4294967280 && u32N most)
        (.leaf (.exit 0, ([.own 0], [.row 24 1 (onS most (spsOf n0 f0) (numsOf n f) []).length (nRow (onS most (spsOf n0 f0) (numsOf n f) []))]))) .fail
    | false => .fail
  | _ => .fail

noncomputable abbrev onCut (G : GT) := cutOf G 26 onOuts 0 onF

noncomputable abbrev roCut (G : GT) := cutOf G 26 onOuts 0 onF

/-! ### numbers compared -/
def s1End (a b : List Int) : Exit × Kept := bif decide (a = b) then (.exit 0, ([], [])) else (.ret, ([bool false], []))
def s1In (a b : List Int) (i : Nat) : Kept := ([.gsl 1 a.length (nRow a), .gsl 1 b.length (nRow b), int a.length, int i], [])
def s1F : Kept → Tr (Exit × Kept)
  | ([.gsl 1 n f, .gsl 1 n' f', .lit (.int .i64 u), .lit (.int .i64 0)], []) => .br (areNums n f && areNums n' f' && decide (n = n') && decide (u = (n : Int)) && Nat.ble n 4294967280) (.br (decide (numsOf n f = numsOf n' f')) (.leaf (.exit 0, ([], []))) (.leaf (.ret, ([bool false], [])))) .fail
  | _ => .fail
noncomputable abbrev s1Cut (G : GT) := cutOf G 26 s1Outs 0 s1F
end
end Go.Proofs.YtnmgdcggfjnmeaaGreatDoor.Ev

/- NsetNumbers: Count, Only, the law. No condition. -/
namespace Go.Proofs.YtnmgdcggfjnmeaaGreatDoor.Ev
open Go Go.RowKit Go.Proofs Go.Proofs.YtnmgdcggfjnmeaaGreatDoor.Str
set_option linter.unusedVariables false
set_option linter.unusedSimpArgs false
section
variable {m : Int} {t : TypeId} {fr : Nat × Nat}
def r3Pure : List (Nat × (List PV → Tr PV)) := rsPure
theorem r3Pure_ok {m : Int} {t : TypeId} {fr : Nat × Nat} : TabOK Tryz.prog (GG m t fr) r3Pure := rsPure_ok
noncomputable abbrev E10 (G : GT) : Env := envOf Tryz.prog G r3Pure nbFull
theorem E10_ok : (E10 (GG m t fr)).ok Tryz.prog (GG m t fr) := envOf_ok mixed r3Pure_ok nbFull_ok
def cntG : List PV → Tr PV
  | [.gsl 2 n f, .lit (.int .u32 most)] => .br (areSps n f && Nat.ble n 4294967280 && u32N most) (.leaf (.tup [.lit (.int .u64 (cnS (srtR most (spsOf n f)) 0)), int (srtE (spsOf n f))])) .fail
  | _ => .fail
def onG : List PV → Tr PV
  | [.gsl 2 n f, .lit (.int .u32 most), .gsl 1 k g] => .br (areSps n f && Nat.ble n 4294967280 && u32N most && areNums k g && Nat.ble k 4294967280) (.leaf (.gsl 1 (onS most (spsOf n f) (numsOf k g) []).length (nRow (onS most (spsOf n f) (numsOf k g) [])))) .fail
  | _ => .fail
def s1G : List PV → Tr PV
  | [.gsl 1 n f, .gsl 1 k g] => .br (areNums n f && areNums k g && Nat.ble n 4294967280) (.leaf (bool (decide (numsOf n f = numsOf k g)))) .fail
  | _ => .fail
def cnPure : List (Nat × (List PV → Tr PV)) := r3Pure
theorem cnPure_ok {m : Int} {t : TypeId} {fr : Nat × Nat} : TabOK Tryz.prog (GG m t fr) cnPure := r3Pure_ok
noncomputable abbrev E11 (G : GT) : Env := envOf Tryz.prog G cnPure nbFull
theorem E11_ok : (E11 (GG m t fr)).ok Tryz.prog (GG m t fr) := envOf_ok mixed cnPure_ok nbFull_ok
theorem onS_ok (most : Int) (l : List Sp) : ∀ (s r : List Int), s.all u32N = true → r.all u32N = true → (onS most l s r).all u32N = true ∧ (onS most l s r).length ≤ s.length + r.length
  | [], r, _, hr => ⟨hr, by simp [onS]⟩
  | x :: s, r, hs, hr => by
    have hx : u32N x = true := List.all_eq_true.1 hs x (by simp)
    have hs' : s.all u32N = true := List.all_eq_true.2 fun y hy => List.all_eq_true.1 hs y (by simp [hy])
    rw [onS]
    cases hasS most x l with
    | true =>
      have := onS_ok most l s (r ++ [x]) hs' (by rw [List.all_append, hr]; simp [hx])
      refine ⟨this.1, Nat.le_trans this.2 (by simp; omega)⟩
    | false =>
      have := onS_ok most l s r hs' hr
      refine ⟨this.1, Nat.le_trans this.2 (by simp <;> omega)⟩
def numbersG : List PV → Tr PV
  | [.gsl 2 n f, .lit (.int .u32 most), .lit (.int .u32 x), .gsl 1 k g] => .br (areSps n f && Nat.ble n 4294967280 && u32N most && areNums k g && Nat.ble k 4294967280) (.leaf (bool true)) .fail
  | _ => .fail
def numbersSh : List ASh := [.one (.sl [.int .u32, .int .u32]), .one (.sc (.int .u32)), .one (.sc (.int .u32)), .one (.sl [.int .u32])]
theorem numbers_args {qs : List PV} (ha : areArgs numbersSh qs = true) (hb : argsBulk qs ≤ 1048576) : (numbersG qs).run = some (bool true) := by
  obtain ⟨q0, r0, rfl, h0, hr0⟩ := args_cons ha
  obtain ⟨q1, r1, rfl, h1, hr1⟩ := args_cons hr0
  obtain ⟨q2, r2, rfl, h2, hr2⟩ := args_cons hr1
  obtain ⟨q3, r3, rfl, h3, hr3⟩ := args_cons hr2
  obtain rfl := args_nil hr3
  obtain ⟨n, f, rfl, hf⟩ := ak_sl h0
  obtain ⟨v, rfl, hv⟩ := ak_sc h1
  obtain ⟨most, rfl, hm⟩ := u32_given hv
  obtain ⟨v', rfl, hv'⟩ := ak_sc h2
  obtain ⟨x, rfl, hx⟩ := u32_given hv'
  obtain ⟨k, g, rfl, hg⟩ := ak_sl h3
  have hb' : (((List.range n).map fun i => scsBulk (f i)).sum + 1) + (1 + (1 + ((((List.range k).map fun i => scsBulk (g i)).sum + 1) + 0))) ≤ 1048576 := hb
  obtain ⟨o1, o2⟩ := sps_given hf (by omega)
  obtain ⟨o3, o4⟩ := nums_given hg (by omega)
  have o5 : Nat.ble n 4294967280 = true := Nat.ble_eq_true_of_le (Nat.le_trans o2 (by omega))
  have o6 : Nat.ble k 4294967280 = true := Nat.ble_eq_true_of_le (Nat.le_trans o4 (by omega))
  show (numbersG [.gsl 2 n f, .lit (.int .u32 most), .lit (.int .u32 x), .gsl 1 k g]).run = some (bool true)
  simp [numbersG, Tr.run, o1, o3, o5, o6, hm]
end
end Go.Proofs.YtnmgdcggfjnmeaaGreatDoor.Ev

/- NsetBack: a set's text is written as one that is parsed as it, no longer than it was; packed numbers are those that there are. No condition, and no program in it. -/
namespace Go.Proofs.YtnmgdcggfjnmeaaGreatDoor.Ev
open Go Go.RowKit Go.Proofs Go.Proofs.YtnmgdcggfjnmeaaGreatDoor.Str
set_option linter.unusedVariables false
set_option linter.unusedSimpArgs false
/-! ### numerals -/
theorem num_back (M : Nat) : ∀ (r : List UInt8) (acc u : Nat), 1 ≤ acc → Lib.parseUintM M acc r = .ok u → Lib.decDigits acc ++ r = Lib.decDigits u ∧ 1 ≤ u
  | [], acc, u, h, hp => by
    simp only [Lib.parseUintM, Lib.NumEnd.ok.injEq] at hp
    subst hp
    exact ⟨by simp, h⟩
  | c :: r, acc, u, h, hp => by
    rw [Lib.parseUintM] at hp
    split at hp
    · rename_i hd
      split at hp
      · cases hp
      · split at hp
        · cases hp
        · obtain ⟨k1, k2⟩ := num_back M r (acc * 10 + (c.toNat - 48)) u (by omega) hp
          refine ⟨?_, k2⟩
          rw [← k1, Lib.decDigits.eq_1 (acc * 10 + (c.toNat - 48)), dif_neg (by omega)]
          have e1 : (acc * 10 + (c.toNat - 48)) / 10 = acc := by omega
          have e2 : (acc * 10 + (c.toNat - 48)) % 10 = c.toNat - 48 := by omega
          have e3 : UInt8.ofNat (48 + (c.toNat - 48)) = c := by
            have : 48 + (c.toNat - 48) = c.toNat := by omega
            rw [this]
            exact UInt8.ofNat_toNat
          rw [e1, e2, e3]
          simp
    · cases hp
theorem end_back {l : List UInt8} (h : endB l = true) : wordS (endV l) = l ∧ 0 ≤ endV l ∧ endV l < 4294967296 := by
  unfold endB at h
  unfold endV
  by_cases h0 : l = [42]
  · subst h0
    exact ⟨rfl, by decide, by decide⟩
  · have hd : decide (l = [42]) = false := decide_eq_false h0
    rw [hd] at h ⊢
    simp only [Bool.false_or, Bool.and_eq_true, Bool.not_eq_true', decide_eq_false_iff_not] at h
    obtain ⟨h1, h2, h3, h4⟩ := h
    have e : (decide (l = []) || (decide ((l.getD 0 0).toNat < 49) || decide (57 < (l.getD 0 0).toNat))) = false := by
      rw [decide_eq_false h1, decide_eq_false h2, decide_eq_false h3]
      rfl
    rw [e]
    simp only [cond_false]
    unfold puOk at h4
    unfold puVal
    have hb : (bs l).data.toList = l := ls_bs l
    rw [hb] at h4 ⊢
    rcases hu : Lib.parseUintB 32 l with u | _ | _
    · dsimp only
      have hle := Lib.parseUintB_le hu
      have hw : IntKind.wrap .u32 ((u : Nat) : Int) = (u : Int) := by rw [IntKind.wrap_u32]; omega
      rw [hw]
      unfold Lib.parseUintB at hu
      rw [if_neg h1] at hu
      cases l with
      | nil => exact absurd rfl h1
      | cons c r =>
        simp only [List.getD_cons_zero] at h2 h3
        rw [Lib.parseUintM, if_pos (by omega), if_neg (by omega), if_neg (by omega)] at hu
        obtain ⟨k1, k2⟩ := num_back _ r (0 * 10 + (c.toNat - 48)) u (by omega) hu
        rw [Lib.decDigits.eq_1 (0 * 10 + (c.toNat - 48)), dif_pos (by omega)] at k1
        have e3 : UInt8.ofNat (48 + (0 * 10 + (c.toNat - 48))) = c := by
          have : 48 + (0 * 10 + (c.toNat - 48)) = c.toNat := by omega
          rw [this]
          exact UInt8.ofNat_toNat
        rw [e3] at k1
        refine ⟨?_, by omega, by omega⟩
        unfold wordS
        have hb : ((u : Int) == 0) = false := by simp; omega
        rw [hb, cond_false, Int.toNat_natCast, ← k1]
        rfl
    · rw [hu] at h4; cases h4
    · rw [hu] at h4; cases h4
/-- a span's word -/
def oneS (x : Sp) : List UInt8 := wordS x.1 ++ (bif bne x.2 x.1 then 58 :: wordS x.2 else [])
theorem cutC_split (c : UInt8) (l : List UInt8) : ((cutC c l).2.2 = false ∧ c ∉ l ∧ (cutC c l).1 = l) ∨ ((cutC c l).2.2 = true ∧ c ∉ (cutC c l).1 ∧ l = (cutC c l).1 ++ c :: (cutC c l).2.1) := by
  induction l with
  | nil => left; simp [cutC]
  | cons b r ih =>
    by_cases hb : b = c
    · right
      subst hb
      simp [cutC]
    · have e : cutC c (b :: r) = (b :: (cutC c r).1, (cutC c r).2.1, (cutC c r).2.2) := by
        rw [cutC]
        simp [hb]
      rw [e]
      rcases ih with ⟨i1, i2, i3⟩ | ⟨i1, i2, i3⟩
      · left
        refine ⟨i1, by simp [i2]; exact fun e => hb e.symm, by simp [i3]⟩
      · right
        refine ⟨i1, by simp [i2]; exact fun e => hb e.symm, ?_⟩
        simp only [List.cons_append, List.cons.injEq, true_and]
        exact i3
theorem one_back {w : List UInt8} (h : okW w = true) : okW (oneS (spW w)) = true ∧ spW (oneS (spW w)) = spW w ∧ (oneS (spW w)).length ≤ w.length ∧ (∀ c ∈ oneS (spW w), c ∈ w) ∧ u32B (spW w) = true := by
  have h0 := h
  unfold okW at h
  simp only [Bool.and_eq_true] at h
  obtain ⟨ha, hb⟩ := h
  obtain ⟨a1, a2, a3⟩ := end_back ha
  obtain ⟨b1, b2, b3⟩ := end_back hb
  have hu : u32B (spW w) = true := by
    unfold u32B spW
    simp
    omega
  have same : oneS (spW w) = w → okW (oneS (spW w)) = true ∧ spW (oneS (spW w)) = spW w ∧ (oneS (spW w)).length ≤ w.length ∧ (∀ c ∈ oneS (spW w), c ∈ w) ∧ u32B (spW w) = true := by
    intro e
    rw [e]
    exact ⟨h0, rfl, Nat.le_refl _, fun c hc => hc, hu⟩
  rcases cutC_split 58 w with ⟨c1, c2, c3⟩ | ⟨c1, c2, c3⟩
  · have eA : wA w = w := c3
    have eB : wB w = w := by unfold wB; rw [c1]; exact c3
    refine same ?_
    unfold oneS spW
    rw [eA] at a1
    simp [eA, eB, a1]
  · have eA : wA w = (cutC 58 w).1 := rfl
    have eB : wB w = (cutC 58 w).2.1 := by unfold wB; rw [c1]; rfl
    cases hq : bne (spW w).2 (spW w).1 with
    | true =>
      refine same ?_
      unfold oneS
      rw [hq, cond_true]
      show wordS (endV (wA w)) ++ 58 :: wordS (endV (wB w)) = w
      rw [a1, b1, eA, eB]
      exact c3.symm
    | false =>
      have e : oneS (spW w) = wA w := by
        unfold oneS
        rw [hq, cond_false, List.append_nil]
        exact a1
      have hfree : (58 : UInt8) ∉ wA w := c2
      have hc := cutC_free 58 (wA w) hfree
      have eAA : wA (wA w) = wA w := by show (cutC 58 (wA w)).1 = _; rw [hc]
      have eBB : wB (wA w) = wA w := by unfold wB; rw [hc]; rfl
      have heq : (spW w).2 = (spW w).1 := by simpa using hq
      rw [e]
      refine ⟨?_, ?_, ?_, fun c hc => ?_, hu⟩
      · unfold okW
        rw [eAA, eBB, ha]
        rfl
      · unfold spW at heq ⊢
        rw [eAA, eBB]
        exact Prod.ext rfl heq.symm
      · have hl := congrArg List.length c3
        rw [List.length_append] at hl
        show (cutC 58 w).1.length ≤ w.length
        omega
      · have hm : c ∈ (cutC 58 w).1 ++ 58 :: (cutC 58 w).2.1 := List.mem_append_left _ hc
        rw [← c3] at hm
        exact hm
theorem split_join (c : UInt8) : ∀ (L : List (List UInt8)), L ≠ [] → (∀ x ∈ L, c ∉ x) → splitC c (joinC c L) = L
  | [], h, _ => absurd rfl h
  | [x], _, h => by
    have : joinC c [x] = x := by simp [joinC]
    rw [this, splitC_free c x (h x (by simp))]
  | x :: y :: r, _, h => by
    have : joinC c (x :: y :: r) = x ++ c :: joinC c (y :: r) := by simp [joinC]
    rw [this, splitC_app c x _ (h x (by simp)), split_join c (y :: r) (by simp) fun z hz => h z (by simp [hz])]
theorem join_len (c : UInt8) : ∀ (L M : List (List UInt8)), L.length = M.length → (∀ i, (L.getD i []).length ≤ (M.getD i []).length) → (joinC c L).length ≤ (joinC c M).length
  | [], [], _, _ => Nat.le_refl _
  | [], _ :: _, h, _ => by simp at h
  | _ :: _, [], h, _ => by simp at h
  | [x], [y], _, h => by
    have := h 0
    simpa [joinC] using this
  | [x], y :: z :: r, h, _ => by simp at h
  | x :: z :: r, [y], h, _ => by simp at h
  | x :: z :: r, y :: u :: s, hl, h => by
    have e1 : joinC c (x :: z :: r) = x ++ c :: joinC c (z :: r) := by simp [joinC]
    have e2 : joinC c (y :: u :: s) = y ++ c :: joinC c (u :: s) := by simp [joinC]
    have h0 := h 0
    have ih := join_len c (z :: r) (u :: s) (by simpa using hl) fun i => by have := h (i + 1); simpa using this
    rw [e1, e2]
    simp only [List.length_append, List.length_cons] at *
    simp at h0
    omega
/-- a set's text -/
def writeS (l : List Sp) : List UInt8 := joinC 44 (l.map oneS)
theorem text_back {l : List UInt8} (h : areS l = true) : areS (writeS (spansS l)) = true ∧ spansS (writeS (spansS l)) = spansS l ∧ (writeS (spansS l)).length ≤ l.length ∧ (spansS l).all u32B = true ∧ spansS l ≠ [] := by
  unfold areS at h
  rw [List.all_eq_true] at h
  have hne := splitC_ne 44 l
  have hs : splitC 44 (writeS (spansS l)) = (spansS l).map oneS := by
    unfold writeS
    refine split_join 44 _ (by simp [spansS, hne]) fun x hx => ?_
    obtain ⟨y, hy, rfl⟩ := List.mem_map.1 hx
    unfold spansS at hy
    obtain ⟨w, hw, rfl⟩ := List.mem_map.1 hy
    intro hc
    exact splitC_mem 44 l w hw ((one_back (h w hw)).2.2.2.1 _ hc)
  refine ⟨?_, ?_, ?_, ?_, by simp [spansS, hne]⟩
  · unfold areS
    rw [hs, List.all_eq_true]
    intro x hx
    obtain ⟨y, hy, rfl⟩ := List.mem_map.1 hx
    unfold spansS at hy
    obtain ⟨w, hw, rfl⟩ := List.mem_map.1 hy
    exact (one_back (h w hw)).1
  · show (splitC 44 (writeS (spansS l))).map spW = _
    rw [hs, List.map_map]
    unfold spansS
    rw [List.map_map]
    exact List.map_congr_left fun w hw => (one_back (h w hw)).2.1
  · have hj := joinC_splitC 44 l
    have : (joinC 44 ((spansS l).map oneS)).length ≤ (joinC 44 (splitC 44 l)).length := by
      refine join_len 44 _ _ (by simp [spansS]) fun i => ?_
      unfold spansS
      rw [List.map_map]
      rcases Nat.lt_or_ge i (splitC 44 l).length with hi | hi
      · have hw := h (splitC 44 l)[i] (List.getElem_mem hi)
        have := (one_back hw).2.2.1
        simpa [List.getD, hi] using this
      · simp [List.getD, hi]
    rw [hj] at this
    exact this
  · rw [List.all_eq_true]
    intro x hx
    unfold spansS at hx
    obtain ⟨w, hw, rfl⟩ := List.mem_map.1 hx
    exact (one_back (h w hw)).2.2.2.2
/-! ### packed numbers -/
def sumS : List Sp → Int
  | [] => 0
  | y :: r => (y.2 - y.1 + 1) + sumS r
theorem sumS_app : ∀ (a b : List Sp), sumS (a ++ b) = sumS a + sumS b
  | [], b => by simp [sumS]
  | x :: a, b => by
    rw [List.cons_append, sumS, sumS, sumS_app a b]
    omega
theorem pkS_ok : ∀ (ns : List Int) (o : List Sp) (c : Sp) (q : List Sp), ns.all u32N = true → (∀ x ∈ o ++ [c], fine x) → okM none (o ++ [c]) = true → pkS ns o c = some q →
    okM none q = true ∧ (∀ x ∈ q, fine x) ∧ sumS q = sumS (o ++ [c]) + ns.length ∧ ∀ v, q.any (withinB v) = ((o ++ [c]).any (withinB v) || ns.contains v)
  | [], o, c, q, _, hf, hk, h => by
    simp only [pkS, Option.some.injEq] at h
    subst h
    exact ⟨hk, hf, by simp, by simp⟩
  | n :: r, o, c, q, hu, hf, hk, h => by
    have hn : 0 ≤ n ∧ n < 4294967296 := by
      have := List.all_eq_true.1 hu n (by simp)
      unfold u32N at this
      simpa using this
    have hr : r.all u32N = true := List.all_eq_true.2 fun x hx => List.all_eq_true.1 hu x (by simp [hx])
    have hc : fine c := hf c (by simp)
    have hfo : ∀ x ∈ o, fine x := fun x hx => hf x (by simp [hx])
    rw [pkS] at h
    rw [okM_snoc] at hk
    simp only [Bool.and_eq_true, decide_eq_true_eq] at hk
    cases c1 : decide (n ≤ c.2) with
    | true => rw [c1] at h; cases h
    | false =>
      have hlt := of_decide_eq_false c1
      rw [c1, cond_false] at h
      cases c2 : decide (n = c.2 + 1) with
      | true =>
        have he := of_decide_eq_true c2
        rw [c2, cond_true] at h
        have hfc : fine (c.1, n) := by unfold fine at hc ⊢; omega
        have key := pkS_ok r o (c.1, n) q hr (fun x hx => by
          rcases List.mem_append.1 hx with hx | hx
          · exact hfo x hx
          · have : x = (c.1, n) := by simpa using hx
            rw [this]
            exact hfc) (by
          rw [okM_snoc, hk.1]
          have e : gapM (lastM none o) (c.1, n) = gapM (lastM none o) c := by cases lastM none o <;> rfl
          rw [e, hk.2.2, decide_eq_true hfc.1]
          rfl) h
        refine ⟨key.1, key.2.1, ?_, fun v => ?_⟩
        · rw [key.2.2.1, sumS_app, sumS_app]
          simp only [sumS, List.length_cons]
          omega
        · rw [key.2.2.2 v]
          have e : withinB v (c.1, n) = (withinB v c || (v == n)) := by
            unfold fine at hc
            rw [Bool.eq_iff_iff]
            simp [withinB]
            omega
          simp only [List.any_append, List.any_cons, List.any_nil, Bool.or_false, List.contains_cons, e]
          simp only [Bool.or_assoc]
      | false =>
        have hne := of_decide_eq_false c2
        rw [c2, cond_false] at h
        have hfn : fine (n, n) := by unfold fine; omega
        have key := pkS_ok r (o ++ [c]) (n, n) q hr (fun x hx => by
          rcases List.mem_append.1 hx with hx | hx
          · exact hf x hx
          · have : x = (n, n) := by simpa using hx
            rw [this]
            exact hfn) (by
          rw [okM_snoc, okM_snoc, hk.1, hk.2.2, decide_eq_true hk.2.1, lastM_snoc, decide_eq_true hfn.1]
          simp [gapM]
          omega) h
        refine ⟨key.1, key.2.1, ?_, fun v => ?_⟩
        · rw [key.2.2.1, sumS_app]
          simp only [sumS, List.length_cons]
          omega
        · rw [key.2.2.2 v]
          have e : withinB v (n, n) = (v == n) := by
            rw [Bool.eq_iff_iff]
            simp [withinB]
            omega
          simp only [List.any_append, List.any_cons, List.any_nil, Bool.or_false, List.contains_cons, e]
          simp only [Bool.or_assoc]
theorem packZ_ok {ns : List Int} {q : List Sp} (hu : ns.all u32N = true) (h : packZ ns = some q) : okM none q = true ∧ (∀ x ∈ q, fine x) ∧ sumS q = ns.length ∧ ∀ v, q.any (withinB v) = ns.contains v := by
  cases ns with
  | nil =>
    simp only [packZ, Option.some.injEq] at h
    subst h
    exact ⟨rfl, fun x hx => (by cases hx), rfl, by simp⟩
  | cons n r =>
    have hn : 0 ≤ n ∧ n < 4294967296 := by
      have := List.all_eq_true.1 hu n (by simp)
      unfold u32N at this
      simpa using this
    have hfn : fine (n, n) := by unfold fine; omega
    have key := pkS_ok r [] (n, n) q (List.all_eq_true.2 fun x hx => List.all_eq_true.1 hu x (by simp [hx])) (fun x hx => by
      have : x = (n, n) := by simpa using hx
      rw [this]
      exact hfn) (by simp [okM]) h
    refine ⟨key.1, key.2.1, ?_, fun v => ?_⟩
    · rw [key.2.2.1]
      simp only [List.nil_append, sumS, List.length_cons]
      omega
    · rw [key.2.2.2 v]
      have e : withinB v (n, n) = (v == n) := by
        rw [Bool.eq_iff_iff]
        simp [withinB]
        omega
      rw [List.nil_append, List.any_cons, List.any_nil, e, List.contains_cons, Bool.or_false]
/-- spans that stand apart are what they are sorted to -/
theorem srtR_id {q : List Sp} (hk : okM none q = true) (hf : ∀ x ∈ q, fine x) (hl : q.length ≤ 1024) : srtR 0 q = q := by
  have hid : q.map (bandS 0) = q := (List.map_congr_left fun y hy => bandS_id (hf y hy).1 (.inl rfl)).trans (List.map_id _)
  have hperm : sortS q = q := by
    refine perm_st q _ (fun b r h => ?_) (sortS_perm _) fun i j hij hj => ?_
    · rw [h, okM_cons] at hk
      simp only [Bool.and_eq_true, decide_eq_true_eq] at hk
      exact okM_st b r hk.2 hk.1.1
    · rw [sortS_len] at hj
      exact sortS_sorted _ i j hij hj
  rw [srtR_eq hl, hid, hperm]
  exact mgZ_id hk hf
end Go.Proofs.YtnmgdcggfjnmeaaGreatDoor.Ev
