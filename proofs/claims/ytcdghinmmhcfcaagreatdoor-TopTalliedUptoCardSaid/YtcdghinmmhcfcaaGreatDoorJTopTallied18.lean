/- JTopTallied18: several texts in one. Condition: each part's own. -/
import Derived.Test.YtcdghinmmhcfcaaGreatDoorJTopTallied17
/- tally: whether spans are as they are packed: the document's loop; both as contracts. No condition. -/
namespace Go.Proofs.YtcdghinmmhcfcaaGreatDoor.Ev
open Go Go.RowKit Go.Proofs Go.Proofs.YtcdghinmmhcfcaaGreatDoor.Str
set_option linter.unusedVariables false
set_option linter.unusedSimpArgs false
section
variable {m : Int} {t : TypeId} {fr : Nat × Nat}
def qdIn (l : List Sp) (i : Nat) (c : Int) : Kept := ([.gsl 2 l.length (sRow l), .lit (.int .u64 c), .gsl 2 l.length (sRow l), int l.length, int i], [])
theorem qd_step (c : Int) (l : List Sp) (hu : l.all u32B = true) (hn : l.length ≤ 4294967280) (i : Nat) (hi : i < l.length) (hc : 0 ≤ c ∧ c ≤ (i : Int) * 4294967296) :
    (qdRound (GG m t fr) (qdIn l i c)).run = some (bif pdX (preP l i) (sp l i) then (.normal, qdIn l (i + 1) (c + ((sp l i).2 - (sp l i).1 + 1))) else (.ret, ([.lit (.int .u64 0), bool false], []))) := by
  have h := qd_round m t fr c l l.length l.length l.length i
  have hd : decide ((i : Int) < (l.length : Int)) = true := by simp; omega
  have hw : IntKind.i64.wrap ((i : Int) + 1) = ((i + 1 : Nat) : Int) := wrap_succ (by omega)
  have b2 : Nat.blt i l.length = true := by rw [Nat.blt_eq]; exact hi
  have b3 : ∀ k : Nat, decide ((0 : Int) ≤ (k : Int)) = true := fun k => by simp
  have hx : u32B (sp l i) = true := by
    have e : sp l i = l[i] := by simp [sp, hi]
    rw [e]
    exact List.all_eq_true.1 hu _ (List.getElem_mem hi)
  have hxu := u32B_iff.1 hx
  rw [hd, hw, Int.toNat_natCast, b2, b3] at h
  simp only [cond_true] at h
  unfold pdX
  cases c1 : (sp l i).1 == 0 with
  | true =>
    rw [c1] at h
    exact Tr.run_of h rfl
  | false =>
    rw [c1, cond_false] at h
    by_cases c2 : (sp l i).1 > (sp l i).2
    · rw [decide_eq_true c2] at h
      have : decide ((sp l i).1 ≤ (sp l i).2) = false := decide_eq_false (by omega)
      rw [this]
      exact Tr.run_of h rfl
    · rw [decide_eq_false c2, cond_false] at h
      have e1 : decide ((sp l i).1 ≤ (sp l i).2) = true := decide_eq_true (by omega)
      rw [wrap_u32 (x := (sp l i).2 - (sp l i).1) (by omega), wrap_u64 (x := (sp l i).2 - (sp l i).1) (by omega), wrap_u64 (x := (sp l i).2 - (sp l i).1 + 1) (by omega), wrap_u64 (x := c + ((sp l i).2 - (sp l i).1 + 1)) (by omega)] at h
      rw [e1]
      cases i with
      | zero => exact Tr.run_of h rfl
      | succ k =>
        have d1 : decide (((k + 1 : Nat) : Int) > 0) = true := decide_eq_true (by omega)
        have hp : u32B (sp l k) = true := by
          have hk : k < l.length := by omega
          have e : sp l k = l[k] := by simp [sp, hk]
          rw [e]
          exact List.all_eq_true.1 hu _ (List.getElem_mem hk)
        have hpu := u32B_iff.1 hp
        have b4 : Nat.blt (k + 1 - 1) l.length = true := by rw [Nat.blt_eq]; omega
        rw [d1, pre_at (l := l) (Nat.succ_pos k) (by omega), Int.toNat_natCast, b3, b4] at h
        simp only [cond_true, Nat.succ_eq_add_one, Nat.add_sub_cancel] at h
        show _ = some (bif (!false) && (true && decide ((sp l k).2 + 2 ≤ (sp l (k + 1)).1)) then _ else _)
        by_cases c3 : (sp l (k + 1)).1 ≤ (sp l k).2
        · rw [decide_eq_true c3] at h
          rw [decide_eq_false (by omega)]
          exact Tr.run_of h rfl
        · rw [decide_eq_false c3, wrap_u32 (x := (sp l (k + 1)).1 - (sp l k).2) (by omega)] at h
          by_cases c4 : (sp l (k + 1)).1 - (sp l k).2 < 2
          · rw [decide_eq_true c4] at h
            rw [decide_eq_false (by omega)]
            exact Tr.run_of h rfl
          · rw [decide_eq_false c4] at h
            rw [decide_eq_true (by omega)]
            exact Tr.run_of h rfl
def qdEnd (l : List Sp) (c : Int) (ok : Bool) : Exit × Kept :=
  bif ok then (.exit 0, ([.gsl 2 l.length (sRow l), .lit (.int .u64 c)], [])) else (.ret, ([.lit (.int .u64 0), bool false], []))
theorem qd_LR (l : List Sp) (hu : l.all u32B = true) (hn : l.length ≤ 4294967280) : ∀ (s : List Sp) (i : Nat) (c : Int), l.drop i = s → i ≤ l.length → (0 ≤ c ∧ c ≤ (i : Int) * 4294967296) →
    LR Tryz.prog (E14 (GG m t fr)) 60 (GG m t fr) 69 qdOuts .normal (theLoop 0 Tryz.f47) (qdIn l i c) (qdEnd l (c + sumS s) (pdB (preP l i) s)).1 (qdEnd l (c + sumS s) (pdB (preP l i) s)).2
  | [], i, c, hr, hi, hc => by
    have h := qd_round m t fr c l l.length l.length l.length i
    have hlen := List.drop_eq_nil_iff.1 hr
    have hd : decide ((i : Int) < (l.length : Int)) = false := by simp; omega
    rw [hd] at h
    have e : c + sumS [] = c := by simp [sumS]
    rw [e]
    exact .last (Tr.run_of h rfl) (by simp [qdEnd, pdB]) (by simp [qdEnd, pdB])
  | x :: s, i, c, hr, hi, hc => by
    obtain ⟨hlt, hx, hdr⟩ := sp_drop hr
    have h := qd_step (m := m) (t := t) (fr := fr) c l hu hn i hlt hc
    rw [hx] at h
    have hxu : u32B x = true := by
      have e : sp l i = l[i] := by simp [sp, hlt]
      rw [← hx, e]
      exact List.all_eq_true.1 hu _ (List.getElem_mem hlt)
    have hxu := u32B_iff.1 hxu
    cases hb : pdX (preP l i) x with
    | false =>
      rw [hb] at h
      have e : pdB (preP l i) (x :: s) = false := by rw [pdB, hb]; rfl
      rw [e]
      show LR _ _ _ _ _ _ _ _ _ .ret ([.lit (.int .u64 0), bool false], [])
      exact .last h (by simp) (by simp)
    | true =>
      rw [hb] at h
      have e : pdB (preP l i) (x :: s) = pdB (preP l (i + 1)) s := by
        rw [pdB, hb, Bool.true_and]
        show _ = pdB (some (sp l i)) s
        rw [hx]
      have e2 : c + sumS (x :: s) = (c + (x.2 - x.1 + 1)) + sumS s := by rw [sumS]; omega
      rw [e, e2]
      have hle : x.1 ≤ x.2 := by
        unfold pdX at hb
        simp only [Bool.and_eq_true, decide_eq_true_eq] at hb
        exact hb.2.1
      exact .more h (qd_LR l hu hn s (i + 1) _ hdr (by omega) (by push_cast; omega))
def qdF : Kept → Tr (Exit × Kept)
  | ([.gsl 2 n f, .lit (.int .u64 0), .gsl 2 n' f', .lit (.int .i64 u), .lit (.int .i64 0)], []) => .br (areSps n f && (areSps n' f' && decide (n = n') && decide (spsOf n f = spsOf n' f')) && decide (u = (n : Int)) && Nat.ble n 4294967280)
      (.br (pdB none (spsOf n f)) (.leaf (.exit 0, ([.gsl 2 n (sRow (spsOf n f)), .lit (.int .u64 (sumS (spsOf n f)))], []))) (.leaf (.ret, ([.lit (.int .u64 0), bool false], [])))) .fail
  | _ => .fail
theorem qdF_ok (k : Kept) (e : Exit) (y : Kept) (h : (qdF k).run = some (e, y)) : LR Tryz.prog (E14 (GG m t fr)) 60 (GG m t fr) 69 qdOuts .normal (theLoop 0 Tryz.f47) k e y := by
  unfold qdF at h
  split at h
  · rename_i n f n' f' u
    have hb := br_run h
    clear h
    obtain ⟨hc, h⟩ := hb
    simp only [Bool.and_eq_true, decide_eq_true_eq, Nat.ble_eq] at hc
    obtain ⟨⟨⟨hf, ⟨hf', rfl⟩, hff⟩, rfl⟩, hn⟩ := hc
    have hL := sps_len n f
    have key := qd_LR (m := m) (t := t) (fr := fr) (spsOf n f) (sps_u32 hf) (by omega) (spsOf n f) 0 0 rfl (Nat.zero_le _) (by simp)
    rw [Int.zero_add] at key
    have hin : KLe ([.gsl 2 n f, .lit (.int .u64 0), .gsl 2 n f', int (n : Int), int 0], []) (qdIn (spsOf n f) 0 0) := by
      refine ⟨PLeL.cons (PLe.gsl hL.symm (sps_row hf)) (PLeL.cons (.refl _) (PLeL.cons (PLe.gsl hL.symm ?_) (PLeL.cons (PLe.of_eq ?_) (.refl _)))), .refl _⟩
      · rw [hff]
        exact sps_row hf'
      · rw [hL]
    simp only [Tr.run] at h
    change LR _ _ _ _ _ _ _ _ _ (qdEnd (spsOf n f) (sumS (spsOf n f)) (pdB none (spsOf n f))).1 (qdEnd (spsOf n f) (sumS (spsOf n f)) (pdB none (spsOf n f))).2 at key
    cases hb : pdB none (spsOf n f) with
    | true =>
      rw [hb] at h key
      simp only [cond_true, Option.some.injEq, Prod.mk.injEq] at h
      obtain ⟨rfl, rfl⟩ := h
      exact .le hin (.out key ⟨PLeL.cons (PLe.gsl hL fun _ _ => rfl) (.refl _), .refl _⟩)
    | false =>
      rw [hb] at h key
      simp only [cond_false, Option.some.injEq, Prod.mk.injEq] at h
      obtain ⟨rfl, rfl⟩ := h
      exact .le hin key
  · cases h
noncomputable abbrev qdCut (G : GT) := cutOf G 69 qdOuts 0 qdF
theorem qd_raw (m : Int) (t : TypeId) (fr : Nat × Nat) (n : Nat) (f : Nat → List PV) : (fnPure Tryz.prog ((E14 (GG m t fr)).withCuts (cut1 0 (qdCut (GG m t fr)))) 60 Tryz.f47 (GG m t fr) [.gsl 2 n f]).run2 =
 (bif (pdB .none (spsOf n f)) then
 bif (decide (((n : Nat) : Int) ≤ (1024 : Int))) then
 (.some ((.tup [(.lit (.int .u64 (sumS (spsOf n f)))), (.lit (.bool (decide ((sumS (spsOf n f)) ≤ (65536 : Int)))))]), [((((areSps n f) && (((areSps n f) && (decide (n = n))) && (decide ((spsOf n f) = (spsOf n f))))) && (decide (((n : Nat) : Int) = ((n : Nat) : Int)))) && (Nat.ble n (4294967280 : Nat)))]))
 else (.some ((.tup [(.lit (.int .u64 (sumS (spsOf n f)))), (.lit (.bool false))]), [((((areSps n f) && (((areSps n f) && (decide (n = n))) && (decide ((spsOf n f) = (spsOf n f))))) && (decide (((n : Nat) : Int) = ((n : Nat) : Int)))) && (Nat.ble n (4294967280 : Nat)))]))
 else (.some ((.tup [(.lit (.int .u64 (0 : Int))), (.lit (.bool false))]), [((((areSps n f) && (((areSps n f) && (decide (n = n))) && (decide ((spsOf n f) = (spsOf n f))))) && (decide (((n : Nat) : Int) = ((n : Nat) : Int)))) && (Nat.ble n (4294967280 : Nat)))])) : Option (PV × List Bool)) := by
  kernel_rfl
theorem pd_raw (m : Int) (t : TypeId) (fr : Nat × Nat) (w many least most : Int) (n : Nat) (f : Nat → List PV) : (fnPin Tryz.prog ((E14 (GG m t fr)).withCuts (cut1 0 (pdCut (GG m t fr)))) 60 Tryz.f43 (GG m t fr) [.ptr 0 0] [bkB w many least most (.gsl 2 n f) 0]).run2 =
 (bif (pdB .none (spsOf n f)) then
 bif (decide (((n : Nat) : Int) ≤ (1024 : Int))) then
 (.some (((.lit (.bool (decide ((sumS (spsOf n f)) ≤ (65536 : Int))))), [(.cells 76 [(.lit (.int .u8 w)), (.lit (.int .i64 many)), (.lit (.int .u32 least)), (.lit (.int .u32 most)), (.gsl 2 n f), (.lit (.int .u64 (sumS (spsOf n f))))])]), [((((areSps n f) && (((areSps n f) && (decide (n = n))) && (decide ((spsOf n f) = (spsOf n f))))) && (decide (((n : Nat) : Int) = ((n : Nat) : Int)))) && (Nat.ble n (4294967280 : Nat)))]))
 else (.some (((.lit (.bool false)), [(.cells 76 [(.lit (.int .u8 w)), (.lit (.int .i64 many)), (.lit (.int .u32 least)), (.lit (.int .u32 most)), (.gsl 2 n f), (.lit (.int .u64 (sumS (spsOf n f))))])]), [((((areSps n f) && (((areSps n f) && (decide (n = n))) && (decide ((spsOf n f) = (spsOf n f))))) && (decide (((n : Nat) : Int) = ((n : Nat) : Int)))) && (Nat.ble n (4294967280 : Nat)))]))
 else (.some (((.lit (.bool false)), [(.cells 76 [(.lit (.int .u8 w)), (.lit (.int .i64 many)), (.lit (.int .u32 least)), (.lit (.int .u32 most)), (.gsl 2 n f), .junk])]), [((((areSps n f) && (((areSps n f) && (decide (n = n))) && (decide ((spsOf n f) = (spsOf n f))))) && (decide (((n : Nat) : Int) = ((n : Nat) : Int)))) && (Nat.ble n (4294967280 : Nat)))])) : Option ((PV × List Blk) × List Bool)) := by
  kernel_rfl
def pkB (l : List Sp) : Bool := pdB none l && (decide ((l.length : Int) ≤ 1024) && decide (sumS l ≤ 65536))
def packedG : List PV → List Blk → Tr (PV × List Blk)
  | [.ptr 0 0], [.cells ty [.lit (.int .u8 w), .lit (.int .i64 many), .lit (.int .u32 least), .lit (.int .u32 most), .gsl 2 n f, .lit (.int .u64 0)]] => match Nat.beq ty 76 with
    | true => .br (areSps n f && Nat.ble n 4294967280) (.br (pkB (spsOf n f)) (.leaf (bool true, [.cells ty [.lit (.int .u8 w), int many, .lit (.int .u32 least), .lit (.int .u32 most), .gsl 2 n f, .lit (.int .u64 (sumS (spsOf n f)))]]))
      (.leaf (bool false, [.cells ty [.lit (.int .u8 w), int many, .lit (.int .u32 least), .lit (.int .u32 most), .gsl 2 n f, .junk]]))) .fail
    | false => .fail
  | _, _ => .fail
theorem self_ok {n : Nat} {f : Nat → List PV} (hf : areSps n f = true) (hn : Nat.ble n 4294967280 = true) : ((areSps n f && (areSps n f && decide (n = n) && decide (spsOf n f = spsOf n f))) && decide ((n : Int) = (n : Int)) && Nat.ble n 4294967280) = true := by
  rw [hf, hn]
  simp
theorem packed_ok : PinB Tryz.prog (GG m t fr) 43 packedG := by
  refine PinB.le (pinB_of_ev (n := 60) (E := (E14 (GG m t fr)).withCuts (cut1 0 (pdCut (GG m t fr)))) (E14_ok.withCuts _) mixed (fn := Tryz.f43) (by kernel_rfl) (CutLaws.ok (CutLaws.one (by omega) (by kernel_rfl) fun st e st' h => cutOf_okM (by simp) E14_ok mixed (noCuts_ok (envOf_cuts ..) _) (fun _ e => by cases e <;> rfl) pdF_ok h))) fun ps bs p bs' hp => ?_
  unfold packedG at hp
  split at hp
  · rename_i ty w many least most n f
    split at hp
    · rename_i hty
      obtain rfl := Nat.eq_of_beq_eq_true hty
      have hb := br_run hp
      clear hp
      obtain ⟨hc, hp⟩ := hb
      simp only [Bool.and_eq_true] at hc
      have h := pd_raw m t fr w many least most n f
      rw [self_ok hc.1 hc.2] at h
      have hL := sps_len n f
      simp only [Tr.run] at hp
      unfold pkB at hp
      rw [hL] at hp
      cases c1 : pdB none (spsOf n f) with
      | false =>
        rw [c1] at h hp
        simp only [Bool.false_and, cond_false, Option.some.injEq, Prod.mk.injEq] at hp
        obtain ⟨rfl, rfl⟩ := hp
        exact ⟨_, _, _, _, .refl _, .refl _, Tr.run_of h rfl, .refl _, .refl _⟩
      | true =>
        rw [c1] at h hp
        cases c2 : decide ((n : Int) ≤ 1024) with
        | false =>
          rw [c2] at h hp
          simp only [Bool.true_and, Bool.false_and, cond_false, Option.some.injEq, Prod.mk.injEq] at hp
          obtain ⟨rfl, rfl⟩ := hp
          exact ⟨_, _, _, _, .refl _, .refl _, Tr.run_of h rfl, .refl _, BLeL.cons (.cells _ (PLeL.cons (.refl _) (PLeL.cons (.refl _) (PLeL.cons (.refl _) (PLeL.cons (.refl _) (PLeL.cons (.refl _) (PLeL.cons (PLe.junk _) .nil))))))) .nil⟩
        | true =>
          rw [c2] at h hp
          cases c3 : decide (sumS (spsOf n f) ≤ 65536) with
          | false =>
            rw [c3] at h hp
            simp only [Bool.true_and, cond_false, Option.some.injEq, Prod.mk.injEq] at hp
            obtain ⟨rfl, rfl⟩ := hp
            exact ⟨_, _, _, _, .refl _, .refl _, Tr.run_of h rfl, .refl _, BLeL.cons (.cells _ (PLeL.cons (.refl _) (PLeL.cons (.refl _) (PLeL.cons (.refl _) (PLeL.cons (.refl _) (PLeL.cons (.refl _) (PLeL.cons (PLe.junk _) .nil))))))) .nil⟩
          | true =>
            rw [c3] at h hp
            simp only [Bool.true_and, cond_true, Option.some.injEq, Prod.mk.injEq] at hp
            obtain ⟨rfl, rfl⟩ := hp
            exact ⟨_, _, _, _, .refl _, .refl _, Tr.run_of h rfl, .refl _, .refl _⟩
    · cases hp
  · cases hp
def rpackedG : List PV → Tr PV
  | [.gsl 2 n f] => .br (areSps n f && Nat.ble n 4294967280) (.br (pkB (spsOf n f)) (.leaf (.tup [.lit (.int .u64 (sumS (spsOf n f))), bool true])) (.leaf (.tup [.junk, bool false]))) .fail
  | [.lit (.slice none 0 0)] => .leaf (.tup [.lit (.int .u64 0), bool true])
  | _ => .fail
theorem rpacked_ok : PureOK Tryz.prog (GG m t fr) 47 rpackedG := by
  have base := fn_cuts mixed (E14_ok (m := m) (t := t) (fr := fr)) (f := 47) (fn := Tryz.f47) (cuts := cut1 0 (qdCut (GG m t fr))) (by kernel_rfl) (CutLaws.one (by omega) (by kernel_rfl) fun st e st' h => cutOf_ok E14_ok mixed (noCuts_ok (envOf_cuts ..) _) qdF_ok h)
  have key : ∀ (n : Nat) (f : Nat → List PV), areSps n f = true → Nat.ble n 4294967280 = true → PureAt Tryz.prog (GG m t fr) 47 [.gsl 2 n f] (bif pkB (spsOf n f) then .tup [.lit (.int .u64 (sumS (spsOf n f))), bool true] else .tup [.junk, bool false]) := by
    intro n f hf hn
    have h := qd_raw m t fr n f
    rw [self_ok hf hn] at h
    have hL := sps_len n f
    unfold pkB
    rw [hL]
    have no : ∀ {x : PV}, PLe (.tup [x, bool false]) (.tup [.junk, bool false]) := PLe.tup (PLeL.cons (PLe.junk _) (.refl _))
    cases c1 : pdB none (spsOf n f) with
    | false =>
      rw [c1] at h
      exact (base _ _ (Tr.run_of h rfl)).post no
    | true =>
      rw [c1] at h
      cases c2 : decide ((n : Int) ≤ 1024) with
      | false =>
        rw [c2] at h
        exact (base _ _ (Tr.run_of h rfl)).post no
      | true =>
        rw [c2] at h
        cases c3 : decide (sumS (spsOf n f) ≤ 65536) with
        | false =>
          rw [c3] at h
          exact (base _ _ (Tr.run_of h rfl)).post no
        | true =>
          rw [c3] at h
          exact base _ _ (Tr.run_of h rfl)
  intro ps p hp
  unfold rpackedG at hp
  split at hp
  · rename_i n f
    obtain ⟨hc, hp⟩ := br_run hp
    simp only [Bool.and_eq_true] at hc
    have h := key n f hc.1 hc.2
    cases c : pkB (spsOf n f) with
    | true =>
      rw [c] at h
      simp only [Tr.run, c, cond_true, Option.some.injEq] at hp
      subst hp
      exact h
    | false =>
      rw [c] at h
      simp only [Tr.run, c, cond_false, Option.some.injEq] at hp
      subst hp
      exact h
  · simp only [Tr.run, Option.some.injEq] at hp
    subst hp
    exact (key 0 (fun _ => []) rfl rfl).pre (PLeL.cons (PLe.nil 2 _) .nil)
  · cases hp
def teFull : List (Nat × (List PV → Mem → Tr (PV × Mem))) := (43, pinG packedG) :: nbFull
theorem teFull_ok {m : Int} {t : TypeId} {fr : Nat × Nat} : FullOK Tryz.prog (GG m t fr) teFull := (FullOK.cons (pin_fn packed_ok) (fn := Tryz.f43) (by kernel_rfl) (by kernel_rfl) nbFull_ok)
def tePure : List (Nat × (List PV → Tr PV)) := (47, rpackedG) :: tcPure
theorem tePure_ok {m : Int} {t : TypeId} {fr : Nat × Nat} : TabOK Tryz.prog (GG m t fr) tePure := (TabOK.cons rpacked_ok (fn := Tryz.f47) (by kernel_rfl) (by kernel_rfl) tcPure_ok)
noncomputable abbrev E15 (G : GT) : Env := envOf Tryz.prog G tePure teFull
theorem E15_ok : (E15 (GG m t fr)).ok Tryz.prog (GG m t fr) := envOf_ok mixed tePure_ok teFull_ok
end
end Go.Proofs.YtcdghinmmhcfcaaGreatDoor.Ev

/- tally.Check, and the document's. No condition. -/
namespace Go.Proofs.YtcdghinmmhcfcaaGreatDoor.Ev
open Go Go.RowKit Go.Proofs Go.Proofs.YtcdghinmmhcfcaaGreatDoor.Str
set_option linter.unusedVariables false
set_option linter.unusedSimpArgs false
section
variable {m : Int} {t : TypeId} {fr : Nat × Nat}
def tlP (w many least most : Int) (n : Nat) (f : Nat → List PV) : PV := .agg [.lit (.int .u8 w), int many, .lit (.int .u32 least), .lit (.int .u32 most), .gsl 2 n f]
theorem check_raw (m : Int) (t : TypeId) (fr : Nat × Nat) (w many least most : Int) (n : Nat) (f : Nat → List PV) : (fnPure Tryz.prog (E15 (GG m t fr)) 60 Tryz.f16 (GG m t fr) [tlP w many least most n f]).run2 =
 (bif (bne (IntKind.wrap .u8 (((BitVec.toNat (HAnd.hAnd (BitVec.ofInt 8 w) (Complement.complement (BitVec.ofInt 8 (15 : Int))))) : Nat) : Int)) (0 : Int)) then
 (.some ((.lit (.int .i64 (2 : Int))), [true, true, true, true, true, true, true, true, true]))
 else bif (decide (many < (0 : Int))) then
 (.some ((.lit (.int .i64 (2 : Int))), [true, true, true, true, true, true]))
 else bif (decide (many > (65536 : Int))) then
 (.some ((.lit (.int .i64 (2 : Int))), [true, true, true]))
 else bif (pkB (spsOf n f)) then
 bif (!(evA w (posB least) (posB most) (posB (sumS (spsOf n f))) (posB many) (evS many least most (sumS (spsOf n f))))) then
 (.some ((.lit (.int .i64 (2 : Int))), [true, true, true, true, true, true, true, true, true, true, true, true, true, ((areSps n f) && (Nat.ble n (4294967280 : Nat)))]))
 else bif (decide ((sumS (spsOf n f)) > (0 : Int))) then
 bif (!(agB w many least most (spsOf n f) (sumS (spsOf n f)))) then
 (.some ((.lit (.int .i64 (2 : Int))), [true, true, true, true, true, true, true, (((areSps n f) && (Nat.blt 0 n)) && (Nat.ble n (4294967280 : Nat))), ((areSps n f) && (Nat.ble n (4294967280 : Nat)))]))
 else bif ((sumS (spsOf n f)) == (0 : Int)) then
 bif (evS many least most (sumS (spsOf n f))) then
 bif (!(fiB w many least most)) then
 (.some ((.lit (.int .i64 (2 : Int))), [((u32N least) && (u32N most)), (((areSps n f) && (Nat.blt 0 n)) && (Nat.ble n (4294967280 : Nat))), ((areSps n f) && (Nat.ble n (4294967280 : Nat)))]))
 else (.some ((.lit (.int .i64 (0 : Int))), [((u32N least) && (u32N most)), (((areSps n f) && (Nat.blt 0 n)) && (Nat.ble n (4294967280 : Nat))), ((areSps n f) && (Nat.ble n (4294967280 : Nat)))]))
 else (.some ((.lit (.int .i64 (0 : Int))), [(((areSps n f) && (Nat.blt 0 n)) && (Nat.ble n (4294967280 : Nat))), ((areSps n f) && (Nat.ble n (4294967280 : Nat)))]))
 else (.some ((.lit (.int .i64 (0 : Int))), [(((areSps n f) && (Nat.blt 0 n)) && (Nat.ble n (4294967280 : Nat))), ((areSps n f) && (Nat.ble n (4294967280 : Nat)))]))
 else bif ((sumS (spsOf n f)) == (0 : Int)) then
 bif (evS many least most (sumS (spsOf n f))) then
 bif (!(fiB w many least most)) then
 (.some ((.lit (.int .i64 (2 : Int))), [((u32N least) && (u32N most)), ((areSps n f) && (Nat.ble n (4294967280 : Nat)))]))
 else (.some ((.lit (.int .i64 (0 : Int))), [((u32N least) && (u32N most)), ((areSps n f) && (Nat.ble n (4294967280 : Nat)))]))
 else (.some ((.lit (.int .i64 (0 : Int))), [((areSps n f) && (Nat.ble n (4294967280 : Nat)))]))
 else (.some ((.lit (.int .i64 (0 : Int))), [((areSps n f) && (Nat.ble n (4294967280 : Nat)))]))
 else (.some ((.lit (.int .i64 (2 : Int))), [true, ((areSps n f) && (Nat.ble n (4294967280 : Nat)))])) : Option (PV × List Bool)) := by
  kernel_rfl
def aN (w : Int) : Bool := bne (IntKind.wrap .u8 (((BitVec.toNat (HAnd.hAnd (BitVec.ofInt 8 w) (Complement.complement (BitVec.ofInt 8 (15 : Int))))) : Nat) : Int)) (0 : Int)
/-- a tally is right -/
def ckP (w many least most : Int) (l : List Sp) : Bool := !(aN w) && (!(decide (many < 0)) && (!(decide (many > 65536)) && (pkB l && (evA w (posB least) (posB most) (posB (sumS l)) (posB many) (evS many least most (sumS l)) &&
  (bif gtB (sumS l) 0 then agB w many least most l (sumS l) else true) && (bif sumS l == 0 then !(evS many least most (sumS l)) || fiB w many least most else true)))))
def tlOf : PV → Option (Int × Int × Int × Int × Nat × (Nat → List PV))
  | .agg [.lit (.int .u8 w), .lit (.int .i64 many), .lit (.int .u32 least), .lit (.int .u32 most), .gsl 2 n f] => some (w, many, least, most, n, f)
  | .agg [.lit (.int .u8 w), .lit (.int .i64 many), .lit (.int .u32 least), .lit (.int .u32 most), .lit (.slice none 0 0)] => some (w, many, least, most, 0, fun _ => [])
  | _ => none
theorem tlOf_le {q : PV} {w many least most : Int} {n : Nat} {f : Nat → List PV} (h : tlOf q = some (w, many, least, most, n, f)) : PLe q (tlP w many least most n f) := by
  unfold tlOf at h
  split at h
  · cases h
    exact .refl _
  · cases h
    exact PLe.agg (PLeL.cons (.refl _) (PLeL.cons (.refl _) (PLeL.cons (.refl _) (PLeL.cons (.refl _) (PLeL.cons (PLe.nil 2 _) .nil)))))
  · cases h
def tlB (w least most : Int) (n : Nat) (f : Nat → List PV) : Bool := decide (0 ≤ w) && decide (w < 256) && (u32N least && u32N most) && (areSps n f && Nat.ble n 4294967280)
def ckRes (ok : Bool) : PV := bif ok then int 0 else int 2
theorem sumS_pos {l : List Sp} (h : pdB none l = true) : 0 ≤ sumS l ∧ (0 < sumS l → 0 < l.length) := by
  have key : ∀ (l : List Sp) (p : Option Sp), pdB p l = true → 0 ≤ sumS l := by
    intro l
    induction l with
    | nil => intro p _; simp [sumS]
    | cons x r ih =>
      intro p h
      rw [pdB] at h
      simp only [pdX, Bool.and_eq_true, decide_eq_true_eq] at h
      have := ih _ h.2
      rw [sumS]
      omega
  refine ⟨key l none h, fun hp => ?_⟩
  cases l with
  | nil => simp [sumS] at hp
  | cons x r => simp
def checkG : List PV → Tr PV
  | [q] => match tlOf q with
    | some (w, many, least, most, n, f) => .br (tlB w least most n f) (.br (ckP w many least most (spsOf n f)) (.leaf (int 0)) (.leaf (int 2))) .fail
    | none => .fail
  | _ => .fail
theorem check_ok : PureOK Tryz.prog (GG m t fr) 16 checkG := by
  intro ps p hp
  unfold checkG at hp
  split at hp
  · rename_i q
    split at hp
    · rename_i w many least most n f hq
      obtain ⟨hb, hp⟩ := br_run hp
      refine PureAt.pre (qs := [tlP w many least most n f]) ?_ (PLeL.cons (tlOf_le hq) .nil)
      have base := fn_pure mixed (E15_ok (m := m) (t := t) (fr := fr)) (envOf_cuts ..) (f := 16) (fn := Tryz.f16) (by kernel_rfl)
      have h := check_raw m t fr w many least most n f
      simp only [tlB, Bool.and_eq_true] at hb
      obtain ⟨⟨⟨hw0, hw1⟩, hl, hm⟩, hf, hn⟩ := hb
      have hL := sps_len n f
      simp only [Tr.run] at hp
      rw [show bne (IntKind.wrap .u8 (((BitVec.toNat (HAnd.hAnd (BitVec.ofInt 8 w) (Complement.complement (BitVec.ofInt 8 (15 : Int))))) : Nat) : Int)) (0 : Int) = aN w from rfl, hf, hn, hl, hm] at h
      unfold ckP at hp
      cases c1 : aN w with
      | true =>
        rw [c1] at h hp
        simp only [Bool.not_true, Bool.false_and, cond_false, Option.some.injEq] at hp
        subst hp
        exact base _ _ (Tr.run_of h rfl)
      | false =>
        rw [c1] at h hp
        cases c2 : decide (many < 0) with
        | true =>
          rw [c2] at h hp
          simp only [Bool.not_true, Bool.not_false, Bool.true_and, Bool.false_and, cond_false, Option.some.injEq] at hp
          subst hp
          exact base _ _ (Tr.run_of h rfl)
        | false =>
          rw [c2] at h hp
          cases c3 : decide (many > 65536) with
          | true =>
            rw [c3] at h hp
            simp only [Bool.not_true, Bool.not_false, Bool.true_and, Bool.false_and, cond_false, Option.some.injEq] at hp
            subst hp
            exact base _ _ (Tr.run_of h rfl)
          | false =>
            rw [c3] at h hp
            cases c4 : pkB (spsOf n f) with
            | false =>
              rw [c4] at h hp
              simp only [Bool.not_false, Bool.true_and, Bool.false_and, cond_false, Option.some.injEq] at hp
              subst hp
              exact base _ _ (Tr.run_of h rfl)
            | true =>
              have hpd : pdB none (spsOf n f) = true := by
                unfold pkB at c4
                simp only [Bool.and_eq_true] at c4
                exact c4.1
              obtain ⟨s0, s1⟩ := sumS_pos hpd
              rw [c4] at h hp
              simp only [Bool.not_false, Bool.true_and] at hp
              cases c5 : evA w (posB least) (posB most) (posB (sumS (spsOf n f))) (posB many) (evS many least most (sumS (spsOf n f))) with
              | false =>
                rw [c5] at h hp
                simp only [Bool.false_and, cond_false, Option.some.injEq] at hp
                subst hp
                exact base _ _ (Tr.run_of h rfl)
              | true =>
                rw [c5] at h hp
                simp only [Bool.true_and] at hp
                by_cases c6 : sumS (spsOf n f) > 0
                · have d6 : gtB (sumS (spsOf n f)) 0 = true := decide_eq_true c6
                  have d7 : (sumS (spsOf n f) == 0) = false := by
                    rw [beqD]
                    exact decide_eq_false (by omega)
                  have hn0 : Nat.blt 0 n = true := by
                    rw [Nat.blt_eq]
                    have := s1 c6
                    omega
                  rw [decide_eq_true c6, d7, hn0] at h
                  rw [d6, d7] at hp
                  simp only [cond_true, cond_false, Bool.and_true] at hp
                  cases c7 : agB w many least most (spsOf n f) (sumS (spsOf n f)) with
                  | false =>
                    rw [c7] at h hp
                    simp only [cond_false, Option.some.injEq] at hp
                    subst hp
                    exact base _ _ (Tr.run_of h rfl)
                  | true =>
                    rw [c7] at h hp
                    simp only [cond_true, Option.some.injEq] at hp
                    subst hp
                    exact base _ _ (Tr.run_of h rfl)
                · have d6 : gtB (sumS (spsOf n f)) 0 = false := decide_eq_false c6
                  have d7 : (sumS (spsOf n f) == 0) = true := by
                    rw [beqD]
                    exact decide_eq_true (by omega)
                  rw [decide_eq_false c6, d7] at h
                  rw [d6, d7] at hp
                  simp only [cond_true, cond_false, Bool.true_and] at hp
                  cases c8 : evS many least most (sumS (spsOf n f)) with
                  | false =>
                    rw [c8] at h hp
                    simp only [Bool.not_false, Bool.true_or, cond_true, Option.some.injEq] at hp
                    subst hp
                    exact base _ _ (Tr.run_of h rfl)
                  | true =>
                    rw [c8] at h hp
                    simp only [Bool.not_true, Bool.false_or] at hp
                    cases c9 : fiB w many least most with
                    | false =>
                      rw [c9] at h hp
                      simp only [cond_false, Option.some.injEq] at hp
                      subst hp
                      exact base _ _ (Tr.run_of h rfl)
                    | true =>
                      rw [c9] at h hp
                      simp only [cond_true, Option.some.injEq] at hp
                      subst hp
                      exact base _ _ (Tr.run_of h rfl)
    · cases hp
  · cases hp
theorem rwants_raw (m : Int) (t : TypeId) (fr : Nat × Nat) (w many least most k : Int) (n : Nat) (f : Nat → List PV) : (fnPure Tryz.prog (E15 (GG m t fr)) 60 Tryz.f48 (GG m t fr) [tlP w many least most n f, .lit (.int .u8 k)]).run2 =
 ((.some ((.lit (.bool (bne (IntKind.wrap .u8 (((BitVec.toNat (HAnd.hAnd (BitVec.ofInt 8 w) (BitVec.ofInt 8 k))) : Nat) : Int)) (0 : Int)))), [])) : Option (PV × List Bool)) := by
  kernel_rfl
def rwantsG : List PV → Tr PV
  | [.agg [.lit (.int .u8 w), .lit (.int .i64 many), .lit (.int .u32 least), .lit (.int .u32 most), .gsl 2 n f], .lit (.int .u8 k)] => .leaf (bool (wb w k))
  | [.agg [.lit (.int .u8 w), .lit (.int .i64 many), .lit (.int .u32 least), .lit (.int .u32 most), .lit (.slice none 0 0)], .lit (.int .u8 k)] => .leaf (bool (wb w k))
  | _ => .fail
theorem rwants_ok : PureOK Tryz.prog (GG m t fr) 48 rwantsG := by
  intro ps p hp
  have base := fn_pure mixed (E15_ok (m := m) (t := t) (fr := fr)) (envOf_cuts ..) (f := 48) (fn := Tryz.f48) (by kernel_rfl)
  unfold rwantsG at hp
  split at hp
  · rename_i w many least most n f k
    simp only [Tr.run, Option.some.injEq] at hp
    subst hp
    exact base _ _ (Tr.run_of (rwants_raw m t fr w many least most k n f) rfl)
  · rename_i w many least most k
    simp only [Tr.run, Option.some.injEq] at hp
    subst hp
    exact (base _ _ (Tr.run_of (rwants_raw m t fr w many least most k 0 fun _ => []) rfl)).pre (PLeL.cons (PLe.agg (PLeL.cons (.refl _) (PLeL.cons (.refl _) (PLeL.cons (.refl _) (PLeL.cons (.refl _) (PLeL.cons (PLe.nil 2 _) .nil)))))) (.refl _))
  · cases hp
def tfPure : List (Nat × (List PV → Tr PV)) := (16, checkG) :: (48, rwantsG) :: tePure
theorem tfPure_ok {m : Int} {t : TypeId} {fr : Nat × Nat} : TabOK Tryz.prog (GG m t fr) tfPure := (TabOK.cons check_ok (fn := Tryz.f16) (by kernel_rfl) (by kernel_rfl) (TabOK.cons rwants_ok (fn := Tryz.f48) (by kernel_rfl) (by kernel_rfl) tePure_ok))
noncomputable abbrev E16 (G : GT) : Env := envOf Tryz.prog G tfPure teFull
theorem E16_ok : (E16 (GG m t fr)).ok Tryz.prog (GG m t fr) := envOf_ok mixed tfPure_ok teFull_ok
end
end Go.Proofs.YtcdghinmmhcfcaaGreatDoor.Ev

/- tally.Write, as it is evaluated. No condition. -/
namespace Go.Proofs.YtcdghinmmhcfcaaGreatDoor.Ev
open Go Go.RowKit Go.Proofs Go.Proofs.YtcdghinmmhcfcaaGreatDoor.Str
set_option linter.unusedVariables false
set_option linter.unusedSimpArgs false
section
variable {m : Int} {t : TypeId} {fr : Nat × Nat}
theorem twrite_raw_v (m : Int) (t : TypeId) (fr : Nat × Nat) (w many least most : Int) (n : Nat) (f : Nat → List PV) : ((fnPure Tryz.prog (E16 (GG m t fr)) 60 Tryz.f8 (GG m t fr) [tlP w many least most n f])).val =
 (bif (ckP w many least most (spsOf n f)) then
 bif (decide (least > (0 : Int))) then
 bif (decide (most > (0 : Int))) then
 bif (decide (((n : Nat) : Int) > (0 : Int))) then
 bif ((Nat.blt 0 n) && (Nat.ble n (1024 : Nat))) then
 bif (bne (IntKind.wrap .u8 (((BitVec.toNat (HAnd.hAnd (BitVec.ofInt 8 w) (BitVec.ofInt 8 (8 : Int)))) : Nat) : Int)) (0 : Int)) then
 (.some (.tup [(.lit (.string (bs (joinS [(bs [(77 : UInt8), (73 : UInt8), (78 : UInt8)]), (bs (Lib.decDigits (Int.toNat (IntKind.wrap .u64 least)))), (bs [(77 : UInt8), (65 : UInt8), (88 : UInt8)]), (bs (Lib.decDigits (Int.toNat (IntKind.wrap .u64 most)))), (bs [(65 : UInt8), (76 : UInt8), (76 : UInt8)]), (bs (writeS (spsOf n f))), (bs [(67 : UInt8), (79 : UInt8), (85 : UInt8), (78 : UInt8), (84 : UInt8)]), (bs (Lib.decDigits (Int.toNat (IntKind.wrap .u64 many))))] (.mk (List.toArray [(32 : UInt8)])))))), (.lit (.int .i64 (0 : Int)))]))
 else (.some (.tup [(.lit (.string (bs (joinS [(bs [(77 : UInt8), (73 : UInt8), (78 : UInt8)]), (bs (Lib.decDigits (Int.toNat (IntKind.wrap .u64 least)))), (bs [(77 : UInt8), (65 : UInt8), (88 : UInt8)]), (bs (Lib.decDigits (Int.toNat (IntKind.wrap .u64 most)))), (bs [(65 : UInt8), (76 : UInt8), (76 : UInt8)]), (bs (writeS (spsOf n f)))] (.mk (List.toArray [(32 : UInt8)])))))), (.lit (.int .i64 (0 : Int)))]))
 else bif (bne (IntKind.wrap .u8 (((BitVec.toNat (HAnd.hAnd (BitVec.ofInt 8 w) (BitVec.ofInt 8 (8 : Int)))) : Nat) : Int)) (0 : Int)) then
 (.some (.tup [(.lit (.string (bs (joinS [(bs [(77 : UInt8), (73 : UInt8), (78 : UInt8)]), (bs (Lib.decDigits (Int.toNat (IntKind.wrap .u64 least)))), (bs [(77 : UInt8), (65 : UInt8), (88 : UInt8)]), (bs (Lib.decDigits (Int.toNat (IntKind.wrap .u64 most)))), (bs [(65 : UInt8), (76 : UInt8), (76 : UInt8)]), (.mk (List.toArray [])), (bs [(67 : UInt8), (79 : UInt8), (85 : UInt8), (78 : UInt8), (84 : UInt8)]), (bs (Lib.decDigits (Int.toNat (IntKind.wrap .u64 many))))] (.mk (List.toArray [(32 : UInt8)])))))), (.lit (.int .i64 (0 : Int)))]))
 else (.some (.tup [(.lit (.string (bs (joinS [(bs [(77 : UInt8), (73 : UInt8), (78 : UInt8)]), (bs (Lib.decDigits (Int.toNat (IntKind.wrap .u64 least)))), (bs [(77 : UInt8), (65 : UInt8), (88 : UInt8)]), (bs (Lib.decDigits (Int.toNat (IntKind.wrap .u64 most)))), (bs [(65 : UInt8), (76 : UInt8), (76 : UInt8)]), (.mk (List.toArray []))] (.mk (List.toArray [(32 : UInt8)])))))), (.lit (.int .i64 (0 : Int)))]))
 else bif (bne (IntKind.wrap .u8 (((BitVec.toNat (HAnd.hAnd (BitVec.ofInt 8 w) (BitVec.ofInt 8 (8 : Int)))) : Nat) : Int)) (0 : Int)) then
 (.some (.tup [(.lit (.string (bs (joinS [(bs [(77 : UInt8), (73 : UInt8), (78 : UInt8)]), (bs (Lib.decDigits (Int.toNat (IntKind.wrap .u64 least)))), (bs [(77 : UInt8), (65 : UInt8), (88 : UInt8)]), (bs (Lib.decDigits (Int.toNat (IntKind.wrap .u64 most)))), (bs [(67 : UInt8), (79 : UInt8), (85 : UInt8), (78 : UInt8), (84 : UInt8)]), (bs (Lib.decDigits (Int.toNat (IntKind.wrap .u64 many))))] (.mk (List.toArray [(32 : UInt8)])))))), (.lit (.int .i64 (0 : Int)))]))
 else (.some (.tup [(.lit (.string (bs (joinS [(bs [(77 : UInt8), (73 : UInt8), (78 : UInt8)]), (bs (Lib.decDigits (Int.toNat (IntKind.wrap .u64 least)))), (bs [(77 : UInt8), (65 : UInt8), (88 : UInt8)]), (bs (Lib.decDigits (Int.toNat (IntKind.wrap .u64 most))))] (.mk (List.toArray [(32 : UInt8)])))))), (.lit (.int .i64 (0 : Int)))]))
 else bif (decide (((n : Nat) : Int) > (0 : Int))) then
 bif ((Nat.blt 0 n) && (Nat.ble n (1024 : Nat))) then
 bif (bne (IntKind.wrap .u8 (((BitVec.toNat (HAnd.hAnd (BitVec.ofInt 8 w) (BitVec.ofInt 8 (8 : Int)))) : Nat) : Int)) (0 : Int)) then
 (.some (.tup [(.lit (.string (bs (joinS [(bs [(77 : UInt8), (73 : UInt8), (78 : UInt8)]), (bs (Lib.decDigits (Int.toNat (IntKind.wrap .u64 least)))), (bs [(65 : UInt8), (76 : UInt8), (76 : UInt8)]), (bs (writeS (spsOf n f))), (bs [(67 : UInt8), (79 : UInt8), (85 : UInt8), (78 : UInt8), (84 : UInt8)]), (bs (Lib.decDigits (Int.toNat (IntKind.wrap .u64 many))))] (.mk (List.toArray [(32 : UInt8)])))))), (.lit (.int .i64 (0 : Int)))]))
 else (.some (.tup [(.lit (.string (bs (joinS [(bs [(77 : UInt8), (73 : UInt8), (78 : UInt8)]), (bs (Lib.decDigits (Int.toNat (IntKind.wrap .u64 least)))), (bs [(65 : UInt8), (76 : UInt8), (76 : UInt8)]), (bs (writeS (spsOf n f)))] (.mk (List.toArray [(32 : UInt8)])))))), (.lit (.int .i64 (0 : Int)))]))
 else bif (bne (IntKind.wrap .u8 (((BitVec.toNat (HAnd.hAnd (BitVec.ofInt 8 w) (BitVec.ofInt 8 (8 : Int)))) : Nat) : Int)) (0 : Int)) then
 (.some (.tup [(.lit (.string (bs (joinS [(bs [(77 : UInt8), (73 : UInt8), (78 : UInt8)]), (bs (Lib.decDigits (Int.toNat (IntKind.wrap .u64 least)))), (bs [(65 : UInt8), (76 : UInt8), (76 : UInt8)]), (.mk (List.toArray [])), (bs [(67 : UInt8), (79 : UInt8), (85 : UInt8), (78 : UInt8), (84 : UInt8)]), (bs (Lib.decDigits (Int.toNat (IntKind.wrap .u64 many))))] (.mk (List.toArray [(32 : UInt8)])))))), (.lit (.int .i64 (0 : Int)))]))
 else (.some (.tup [(.lit (.string (bs (joinS [(bs [(77 : UInt8), (73 : UInt8), (78 : UInt8)]), (bs (Lib.decDigits (Int.toNat (IntKind.wrap .u64 least)))), (bs [(65 : UInt8), (76 : UInt8), (76 : UInt8)]), (.mk (List.toArray []))] (.mk (List.toArray [(32 : UInt8)])))))), (.lit (.int .i64 (0 : Int)))]))
 else bif (bne (IntKind.wrap .u8 (((BitVec.toNat (HAnd.hAnd (BitVec.ofInt 8 w) (BitVec.ofInt 8 (8 : Int)))) : Nat) : Int)) (0 : Int)) then
 (.some (.tup [(.lit (.string (bs (joinS [(bs [(77 : UInt8), (73 : UInt8), (78 : UInt8)]), (bs (Lib.decDigits (Int.toNat (IntKind.wrap .u64 least)))), (bs [(67 : UInt8), (79 : UInt8), (85 : UInt8), (78 : UInt8), (84 : UInt8)]), (bs (Lib.decDigits (Int.toNat (IntKind.wrap .u64 many))))] (.mk (List.toArray [(32 : UInt8)])))))), (.lit (.int .i64 (0 : Int)))]))
 else (.some (.tup [(.lit (.string (bs (joinS [(bs [(77 : UInt8), (73 : UInt8), (78 : UInt8)]), (bs (Lib.decDigits (Int.toNat (IntKind.wrap .u64 least))))] (.mk (List.toArray [(32 : UInt8)])))))), (.lit (.int .i64 (0 : Int)))]))
 else bif (decide (most > (0 : Int))) then
 bif (decide (((n : Nat) : Int) > (0 : Int))) then
 bif ((Nat.blt 0 n) && (Nat.ble n (1024 : Nat))) then
 bif (bne (IntKind.wrap .u8 (((BitVec.toNat (HAnd.hAnd (BitVec.ofInt 8 w) (BitVec.ofInt 8 (8 : Int)))) : Nat) : Int)) (0 : Int)) then
 (.some (.tup [(.lit (.string (bs (joinS [(bs [(77 : UInt8), (65 : UInt8), (88 : UInt8)]), (bs (Lib.decDigits (Int.toNat (IntKind.wrap .u64 most)))), (bs [(65 : UInt8), (76 : UInt8), (76 : UInt8)]), (bs (writeS (spsOf n f))), (bs [(67 : UInt8), (79 : UInt8), (85 : UInt8), (78 : UInt8), (84 : UInt8)]), (bs (Lib.decDigits (Int.toNat (IntKind.wrap .u64 many))))] (.mk (List.toArray [(32 : UInt8)])))))), (.lit (.int .i64 (0 : Int)))]))
 else (.some (.tup [(.lit (.string (bs (joinS [(bs [(77 : UInt8), (65 : UInt8), (88 : UInt8)]), (bs (Lib.decDigits (Int.toNat (IntKind.wrap .u64 most)))), (bs [(65 : UInt8), (76 : UInt8), (76 : UInt8)]), (bs (writeS (spsOf n f)))] (.mk (List.toArray [(32 : UInt8)])))))), (.lit (.int .i64 (0 : Int)))]))
 else bif (bne (IntKind.wrap .u8 (((BitVec.toNat (HAnd.hAnd (BitVec.ofInt 8 w) (BitVec.ofInt 8 (8 : Int)))) : Nat) : Int)) (0 : Int)) then
 (.some (.tup [(.lit (.string (bs (joinS [(bs [(77 : UInt8), (65 : UInt8), (88 : UInt8)]), (bs (Lib.decDigits (Int.toNat (IntKind.wrap .u64 most)))), (bs [(65 : UInt8), (76 : UInt8), (76 : UInt8)]), (.mk (List.toArray [])), (bs [(67 : UInt8), (79 : UInt8), (85 : UInt8), (78 : UInt8), (84 : UInt8)]), (bs (Lib.decDigits (Int.toNat (IntKind.wrap .u64 many))))] (.mk (List.toArray [(32 : UInt8)])))))), (.lit (.int .i64 (0 : Int)))]))
 else (.some (.tup [(.lit (.string (bs (joinS [(bs [(77 : UInt8), (65 : UInt8), (88 : UInt8)]), (bs (Lib.decDigits (Int.toNat (IntKind.wrap .u64 most)))), (bs [(65 : UInt8), (76 : UInt8), (76 : UInt8)]), (.mk (List.toArray []))] (.mk (List.toArray [(32 : UInt8)])))))), (.lit (.int .i64 (0 : Int)))]))
 else bif (bne (IntKind.wrap .u8 (((BitVec.toNat (HAnd.hAnd (BitVec.ofInt 8 w) (BitVec.ofInt 8 (8 : Int)))) : Nat) : Int)) (0 : Int)) then
 (.some (.tup [(.lit (.string (bs (joinS [(bs [(77 : UInt8), (65 : UInt8), (88 : UInt8)]), (bs (Lib.decDigits (Int.toNat (IntKind.wrap .u64 most)))), (bs [(67 : UInt8), (79 : UInt8), (85 : UInt8), (78 : UInt8), (84 : UInt8)]), (bs (Lib.decDigits (Int.toNat (IntKind.wrap .u64 many))))] (.mk (List.toArray [(32 : UInt8)])))))), (.lit (.int .i64 (0 : Int)))]))
 else (.some (.tup [(.lit (.string (bs (joinS [(bs [(77 : UInt8), (65 : UInt8), (88 : UInt8)]), (bs (Lib.decDigits (Int.toNat (IntKind.wrap .u64 most))))] (.mk (List.toArray [(32 : UInt8)])))))), (.lit (.int .i64 (0 : Int)))]))
 else bif (decide (((n : Nat) : Int) > (0 : Int))) then
 bif ((Nat.blt 0 n) && (Nat.ble n (1024 : Nat))) then
 bif (bne (IntKind.wrap .u8 (((BitVec.toNat (HAnd.hAnd (BitVec.ofInt 8 w) (BitVec.ofInt 8 (8 : Int)))) : Nat) : Int)) (0 : Int)) then
 (.some (.tup [(.lit (.string (bs (joinS [(bs [(65 : UInt8), (76 : UInt8), (76 : UInt8)]), (bs (writeS (spsOf n f))), (bs [(67 : UInt8), (79 : UInt8), (85 : UInt8), (78 : UInt8), (84 : UInt8)]), (bs (Lib.decDigits (Int.toNat (IntKind.wrap .u64 many))))] (.mk (List.toArray [(32 : UInt8)])))))), (.lit (.int .i64 (0 : Int)))]))
 else (.some (.tup [(.lit (.string (bs (joinS [(bs [(65 : UInt8), (76 : UInt8), (76 : UInt8)]), (bs (writeS (spsOf n f)))] (.mk (List.toArray [(32 : UInt8)])))))), (.lit (.int .i64 (0 : Int)))]))
 else bif (bne (IntKind.wrap .u8 (((BitVec.toNat (HAnd.hAnd (BitVec.ofInt 8 w) (BitVec.ofInt 8 (8 : Int)))) : Nat) : Int)) (0 : Int)) then
 (.some (.tup [(.lit (.string (bs (joinS [(bs [(65 : UInt8), (76 : UInt8), (76 : UInt8)]), (.mk (List.toArray [])), (bs [(67 : UInt8), (79 : UInt8), (85 : UInt8), (78 : UInt8), (84 : UInt8)]), (bs (Lib.decDigits (Int.toNat (IntKind.wrap .u64 many))))] (.mk (List.toArray [(32 : UInt8)])))))), (.lit (.int .i64 (0 : Int)))]))
 else (.some (.tup [(.lit (.string (bs (joinS [(bs [(65 : UInt8), (76 : UInt8), (76 : UInt8)]), (.mk (List.toArray []))] (.mk (List.toArray [(32 : UInt8)])))))), (.lit (.int .i64 (0 : Int)))]))
 else bif (bne (IntKind.wrap .u8 (((BitVec.toNat (HAnd.hAnd (BitVec.ofInt 8 w) (BitVec.ofInt 8 (8 : Int)))) : Nat) : Int)) (0 : Int)) then
 (.some (.tup [(.lit (.string (bs (joinS [(bs [(67 : UInt8), (79 : UInt8), (85 : UInt8), (78 : UInt8), (84 : UInt8)]), (bs (Lib.decDigits (Int.toNat (IntKind.wrap .u64 many))))] (.mk (List.toArray [(32 : UInt8)])))))), (.lit (.int .i64 (0 : Int)))]))
 else (.some (.tup [(.lit (.string (.mk (List.toArray [])))), (.lit (.int .i64 (0 : Int)))]))
 else (.some (.tup [(.lit (.string (.mk (List.toArray [])))), (.lit (.int .i64 (2 : Int)))])) : Option PV) := by
  kernel_rfl
theorem twrite_raw_c (m : Int) (t : TypeId) (fr : Nat × Nat) (w many least most : Int) (n : Nat) (f : Nat → List PV) : ((fnPure Tryz.prog (E16 (GG m t fr)) 60 Tryz.f8 (GG m t fr) [tlP w many least most n f])).conds =
 (bif (tlB w least most n f) then
 bif (ckP w many least most (spsOf n f)) then
 bif (decide (least > (0 : Int))) then
 bif ((decide ((0 : Int) ≤ (IntKind.wrap .u64 least))) && (decide ((IntKind.wrap .u64 least) < (18446744073709551616 : Int)))) then
 bif (decide (most > (0 : Int))) then
 bif ((decide ((0 : Int) ≤ (IntKind.wrap .u64 most))) && (decide ((IntKind.wrap .u64 most) < (18446744073709551616 : Int)))) then
 bif (decide (((n : Nat) : Int) > (0 : Int))) then
 bif ((areSps n f) && (Nat.ble n (4294967280 : Nat))) then
 bif ((Nat.blt 0 n) && (Nat.ble n (1024 : Nat))) then
 bif (bne (IntKind.wrap .u8 (((BitVec.toNat (HAnd.hAnd (BitVec.ofInt 8 w) (BitVec.ofInt 8 (8 : Int)))) : Nat) : Int)) (0 : Int)) then
 bif ((decide ((0 : Int) ≤ (IntKind.wrap .u64 many))) && (decide ((IntKind.wrap .u64 many) < (18446744073709551616 : Int)))) then
 bif (Nat.ble (List.length (joinS [(bs [(77 : UInt8), (73 : UInt8), (78 : UInt8)]), (bs (Lib.decDigits (Int.toNat (IntKind.wrap .u64 least)))), (bs [(77 : UInt8), (65 : UInt8), (88 : UInt8)]), (bs (Lib.decDigits (Int.toNat (IntKind.wrap .u64 most)))), (bs [(65 : UInt8), (76 : UInt8), (76 : UInt8)]), (bs (writeS (spsOf n f))), (bs [(67 : UInt8), (79 : UInt8), (85 : UInt8), (78 : UInt8), (84 : UInt8)]), (bs (Lib.decDigits (Int.toNat (IntKind.wrap .u64 many))))] (.mk (List.toArray [(32 : UInt8)])))) (4294967280 : Nat)) then
 true
 else false
 else false
 else bif (Nat.ble (List.length (joinS [(bs [(77 : UInt8), (73 : UInt8), (78 : UInt8)]), (bs (Lib.decDigits (Int.toNat (IntKind.wrap .u64 least)))), (bs [(77 : UInt8), (65 : UInt8), (88 : UInt8)]), (bs (Lib.decDigits (Int.toNat (IntKind.wrap .u64 most)))), (bs [(65 : UInt8), (76 : UInt8), (76 : UInt8)]), (bs (writeS (spsOf n f)))] (.mk (List.toArray [(32 : UInt8)])))) (4294967280 : Nat)) then
 true
 else false
 else bif (bne (IntKind.wrap .u8 (((BitVec.toNat (HAnd.hAnd (BitVec.ofInt 8 w) (BitVec.ofInt 8 (8 : Int)))) : Nat) : Int)) (0 : Int)) then
 bif ((decide ((0 : Int) ≤ (IntKind.wrap .u64 many))) && (decide ((IntKind.wrap .u64 many) < (18446744073709551616 : Int)))) then
 bif (Nat.ble (List.length (joinS [(bs [(77 : UInt8), (73 : UInt8), (78 : UInt8)]), (bs (Lib.decDigits (Int.toNat (IntKind.wrap .u64 least)))), (bs [(77 : UInt8), (65 : UInt8), (88 : UInt8)]), (bs (Lib.decDigits (Int.toNat (IntKind.wrap .u64 most)))), (bs [(65 : UInt8), (76 : UInt8), (76 : UInt8)]), (.mk (List.toArray [])), (bs [(67 : UInt8), (79 : UInt8), (85 : UInt8), (78 : UInt8), (84 : UInt8)]), (bs (Lib.decDigits (Int.toNat (IntKind.wrap .u64 many))))] (.mk (List.toArray [(32 : UInt8)])))) (4294967280 : Nat)) then
 true
 else false
 else false
 else bif (Nat.ble (List.length (joinS [(bs [(77 : UInt8), (73 : UInt8), (78 : UInt8)]), (bs (Lib.decDigits (Int.toNat (IntKind.wrap .u64 least)))), (bs [(77 : UInt8), (65 : UInt8), (88 : UInt8)]), (bs (Lib.decDigits (Int.toNat (IntKind.wrap .u64 most)))), (bs [(65 : UInt8), (76 : UInt8), (76 : UInt8)]), (.mk (List.toArray []))] (.mk (List.toArray [(32 : UInt8)])))) (4294967280 : Nat)) then
 true
 else false
 else false
 else bif (bne (IntKind.wrap .u8 (((BitVec.toNat (HAnd.hAnd (BitVec.ofInt 8 w) (BitVec.ofInt 8 (8 : Int)))) : Nat) : Int)) (0 : Int)) then
 bif ((decide ((0 : Int) ≤ (IntKind.wrap .u64 many))) && (decide ((IntKind.wrap .u64 many) < (18446744073709551616 : Int)))) then
 bif (Nat.ble (List.length (joinS [(bs [(77 : UInt8), (73 : UInt8), (78 : UInt8)]), (bs (Lib.decDigits (Int.toNat (IntKind.wrap .u64 least)))), (bs [(77 : UInt8), (65 : UInt8), (88 : UInt8)]), (bs (Lib.decDigits (Int.toNat (IntKind.wrap .u64 most)))), (bs [(67 : UInt8), (79 : UInt8), (85 : UInt8), (78 : UInt8), (84 : UInt8)]), (bs (Lib.decDigits (Int.toNat (IntKind.wrap .u64 many))))] (.mk (List.toArray [(32 : UInt8)])))) (4294967280 : Nat)) then
 true
 else false
 else false
 else bif (Nat.ble (List.length (joinS [(bs [(77 : UInt8), (73 : UInt8), (78 : UInt8)]), (bs (Lib.decDigits (Int.toNat (IntKind.wrap .u64 least)))), (bs [(77 : UInt8), (65 : UInt8), (88 : UInt8)]), (bs (Lib.decDigits (Int.toNat (IntKind.wrap .u64 most))))] (.mk (List.toArray [(32 : UInt8)])))) (4294967280 : Nat)) then
 true
 else false
 else false
 else bif (decide (((n : Nat) : Int) > (0 : Int))) then
 bif ((areSps n f) && (Nat.ble n (4294967280 : Nat))) then
 bif ((Nat.blt 0 n) && (Nat.ble n (1024 : Nat))) then
 bif (bne (IntKind.wrap .u8 (((BitVec.toNat (HAnd.hAnd (BitVec.ofInt 8 w) (BitVec.ofInt 8 (8 : Int)))) : Nat) : Int)) (0 : Int)) then
 bif ((decide ((0 : Int) ≤ (IntKind.wrap .u64 many))) && (decide ((IntKind.wrap .u64 many) < (18446744073709551616 : Int)))) then
 bif (Nat.ble (List.length (joinS [(bs [(77 : UInt8), (73 : UInt8), (78 : UInt8)]), (bs (Lib.decDigits (Int.toNat (IntKind.wrap .u64 least)))), (bs [(65 : UInt8), (76 : UInt8), (76 : UInt8)]), (bs (writeS (spsOf n f))), (bs [(67 : UInt8), (79 : UInt8), (85 : UInt8), (78 : UInt8), (84 : UInt8)]), (bs (Lib.decDigits (Int.toNat (IntKind.wrap .u64 many))))] (.mk (List.toArray [(32 : UInt8)])))) (4294967280 : Nat)) then
 true
 else false
 else false
 else bif (Nat.ble (List.length (joinS [(bs [(77 : UInt8), (73 : UInt8), (78 : UInt8)]), (bs (Lib.decDigits (Int.toNat (IntKind.wrap .u64 least)))), (bs [(65 : UInt8), (76 : UInt8), (76 : UInt8)]), (bs (writeS (spsOf n f)))] (.mk (List.toArray [(32 : UInt8)])))) (4294967280 : Nat)) then
 true
 else false
 else bif (bne (IntKind.wrap .u8 (((BitVec.toNat (HAnd.hAnd (BitVec.ofInt 8 w) (BitVec.ofInt 8 (8 : Int)))) : Nat) : Int)) (0 : Int)) then
 bif ((decide ((0 : Int) ≤ (IntKind.wrap .u64 many))) && (decide ((IntKind.wrap .u64 many) < (18446744073709551616 : Int)))) then
 bif (Nat.ble (List.length (joinS [(bs [(77 : UInt8), (73 : UInt8), (78 : UInt8)]), (bs (Lib.decDigits (Int.toNat (IntKind.wrap .u64 least)))), (bs [(65 : UInt8), (76 : UInt8), (76 : UInt8)]), (.mk (List.toArray [])), (bs [(67 : UInt8), (79 : UInt8), (85 : UInt8), (78 : UInt8), (84 : UInt8)]), (bs (Lib.decDigits (Int.toNat (IntKind.wrap .u64 many))))] (.mk (List.toArray [(32 : UInt8)])))) (4294967280 : Nat)) then
 true
 else false
 else false
 else bif (Nat.ble (List.length (joinS [(bs [(77 : UInt8), (73 : UInt8), (78 : UInt8)]), (bs (Lib.decDigits (Int.toNat (IntKind.wrap .u64 least)))), (bs [(65 : UInt8), (76 : UInt8), (76 : UInt8)]), (.mk (List.toArray []))] (.mk (List.toArray [(32 : UInt8)])))) (4294967280 : Nat)) then
 true
 else false
 else false
 else bif (bne (IntKind.wrap .u8 (((BitVec.toNat (HAnd.hAnd (BitVec.ofInt 8 w) (BitVec.ofInt 8 (8 : Int)))) : Nat) : Int)) (0 : Int)) then
 bif ((decide ((0 : Int) ≤ (IntKind.wrap .u64 many))) && (decide ((IntKind.wrap .u64 many) < (18446744073709551616 : Int)))) then
 bif (Nat.ble (List.length (joinS [(bs [(77 : UInt8), (73 : UInt8), (78 : UInt8)]), (bs (Lib.decDigits (Int.toNat (IntKind.wrap .u64 least)))), (bs [(67 : UInt8), (79 : UInt8), (85 : UInt8), (78 : UInt8), (84 : UInt8)]), (bs (Lib.decDigits (Int.toNat (IntKind.wrap .u64 many))))] (.mk (List.toArray [(32 : UInt8)])))) (4294967280 : Nat)) then
 true
 else false
 else false
 else bif (Nat.ble (List.length (joinS [(bs [(77 : UInt8), (73 : UInt8), (78 : UInt8)]), (bs (Lib.decDigits (Int.toNat (IntKind.wrap .u64 least))))] (.mk (List.toArray [(32 : UInt8)])))) (4294967280 : Nat)) then
 true
 else false
 else false
 else bif (decide (most > (0 : Int))) then
 bif ((decide ((0 : Int) ≤ (IntKind.wrap .u64 most))) && (decide ((IntKind.wrap .u64 most) < (18446744073709551616 : Int)))) then
 bif (decide (((n : Nat) : Int) > (0 : Int))) then
 bif ((areSps n f) && (Nat.ble n (4294967280 : Nat))) then
 bif ((Nat.blt 0 n) && (Nat.ble n (1024 : Nat))) then
 bif (bne (IntKind.wrap .u8 (((BitVec.toNat (HAnd.hAnd (BitVec.ofInt 8 w) (BitVec.ofInt 8 (8 : Int)))) : Nat) : Int)) (0 : Int)) then
 bif ((decide ((0 : Int) ≤ (IntKind.wrap .u64 many))) && (decide ((IntKind.wrap .u64 many) < (18446744073709551616 : Int)))) then
 bif (Nat.ble (List.length (joinS [(bs [(77 : UInt8), (65 : UInt8), (88 : UInt8)]), (bs (Lib.decDigits (Int.toNat (IntKind.wrap .u64 most)))), (bs [(65 : UInt8), (76 : UInt8), (76 : UInt8)]), (bs (writeS (spsOf n f))), (bs [(67 : UInt8), (79 : UInt8), (85 : UInt8), (78 : UInt8), (84 : UInt8)]), (bs (Lib.decDigits (Int.toNat (IntKind.wrap .u64 many))))] (.mk (List.toArray [(32 : UInt8)])))) (4294967280 : Nat)) then
 true
 else false
 else false
 else bif (Nat.ble (List.length (joinS [(bs [(77 : UInt8), (65 : UInt8), (88 : UInt8)]), (bs (Lib.decDigits (Int.toNat (IntKind.wrap .u64 most)))), (bs [(65 : UInt8), (76 : UInt8), (76 : UInt8)]), (bs (writeS (spsOf n f)))] (.mk (List.toArray [(32 : UInt8)])))) (4294967280 : Nat)) then
 true
 else false
 else bif (bne (IntKind.wrap .u8 (((BitVec.toNat (HAnd.hAnd (BitVec.ofInt 8 w) (BitVec.ofInt 8 (8 : Int)))) : Nat) : Int)) (0 : Int)) then
 bif ((decide ((0 : Int) ≤ (IntKind.wrap .u64 many))) && (decide ((IntKind.wrap .u64 many) < (18446744073709551616 : Int)))) then
 bif (Nat.ble (List.length (joinS [(bs [(77 : UInt8), (65 : UInt8), (88 : UInt8)]), (bs (Lib.decDigits (Int.toNat (IntKind.wrap .u64 most)))), (bs [(65 : UInt8), (76 : UInt8), (76 : UInt8)]), (.mk (List.toArray [])), (bs [(67 : UInt8), (79 : UInt8), (85 : UInt8), (78 : UInt8), (84 : UInt8)]), (bs (Lib.decDigits (Int.toNat (IntKind.wrap .u64 many))))] (.mk (List.toArray [(32 : UInt8)])))) (4294967280 : Nat)) then
 true
 else false
 else false
 else bif (Nat.ble (List.length (joinS [(bs [(77 : UInt8), (65 : UInt8), (88 : UInt8)]), (bs (Lib.decDigits (Int.toNat (IntKind.wrap .u64 most)))), (bs [(65 : UInt8), (76 : UInt8), (76 : UInt8)]), (.mk (List.toArray []))] (.mk (List.toArray [(32 : UInt8)])))) (4294967280 : Nat)) then
 true
 else false
 else false
 else bif (bne (IntKind.wrap .u8 (((BitVec.toNat (HAnd.hAnd (BitVec.ofInt 8 w) (BitVec.ofInt 8 (8 : Int)))) : Nat) : Int)) (0 : Int)) then
 bif ((decide ((0 : Int) ≤ (IntKind.wrap .u64 many))) && (decide ((IntKind.wrap .u64 many) < (18446744073709551616 : Int)))) then
 bif (Nat.ble (List.length (joinS [(bs [(77 : UInt8), (65 : UInt8), (88 : UInt8)]), (bs (Lib.decDigits (Int.toNat (IntKind.wrap .u64 most)))), (bs [(67 : UInt8), (79 : UInt8), (85 : UInt8), (78 : UInt8), (84 : UInt8)]), (bs (Lib.decDigits (Int.toNat (IntKind.wrap .u64 many))))] (.mk (List.toArray [(32 : UInt8)])))) (4294967280 : Nat)) then
 true
 else false
 else false
 else bif (Nat.ble (List.length (joinS [(bs [(77 : UInt8), (65 : UInt8), (88 : UInt8)]), (bs (Lib.decDigits (Int.toNat (IntKind.wrap .u64 most))))] (.mk (List.toArray [(32 : UInt8)])))) (4294967280 : Nat)) then
 true
 else false
 else false
 else bif (decide (((n : Nat) : Int) > (0 : Int))) then
 bif ((areSps n f) && (Nat.ble n (4294967280 : Nat))) then
 bif ((Nat.blt 0 n) && (Nat.ble n (1024 : Nat))) then
 bif (bne (IntKind.wrap .u8 (((BitVec.toNat (HAnd.hAnd (BitVec.ofInt 8 w) (BitVec.ofInt 8 (8 : Int)))) : Nat) : Int)) (0 : Int)) then
 bif ((decide ((0 : Int) ≤ (IntKind.wrap .u64 many))) && (decide ((IntKind.wrap .u64 many) < (18446744073709551616 : Int)))) then
 bif (Nat.ble (List.length (joinS [(bs [(65 : UInt8), (76 : UInt8), (76 : UInt8)]), (bs (writeS (spsOf n f))), (bs [(67 : UInt8), (79 : UInt8), (85 : UInt8), (78 : UInt8), (84 : UInt8)]), (bs (Lib.decDigits (Int.toNat (IntKind.wrap .u64 many))))] (.mk (List.toArray [(32 : UInt8)])))) (4294967280 : Nat)) then
 true
 else false
 else false
 else bif (Nat.ble (List.length (joinS [(bs [(65 : UInt8), (76 : UInt8), (76 : UInt8)]), (bs (writeS (spsOf n f)))] (.mk (List.toArray [(32 : UInt8)])))) (4294967280 : Nat)) then
 true
 else false
 else bif (bne (IntKind.wrap .u8 (((BitVec.toNat (HAnd.hAnd (BitVec.ofInt 8 w) (BitVec.ofInt 8 (8 : Int)))) : Nat) : Int)) (0 : Int)) then
 bif ((decide ((0 : Int) ≤ (IntKind.wrap .u64 many))) && (decide ((IntKind.wrap .u64 many) < (18446744073709551616 : Int)))) then
 bif (Nat.ble (List.length (joinS [(bs [(65 : UInt8), (76 : UInt8), (76 : UInt8)]), (.mk (List.toArray [])), (bs [(67 : UInt8), (79 : UInt8), (85 : UInt8), (78 : UInt8), (84 : UInt8)]), (bs (Lib.decDigits (Int.toNat (IntKind.wrap .u64 many))))] (.mk (List.toArray [(32 : UInt8)])))) (4294967280 : Nat)) then
 true
 else false
 else false
 else true
 else false
 else bif (bne (IntKind.wrap .u8 (((BitVec.toNat (HAnd.hAnd (BitVec.ofInt 8 w) (BitVec.ofInt 8 (8 : Int)))) : Nat) : Int)) (0 : Int)) then
 bif ((decide ((0 : Int) ≤ (IntKind.wrap .u64 many))) && (decide ((IntKind.wrap .u64 many) < (18446744073709551616 : Int)))) then
 bif (Nat.ble (List.length (joinS [(bs [(67 : UInt8), (79 : UInt8), (85 : UInt8), (78 : UInt8), (84 : UInt8)]), (bs (Lib.decDigits (Int.toNat (IntKind.wrap .u64 many))))] (.mk (List.toArray [(32 : UInt8)])))) (4294967280 : Nat)) then
 true
 else false
 else false
 else true
 else true
 else false : Bool) := by
  kernel_rfl
end
end Go.Proofs.YtcdghinmmhcfcaaGreatDoor.Ev

/- tally.Write as a contract. No condition. -/
namespace Go.Proofs.YtcdghinmmhcfcaaGreatDoor.Ev
open Go Go.RowKit Go.Proofs Go.Proofs.YtcdghinmmhcfcaaGreatDoor.Str
set_option linter.unusedVariables false
set_option linter.unusedSimpArgs false
def wMIN : List UInt8 := [77, 73, 78]
def wMAX : List UInt8 := [77, 65, 88]
def wALL : List UInt8 := [65, 76, 76]
def wCOUNT : List UInt8 := [67, 79, 85, 78, 84]
def decI (x : Int) : List UInt8 := Lib.decDigits x.toNat
/-- a tally's words -/
def twL (w many least most : Int) (l : List Sp) : List (List UInt8) :=
  (bif decide (least > 0) then [wMIN, decI least] else []) ++ ((bif decide (most > 0) then [wMAX, decI most] else []) ++ ((bif decide ((l.length : Int) > 0) then [wALL, writeS l] else []) ++ (bif wb w 8 then [wCOUNT, decI many] else [])))
def twS (w many least most : Int) (l : List Sp) : List UInt8 := joinC 32 (twL w many least most l)
theorem joinS_C (L : List (List UInt8)) : joinS (L.map bs) ⟨#[32]⟩ = joinC 32 L := by
  unfold joinS
  rw [List.map_map]
  have e : ((fun x : ByteArray => x.data.toList) ∘ bs) = id := by
    funext x
    exact ls_bs x
  rw [e, List.map_id]
  exact join_inter 32 L
theorem jn_le {L : List (List UInt8)} (h1 : ∀ x ∈ L, x.length ≤ 30000) (h2 : L.length ≤ 8) : Nat.ble (joinC 32 L).length 4294967280 = true := by
  refine Nat.ble_eq_true_of_le ?_
  have := joinC_le 32 30000 L h1
  have : (30000 + 1) * L.length ≤ (30000 + 1) * 8 := Nat.mul_le_mul_left _ h2
  omega
theorem decI_len {x : Int} (h : x < 4294967296) : (decI x).length ≤ 30000 := by
  have := dec_len 9 x.toNat (by simp; omega)
  unfold decI
  omega
theorem cond_tf {b : Bool} (h : b = true) : (bif b then true else false) = true := by rw [h]; rfl
section
variable {m : Int} {t : TypeId} {fr : Nat × Nat}
def twriteG : List PV → Tr PV
  | [q] => match tlOf q with
    | some (w, many, least, most, n, f) => .br (tlB w least most n f) (.br (ckP w many least most (spsOf n f)) (.leaf (.tup [str (bs (twS w many least most (spsOf n f))), int 0])) (.leaf (.tup [str ⟨#[]⟩, int 2]))) .fail
    | none => .fail
  | _ => .fail
theorem ck_facts {w many least most : Int} {l : List Sp} (h : ckP w many least most l = true) : aN w = false ∧ 0 ≤ many ∧ many ≤ 65536 ∧ pdB none l = true ∧ l.length ≤ 1024 ∧ sumS l ≤ 65536 := by
  unfold ckP pkB at h
  simp only [Bool.and_eq_true, Bool.not_eq_true', decide_eq_false_iff_not, decide_eq_true_eq] at h
  obtain ⟨h1, h2, h3, ⟨h4, h5, h6⟩, _⟩ := h
  exact ⟨h1, by omega, by omega, h4, by omega, h6⟩
theorem twrite_ok : PureOK Tryz.prog (GG m t fr) 8 twriteG := by
  intro ps p hp
  unfold twriteG at hp
  split at hp
  · rename_i q
    split at hp
    · rename_i w many least most n f hq
      obtain ⟨hb, hp⟩ := br_run hp
      refine PureAt.pre (qs := [tlP w many least most n f]) ?_ (PLeL.cons (tlOf_le hq) .nil)
      have base := fn_pure mixed (E16_ok (m := m) (t := t) (fr := fr)) (envOf_cuts ..) (f := 8) (fn := Tryz.f8) (by kernel_rfl)
      have hv := twrite_raw_v m t fr w many least most n f
      have hc := twrite_raw_c m t fr w many least most n f
      have hb' := hb
      simp only [tlB, u32N, Bool.and_eq_true, decide_eq_true_eq] at hb
      obtain ⟨⟨⟨hw0, hw1⟩, ⟨hl0, hl1⟩, hm0, hm1⟩, hf, hn⟩ := hb
      have hL := sps_len n f
      have e8 : bne (IntKind.wrap .u8 (((BitVec.toNat (HAnd.hAnd (BitVec.ofInt 8 w) (BitVec.ofInt 8 (8 : Int)))) : Nat) : Int)) (0 : Int) = wb w 8 := rfl
      simp only [Tr.run] at hp
      rw [hb'] at hc
      cases ck : ckP w many least most (spsOf n f) with
      | false =>
        rw [ck] at hp hv hc
        simp only [cond_false, Option.some.injEq] at hp
        subst hp
        exact base _ _ (Tr.run_vc hv hc rfl rfl)
      | true =>
        rw [ck] at hp hv hc
        simp only [cond_true, Option.some.injEq] at hp
        subst hp
        obtain ⟨_, k0, k1, _, k2, _⟩ := ck_facts ck
        rw [hL] at k2
        have d1 : (decide ((0 : Int) ≤ least) && decide (least < 18446744073709551616)) = true := by simp; omega
        have d2 : (decide ((0 : Int) ≤ most) && decide (most < 18446744073709551616)) = true := by simp; omega
        have d3 : (decide ((0 : Int) ≤ many) && decide (many < 18446744073709551616)) = true := by simp; omega
        rw [e8, wrap_u64 (x := least) (by omega), wrap_u64 (x := most) (by omega), wrap_u64 (x := many) (by omega)] at hv hc
        rw [d1, d2, d3, hf, hn] at hc
        have w1 : (decI least).length ≤ 30000 := decI_len (by omega)
        have w2 : (decI most).length ≤ 30000 := decI_len (by omega)
        have w3 : (decI many).length ≤ 30000 := decI_len (by omega)
        have w4 : (writeS (spsOf n f)).length ≤ 30000 := by
          have := writeS_len (sps_u32 hf)
          rw [hL] at this
          omega
        have c1 : wMIN.length ≤ 30000 := by decide
        have c2 : wMAX.length ≤ 30000 := by decide
        have c3 : wALL.length ≤ 30000 := by decide
        have c4 : wCOUNT.length ≤ 30000 := by decide
        have fin : ∀ (L : List (List UInt8)), (∀ x ∈ L, x.length ≤ 30000) → L.length ≤ 8 → Nat.ble (List.length (joinS (L.map bs) ⟨#[32]⟩)) 4294967280 = true := by
          intro L h1 h2
          rw [joinS_C]
          exact jn_le h1 h2
        unfold twS twL
        rw [hL]
        by_cases hn0 : n = 0
        · subst hn0
          have dn : decide (((0 : Nat) : Int) > 0) = false := rfl
          rw [dn] at hv hc ⊢
          cases a : decide (least > 0) <;> cases b : decide (most > 0) <;> cases g : wb w 8 <;> simp only [a, b, g, cond_true, cond_false, Bool.and_true, Bool.true_and] at hv hc ⊢
          · exact base _ _ (Tr.run_vc hv hc rfl rfl)
          · simp only [List.nil_append, List.cons_append, List.append_nil]
            rw [← joinS_C]
            exact base _ _ (Tr.run_vc hv hc (cond_tf (fin [wCOUNT, decI many] (by intro x hx; simp only [List.mem_cons, List.not_mem_nil, or_false] at hx; rcases hx with rfl | rfl <;> assumption) (by simp))) rfl)
          · simp only [List.nil_append, List.cons_append, List.append_nil]
            rw [← joinS_C]
            exact base _ _ (Tr.run_vc hv hc (cond_tf (fin [wMAX, decI most] (by intro x hx; simp only [List.mem_cons, List.not_mem_nil, or_false] at hx; rcases hx with rfl | rfl <;> assumption) (by simp))) rfl)
          · simp only [List.nil_append, List.cons_append, List.append_nil]
            rw [← joinS_C]
            exact base _ _ (Tr.run_vc hv hc (cond_tf (fin [wMAX, decI most, wCOUNT, decI many] (by intro x hx; simp only [List.mem_cons, List.not_mem_nil, or_false] at hx; rcases hx with rfl | rfl | rfl | rfl <;> assumption) (by simp))) rfl)
          · simp only [List.nil_append, List.cons_append, List.append_nil]
            rw [← joinS_C]
            exact base _ _ (Tr.run_vc hv hc (cond_tf (fin [wMIN, decI least] (by intro x hx; simp only [List.mem_cons, List.not_mem_nil, or_false] at hx; rcases hx with rfl | rfl <;> assumption) (by simp))) rfl)
          · simp only [List.nil_append, List.cons_append, List.append_nil]
            rw [← joinS_C]
            exact base _ _ (Tr.run_vc hv hc (cond_tf (fin [wMIN, decI least, wCOUNT, decI many] (by intro x hx; simp only [List.mem_cons, List.not_mem_nil, or_false] at hx; rcases hx with rfl | rfl | rfl | rfl <;> assumption) (by simp))) rfl)
          · simp only [List.nil_append, List.cons_append, List.append_nil]
            rw [← joinS_C]
            exact base _ _ (Tr.run_vc hv hc (cond_tf (fin [wMIN, decI least, wMAX, decI most] (by intro x hx; simp only [List.mem_cons, List.not_mem_nil, or_false] at hx; rcases hx with rfl | rfl | rfl | rfl <;> assumption) (by simp))) rfl)
          · simp only [List.nil_append, List.cons_append, List.append_nil]
            rw [← joinS_C]
            exact base _ _ (Tr.run_vc hv hc (cond_tf (fin [wMIN, decI least, wMAX, decI most, wCOUNT, decI many] (by intro x hx; simp only [List.mem_cons, List.not_mem_nil, or_false] at hx; rcases hx with rfl | rfl | rfl | rfl | rfl | rfl <;> assumption) (by simp))) rfl)
        · have dn : decide ((n : Int) > 0) = true := decide_eq_true (by omega)
          have dk : (Nat.blt 0 n && Nat.ble n 1024) = true := by
            rw [Bool.and_eq_true, Nat.blt_eq, Nat.ble_eq]
            omega
          rw [dn] at hv hc ⊢
          rw [dk] at hv hc
          cases a : decide (least > 0) <;> cases b : decide (most > 0) <;> cases g : wb w 8 <;> simp only [a, b, g, cond_true, cond_false, Bool.and_true, Bool.true_and] at hv hc ⊢
          · simp only [List.nil_append, List.cons_append, List.append_nil]
            rw [← joinS_C]
            exact base _ _ (Tr.run_vc hv hc (cond_tf (fin [wALL, writeS (spsOf n f)] (by intro x hx; simp only [List.mem_cons, List.not_mem_nil, or_false] at hx; rcases hx with rfl | rfl <;> assumption) (by simp))) rfl)
          · simp only [List.nil_append, List.cons_append, List.append_nil]
            rw [← joinS_C]
            exact base _ _ (Tr.run_vc hv hc (cond_tf (fin [wALL, writeS (spsOf n f), wCOUNT, decI many] (by intro x hx; simp only [List.mem_cons, List.not_mem_nil, or_false] at hx; rcases hx with rfl | rfl | rfl | rfl <;> assumption) (by simp))) rfl)
          · simp only [List.nil_append, List.cons_append, List.append_nil]
            rw [← joinS_C]
            exact base _ _ (Tr.run_vc hv hc (cond_tf (fin [wMAX, decI most, wALL, writeS (spsOf n f)] (by intro x hx; simp only [List.mem_cons, List.not_mem_nil, or_false] at hx; rcases hx with rfl | rfl | rfl | rfl <;> assumption) (by simp))) rfl)
          · simp only [List.nil_append, List.cons_append, List.append_nil]
            rw [← joinS_C]
            exact base _ _ (Tr.run_vc hv hc (cond_tf (fin [wMAX, decI most, wALL, writeS (spsOf n f), wCOUNT, decI many] (by intro x hx; simp only [List.mem_cons, List.not_mem_nil, or_false] at hx; rcases hx with rfl | rfl | rfl | rfl | rfl | rfl <;> assumption) (by simp))) rfl)
          · simp only [List.nil_append, List.cons_append, List.append_nil]
            rw [← joinS_C]
            exact base _ _ (Tr.run_vc hv hc (cond_tf (fin [wMIN, decI least, wALL, writeS (spsOf n f)] (by intro x hx; simp only [List.mem_cons, List.not_mem_nil, or_false] at hx; rcases hx with rfl | rfl | rfl | rfl <;> assumption) (by simp))) rfl)
          · simp only [List.nil_append, List.cons_append, List.append_nil]
            rw [← joinS_C]
            exact base _ _ (Tr.run_vc hv hc (cond_tf (fin [wMIN, decI least, wALL, writeS (spsOf n f), wCOUNT, decI many] (by intro x hx; simp only [List.mem_cons, List.not_mem_nil, or_false] at hx; rcases hx with rfl | rfl | rfl | rfl | rfl | rfl <;> assumption) (by simp))) rfl)
          · simp only [List.nil_append, List.cons_append, List.append_nil]
            rw [← joinS_C]
            exact base _ _ (Tr.run_vc hv hc (cond_tf (fin [wMIN, decI least, wMAX, decI most, wALL, writeS (spsOf n f)] (by intro x hx; simp only [List.mem_cons, List.not_mem_nil, or_false] at hx; rcases hx with rfl | rfl | rfl | rfl | rfl | rfl <;> assumption) (by simp))) rfl)
          · simp only [List.nil_append, List.cons_append, List.append_nil]
            rw [← joinS_C]
            exact base _ _ (Tr.run_vc hv hc (cond_tf (fin [wMIN, decI least, wMAX, decI most, wALL, writeS (spsOf n f), wCOUNT, decI many] (by intro x hx; simp only [List.mem_cons, List.not_mem_nil, or_false] at hx; rcases hx with rfl | rfl | rfl | rfl | rfl | rfl | rfl | rfl <;> assumption) (by simp))) rfl)
    · cases hp
  · cases hp
end
end Go.Proofs.YtcdghinmmhcfcaaGreatDoor.Ev
