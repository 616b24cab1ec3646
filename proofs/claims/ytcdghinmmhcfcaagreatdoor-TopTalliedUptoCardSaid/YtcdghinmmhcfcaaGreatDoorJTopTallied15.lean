/- JTopTallied15: several texts in one. Condition: each part's own. -/
import Derived.Test.YtcdghinmmhcfcaaGreatDoorJTopTallied14
import Derived.Test.YtcdghinmmhcfcaaGreatDoorJTopTallied11
/- NsetNumbers: Count, Only, the law. No condition. -/
namespace Go.Proofs.YtcdghinmmhcfcaaGreatDoor.Ev
open Go Go.RowKit Go.Proofs Go.Proofs.YtcdghinmmhcfcaaGreatDoor.Str
set_option linter.unusedVariables false
set_option linter.unusedSimpArgs false
section
variable {m : Int} {t : TypeId} {fr : Nat × Nat}
def r3Pure : List (Nat × (List PV → Tr PV)) := rsPure
theorem r3Pure_ok {m : Int} {t : TypeId} {fr : Nat × Nat} : TabOK Tryz.prog (GG m t fr) r3Pure := rsPure_ok
noncomputable abbrev E10 (G : GT) : Env := envOf Tryz.prog G r3Pure nbFull
theorem E10_ok : (E10 (GG m t fr)).ok Tryz.prog (GG m t fr) := envOf_ok mixed r3Pure_ok nbFull_ok
theorem cn_raw (m : Int) (t : TypeId) (fr : Nat × Nat) (n : Nat) (f : Nat → List PV) (most : Int) : (fnPure Tryz.prog ((E10 (GG m t fr)).withCuts (cut1 0 (cnCut (GG m t fr)))) 60 Tryz.f18 (GG m t fr) [.gsl 2 n f, .lit (.int .u32 most)]).run2 =
 ((.some ((.tup [(.lit (.int .u64 (cnS (spsOf (List.length (srtR most (spsOf n f))) (sRow (srtR most (spsOf n f)))) (0 : Int)))), (.lit (.int .i64 (srtE (spsOf n f))))]), [((((areSps (List.length (srtR most (spsOf n f))) (sRow (srtR most (spsOf n f)))) && (decide ((((List.length (srtR most (spsOf n f))) : Nat) : Int) = (((List.length (srtR most (spsOf n f))) : Nat) : Int)))) && (Nat.ble (List.length (srtR most (spsOf n f))) (1024 : Nat))) && (okM .none (spsOf (List.length (srtR most (spsOf n f))) (sRow (srtR most (spsOf n f)))))), (((areSps n f) && (Nat.ble n (4294967280 : Nat))) && (u32N most)), (((areSps n f) && (Nat.ble n (4294967280 : Nat))) && (u32N most))])) : Option (PV × List Bool)) := by
  kernel_rfl
theorem on_raw (m : Int) (t : TypeId) (fr : Nat × Nat) (n k : Nat) (f g : Nat → List PV) (most : Int) : (fnPure Tryz.prog ((E10 (GG m t fr)).withCuts (cut1 0 (onCut (GG m t fr)))) 60 Tryz.f23 (GG m t fr) [.gsl 2 n f, .lit (.int .u32 most), .gsl 1 k g]).run2 =
 ((.some ((.gsl 1 (List.length (onS most (spsOf n f) (numsOf k g) [])) (nRow (onS most (spsOf n f) (numsOf k g) []))), [((((((areNums k g) && (decide (((k : Nat) : Int) = ((k : Nat) : Int)))) && (Nat.ble k (4294967280 : Nat))) && (areSps n f)) && (Nat.ble n (4294967280 : Nat))) && (u32N most))])) : Option (PV × List Bool)) := by
  kernel_rfl
def cntG : List PV → Tr PV
  | [.gsl 2 n f, .lit (.int .u32 most)] => .br (areSps n f && Nat.ble n 4294967280 && u32N most) (.leaf (.tup [.lit (.int .u64 (cnS (srtR most (spsOf n f)) 0)), int (srtE (spsOf n f))])) .fail
  | _ => .fail
def onG : List PV → Tr PV
  | [.gsl 2 n f, .lit (.int .u32 most), .gsl 1 k g] => .br (areSps n f && Nat.ble n 4294967280 && u32N most && areNums k g && Nat.ble k 4294967280) (.leaf (.gsl 1 (onS most (spsOf n f) (numsOf k g) []).length (nRow (onS most (spsOf n f) (numsOf k g) [])))) .fail
  | _ => .fail
def s1G : List PV → Tr PV
  | [.gsl 1 n f, .gsl 1 k g] => .br (areNums n f && areNums k g && Nat.ble n 4294967280) (.leaf (bool (decide (numsOf n f = numsOf k g)))) .fail
  | _ => .fail
theorem cnnt_ok : PureOK Tryz.prog (GG m t fr) 18 cntG := by
  refine PureOK.of (fn_cuts mixed E10_ok (fn := Tryz.f18) (cuts := cut1 0 (cnCut (GG m t fr))) (by kernel_rfl) (CutLaws.one (by omega) (by kernel_rfl) fun st e st' h => cutOf_ok E9_ok mixed (noCuts_ok (envOf_cuts ..) _) cnF_ok h)) fun ps p hp => ?_
  unfold cntG at hp
  split at hp
  · rename_i n f most
    obtain ⟨hc, hp⟩ := br_run hp
    simp only [Bool.and_eq_true] at hc
    obtain ⟨⟨hf, hn⟩, hm⟩ := hc
    have hm' := hm
    unfold u32N at hm'
    simp only [Bool.and_eq_true, decide_eq_true_eq] at hm'
    simp only [Tr.run, Option.some.injEq] at hp
    subst hp
    have h := cn_raw m t fr n f most
    have hle : Nat.ble (srtR most (spsOf n f)).length 1024 = true := Nat.ble_eq_true_of_le srtR_len
    rw [sps_sRow, are_sRow (srtR_u32 hm' (sps_u32 hf)), srtR_okM hm' (sps_u32 hf), hle, hf, hn, hm] at h
    exact ⟨_, Tr.run_of h (by simp), PLe.of_eq rfl⟩
  · cases hp
theorem only_ok : PureOK Tryz.prog (GG m t fr) 23 onG := by
  refine PureOK.of (fn_cuts mixed E10_ok (fn := Tryz.f23) (cuts := cut1 0 (onCut (GG m t fr))) (by kernel_rfl) (CutLaws.one (by omega) (by kernel_rfl) fun st e st' h => cutOf_ok E9_ok mixed (noCuts_ok (envOf_cuts ..) _) onF_ok h)) fun ps p hp => ?_
  unfold onG at hp
  split at hp
  · rename_i n f most k g
    obtain ⟨hc, hp⟩ := br_run hp
    simp only [Bool.and_eq_true] at hc
    obtain ⟨⟨⟨⟨hf, hn⟩, hm⟩, hg⟩, hk⟩ := hc
    simp only [Tr.run, Option.some.injEq] at hp
    subst hp
    have h := on_raw m t fr n k f g most
    rw [hf, hn, hm, hg, hk] at h
    exact ⟨_, Tr.run_of h (by simp), PLe.of_eq rfl⟩
  · cases hp
def cnPure : List (Nat × (List PV → Tr PV)) := (18, cntG) :: (23, onG) :: r3Pure
theorem cnPure_ok {m : Int} {t : TypeId} {fr : Nat × Nat} : TabOK Tryz.prog (GG m t fr) cnPure := (TabOK.cons cnnt_ok (fn := Tryz.f18) (by kernel_rfl) (by kernel_rfl) (TabOK.cons only_ok (fn := Tryz.f23) (by kernel_rfl) (by kernel_rfl) r3Pure_ok))
noncomputable abbrev E11 (G : GT) : Env := envOf Tryz.prog G cnPure nbFull
theorem E11_ok : (E11 (GG m t fr)).ok Tryz.prog (GG m t fr) := envOf_ok mixed cnPure_ok nbFull_ok
theorem onS_ok (most : Int) (l : List Sp) : ∀ (s r : List Int), s.all u32N = true → r.all u32N = true → (onS most l s r).all u32N = true ∧ (onS most l s r).length ≤ s.length + r.length
  | [], r, _, hr => ⟨hr, by simp [onS]⟩
  | x :: s, r, hs, hr => by
    have hx : u32N x = true := List.all_eq_true.1 hs x (by simp)
    have hs' : s.all u32N = true := List.all_eq_true.2 fun y hy => List.all_eq_true.1 hs y (by simp [hy])
    rw [onS]
    cases hasS most x l with
    | true =>
      have := onS_ok most l s (r ++ [x]) hs' (by rw [List.all_append, hr]; simp [hx])
      refine ⟨this.1, Nat.le_trans this.2 (by simp; omega)⟩
    | false =>
      have := onS_ok most l s r hs' hr
      refine ⟨this.1, Nat.le_trans this.2 (by simp <;> omega)⟩
def numbersG : List PV → Tr PV
  | [.gsl 2 n f, .lit (.int .u32 most), .lit (.int .u32 x), .gsl 1 k g] => .br (areSps n f && Nat.ble n 4294967280 && u32N most && areNums k g && Nat.ble k 4294967280) (.leaf (bool true)) .fail
  | _ => .fail
def numbersSh : List ASh := [.one (.sl [.int .u32, .int .u32]), .one (.sc (.int .u32)), .one (.sc (.int .u32)), .one (.sl [.int .u32])]
theorem numbers_args {qs : List PV} (ha : areArgs numbersSh qs = true) (hb : argsBulk qs ≤ 1048576) : (numbersG qs).run = some (bool true) := by
  obtain ⟨q0, r0, rfl, h0, hr0⟩ := args_cons ha
  obtain ⟨q1, r1, rfl, h1, hr1⟩ := args_cons hr0
  obtain ⟨q2, r2, rfl, h2, hr2⟩ := args_cons hr1
  obtain ⟨q3, r3, rfl, h3, hr3⟩ := args_cons hr2
  obtain rfl := args_nil hr3
  obtain ⟨n, f, rfl, hf⟩ := ak_sl h0
  obtain ⟨v, rfl, hv⟩ := ak_sc h1
  obtain ⟨most, rfl, hm⟩ := u32_given hv
  obtain ⟨v', rfl, hv'⟩ := ak_sc h2
  obtain ⟨x, rfl, hx⟩ := u32_given hv'
  obtain ⟨k, g, rfl, hg⟩ := ak_sl h3
  have hb' : (((List.range n).map fun i => scsBulk (f i)).sum + 1) + (1 + (1 + ((((List.range k).map fun i => scsBulk (g i)).sum + 1) + 0))) ≤ 1048576 := hb
  obtain ⟨o1, o2⟩ := sps_given hf (by omega)
  obtain ⟨o3, o4⟩ := nums_given hg (by omega)
  have o5 : Nat.ble n 4294967280 = true := Nat.ble_eq_true_of_le (Nat.le_trans o2 (by omega))
  have o6 : Nat.ble k 4294967280 = true := Nat.ble_eq_true_of_le (Nat.le_trans o4 (by omega))
  show (numbersG [.gsl 2 n f, .lit (.int .u32 most), .lit (.int .u32 x), .gsl 1 k g]).run = some (bool true)
  simp [numbersG, Tr.run, o1, o3, o5, o6, hm]
end
end Go.Proofs.YtcdghinmmhcfcaaGreatDoor.Ev

/- NsetBack: a set's text is written as one that is parsed as it, no longer than it was; packed numbers are those that there are. No condition, and no program in it. -/
namespace Go.Proofs.YtcdghinmmhcfcaaGreatDoor.Ev
open Go Go.RowKit Go.Proofs Go.Proofs.YtcdghinmmhcfcaaGreatDoor.Str
set_option linter.unusedVariables false
set_option linter.unusedSimpArgs false
/-! ### numerals -/
theorem num_back (M : Nat) : ∀ (r : List UInt8) (acc u : Nat), 1 ≤ acc → Lib.parseUintM M acc r = .ok u → Lib.decDigits acc ++ r = Lib.decDigits u ∧ 1 ≤ u
  | [], acc, u, h, hp => by
    simp only [Lib.parseUintM, Lib.NumEnd.ok.injEq] at hp
    subst hp
    exact ⟨by simp, h⟩
  | c :: r, acc, u, h, hp => by
    rw [Lib.parseUintM] at hp
    split at hp
    · rename_i hd
      split at hp
      · cases hp
      · split at hp
        · cases hp
        · obtain ⟨k1, k2⟩ := num_back M r (acc * 10 + (c.toNat - 48)) u (by omega) hp
          refine ⟨?_, k2⟩
          rw [← k1, Lib.decDigits.eq_1 (acc * 10 + (c.toNat - 48)), dif_neg (by omega)]
          have e1 : (acc * 10 + (c.toNat - 48)) / 10 = acc := by omega
          have e2 : (acc * 10 + (c.toNat - 48)) % 10 = c.toNat - 48 := by omega
          have e3 : UInt8.ofNat (48 + (c.toNat - 48)) = c := by
            have : 48 + (c.toNat - 48) = c.toNat := by omega
            rw [this]
            exact UInt8.ofNat_toNat
          rw [e1, e2, e3]
          simp
    · cases hp
theorem end_back {l : List UInt8} (h : endB l = true) : wordS (endV l) = l ∧ 0 ≤ endV l ∧ endV l < 4294967296 := by
  unfold endB at h
  unfold endV
  by_cases h0 : l = [42]
  · subst h0
    exact ⟨rfl, by decide, by decide⟩
  · have hd : decide (l = [42]) = false := decide_eq_false h0
    rw [hd] at h ⊢
    simp only [Bool.false_or, Bool.and_eq_true, Bool.not_eq_true', decide_eq_false_iff_not] at h
    obtain ⟨h1, h2, h3, h4⟩ := h
    have e : (decide (l = []) || (decide ((l.getD 0 0).toNat < 49) || decide (57 < (l.getD 0 0).toNat))) = false := by
      rw [decide_eq_false h1, decide_eq_false h2, decide_eq_false h3]
      rfl
    rw [e]
    simp only [cond_false]
    unfold puOk at h4
    unfold puVal
    have hb : (bs l).data.toList = l := ls_bs l
    rw [hb] at h4 ⊢
    rcases hu : Lib.parseUintB 32 l with u | _ | _
    · dsimp only
      have hle := Lib.parseUintB_le hu
      have hw : IntKind.wrap .u32 ((u : Nat) : Int) = (u : Int) := by rw [IntKind.wrap_u32]; omega
      rw [hw]
      unfold Lib.parseUintB at hu
      rw [if_neg h1] at hu
      cases l with
      | nil => exact absurd rfl h1
      | cons c r =>
        simp only [List.getD_cons_zero] at h2 h3
        rw [Lib.parseUintM, if_pos (by omega), if_neg (by omega), if_neg (by omega)] at hu
        obtain ⟨k1, k2⟩ := num_back _ r (0 * 10 + (c.toNat - 48)) u (by omega) hu
        rw [Lib.decDigits.eq_1 (0 * 10 + (c.toNat - 48)), dif_pos (by omega)] at k1
        have e3 : UInt8.ofNat (48 + (0 * 10 + (c.toNat - 48))) = c := by
          have : 48 + (0 * 10 + (c.toNat - 48)) = c.toNat := by omega
          rw [this]
          exact UInt8.ofNat_toNat
        rw [e3] at k1
        refine ⟨?_, by omega, by omega⟩
        unfold wordS
        have hb : ((u : Int) == 0) = false := by simp; omega
        rw [hb, cond_false, Int.toNat_natCast, ← k1]
        rfl
    · rw [hu] at h4; cases h4
    · rw [hu] at h4; cases h4
/-- a span's word -/
def oneS (x : Sp) : List UInt8 := wordS x.1 ++ (bif bne x.2 x.1 then 58 :: wordS x.2 else [])
theorem cutC_split (c : UInt8) (l : List UInt8) : ((cutC c l).2.2 = false ∧ c ∉ l ∧ (cutC c l).1 = l) ∨ ((cutC c l).2.2 = true ∧ c ∉ (cutC c l).1 ∧ l = (cutC c l).1 ++ c :: (cutC c l).2.1) := by
  induction l with
  | nil => left; simp [cutC]
  | cons b r ih =>
    by_cases hb : b = c
    · right
      subst hb
      simp [cutC]
    · have e : cutC c (b :: r) = (b :: (cutC c r).1, (cutC c r).2.1, (cutC c r).2.2) := by
        rw [cutC]
        simp [hb]
      rw [e]
      rcases ih with ⟨i1, i2, i3⟩ | ⟨i1, i2, i3⟩
      · left
        refine ⟨i1, by simp [i2]; exact fun e => hb e.symm, by simp [i3]⟩
      · right
        refine ⟨i1, by simp [i2]; exact fun e => hb e.symm, ?_⟩
        simp only [List.cons_append, List.cons.injEq, true_and]
        exact i3
theorem one_back {w : List UInt8} (h : okW w = true) : okW (oneS (spW w)) = true ∧ spW (oneS (spW w)) = spW w ∧ (oneS (spW w)).length ≤ w.length ∧ (∀ c ∈ oneS (spW w), c ∈ w) ∧ u32B (spW w) = true := by
  have h0 := h
  unfold okW at h
  simp only [Bool.and_eq_true] at h
  obtain ⟨ha, hb⟩ := h
  obtain ⟨a1, a2, a3⟩ := end_back ha
  obtain ⟨b1, b2, b3⟩ := end_back hb
  have hu : u32B (spW w) = true := by
    unfold u32B spW
    simp
    omega
  have same : oneS (spW w) = w → okW (oneS (spW w)) = true ∧ spW (oneS (spW w)) = spW w ∧ (oneS (spW w)).length ≤ w.length ∧ (∀ c ∈ oneS (spW w), c ∈ w) ∧ u32B (spW w) = true := by
    intro e
    rw [e]
    exact ⟨h0, rfl, Nat.le_refl _, fun c hc => hc, hu⟩
  rcases cutC_split 58 w with ⟨c1, c2, c3⟩ | ⟨c1, c2, c3⟩
  · have eA : wA w = w := c3
    have eB : wB w = w := by unfold wB; rw [c1]; exact c3
    refine same ?_
    unfold oneS spW
    rw [eA] at a1
    simp [eA, eB, a1]
  · have eA : wA w = (cutC 58 w).1 := rfl
    have eB : wB w = (cutC 58 w).2.1 := by unfold wB; rw [c1]; rfl
    cases hq : bne (spW w).2 (spW w).1 with
    | true =>
      refine same ?_
      unfold oneS
      rw [hq, cond_true]
      show wordS (endV (wA w)) ++ 58 :: wordS (endV (wB w)) = w
      rw [a1, b1, eA, eB]
      exact c3.symm
    | false =>
      have e : oneS (spW w) = wA w := by
        unfold oneS
        rw [hq, cond_false, List.append_nil]
        exact a1
      have hfree : (58 : UInt8) ∉ wA w := c2
      have hc := cutC_free 58 (wA w) hfree
      have eAA : wA (wA w) = wA w := by show (cutC 58 (wA w)).1 = _; rw [hc]
      have eBB : wB (wA w) = wA w := by unfold wB; rw [hc]; rfl
      have heq : (spW w).2 = (spW w).1 := by simpa using hq
      rw [e]
      refine ⟨?_, ?_, ?_, fun c hc => ?_, hu⟩
      · unfold okW
        rw [eAA, eBB, ha]
        rfl
      · unfold spW at heq ⊢
        rw [eAA, eBB]
        exact Prod.ext rfl heq.symm
      · have hl := congrArg List.length c3
        rw [List.length_append] at hl
        show (cutC 58 w).1.length ≤ w.length
        omega
      · have hm : c ∈ (cutC 58 w).1 ++ 58 :: (cutC 58 w).2.1 := List.mem_append_left _ hc
        rw [← c3] at hm
        exact hm
theorem split_join (c : UInt8) : ∀ (L : List (List UInt8)), L ≠ [] → (∀ x ∈ L, c ∉ x) → splitC c (joinC c L) = L
  | [], h, _ => absurd rfl h
  | [x], _, h => by
    have : joinC c [x] = x := by simp [joinC]
    rw [this, splitC_free c x (h x (by simp))]
  | x :: y :: r, _, h => by
    have : joinC c (x :: y :: r) = x ++ c :: joinC c (y :: r) := by simp [joinC]
    rw [this, splitC_app c x _ (h x (by simp)), split_join c (y :: r) (by simp) fun z hz => h z (by simp [hz])]
theorem join_len (c : UInt8) : ∀ (L M : List (List UInt8)), L.length = M.length → (∀ i, (L.getD i []).length ≤ (M.getD i []).length) → (joinC c L).length ≤ (joinC c M).length
  | [], [], _, _ => Nat.le_refl _
  | [], _ :: _, h, _ => by simp at h
  | _ :: _, [], h, _ => by simp at h
  | [x], [y], _, h => by
    have := h 0
    simpa [joinC] using this
  | [x], y :: z :: r, h, _ => by simp at h
  | x :: z :: r, [y], h, _ => by simp at h
  | x :: z :: r, y :: u :: s, hl, h => by
    have e1 : joinC c (x :: z :: r) = x ++ c :: joinC c (z :: r) := by simp [joinC]
    have e2 : joinC c (y :: u :: s) = y ++ c :: joinC c (u :: s) := by simp [joinC]
    have h0 := h 0
    have ih := join_len c (z :: r) (u :: s) (by simpa using hl) fun i => by have := h (i + 1); simpa using this
    rw [e1, e2]
    simp only [List.length_append, List.length_cons] at *
    simp at h0
    omega
/-- a set's text -/
def writeS (l : List Sp) : List UInt8 := joinC 44 (l.map oneS)
theorem text_back {l : List UInt8} (h : areS l = true) : areS (writeS (spansS l)) = true ∧ spansS (writeS (spansS l)) = spansS l ∧ (writeS (spansS l)).length ≤ l.length ∧ (spansS l).all u32B = true ∧ spansS l ≠ [] := by
  unfold areS at h
  rw [List.all_eq_true] at h
  have hne := splitC_ne 44 l
  have hs : splitC 44 (writeS (spansS l)) = (spansS l).map oneS := by
    unfold writeS
    refine split_join 44 _ (by simp [spansS, hne]) fun x hx => ?_
    obtain ⟨y, hy, rfl⟩ := List.mem_map.1 hx
    unfold spansS at hy
    obtain ⟨w, hw, rfl⟩ := List.mem_map.1 hy
    intro hc
    exact splitC_mem 44 l w hw ((one_back (h w hw)).2.2.2.1 _ hc)
  refine ⟨?_, ?_, ?_, ?_, by simp [spansS, hne]⟩
  · unfold areS
    rw [hs, List.all_eq_true]
    intro x hx
    obtain ⟨y, hy, rfl⟩ := List.mem_map.1 hx
    unfold spansS at hy
    obtain ⟨w, hw, rfl⟩ := List.mem_map.1 hy
    exact (one_back (h w hw)).1
  · show (splitC 44 (writeS (spansS l))).map spW = _
    rw [hs, List.map_map]
    unfold spansS
    rw [List.map_map]
    exact List.map_congr_left fun w hw => (one_back (h w hw)).2.1
  · have hj := joinC_splitC 44 l
    have : (joinC 44 ((spansS l).map oneS)).length ≤ (joinC 44 (splitC 44 l)).length := by
      refine join_len 44 _ _ (by simp [spansS]) fun i => ?_
      unfold spansS
      rw [List.map_map]
      rcases Nat.lt_or_ge i (splitC 44 l).length with hi | hi
      · have hw := h (splitC 44 l)[i] (List.getElem_mem hi)
        have := (one_back hw).2.2.1
        simpa [List.getD, hi] using this
      · simp [List.getD, hi]
    rw [hj] at this
    exact this
  · rw [List.all_eq_true]
    intro x hx
    unfold spansS at hx
    obtain ⟨w, hw, rfl⟩ := List.mem_map.1 hx
    exact (one_back (h w hw)).2.2.2.2
/-! ### packed numbers -/
def sumS : List Sp → Int
  | [] => 0
  | y :: r => (y.2 - y.1 + 1) + sumS r
theorem sumS_app : ∀ (a b : List Sp), sumS (a ++ b) = sumS a + sumS b
  | [], b => by simp [sumS]
  | x :: a, b => by
    rw [List.cons_append, sumS, sumS, sumS_app a b]
    omega
theorem pkS_ok : ∀ (ns : List Int) (o : List Sp) (c : Sp) (q : List Sp), ns.all u32N = true → (∀ x ∈ o ++ [c], fine x) → okM none (o ++ [c]) = true → pkS ns o c = some q →
    okM none q = true ∧ (∀ x ∈ q, fine x) ∧ sumS q = sumS (o ++ [c]) + ns.length ∧ ∀ v, q.any (withinB v) = ((o ++ [c]).any (withinB v) || ns.contains v)
  | [], o, c, q, _, hf, hk, h => by
    simp only [pkS, Option.some.injEq] at h
    subst h
    exact ⟨hk, hf, by simp, by simp⟩
  | n :: r, o, c, q, hu, hf, hk, h => by
    have hn : 0 ≤ n ∧ n < 4294967296 := by
      have := List.all_eq_true.1 hu n (by simp)
      unfold u32N at this
      simpa using this
    have hr : r.all u32N = true := List.all_eq_true.2 fun x hx => List.all_eq_true.1 hu x (by simp [hx])
    have hc : fine c := hf c (by simp)
    have hfo : ∀ x ∈ o, fine x := fun x hx => hf x (by simp [hx])
    rw [pkS] at h
    rw [okM_snoc] at hk
    simp only [Bool.and_eq_true, decide_eq_true_eq] at hk
    cases c1 : decide (n ≤ c.2) with
    | true => rw [c1] at h; cases h
    | false =>
      have hlt := of_decide_eq_false c1
      rw [c1, cond_false] at h
      cases c2 : decide (n = c.2 + 1) with
      | true =>
        have he := of_decide_eq_true c2
        rw [c2, cond_true] at h
        have hfc : fine (c.1, n) := by unfold fine at hc ⊢; omega
        have key := pkS_ok r o (c.1, n) q hr (fun x hx => by
          rcases List.mem_append.1 hx with hx | hx
          · exact hfo x hx
          · have : x = (c.1, n) := by simpa using hx
            rw [this]
            exact hfc) (by
          rw [okM_snoc, hk.1]
          have e : gapM (lastM none o) (c.1, n) = gapM (lastM none o) c := by cases lastM none o <;> rfl
          rw [e, hk.2.2, decide_eq_true hfc.1]
          rfl) h
        refine ⟨key.1, key.2.1, ?_, fun v => ?_⟩
        · rw [key.2.2.1, sumS_app, sumS_app]
          simp only [sumS, List.length_cons]
          omega
        · rw [key.2.2.2 v]
          have e : withinB v (c.1, n) = (withinB v c || (v == n)) := by
            unfold fine at hc
            rw [Bool.eq_iff_iff]
            simp [withinB]
            omega
          simp only [List.any_append, List.any_cons, List.any_nil, Bool.or_false, List.contains_cons, e]
          simp only [Bool.or_assoc]
      | false =>
        have hne := of_decide_eq_false c2
        rw [c2, cond_false] at h
        have hfn : fine (n, n) := by unfold fine; omega
        have key := pkS_ok r (o ++ [c]) (n, n) q hr (fun x hx => by
          rcases List.mem_append.1 hx with hx | hx
          · exact hf x hx
          · have : x = (n, n) := by simpa using hx
            rw [this]
            exact hfn) (by
          rw [okM_snoc, okM_snoc, hk.1, hk.2.2, decide_eq_true hk.2.1, lastM_snoc, decide_eq_true hfn.1]
          simp [gapM]
          omega) h
        refine ⟨key.1, key.2.1, ?_, fun v => ?_⟩
        · rw [key.2.2.1, sumS_app]
          simp only [sumS, List.length_cons]
          omega
        · rw [key.2.2.2 v]
          have e : withinB v (n, n) = (v == n) := by
            rw [Bool.eq_iff_iff]
            simp [withinB]
            omega
          simp only [List.any_append, List.any_cons, List.any_nil, Bool.or_false, List.contains_cons, e]
          simp only [Bool.or_assoc]
theorem packZ_ok {ns : List Int} {q : List Sp} (hu : ns.all u32N = true) (h : packZ ns = some q) : okM none q = true ∧ (∀ x ∈ q, fine x) ∧ sumS q = ns.length ∧ ∀ v, q.any (withinB v) = ns.contains v := by
  cases ns with
  | nil =>
    simp only [packZ, Option.some.injEq] at h
    subst h
    exact ⟨rfl, fun x hx => (by cases hx), rfl, by simp⟩
  | cons n r =>
    have hn : 0 ≤ n ∧ n < 4294967296 := by
      have := List.all_eq_true.1 hu n (by simp)
      unfold u32N at this
      simpa using this
    have hfn : fine (n, n) := by unfold fine; omega
    have key := pkS_ok r [] (n, n) q (List.all_eq_true.2 fun x hx => List.all_eq_true.1 hu x (by simp [hx])) (fun x hx => by
      have : x = (n, n) := by simpa using hx
      rw [this]
      exact hfn) (by simp [okM]) h
    refine ⟨key.1, key.2.1, ?_, fun v => ?_⟩
    · rw [key.2.2.1]
      simp only [List.nil_append, sumS, List.length_cons]
      omega
    · rw [key.2.2.2 v]
      have e : withinB v (n, n) = (v == n) := by
        rw [Bool.eq_iff_iff]
        simp [withinB]
        omega
      rw [List.nil_append, List.any_cons, List.any_nil, e, List.contains_cons, Bool.or_false]
/-- spans that stand apart are what they are sorted to -/
theorem srtR_id {q : List Sp} (hk : okM none q = true) (hf : ∀ x ∈ q, fine x) (hl : q.length ≤ 1024) : srtR 0 q = q := by
  have hid : q.map (bandS 0) = q := (List.map_congr_left fun y hy => bandS_id (hf y hy).1 (.inl rfl)).trans (List.map_id _)
  have hperm : sortS q = q := by
    refine perm_st q _ (fun b r h => ?_) (sortS_perm _) fun i j hij hj => ?_
    · rw [h, okM_cons] at hk
      simp only [Bool.and_eq_true, decide_eq_true_eq] at hk
      exact okM_st b r hk.2 hk.1.1
    · rw [sortS_len] at hj
      exact sortS_sorted _ i j hij hj
  rw [srtR_eq hl, hid, hperm]
  exact mgZ_id hk hf
end Go.Proofs.YtcdghinmmhcfcaaGreatDoor.Ev

/- nset.Write. No condition. -/
namespace Go.Proofs.YtcdghinmmhcfcaaGreatDoor.Ev
open Go Go.RowKit Go.Proofs Go.Proofs.YtcdghinmmhcfcaaGreatDoor.Str
set_option linter.unusedVariables false
set_option linter.unusedSimpArgs false
section
variable {m : Int} {t : TypeId} {fr : Nat × Nat}
def tRw (h : Nat → ByteArray) (i : Nat) : List PV := [.lit (.string (h i))]
def oneH (l : List Sp) (i : Nat) : ByteArray := bs (oneS (sp l i))
def wrOuts : Exit → Outs
  | .normal => { ks := [4, 18, 19, 20], rs := [.slot 4] }
  | .exit _ => { ks := [4], rs := [.slot 4] }
  | _ => { ks := [] }
noncomputable abbrev wrRound (G : GT) := roundT Tryz.prog (E11 G) 60 G 49 wrOuts .normal (theLoop 0 Tryz.f31)
theorem wr_round (m : Int) (t : TypeId) (fr : Nat × Nat) (o : List Sp) (h : Nat → ByteArray) (n k : Nat) (u i : Int) : (wrRound (GG m t fr) ([.own 0, .gsl 2 n (sRow o), int u, int i], [.row 9 1 k (tRw h)])).run2 =
 (bif (decide (i < u)) then
 bif (bne (Prod.snd (sp o (Int.toNat i))) (Prod.fst (sp o (Int.toNat i)))) then
 (.some ((.normal, ([(.own 0), (.gsl 2 n (sRow o)), (.lit (.int .i64 u)), (.lit (.int .i64 (IntKind.wrap .i64 (i + (1 : Int)))))], [(.row 9 1 k (rowSet (rowSet (tRw h) (Int.toNat i) 0 [(.lit (.string (bs (wordS (Prod.fst (sp o (Int.toNat i)))))))]) (Int.toNat i) 0 [(.lit (.string ((cond (Nat.beq (Int.toNat i) (Int.toNat i)) (bs (wordS (Prod.fst (sp o (Int.toNat i))))) (h (Int.toNat i))) ++ ((.mk (List.toArray [(58 : UInt8)])) ++ (bs (wordS (Prod.snd (sp o (Int.toNat i)))))))))]))])), [(Nat.blt (Int.toNat i) k), ((decide ((0 : Int) ≤ i)) && (Nat.blt (Int.toNat i) k)), (Nat.ble ((List.length (ls (cond (Nat.beq (Int.toNat i) (Int.toNat i)) (bs (wordS (Prod.fst (sp o (Int.toNat i))))) (h (Int.toNat i))))) + (List.length (ls ((.mk (List.toArray [(58 : UInt8)])) ++ (bs (wordS (Prod.snd (sp o (Int.toNat i))))))))) (9223372036854775807 : Nat)), (Nat.ble (1 + (List.length (wordS (Prod.snd (sp o (Int.toNat i)))))) (9223372036854775807 : Nat)), ((decide ((0 : Int) ≤ (Prod.snd (sp o (Int.toNat i))))) && (decide ((Prod.snd (sp o (Int.toNat i))) < (4294967296 : Int)))), (Nat.blt (Int.toNat i) k), ((decide ((0 : Int) ≤ i)) && (Nat.blt (Int.toNat i) k)), (Nat.blt (Int.toNat i) k), ((decide ((0 : Int) ≤ i)) && (Nat.blt (Int.toNat i) k)), ((decide ((0 : Int) ≤ (Prod.fst (sp o (Int.toNat i))))) && (decide ((Prod.fst (sp o (Int.toNat i))) < (4294967296 : Int)))), ((decide ((0 : Int) ≤ i)) && (Nat.blt (Int.toNat i) n))]))
 else (.some ((.normal, ([(.own 0), (.gsl 2 n (sRow o)), (.lit (.int .i64 u)), (.lit (.int .i64 (IntKind.wrap .i64 (i + (1 : Int)))))], [(.row 9 1 k (rowSet (tRw h) (Int.toNat i) 0 [(.lit (.string (bs (wordS (Prod.fst (sp o (Int.toNat i)))))))]))])), [(Nat.blt (Int.toNat i) k), ((decide ((0 : Int) ≤ i)) && (Nat.blt (Int.toNat i) k)), ((decide ((0 : Int) ≤ (Prod.fst (sp o (Int.toNat i))))) && (decide ((Prod.fst (sp o (Int.toNat i))) < (4294967296 : Int)))), ((decide ((0 : Int) ≤ i)) && (Nat.blt (Int.toNat i) n))]))
 else (.some (((.exit 0), ([(.own 0)], [(.row 9 1 k (tRw h))])), [])) : Option ((Exit × Kept) × List Bool)) := by
  kernel_rfl
theorem ba_app (a b : List UInt8) : bs a ++ bs b = bs (a ++ b) := ls_inj (by rw [ls_app, ls_bs, ls_bs, ls_bs])
theorem dec_len : ∀ (k n : Nat), n < 10 ^ (k + 1) → (Lib.decDigits n).length ≤ k + 1
  | 0, n, h => by
    rw [Lib.decDigits.eq_1, dif_pos (by simpa using h)]
    simp
  | k + 1, n, h => by
    rw [Lib.decDigits.eq_1]
    split
    · simp
    · have := dec_len k (n / 10) (by rw [Nat.pow_succ] at h; omega)
      simp
      omega
theorem wordS_len {n : Int} (h : 0 ≤ n ∧ n < 4294967296) : (wordS n).length ≤ 10 := by
  unfold wordS
  cases n == 0 with
  | true => simp
  | false =>
    have := dec_len 9 n.toNat (by simp; omega)
    simpa using this
theorem oneS_len {x : Sp} (h : u32B x = true) : (oneS x).length ≤ 21 := by
  unfold u32B at h
  simp only [Bool.and_eq_true, decide_eq_true_eq] at h
  have h1 := wordS_len h.1
  have h2 := wordS_len h.2
  unfold oneS
  cases bne x.2 x.1 <;> simp <;> omega
def wrH (o : List Sp) (h0 : Nat → ByteArray) (i j : Nat) : ByteArray := bif Nat.blt j i then bs (oneS (sp o j)) else h0 j
def wrIn (o : List Sp) (h0 : Nat → ByteArray) (i : Nat) : Kept := ([.own 0, .gsl 2 o.length (sRow o), int o.length, int i], [.row 9 1 o.length (tRw (wrH o h0 i))])
theorem set_t (h : Nat → ByteArray) (i : Nat) (w : ByteArray) : rowSet (tRw h) i 0 [.lit (.string w)] = tRw (fun k => bif Nat.beq k i then w else h k) := rfl
theorem wrH_step (o : List Sp) (h0 : Nat → ByteArray) (i j : Nat) : (bif Nat.beq j i then bs (oneS (sp o i)) else wrH o h0 i j) = wrH o h0 (i + 1) j := by
  unfold wrH
  cases h : Nat.beq j i with
  | true =>
    have := Nat.eq_of_beq_eq_true h
    subst this
    have : Nat.blt j (j + 1) = true := by rw [Nat.blt_eq]; omega
    rw [this]
    rfl
  | false =>
    have hne : j ≠ i := fun e => by subst e; simp at h
    have : Nat.blt j (i + 1) = Nat.blt j i := by
      rw [Bool.eq_iff_iff, Nat.blt_eq, Nat.blt_eq]
      omega
    rw [this]
    rfl
theorem wr_LR (o : List Sp) (hu : o.all u32B = true) (hn : o.length ≤ 4294967280) (h0 : Nat → ByteArray) : ∀ (s : List Sp) (i : Nat), o.drop i = s → i ≤ o.length →
    LR Tryz.prog (E11 (GG m t fr)) 60 (GG m t fr) 49 wrOuts .normal (theLoop 0 Tryz.f31) (wrIn o h0 i) (.exit 0) ([.own 0], [.row 9 1 o.length (tRw (wrH o h0 o.length))])
  | [], i, hr, hi => by
    have h := wr_round m t fr o (wrH o h0 i) o.length o.length o.length i
    have hlen := List.drop_eq_nil_iff.1 hr
    have hd : decide ((i : Int) < (o.length : Int)) = false := by simp; omega
    have e : i = o.length := by omega
    rw [hd] at h
    rw [e] at h
    rw [e]
    exact .last (Tr.run_of h (by simp)) (by simp) (by simp)
  | y :: s, i, hr, hi => by
    have h := wr_round m t fr o (wrH o h0 i) o.length o.length o.length i
    obtain ⟨hlt, hx, hdr⟩ := sp_drop hr
    have hy : u32B y = true := by
      have := List.all_eq_true.1 hu o[i] (List.getElem_mem hlt)
      have e : sp o i = o[i] := by simp [sp, hlt]
      rw [← e, hx] at this
      exact this
    have hy' := hy
    unfold u32B at hy'
    simp only [Bool.and_eq_true, decide_eq_true_eq] at hy'
    have w1 := wordS_len hy'.1
    have w2 := wordS_len hy'.2
    have hd : decide ((i : Int) < (o.length : Int)) = true := by simp; omega
    have hw : IntKind.i64.wrap ((i : Int) + 1) = ((i + 1 : Nat) : Int) := wrap_succ (by omega)
    have hbq : Nat.beq i i = true := Nat.beq_refl i
    have e58 : (⟨#[58]⟩ : ByteArray) = bs [58] := rfl
    rw [hd, hw, Int.toNat_natCast, hx, hbq] at h
    simp only [cond_true] at h
    have ih := wr_LR o hu hn h0 s (i + 1) hdr (by omega)
    have go : ∀ {f : Nat → List PV} {cd : List Bool}, f = tRw (fun k => bif Nat.beq k i then bs (oneS (sp o i)) else wrH o h0 i k) →
        KLe ([.own 0, .gsl 2 o.length (sRow o), int o.length, int ((i + 1 : Nat) : Int)], [.row 9 1 o.length f]) (wrIn o h0 (i + 1)) := by
      intro f cd hf
      refine ⟨.refl _, BLeL.cons (.row _ _ rfl fun j hj => ?_) .nil⟩
      rw [hf]
      unfold tRw
      dsimp only
      rw [wrH_step]
    cases c : bne y.2 y.1 with
    | true =>
      rw [c] at h
      have hf : rowSet (rowSet (tRw (wrH o h0 i)) i 0 [.lit (.string (bs (wordS y.1)))]) i 0 [.lit (.string (bs (wordS y.1) ++ ((⟨#[58]⟩ : ByteArray) ++ bs (wordS y.2))))] = tRw (fun k => bif Nat.beq k i then bs (oneS (sp o i)) else wrH o h0 i k) := by
        rw [set_t, set_t, e58, ba_app, ba_app, hx]
        funext j
        unfold tRw oneS
        rw [c]
        dsimp only
        cases Nat.beq j i <;> rfl
      exact .more (Tr.run_of h (by simp [ls_app, ls_bs, e58]; omega)) (.le (go (cd := []) hf) ih)
    | false =>
      rw [c] at h
      have hf : rowSet (tRw (wrH o h0 i)) i 0 [.lit (.string (bs (wordS y.1)))] = tRw (fun k => bif Nat.beq k i then bs (oneS (sp o i)) else wrH o h0 i k) := by
        rw [set_t, hx]
        funext j
        unfold tRw oneS
        rw [c]
        simp
      exact .more (Tr.run_of h (by simp; omega)) (.le (go (cd := []) hf) ih)
def wrF : Kept → Tr (Exit × Kept)
  | ([.own 0, .gsl 2 n f, .lit (.int .i64 u), .lit (.int .i64 0)], [.row e 1 k g]) => match Nat.beq e 9 with
    | true => .br (areSps n f && decide (u = (n : Int)) && Nat.ble n 4294967280 && decide (k = n) && areStrs k g) (.leaf (.exit 0, ([.own 0], [.row 9 1 n (tRw (oneH (spsOf n f)))]))) .fail
    | false => .fail
  | _ => .fail
theorem wrF_ok (k : Kept) (e : Exit) (y : Kept) (h : (wrF k).run = some (e, y)) : LR Tryz.prog (E11 (GG m t fr)) 60 (GG m t fr) 49 wrOuts .normal (theLoop 0 Tryz.f31) k e y := by
  unfold wrF at h
  split at h
  · rename_i n f u e0 k g
    split at h
    · rename_i he
      obtain rfl := Nat.eq_of_beq_eq_true he
      have hb := br_run h
      clear h
      obtain ⟨hc, h⟩ := hb
      simp only [Bool.and_eq_true, decide_eq_true_eq, Nat.ble_eq] at hc
      obtain ⟨⟨⟨⟨hf, rfl⟩, hn⟩, rfl⟩, hg⟩ := hc
      simp only [Tr.run, Option.some.injEq, Prod.mk.injEq] at h
      obtain ⟨rfl, rfl⟩ := h
      have hL := sps_len k f
      have key := wr_LR (m := m) (t := t) (fr := fr) (spsOf k f) (sps_u32 hf) (by omega) (fun j => strOf (g j)) (spsOf k f) 0 rfl (Nat.zero_le _)
      have hin : KLe ([.own 0, .gsl 2 k f, int (k : Int), int 0], [.row 9 1 k g]) (wrIn (spsOf k f) (fun j => strOf (g j)) 0) := by
        refine ⟨PLeL.cons (.refl _) (PLeL.cons (PLe.gsl hL.symm (sps_row hf)) (PLeL.cons (PLe.of_eq ?_) (.refl _))), BLeL.cons (.row _ _ hL.symm fun j hj => ?_) .nil⟩
        · rw [hL]
        · exact isStr_eq (List.all_eq_true.1 hg j (List.mem_range.2 hj))
      refine .out (.le hin key) ⟨.refl _, BLeL.cons (.row _ _ hL fun j hj => ?_) .nil⟩
      unfold tRw wrH oneH
      have : Nat.blt j (spsOf k f).length = true := by rw [Nat.blt_eq]; exact hj
      rw [this]
      rfl
    · cases h
  · cases h
noncomputable abbrev wrCut (G : GT) := cutOf G 49 wrOuts 0 wrF
theorem wr_raw (m : Int) (t : TypeId) (fr : Nat × Nat) (n : Nat) (f : Nat → List PV) : (fnPure Tryz.prog ((E11 (GG m t fr)).withCuts (cut1 0 (wrCut (GG m t fr)))) 60 Tryz.f31 (GG m t fr) [.gsl 2 n f]).run2 =
 (bif (decide (((n : Nat) : Int) < (1 : Int))) then
 (.some ((.tup [(.lit (.string (.mk (List.toArray [])))), (.lit (.int .i64 (1 : Int)))]), [true, true, true]))
 else bif (decide (((n : Nat) : Int) > (1024 : Int))) then
 (.some ((.tup [(.lit (.string (.mk (List.toArray [])))), (.lit (.int .i64 (1 : Int)))]), []))
 else (.some ((.tup [(.lit (.string (bs (joinS (strsOf n (tRw (oneH (spsOf n f)))) (.mk (List.toArray [(44 : UInt8)])))))), (.lit (.int .i64 (0 : Int)))]), [(((areStrs n (tRw (oneH (spsOf n f)))) && (Nat.ble n (4294967280 : Nat))) && (Nat.ble (List.length (joinS (strsOf n (tRw (oneH (spsOf n f)))) (.mk (List.toArray [(44 : UInt8)])))) (4294967280 : Nat))), (((((areSps n f) && (decide (((n : Nat) : Int) = ((n : Nat) : Int)))) && (Nat.ble n (4294967280 : Nat))) && (decide ((Int.toNat ((n : Nat) : Int)) = n))) && (areStrs (Int.toNat ((n : Nat) : Int)) (fun x => [PV.lit (Value.string { data := #[] })]))), (((decide ((0 : Int) ≤ ((n : Nat) : Int))) && (decide (((n : Nat) : Int) = ((n : Nat) : Int)))) && (Nat.ble (16 * (Int.toNat ((n : Nat) : Int))) (140737488355328 : Nat)))])) : Option (PV × List Bool)) := by
  kernel_rfl
theorem join_inter (c : UInt8) : ∀ (L : List (List UInt8)), Lib.join L [c] = joinC c L
  | [] => rfl
  | [a] => by simp [Lib.join, List.intercalate, joinC]
  | a :: b :: r => by
    have ih := join_inter c (b :: r)
    have e : joinC c (a :: b :: r) = a ++ c :: joinC c (b :: r) := by simp [joinC]
    rw [e, ← ih]
    simp [Lib.join, List.intercalate]
theorem strs_tRw (n : Nat) (h : Nat → ByteArray) : strsOf n (tRw h) = (List.range n).map h := rfl
theorem range_sp (g : Sp → List UInt8) (l : List Sp) : (List.range l.length).map (fun i => g (sp l i)) = l.map g := by
  refine List.ext_getElem (by simp) fun i h1 h2 => ?_
  simp at h2
  simp [sp, h2]
theorem joinS_one (l : List Sp) : joinS (strsOf l.length (tRw (oneH l))) ⟨#[44]⟩ = writeS l := by
  unfold joinS writeS
  rw [strs_tRw, List.map_map]
  have e : ((fun x : ByteArray => x.data.toList) ∘ oneH l) = fun i => oneS (sp l i) := by
    funext i
    exact ls_bs (oneS (sp l i))
  rw [e, range_sp]
  exact join_inter 44 _
theorem joinC_le (c : UInt8) (k : Nat) : ∀ (L : List (List UInt8)), (∀ x ∈ L, x.length ≤ k) → (joinC c L).length ≤ (k + 1) * L.length
  | [], _ => by simp [joinC]
  | [a], h => by
    have := h a (by simp)
    simp [joinC]
    omega
  | a :: b :: r, h => by
    have e : joinC c (a :: b :: r) = a ++ c :: joinC c (b :: r) := by simp [joinC]
    have ih := joinC_le c k (b :: r) fun x hx => h x (by simp [hx])
    have := h a (by simp)
    rw [e]
    simp only [List.length_append, List.length_cons] at ih ⊢
    rw [Nat.mul_add (k + 1) (r.length + 1) 1]
    omega
theorem writeS_len {l : List Sp} (hu : l.all u32B = true) : (writeS l).length ≤ 22 * l.length := by
  have := joinC_le 44 21 (l.map oneS) fun x hx => by
    obtain ⟨y, hy, rfl⟩ := List.mem_map.1 hx
    exact oneS_len (List.all_eq_true.1 hu y hy)
  rwa [List.length_map] at this
def wrG : List PV → Tr PV
  | [.gsl 2 n f] => .br (areSps n f && Nat.ble n 4294967280) (.br (Nat.blt 0 n && Nat.ble n 1024) (.leaf (.tup [str (bs (writeS (spsOf n f))), int 0])) (.leaf (.tup [str ⟨#[]⟩, int 1]))) .fail
  | _ => .fail
theorem write_ok : PureOK Tryz.prog (GG m t fr) 31 wrG := by
  refine PureOK.of (fn_cuts mixed E11_ok (fn := Tryz.f31) (cuts := cut1 0 (wrCut (GG m t fr))) (by kernel_rfl) (CutLaws.one (by omega) (by kernel_rfl) fun st e st' h => cutOf_ok E11_ok mixed (noCuts_ok (envOf_cuts ..) _) wrF_ok h)) fun ps p hp => ?_
  unfold wrG at hp
  split at hp
  · rename_i n f
    obtain ⟨hc, hp⟩ := br_run hp
    simp only [Bool.and_eq_true] at hc
    obtain ⟨hf, hn⟩ := hc
    have h := wr_raw m t fr n f
    have hL := sps_len n f
    by_cases h1 : n < 1
    · have d1 : decide ((n : Int) < 1) = true := by simp; omega
      have d2 : (Nat.blt 0 n && Nat.ble n 1024) = false := by
        have : Nat.blt 0 n = false := by rw [Bool.eq_false_iff, ne_eq, Nat.blt_eq]; omega
        rw [this]
        rfl
      rw [d2] at hp
      simp only [Tr.run, cond_false, Option.some.injEq] at hp
      subst hp
      rw [d1] at h
      exact ⟨_, Tr.run_of h (by simp), PLe.of_eq rfl⟩
    · have d1 : decide ((n : Int) < 1) = false := by simp; omega
      rw [d1] at h
      by_cases h2 : 1024 < n
      · have d2 : decide ((n : Int) > 1024) = true := by simp; omega
        have d3 : (Nat.blt 0 n && Nat.ble n 1024) = false := by
          have : Nat.ble n 1024 = false := by rw [Bool.eq_false_iff, ne_eq, Nat.ble_eq]; omega
          rw [this, Bool.and_false]
        rw [d3] at hp
        simp only [Tr.run, cond_false, Option.some.injEq] at hp
        subst hp
        rw [d2] at h
        exact ⟨_, Tr.run_of h (by simp), PLe.of_eq rfl⟩
      · have d2 : decide ((n : Int) > 1024) = false := by simp; omega
        have d3 : (Nat.blt 0 n && Nat.ble n 1024) = true := by
          rw [Bool.and_eq_true, Nat.blt_eq, Nat.ble_eq]
          omega
        rw [d3] at hp
        simp only [Tr.run, cond_true, Option.some.injEq] at hp
        subst hp
        rw [d2] at h
        have hj : joinS (strsOf n (tRw (oneH (spsOf n f)))) ⟨#[44]⟩ = writeS (spsOf n f) := by
          have := joinS_one (spsOf n f)
          rwa [hL] at this
        have hwl := writeS_len (sps_u32 hf)
        rw [hL] at hwl
        have hsl : Nat.ble (writeS (spsOf n f)).length 4294967280 = true := Nat.ble_eq_true_of_le (by omega)
        have ha : ∀ (h : Nat → ByteArray), areStrs n (tRw h) = true := fun h => List.all_eq_true.2 fun i _ => rfl
        have ha0 : areStrs n (fun x => [PV.lit (Value.string { data := #[] })]) = true := List.all_eq_true.2 fun i _ => rfl
        rw [hj, hsl, ha, Int.toNat_natCast, ha0, hf, hn] at h
        exact ⟨_, Tr.run_of h (by simp; omega), PLe.of_eq rfl⟩
  · cases hp
def wrPure : List (Nat × (List PV → Tr PV)) := (31, wrG) :: cnPure
theorem wrPure_ok {m : Int} {t : TypeId} {fr : Nat × Nat} : TabOK Tryz.prog (GG m t fr) wrPure := (TabOK.cons write_ok (fn := Tryz.f31) (by kernel_rfl) (by kernel_rfl) cnPure_ok)
noncomputable abbrev E12 (G : GT) : Env := envOf Tryz.prog G wrPure nbFull
theorem E12_ok : (E12 (GG m t fr)).ok Tryz.prog (GG m t fr) := envOf_ok mixed wrPure_ok nbFull_ok
end
end Go.Proofs.YtcdghinmmhcfcaaGreatDoor.Ev

/- lex: a text's words, as the reader reads them. No condition. -/
namespace Go.Proofs.YtcdghinmmhcfcaaGreatDoor.Ev
open Go Go.RowKit Go.Proofs Go.Proofs.YtcdghinmmhcfcaaGreatDoor.Str
set_option linter.unusedVariables false
set_option linter.unusedSimpArgs false
section
variable {m : Int} {t : TypeId} {fr : Nat × Nat}
def trimLeftG : List PV → Tr PV
  | [.lit (.string s), .lit (.string ⟨⟨[c]⟩⟩)] => .br (Nat.blt c.toNat 128) (.leaf (str (bs (Lib.trimLeftB s.data.toList c)))) .fail
  | _ => .fail
theorem trimLeft_ok : PureOK Tryz.prog (GG m t fr) 77 trimLeftG := by
  intro ps p hp
  unfold trimLeftG at hp
  split at hp
  · rename_i s c
    obtain ⟨hc, hp⟩ := br_run hp
    simp only [Tr.run, Option.some.injEq] at hp
    subst hp
    refine PureAt.known (vs := [.string s, .string ⟨⟨[c]⟩⟩]) fun w C hK hG hO => ?_
    refine (Tryz.strings_TrimLeft_one s c (by simpa [Nat.blt_eq] using hc) w).mono ?_
    rintro e w' ⟨rfl, rfl⟩
    exact ⟨rfl, Keeps.refl _ _⟩
  · cases hp
theorem let_raw (m : Int) (t : TypeId) (fr : Nat × Nat) (c : Int) : (fnPure Tryz.prog (E1 (GG m t fr)) 60 Tryz.f110 (GG m t fr) [.lit (.int .u8 c)]).run2 =
 (bif (decide (c > (32 : Int))) then
 bif (decide (c < (127 : Int))) then
 bif (bne c (40 : Int)) then
 bif (bne c (41 : Int)) then
 bif (bne c (34 : Int)) then
 (.some ((.lit (.bool (bne c (123 : Int)))), []))
 else (.some ((.lit (.bool false)), []))
 else (.some ((.lit (.bool false)), []))
 else (.some ((.lit (.bool false)), []))
 else (.some ((.lit (.bool false)), []))
 else (.some ((.lit (.bool false)), [])) : Option (PV × List Bool)) := by
  kernel_rfl
def ltrI (c : Int) : Bool := decide (c > 32) && decide (c < 127) && !(c == 40) && !(c == 41) && !(c == 34) && !(c == 123)
def letterG : List PV → Tr PV
  | [.lit (.int .u8 c)] => .leaf (bool (ltrI c))
  | _ => .fail
theorem letter_ok : PureOK Tryz.prog (GG m t fr) 110 letterG := by
  refine PureOK.of (fn_pure mixed E1_ok (envOf_cuts ..) (fn := Tryz.f110) (by kernel_rfl)) fun ps p hp => ?_
  unfold letterG at hp
  split at hp
  · rename_i c
    simp only [Tr.run, Option.some.injEq] at hp
    subst hp
    have h := let_raw m t fr c
    simp only [bne] at h
    unfold ltrI
    cases c1 : decide (c > 32) <;> cases c2 : decide (c < 127) <;> cases c3 : (c == 40) <;> cases c4 : (c == 41) <;> cases c5 : (c == 34) <;> simp only [c1, c2, c3, c4, c5] at h <;>
      exact ⟨_, Tr.run_of h (by simp), PLe.of_eq (by simp)⟩
  · cases hp
def ltB (c : UInt8) : Bool := ltrI ((c.toNat : Nat) : Int)
def lwPure : List (Nat × (List PV → Tr PV)) := (110, letterG) :: (77, trimLeftG) :: libPure
theorem lwPure_ok {m : Int} {t : TypeId} {fr : Nat × Nat} : TabOK Tryz.prog (GG m t fr) lwPure := (TabOK.cons letter_ok (fn := Tryz.f110) (by kernel_rfl) (by kernel_rfl) (TabOK.cons trimLeft_ok (fn := Tryz.f77) (by kernel_rfl) (by kernel_rfl) libPure_ok))
noncomputable abbrev Elw (G : GT) : Env := envOf Tryz.prog G lwPure libFull
theorem Elw_ok : (Elw (GG m t fr)).ok Tryz.prog (GG m t fr) := envOf_ok mixed lwPure_ok libFull_ok
def lwOuts : Exit → Outs := fun _ => { ks := [0, 3], rs := [.slot 0], pin := true }
noncomputable abbrev lwRound (G : GT) := roundT Tryz.prog (Elw G) 60 G 44 lwOuts .normal (theLoop 0 Tryz.f80)
theorem lw_round (m : Int) (t : TypeId) (fr : Nat × Nat) (s : ByteArray) (g d : Bool) (i : Int) : (lwRound (GG m t fr) ([.ptr 0 0, int i], [.cells 89 [str s, bool g, bool d]])).run2 =
 (bif (decide (i < (((List.length (ls s)) : Nat) : Int))) then
 bif (ltrI (((UInt8.toNat (Array.getD (ByteArray.data s) (Int.toNat i) (0 : UInt8))) : Nat) : Int)) then
 (.some ((.normal, ([(.ptr 0 0), (.lit (.int .i64 (IntKind.wrap .i64 (i + (1 : Int)))))], [(.cells 89 [(.lit (.string s)), (.lit (.bool g)), (.lit (.bool d))])])), [((decide ((0 : Int) ≤ i)) && (Nat.blt (Int.toNat i) (List.length (ls s))))]))
 else (.some (((.exit 0), ([(.ptr 0 0), (.lit (.int .i64 i))], [(.cells 89 [(.lit (.string s)), (.lit (.bool g)), (.lit (.bool d))])])), [((decide ((0 : Int) ≤ i)) && (Nat.blt (Int.toNat i) (List.length (ls s))))]))
 else (.some (((.exit 0), ([(.ptr 0 0), (.lit (.int .i64 i))], [(.cells 89 [(.lit (.string s)), (.lit (.bool g)), (.lit (.bool d))])])), [])) : Option ((Exit × Kept) × List Bool)) := by
  kernel_rfl
def lwLen (l : List UInt8) : Nat := (l.takeWhile ltB).length
def lwF : Kept → Tr (Exit × Kept)
  | ([.ptr 0 0, .lit (.int .i64 i)], [.cells a [.lit (.string s), .lit (.bool g), .lit (.bool d)]]) => match Nat.beq a 89 with
    | true => .br (okS s && decide (0 ≤ i) && decide (i ≤ (s.size : Int))) (.leaf (.exit 0, ([.ptr 0 0, int ((i.toNat + lwLen ((ls s).drop i.toNat) : Nat) : Int)], [.cells 89 [str s, bool g, bool d]]))) .fail
    | false => .fail
  | _ => .fail
theorem lw_LR (s : ByteArray) (g d : Bool) (hs : s.size ≤ 4294967280) : ∀ (r : List UInt8) (i : Nat), (ls s).drop i = r → i ≤ s.size →
    LR Tryz.prog (Elw (GG m t fr)) 60 (GG m t fr) 44 lwOuts .normal (theLoop 0 Tryz.f80) ([.ptr 0 0, int i], [.cells 89 [str s, bool g, bool d]]) (.exit 0) ([.ptr 0 0, int ((i + lwLen r : Nat) : Int)], [.cells 89 [str s, bool g, bool d]])
  | [], i, hr, hi => by
    have h := lw_round m t fr s g d i
    have hlen : s.size ≤ i := by
      have := List.drop_eq_nil_iff.1 hr
      rwa [ls_len] at this
    have hd : decide ((i : Int) < (((ls s).length : Nat) : Int)) = false := by rw [ls_len]; simp; omega
    rw [hd] at h
    exact .last (Tr.run_of h rfl) (by simp) (by simp)
  | c :: r, i, hr, hi => by
    have h := lw_round m t fr s g d i
    obtain ⟨hlt, hget, hdrop⟩ := get_drop hr
    have hd : decide ((i : Int) < (((ls s).length : Nat) : Int)) = true := by rw [ls_len]; simp; omega
    have hw : IntKind.i64.wrap ((i : Int) + 1) = ((i + 1 : Nat) : Int) := wrap_succ (by omega)
    have hb : Nat.blt i (ls s).length = true := by rw [Nat.blt_eq, ls_len]; exact hlt
    have hL : ltrI ((c.toNat : Nat) : Int) = ltB c := rfl
    rw [hd, hw, Int.toNat_natCast, hget, hb, hL] at h
    simp only [cond_true] at h
    cases c1 : ltB c with
    | true =>
      rw [c1] at h
      have ih := lw_LR s g d hs r (i + 1) hdrop (by omega)
      have e : i + lwLen (c :: r) = i + 1 + lwLen r := by
        unfold lwLen
        rw [List.takeWhile_cons, c1]
        simp
        omega
      rw [e]
      exact .more (Tr.run_of h (by simp)) ih
    | false =>
      rw [c1] at h
      have e : i + lwLen (c :: r) = i := by
        unfold lwLen
        rw [List.takeWhile_cons, c1]
        simp
      rw [e]
      exact .last (Tr.run_of h (by simp)) (by simp) (by simp)
theorem lwF_ok (x : Kept) (e : Exit) (y : Kept) (h : (lwF x).run = some (e, y)) : LR Tryz.prog (Elw (GG m t fr)) 60 (GG m t fr) 44 lwOuts .normal (theLoop 0 Tryz.f80) x e y := by
  unfold lwF at h
  split at h
  · rename_i i a s g d
    split at h
    · rename_i ha
      obtain rfl := Nat.eq_of_beq_eq_true ha
      have hb := br_run h
      clear h
      obtain ⟨hc, h⟩ := hb
      simp only [Bool.and_eq_true, decide_eq_true_eq] at hc
      obtain ⟨⟨hs, h1⟩, h2⟩ := hc
      obtain ⟨i, rfl⟩ : ∃ k : Nat, i = k := ⟨i.toNat, by omega⟩
      rw [Int.toNat_natCast] at h
      simp only [Tr.run, Option.some.injEq, Prod.mk.injEq] at h
      obtain ⟨rfl, rfl⟩ := h
      exact lw_LR s g d (okS_le hs) _ i rfl (by omega)
    · cases h
  · cases h
noncomputable abbrev lwCut (G : GT) := cutOf G 44 lwOuts 0 lwF
theorem lw_raw (m : Int) (t : TypeId) (fr : Nat × Nat) (s : ByteArray) (g d : Bool) : (fnSpot Tryz.prog ((Elw (GG m t fr)).withCuts (cut1 0 (lwCut (GG m t fr)))) 60 Tryz.f80 (GG m t fr) 89 [str s, bool g, bool d] []).run2 =
 ((.some (((.lit (.string (ByteArray.extract s 0 (Int.toNat (((0 + (lwLen (List.drop 0 (ls s)))) : Nat) : Int))))), [(.lit (.string (ByteArray.extract s (Int.toNat (((0 + (lwLen (List.drop 0 (ls s)))) : Nat) : Int)) (Int.toNat (((List.length (ls s)) : Nat) : Int))))), (.lit (.bool g)), (.lit (.bool ((((0 + (lwLen (List.drop 0 (ls s)))) : Nat) : Int) == (0 : Int))))]), [(((decide ((0 : Int) ≤ (((0 + (lwLen (List.drop 0 (ls s)))) : Nat) : Int))) && (decide ((((0 + (lwLen (List.drop 0 (ls s)))) : Nat) : Int) ≤ (((List.length (ls s)) : Nat) : Int)))) && (decide ((((List.length (ls s)) : Nat) : Int) ≤ (((List.length (ls s)) : Nat) : Int)))), ((decide ((0 : Int) ≤ (((0 + (lwLen (List.drop 0 (ls s)))) : Nat) : Int))) && (decide ((((0 + (lwLen (List.drop 0 (ls s)))) : Nat) : Int) ≤ (((List.length (ls s)) : Nat) : Int)))), (((okS s) && true) && (decide ((0 : Int) ≤ (((List.length (ls s)) : Nat) : Int))))])) : Option ((PV × List PV) × List Bool)) := by
  kernel_rfl
/-- (*reader).word -/
def lwordG (cs ps : List PV) : Tr (PV × List PV) := match cs, ps with
  | [.lit (.string s), .lit (.bool g), .lit (.bool d)], [] => .br (okS s) (.leaf (str (bs ((ls s).take (lwLen (ls s)))), [str (bs ((ls s).drop (lwLen (ls s)))), bool g, bool (decide (lwLen (ls s) = 0))])) .fail
  | _, _ => .fail
theorem lword_ok : SpotOK Tryz.prog (GG m t fr) 80 89 lwordG := by
  refine SpotOK.of (spot_of_ev (n := 60) (E := (Elw (GG m t fr)).withCuts (cut1 0 (lwCut (GG m t fr)))) (Elw_ok.withCuts _) mixed (fn := Tryz.f80) (by kernel_rfl)
    (CutLaws.ok (E := (Elw (GG m t fr)).withCuts (cut1 0 (lwCut (GG m t fr)))) (CutLaws.one (by omega) (by kernel_rfl) fun st e st' h => cutOf_okM (x0 := .pin) (fun h => by cases h) Elw_ok mixed (noCuts_ok (envOf_cuts ..) _) (fun _ _ => rfl) lwF_ok h)) _) fun cs ps p cs' hp => ?_
  unfold lwordG at hp
  split at hp
  · rename_i s g d
    obtain ⟨hs, hp⟩ := br_run hp
    simp only [Tr.run, Option.some.injEq, Prod.mk.injEq] at hp
    obtain ⟨rfl, rfl⟩ := hp
    have h := lw_raw m t fr s g d
    have hl : lwLen (ls s) ≤ (ls s).length := (List.takeWhile_prefix _).length_le
    have e0 : ((((lwLen (ls s) : Nat) : Int)) == 0) = decide (lwLen (ls s) = 0) := by
      rw [beqD, decide_eq_decide]
      omega
    rw [List.drop_zero, Nat.zero_add, Int.toNat_natCast, Int.toNat_natCast, bs_ext, bs_ext, List.take_length, List.drop_zero, e0] at h
    refine Tr.run_of h (by simp [hs]; omega)
  · cases hp
end
end Go.Proofs.YtcdghinmmhcfcaaGreatDoor.Ev

/- lex: the tokens of a text of words. No condition. -/
namespace Go.Proofs.YtcdghinmmhcfcaaGreatDoor.Ev
open Go Go.RowKit Go.Proofs Go.Proofs.YtcdghinmmhcfcaaGreatDoor.Str
set_option linter.unusedVariables false
set_option linter.unusedSimpArgs false
def tok (ts : List (Int × ByteArray)) (i : Nat) : Int × ByteArray := ts.getD i (0, .empty)
def tRow (ts : List (Int × ByteArray)) (i : Nat) : List PV := [.lit (.int .u8 (tok ts i).1), .lit (.string (tok ts i).2)]
theorem tok_drop {ts : List (Int × ByteArray)} {i : Nat} {x : Int × ByteArray} {r : List (Int × ByteArray)} (h : ts.drop i = x :: r) : i < ts.length ∧ tok ts i = x ∧ ts.drop (i + 1) = r := by
  have hlt : i < ts.length := by
    rcases Nat.lt_or_ge i ts.length with h' | h'
    · exact h'
    · rw [List.drop_eq_nil_of_le h'] at h
      cases h
  rw [List.drop_eq_getElem_cons hlt] at h
  simp only [List.cons.injEq] at h
  refine ⟨hlt, ?_, h.2⟩
  rw [← h.1]
  simp [tok, hlt]
/-! ### what is written -/
theorem tRow_snoc (ts : List (Int × ByteArray)) (k : Int) (x : ByteArray) (i : Nat) (hi : i < ts.length + 1) : rowApp ts.length (tRow ts) (rowOf [.lit (.int .u8 k), .lit (.string x)] 2) i = tRow (ts ++ [(k, x)]) i := by
  rcases Nat.lt_or_ge i ts.length with h | h
  · rw [app_lo _ _ h]
    unfold tRow
    have : tok (ts ++ [(k, x)]) i = tok ts i := by simp [tok, List.getElem?_append_left h]
    rw [this]
  · have : i = ts.length + 0 := by omega
    rw [this, app_hi]
    unfold tRow
    have : tok (ts ++ [(k, x)]) (ts.length + 0) = (k, x) := by simp [tok]
    rw [this]
    rfl
section
variable {m : Int} {t : TypeId} {fr : Nat × Nat}
def noFn (_ : List PV) (_ : Mem) : Tr (PV × Mem) := .fail
theorem noFn_ok (f : FuncId) : FnOK Tryz.prog (GG m t fr) f noFn := by
  intro β hG M m w ps args hM hl hr p M' h
  cases h
def lwFull : List (Nat × (List PV → Mem → Tr (PV × Mem))) := (78, noFn) :: (79, noFn) :: (80, spotG 89 lwordG) :: libFull
theorem lwFull_ok {m : Int} {t : TypeId} {fr : Nat × Nat} : FullOK Tryz.prog (GG m t fr) lwFull := (FullOK.cons (noFn_ok _) (fn := Tryz.f78) (by kernel_rfl) (by kernel_rfl) (FullOK.cons (noFn_ok _) (fn := Tryz.f79) (by kernel_rfl) (by kernel_rfl) (FullOK.cons (spot_fn lword_ok) (fn := Tryz.f80) (by kernel_rfl) (by kernel_rfl) libFull_ok)))
noncomputable abbrev Elx (G : GT) : Env := envOf Tryz.prog G lwPure lwFull
theorem Elx_ok : (Elx (GG m t fr)).ok Tryz.prog (GG m t fr) := envOf_ok mixed lwPure_ok lwFull_ok
noncomputable abbrev spotW (G : GT) := fnSpot Tryz.prog (Elx G) 60
theorem spotW_ok (f : FuncId) (fn : Func) (hf : Tryz.prog.funcs[f]? = some fn) (ty : TypeId) : SpotOK Tryz.prog (GG m t fr) f ty (spotW (GG m t fr) fn (GG m t fr) ty) :=
  spot_of_ev (n := 60) Elx_ok mixed hf (fun c _ => noCuts_ok (envOf_cuts ..) c) ty
theorem bl_raw (m : Int) (t : TypeId) (fr : Nat × Nat) (s : ByteArray) (g d : Bool) : (spotW (GG m t fr) Tryz.f52 (GG m t fr) 89 [str s, bool g, bool d] []).run2 =
 (bif g then
 (.some (((.tup []), [(.lit (.string (bs (Lib.trimLeftB (ls s) (32 : UInt8))))), (.lit (.bool true)), (.lit (.bool d))]), [true, true, true, true, true, true, true, true]))
 else (.some (((.tup []), [(.lit (.string (bs (Lib.trimLeftB (ls s) (32 : UInt8))))), (.lit (.bool (decide ((((List.length (Lib.trimLeftB (ls s) (32 : UInt8))) : Nat) : Int) < (((List.length (ls s)) : Nat) : Int))))), (.lit (.bool d))]), [true])) : Option ((PV × List PV) × List Bool)) := by
  kernel_rfl
def blS (l : List UInt8) : List UInt8 := Lib.trimLeftB l 32
def blanksG (cs ps : List PV) : Tr (PV × List PV) := match cs, ps with
  | [.lit (.string s), .lit (.bool g), .lit (.bool d)], [] => .leaf (.tup [], [str (bs (blS (ls s))), bool (g || decide ((blS (ls s)).length < (ls s).length)), bool d])
  | _, _ => .fail
theorem blanks_ok : SpotOK Tryz.prog (GG m t fr) 52 89 blanksG := by
  refine SpotOK.of (spotW_ok _ Tryz.f52 (by kernel_rfl) _) fun cs ps p cs' hp => ?_
  unfold blanksG at hp
  split at hp
  · rename_i s g d
    simp only [Tr.run, Option.some.injEq, Prod.mk.injEq] at hp
    obtain ⟨rfl, rfl⟩ := hp
    have h := bl_raw m t fr s g d
    have e : Lib.trimLeftB (ls s) 32 = blS (ls s) := rfl
    have e2 : decide ((((blS (ls s)).length : Nat) : Int) < (((ls s).length : Nat) : Int)) = decide ((blS (ls s)).length < (ls s).length) := by
      rw [decide_eq_decide]
      omega
    rw [e, e2] at h
    cases g with
    | true => exact Tr.run_of h (by simp)
    | false => exact Tr.run_of h (by simp)
  · cases hp
theorem tkw_raw (m : Int) (t : TypeId) (fr : Nat × Nat) (s : ByteArray) (g d : Bool) : (spotW (GG m t fr) Tryz.f53 (GG m t fr) 89 [str s, bool g, bool d] []).run2 =
 (bif ((((UInt8.toNat (Array.getD (ByteArray.data s) 0 (0 : UInt8))) : Nat) : Int) == (40 : Int)) then
 (.some (((.agg [(.lit (.int .u8 (3 : Int))), (.lit (.string (.mk (List.toArray [(40 : UInt8)]))))]), [(.lit (.string (ByteArray.extract s 1 (Int.toNat (((List.length (ls s)) : Nat) : Int))))), (.lit (.bool g)), (.lit (.bool d))]), [((decide ((1 : Int) ≤ (((List.length (ls s)) : Nat) : Int))) && (decide ((((List.length (ls s)) : Nat) : Int) ≤ (((List.length (ls s)) : Nat) : Int)))), (Nat.blt 0 (List.length (ls s)))]))
 else bif ((((UInt8.toNat (Array.getD (ByteArray.data s) 0 (0 : UInt8))) : Nat) : Int) == (41 : Int)) then
 (.some (((.agg [(.lit (.int .u8 (4 : Int))), (.lit (.string (.mk (List.toArray [(41 : UInt8)]))))]), [(.lit (.string (ByteArray.extract s 1 (Int.toNat (((List.length (ls s)) : Nat) : Int))))), (.lit (.bool g)), (.lit (.bool d))]), [((decide ((1 : Int) ≤ (((List.length (ls s)) : Nat) : Int))) && (decide ((((List.length (ls s)) : Nat) : Int) ≤ (((List.length (ls s)) : Nat) : Int)))), (Nat.blt 0 (List.length (ls s)))]))
 else bif ((((UInt8.toNat (Array.getD (ByteArray.data s) 0 (0 : UInt8))) : Nat) : Int) == (34 : Int)) then
 .none
 else bif ((((UInt8.toNat (Array.getD (ByteArray.data s) 0 (0 : UInt8))) : Nat) : Int) == (123 : Int)) then
 .none
 else (.some (((.agg [(.lit (.int .u8 (1 : Int))), (.lit (.string (bs (List.take (lwLen (ls s)) (ls s)))))]), [(.lit (.string (bs (List.drop (lwLen (ls s)) (ls s))))), (.lit (.bool g)), (.lit (.bool (decide ((lwLen (ls s)) = 0))))]), [(okS s), (Nat.blt 0 (List.length (ls s)))])) : Option ((PV × List PV) × List Bool)) := by
  kernel_rfl
def ltH (l : List UInt8) : Bool := !decide (l = []) && ltB (l.getD 0 0)
def tkT (l : List UInt8) : List UInt8 := l.take (lwLen l)
def tkR (l : List UInt8) : List UInt8 := l.drop (lwLen l)
def tokenW (cs ps : List PV) : Tr (PV × List PV) := match cs, ps with
  | [.lit (.string s), .lit (.bool g), .lit (.bool false)], [] => .br (okS s && ltH (ls s)) (.leaf (.agg [.lit (.int .u8 1), str (bs (tkT (ls s)))], [str (bs (tkR (ls s))), bool g, bool false])) .fail
  | _, _ => .fail
theorem lt_ne : ∀ c : UInt8, ltB c = true → c ≠ 40 ∧ c ≠ 41 ∧ c ≠ 34 ∧ c ≠ 123 ∧ c ≠ 32 := by
  intro c h
  unfold ltB ltrI at h
  simp only [Bool.and_eq_true, Bool.not_eq_true', decide_eq_true_eq] at h
  refine ⟨?_, ?_, ?_, ?_, ?_⟩ <;> (intro e; subst e; revert h; decide)
theorem tokenW_ok : SpotOK Tryz.prog (GG m t fr) 53 89 tokenW := by
  refine SpotOK.of (spotW_ok _ Tryz.f53 (by kernel_rfl) _) fun cs ps p cs' hp => ?_
  unfold tokenW at hp
  split at hp
  · rename_i s g
    obtain ⟨hc, hp⟩ := br_run hp
    unfold ltH at hc
    simp only [Bool.and_eq_true, Bool.not_eq_true', decide_eq_false_iff_not] at hc
    obtain ⟨hs, hne, hlt⟩ := hc
    simp only [Tr.run, Option.some.injEq, Prod.mk.injEq] at hp
    obtain ⟨rfl, rfl⟩ := hp
    have h := tkw_raw m t fr s g false
    obtain ⟨n1, n2, n3, n4, _⟩ := lt_ne _ hlt
    have q : ∀ (c : UInt8) (k : UInt8), c ≠ k → ((c.toNat : Int) == (k.toNat : Int)) = false := fun c k hk => by rw [byte_eq]; exact decide_eq_false hk
    have q1 := q _ 40 n1
    have q2 := q _ 41 n2
    have q3 := q _ 34 n3
    have q4 := q _ 123 n4
    have hpos : 0 < (ls s).length := List.length_pos_iff.2 hne
    have b1 : Nat.blt 0 (ls s).length = true := by rw [Nat.blt_eq]; exact hpos
    have b2 : decide (lwLen (ls s) = 0) = false := by
      refine decide_eq_false ?_
      cases hl : ls s with
      | nil => exact absurd hl hne
      | cons c r =>
        rw [hl] at hlt
        have hlt : ltB c = true := hlt
        unfold lwLen
        rw [List.takeWhile_cons, hlt]
        simp
    rw [getD_ls] at h
    rw [show ((40 : Int)) = (((40 : UInt8).toNat : Nat) : Int) from rfl, q1, show ((41 : Int)) = (((41 : UInt8).toNat : Nat) : Int) from rfl, q2, show ((34 : Int)) = (((34 : UInt8).toNat : Nat) : Int) from rfl, q3, show ((123 : Int)) = (((123 : UInt8).toNat : Nat) : Int) from rfl, q4, b1, b2, hs] at h
    exact Tr.run_of h rfl
  · cases hp
def txFull : List (Nat × (List PV → Mem → Tr (PV × Mem))) := (53, spotG 89 tokenW) :: (52, spotG 89 blanksG) :: libFull
theorem txFull_ok {m : Int} {t : TypeId} {fr : Nat × Nat} : FullOK Tryz.prog (GG m t fr) txFull := (FullOK.cons (spot_fn tokenW_ok) (fn := Tryz.f53) (by kernel_rfl) (by kernel_rfl) (FullOK.cons (spot_fn blanks_ok) (fn := Tryz.f52) (by kernel_rfl) (by kernel_rfl) libFull_ok))
noncomputable abbrev Ely (G : GT) : Env := envOf Tryz.prog G lwPure txFull
theorem Ely_ok : (Ely (GG m t fr)).ok Tryz.prog (GG m t fr) := envOf_ok mixed lwPure_ok txFull_ok
def twOuts : Exit → Outs
  | .normal => { ks := [4, 5], rs := [.slot 4, .slot 5], nils := [(5, 49, 2)] }
  | .exit _ => { ks := [4, 5], rs := [.slot 4, .slot 5], nils := [(5, 49, 2)] }
  | _ => { ks := [2, 3] }
noncomputable abbrev twRound (G : GT) := roundT Tryz.prog (Ely G) 60 G 62 twOuts .normal (theLoop 0 Tryz.f20)
theorem tw_round (m : Int) (t : TypeId) (fr : Nat × Nat) (s : ByteArray) (g : Bool) (n : Nat) (ts : List (Int × ByteArray)) : (twRound (GG m t fr) ([.ptr 0 0, .own 1], [.cells 89 [str s, bool g, bool false], .row 49 2 n (tRow ts)])).run2 =
 (bif (!((ByteArray.toList s) == (ByteArray.toList (.mk (List.toArray []))))) then
 bif (decide (((n : Nat) : Int) > (0 : Int))) then
 bif (!g) then
 bif ((Prod.fst (tok ts (Int.toNat (IntKind.wrap .i64 (((n : Nat) : Int) - (1 : Int)))))) == (3 : Int)) then
 (.some ((.normal, ([(.ptr 0 0), (.own 1)], [(.cells 89 [(.lit (.string (bs (blS (tkR (ls s)))))), (.lit (.bool (decide ((List.length (blS (tkR (ls s)))) < (List.length (tkR (ls s))))))), (.lit (.bool false))]), (.row 49 2 (n + 1) (rowApp n (tRow ts) (rowOf [(.lit (.int .u8 (1 : Int))), (.lit (.string (bs (tkT (ls s)))))] 2)))])), [(Nat.ble ((n + 1) * 24) (140737488355328 : Nat)), true, true, true, true, (Nat.blt (Int.toNat (IntKind.wrap .i64 (((n : Nat) : Int) - (1 : Int)))) n), ((decide ((0 : Int) ≤ (IntKind.wrap .i64 (((n : Nat) : Int) - (1 : Int))))) && (Nat.blt (Int.toNat (IntKind.wrap .i64 (((n : Nat) : Int) - (1 : Int)))) n)), ((okS s) && (ltH (ls s)))]))
 else bif ((Prod.fst (tok ts (Int.toNat (IntKind.wrap .i64 (((n : Nat) : Int) - (1 : Int)))))) == (4 : Int)) then
 (.some ((.ret, ([(.lit (.slice .none 0 0)), (.lit (.int .i64 (7 : Int)))], [])), [(Nat.blt (Int.toNat (IntKind.wrap .i64 (((n : Nat) : Int) - (1 : Int)))) n), ((decide ((0 : Int) ≤ (IntKind.wrap .i64 (((n : Nat) : Int) - (1 : Int))))) && (Nat.blt (Int.toNat (IntKind.wrap .i64 (((n : Nat) : Int) - (1 : Int)))) n)), ((okS s) && (ltH (ls s)))]))
 else (.some ((.ret, ([(.lit (.slice .none 0 0)), (.lit (.int .i64 (7 : Int)))], [])), [(Nat.blt (Int.toNat (IntKind.wrap .i64 (((n : Nat) : Int) - (1 : Int)))) n), ((decide ((0 : Int) ≤ (IntKind.wrap .i64 (((n : Nat) : Int) - (1 : Int))))) && (Nat.blt (Int.toNat (IntKind.wrap .i64 (((n : Nat) : Int) - (1 : Int)))) n)), ((okS s) && (ltH (ls s)))]))
 else (.some ((.normal, ([(.ptr 0 0), (.own 1)], [(.cells 89 [(.lit (.string (bs (blS (tkR (ls s)))))), (.lit (.bool (decide ((List.length (blS (tkR (ls s)))) < (List.length (tkR (ls s))))))), (.lit (.bool false))]), (.row 49 2 (n + 1) (rowApp n (tRow ts) (rowOf [(.lit (.int .u8 (1 : Int))), (.lit (.string (bs (tkT (ls s)))))] 2)))])), [(Nat.ble ((n + 1) * 24) (140737488355328 : Nat)), ((okS s) && (ltH (ls s)))]))
 else (.some ((.normal, ([(.ptr 0 0), (.own 1)], [(.cells 89 [(.lit (.string (bs (blS (tkR (ls s)))))), (.lit (.bool (decide ((List.length (blS (tkR (ls s)))) < (List.length (tkR (ls s))))))), (.lit (.bool false))]), (.row 49 2 (n + 1) (rowApp n (tRow ts) (rowOf [(.lit (.int .u8 (1 : Int))), (.lit (.string (bs (tkT (ls s)))))] 2)))])), [(Nat.ble ((n + 1) * 24) (140737488355328 : Nat)), ((okS s) && (ltH (ls s)))]))
 else (.some (((.exit 0), ([(.ptr 0 0), (.own 1)], [(.cells 89 [(.lit (.string s)), (.lit (.bool g)), (.lit (.bool false))]), (.row 49 2 n (tRow ts))])), [])) : Option ((Exit × Kept) × List Bool)) := by
  kernel_rfl
end
end Go.Proofs.YtcdghinmmhcfcaaGreatDoor.Ev
