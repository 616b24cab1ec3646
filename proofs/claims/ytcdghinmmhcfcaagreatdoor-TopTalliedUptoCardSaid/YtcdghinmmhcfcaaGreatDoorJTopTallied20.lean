/- JTopTallied20: several texts in one. Condition: each part's own. -/
import Derived.Test.YtcdghinmmhcfcaaGreatDoorJTopTallied19
import Derived.Test.YtcdghinmmhcfcaaGreatDoorJTopTallied16
/- slices.Contains, post.Check, and the document's, as contracts; tally.Of as evaluated. No condition. -/
namespace Go.Proofs.YtcdghinmmhcfcaaGreatDoor.Ev
open Go Go.RowKit Go.Proofs Go.Proofs.YtcdghinmmhcfcaaGreatDoor.Str
set_option linter.unusedVariables false
set_option linter.unusedSimpArgs false
section
variable {m : Int} {t : TypeId} {fr : Nat × Nat}
def indexG : List PV → Tr PV
  | [.gsl 1 n f, .lit (.int .u32 v)] => .br (areNums n f && Nat.ble n 4294967280) (.leaf (int (ixN v (numsOf n f) 0))) .fail
  | _ => .fail
theorem index_ok : PureOK Tryz.prog (GG m t fr) 59 indexG := by
  refine PureOK.of (fn_cuts mixed E21_ok (fn := Tryz.f59) (cuts := cut1 0 (inCut (GG m t fr))) (by kernel_rfl) (CutLaws.one (by omega) (by kernel_rfl) fun st e st' h => cutOf_ok E21_ok mixed (noCuts_ok (envOf_cuts ..) _) inF_ok h)) fun ps p hp => ?_
  unfold indexG at hp
  split at hp
  · rename_i n f v
    obtain ⟨hc, hp⟩ := br_run hp
    simp only [Bool.and_eq_true] at hc
    simp only [Tr.run, Option.some.injEq] at hp
    subst hp
    have h := index_raw m t fr n f v
    rw [hc.1, hc.2, decide_eq_true rfl] at h
    cases c : ixN v (numsOf n f) 0 == -1 with
    | true =>
      rw [c] at h
      have e : ixN v (numsOf n f) 0 = -1 := by rw [beqD] at c; exact of_decide_eq_true c
      rw [e]
      exact ⟨_, Tr.run_of h rfl, PLe.of_eq rfl⟩
    | false =>
      rw [c] at h
      exact ⟨_, Tr.run_of h rfl, PLe.of_eq rfl⟩
  · cases hp
theorem ixN_in (v : Int) : ∀ (l : List Int) (i : Nat), decide (ixN v l i ≥ 0) = l.contains v
  | [], i => by simp [ixN]
  | x :: r, i => by
    rw [ixN, List.contains_cons]
    cases h : v == x with
    | true => simp
    | false =>
      rw [cond_false, Bool.false_or]
      exact ixN_in v r (i + 1)
def tpPure : List (Nat × (List PV → Tr PV)) := (59, indexG) :: tnPure
theorem tpPure_ok {m : Int} {t : TypeId} {fr : Nat × Nat} : TabOK Tryz.prog (GG m t fr) tpPure := (TabOK.cons index_ok (fn := Tryz.f59) (by kernel_rfl) (by kernel_rfl) tnPure_ok)
noncomputable abbrev E22 (G : GT) : Env := envOf Tryz.prog G tpPure tlFull
theorem E22_ok : (E22 (GG m t fr)).ok Tryz.prog (GG m t fr) := envOf_ok mixed tpPure_ok tlFull_ok
theorem cont_raw (m : Int) (t : TypeId) (fr : Nat × Nat) (n : Nat) (f : Nat → List PV) (v : Int) : (fnPure Tryz.prog (E22 (GG m t fr)) 60 Tryz.f24 (GG m t fr) [.gsl 1 n f, .lit (.int .u32 v)]).run2 =
 ((.some ((.lit (.bool (decide ((ixN v (numsOf n f) 0) ≥ (0 : Int))))), [((areNums n f) && (Nat.ble n (4294967280 : Nat)))])) : Option (PV × List Bool)) := by
  kernel_rfl
def contG : List PV → Tr PV
  | [.gsl 1 n f, .lit (.int .u32 v)] => .br (areNums n f && Nat.ble n 4294967280) (.leaf (bool ((numsOf n f).contains v))) .fail
  | _ => .fail
theorem cont_ok : PureOK Tryz.prog (GG m t fr) 24 contG := by
  refine PureOK.of (fn_pure mixed E22_ok (envOf_cuts ..) (fn := Tryz.f24) (by kernel_rfl)) fun ps p hp => ?_
  unfold contG at hp
  split at hp
  · rename_i n f v
    obtain ⟨hc, hp⟩ := br_run hp
    simp only [Bool.and_eq_true] at hc
    simp only [Tr.run, Option.some.injEq] at hp
    subst hp
    have h := cont_raw m t fr n f v
    rw [hc.1, hc.2, ixN_in] at h
    exact ⟨_, Tr.run_of h rfl, PLe.of_eq rfl⟩
  · cases hp
/-- numbers rise -/
def upB : List Int → Bool
  | a :: b :: r => decide (a < b) && upB (b :: r)
  | _ => true
def posE (ns : List Int) : Int := bif upB ns then bif decide ((ns.length : Int) > 65536) then 15 else 0 else 12
def pcEnd (ns : List Int) (ok : Bool) : Exit × Kept := bif ok then (.exit 0, ([.gsl 1 ns.length (nRow ns)], [])) else (.ret, ([int 12], []))
theorem pc_LR (ns : List Int) (hn : ns.length ≤ 4294967280) : ∀ (s : List Int) (i : Nat) (a : Int), 0 < i → ns.drop (i - 1) = a :: s →
    LR Tryz.prog (E21 (GG m t fr)) 60 (GG m t fr) 23 pcOuts .normal (theLoop 0 Tryz.f25) ([.gsl 1 ns.length (nRow ns), int i], []) (pcEnd ns (upB (a :: s))).1 (pcEnd ns (upB (a :: s))).2
  | [], i, a, h0, hr => by
    have h := pc_round m t fr ns ns.length i
    obtain ⟨hlt, hx, hdr⟩ := nu_drop hr
    have hlen := List.drop_eq_nil_iff.1 hdr
    have hd : decide ((i : Int) < (ns.length : Int)) = false := by simp; omega
    rw [hd] at h
    exact .last (Tr.run_of h rfl) (by simp [pcEnd, upB]) (by simp [pcEnd, upB])
  | b :: s, i, a, h0, hr => by
    have h := pc_round m t fr ns ns.length i
    obtain ⟨hlt, hx, hdr⟩ := nu_drop hr
    have ei : i - 1 + 1 = i := by omega
    rw [ei] at hdr
    obtain ⟨klt, kx, kdr⟩ := nu_drop hdr
    have hd : decide ((i : Int) < (ns.length : Int)) = true := by simp; omega
    have hw : IntKind.i64.wrap ((i : Int) + 1) = ((i + 1 : Nat) : Int) := wrap_succ (by omega)
    have hw2 : IntKind.i64.wrap ((i : Int) - 1) = ((i - 1 : Nat) : Int) := by
      have e : (i : Int) - 1 = ((i - 1 : Nat) : Int) := by omega
      rw [e]
      exact wrap_nat (by omega)
    have b1 : Nat.blt i ns.length = true := by rw [Nat.blt_eq]; exact klt
    have b2 : Nat.blt (i - 1) ns.length = true := by rw [Nat.blt_eq]; exact hlt
    have b3 : ∀ k : Nat, decide ((0 : Int) ≤ (k : Int)) = true := fun k => by simp
    rw [hd, hw, hw2, Int.toNat_natCast, Int.toNat_natCast, hx, kx, b1, b2, b3, b3] at h
    by_cases hle : b ≤ a
    · rw [decide_eq_true hle] at h
      have e : upB (a :: b :: s) = false := by
        rw [upB, decide_eq_false (by omega)]
        rfl
      rw [e]
      show LR _ _ _ _ _ _ _ _ _ .ret ([int 12], [])
      exact .last (Tr.run_of h rfl) (by simp) (by simp)
    · rw [decide_eq_false hle] at h
      have e : upB (a :: b :: s) = upB (b :: s) := by
        rw [upB, decide_eq_true (by omega), Bool.true_and]
      rw [e]
      exact .more (Tr.run_of h rfl) (pc_LR ns hn s (i + 1) b (by omega) (by rw [Nat.add_sub_cancel]; exact hdr))
def pcF : Kept → Tr (Exit × Kept)
  | ([.gsl 1 n f, .lit (.int .i64 1)], []) => .br (areNums n f && Nat.ble n 4294967280) (.br (upB (numsOf n f)) (.leaf (.exit 0, ([.gsl 1 n (nRow (numsOf n f))], []))) (.leaf (.ret, ([int 12], [])))) .fail
  | _ => .fail
theorem pcF_ok (k : Kept) (e : Exit) (y : Kept) (h : (pcF k).run = some (e, y)) : LR Tryz.prog (E21 (GG m t fr)) 60 (GG m t fr) 23 pcOuts .normal (theLoop 0 Tryz.f25) k e y := by
  unfold pcF at h
  split at h
  · rename_i n f
    have hb := br_run h
    clear h
    obtain ⟨hc, h⟩ := hb
    simp only [Bool.and_eq_true, Nat.ble_eq] at hc
    obtain ⟨hf, hn⟩ := hc
    have hL := nums_len n f
    have hin : KLe ([.gsl 1 n f, int 1], []) ([.gsl 1 (numsOf n f).length (nRow (numsOf n f)), int (1 : Nat)], []) := ⟨PLeL.cons (PLe.gsl hL.symm (nums_row hf)) (.refl _), .refl _⟩
    have hout : KLe ([.gsl 1 (numsOf n f).length (nRow (numsOf n f))], []) ([.gsl 1 n (nRow (numsOf n f))], []) := ⟨PLeL.cons (PLe.gsl hL fun _ _ => rfl) .nil, .refl _⟩
    simp only [Tr.run] at h
    have key : LR Tryz.prog (E21 (GG m t fr)) 60 (GG m t fr) 23 pcOuts .normal (theLoop 0 Tryz.f25) ([.gsl 1 (numsOf n f).length (nRow (numsOf n f)), int (1 : Nat)], []) (pcEnd (numsOf n f) (upB (numsOf n f))).1 (pcEnd (numsOf n f) (upB (numsOf n f))).2 := by
      cases hq : numsOf n f with
      | nil =>
        have h2 := pc_round m t fr [] 0 1
        exact .last (Tr.run_of h2 rfl) (by simp [pcEnd, upB]) (by simp [pcEnd, upB])
      | cons a s =>
        rw [← hq]
        have := pc_LR (m := m) (t := t) (fr := fr) (numsOf n f) (by omega) s 1 a (by omega) hq
        rw [← hq] at this
        exact this
    cases c : upB (numsOf n f) with
    | true =>
      rw [c] at h key
      simp only [cond_true, Option.some.injEq, Prod.mk.injEq] at h
      obtain ⟨rfl, rfl⟩ := h
      exact .le hin (.out key hout)
    | false =>
      rw [c] at h key
      simp only [cond_false, Option.some.injEq, Prod.mk.injEq] at h
      obtain ⟨rfl, rfl⟩ := h
      exact .le hin key
  · cases h
noncomputable abbrev pcCut (G : GT) := cutOf G 23 pcOuts 0 pcF
theorem pcheck_raw (m : Int) (t : TypeId) (fr : Nat × Nat) (n : Nat) (f : Nat → List PV) : (fnPure Tryz.prog ((E21 (GG m t fr)).withCuts (cut1 0 (pcCut (GG m t fr)))) 60 Tryz.f25 (GG m t fr) [.gsl 1 n f]).run2 =
 (bif (upB (numsOf n f)) then
 bif (decide (((n : Nat) : Int) > (65536 : Int))) then
 (.some ((.lit (.int .i64 (15 : Int))), [((areNums n f) && (Nat.ble n (4294967280 : Nat)))]))
 else (.some ((.lit (.int .i64 (0 : Int))), [((areNums n f) && (Nat.ble n (4294967280 : Nat)))]))
 else (.some ((.lit (.int .i64 (12 : Int))), [((areNums n f) && (Nat.ble n (4294967280 : Nat)))])) : Option (PV × List Bool)) := by
  kernel_rfl
def pcheckG : List PV → Tr PV
  | [.gsl 1 n f] => .br (areNums n f && Nat.ble n 4294967280) (.leaf (int (posE (numsOf n f)))) .fail
  | _ => .fail
theorem pcheck_ok : PureOK Tryz.prog (GG m t fr) 25 pcheckG := by
  refine PureOK.of (fn_cuts mixed E21_ok (fn := Tryz.f25) (cuts := cut1 0 (pcCut (GG m t fr))) (by kernel_rfl) (CutLaws.one (by omega) (by kernel_rfl) fun st e st' h => cutOf_ok E21_ok mixed (noCuts_ok (envOf_cuts ..) _) pcF_ok h)) fun ps p hp => ?_
  unfold pcheckG at hp
  split at hp
  · rename_i n f
    obtain ⟨hc, hp⟩ := br_run hp
    simp only [Bool.and_eq_true] at hc
    simp only [Tr.run, Option.some.injEq] at hp
    subst hp
    have h := pcheck_raw m t fr n f
    rw [hc.1, hc.2] at h
    unfold posE
    rw [nums_len]
    cases c : upB (numsOf n f) with
    | false =>
      rw [c] at h
      exact ⟨_, Tr.run_of h rfl, PLe.of_eq rfl⟩
    | true =>
      rw [c] at h
      cases d : decide ((n : Int) > 65536) with
      | false =>
        rw [d] at h
        exact ⟨_, Tr.run_of h rfl, PLe.of_eq rfl⟩
      | true =>
        rw [d] at h
        exact ⟨_, Tr.run_of h rfl, PLe.of_eq rfl⟩
  · cases hp
def tqPure : List (Nat × (List PV → Tr PV)) := (24, contG) :: (25, pcheckG) :: (26, packG) :: tpPure
theorem tqPure_ok {m : Int} {t : TypeId} {fr : Nat × Nat} : TabOK Tryz.prog (GG m t fr) tqPure := (TabOK.cons cont_ok (fn := Tryz.f24) (by kernel_rfl) (by kernel_rfl) (TabOK.cons pcheck_ok (fn := Tryz.f25) (by kernel_rfl) (by kernel_rfl) (TabOK.cons npack_ok (fn := Tryz.f26) (by kernel_rfl) (by kernel_rfl) tpPure_ok)))
noncomputable abbrev E23 (G : GT) : Env := envOf Tryz.prog G tqPure tlFull
theorem E23_ok : (E23 (GG m t fr)).ok Tryz.prog (GG m t fr) := envOf_ok mixed tqPure_ok tlFull_ok
theorem tof_raw_v (m : Int) (t : TypeId) (fr : Nat × Nat) (w : Int) (n : Nat) (ns : List Int) : ((fnPure Tryz.prog (E23 (GG m t fr)) 60 Tryz.f6 (GG m t fr) [.lit (.int .u8 w), .gsl 1 n (nRow ns)])).val =
 (bif (bne (IntKind.wrap .u8 (((BitVec.toNat (HAnd.hAnd (BitVec.ofInt 8 w) (Complement.complement (BitVec.ofInt 8 (15 : Int))))) : Nat) : Int)) (0 : Int)) then
 (.some (.tup [(.agg [(.lit (.int .u8 (0 : Int))), (.lit (.int .i64 (0 : Int))), (.lit (.int .u32 (0 : Int))), (.lit (.int .u32 (0 : Int))), (.lit (.slice .none 0 0))]), (.lit (.int .i64 (1 : Int)))]))
 else bif (List.contains (numsOf n (nRow ns)) (0 : Int)) then
 (.some (.tup [(.agg [(.lit (.int .u8 (0 : Int))), (.lit (.int .i64 (0 : Int))), (.lit (.int .u32 (0 : Int))), (.lit (.int .u32 (0 : Int))), (.lit (.slice .none 0 0))]), (.lit (.int .i64 (1 : Int)))]))
 else bif (bne (posE (numsOf n (nRow ns))) (0 : Int)) then
 (.some (.tup [(.agg [(.lit (.int .u8 (0 : Int))), (.lit (.int .i64 (0 : Int))), (.lit (.int .u32 (0 : Int))), (.lit (.int .u32 (0 : Int))), (.lit (.slice .none 0 0))]), (.lit (.int .i64 (posE (numsOf n (nRow ns)))))]))
 else bif (bne (IntKind.wrap .u8 (((BitVec.toNat (HAnd.hAnd (BitVec.ofInt 8 w) (BitVec.ofInt 8 (8 : Int)))) : Nat) : Int)) (0 : Int)) then
 bif (((n : Nat) : Int) == (0 : Int)) then
 (.some (.tup [(.agg [(.lit (.int .u8 w)), (.lit (.int .i64 ((n : Nat) : Int))), (.lit (.int .u32 (0 : Int))), (.lit (.int .u32 (0 : Int))), (.lit (.slice .none 0 0))]), (.lit (.int .i64 (0 : Int)))]))
 else bif (bne (IntKind.wrap .u8 (((BitVec.toNat (HAnd.hAnd (BitVec.ofInt 8 w) (BitVec.ofInt 8 (1 : Int)))) : Nat) : Int)) (0 : Int)) then
 bif (bne (IntKind.wrap .u8 (((BitVec.toNat (HAnd.hAnd (BitVec.ofInt 8 w) (BitVec.ofInt 8 (2 : Int)))) : Nat) : Int)) (0 : Int)) then
 bif (bne (IntKind.wrap .u8 (((BitVec.toNat (HAnd.hAnd (BitVec.ofInt 8 w) (BitVec.ofInt 8 (4 : Int)))) : Nat) : Int)) (0 : Int)) then
 bif (bne (packE (numsOf n (nRow ns))) (0 : Int)) then
 (.some (.tup [(.agg [(.lit (.int .u8 (0 : Int))), (.lit (.int .i64 (0 : Int))), (.lit (.int .u32 (0 : Int))), (.lit (.int .u32 (0 : Int))), (.lit (.slice .none 0 0))]), (.lit (.int .i64 (15 : Int)))]))
 else (.some (.tup [(.agg [(.lit (.int .u8 w)), (.lit (.int .i64 ((n : Nat) : Int))), (.lit (.int .u32 (nu ns 0))), (.lit (.int .u32 (nu ns (Int.toNat (IntKind.wrap .i64 (((n : Nat) : Int) - (1 : Int))))))), (.gsl 2 (List.length (packR (numsOf n (nRow ns)))) (sRow (packR (numsOf n (nRow ns)))))]), (.lit (.int .i64 (0 : Int)))]))
 else (.some (.tup [(.agg [(.lit (.int .u8 w)), (.lit (.int .i64 ((n : Nat) : Int))), (.lit (.int .u32 (nu ns 0))), (.lit (.int .u32 (nu ns (Int.toNat (IntKind.wrap .i64 (((n : Nat) : Int) - (1 : Int))))))), (.lit (.slice .none 0 0))]), (.lit (.int .i64 (0 : Int)))]))
 else bif (bne (IntKind.wrap .u8 (((BitVec.toNat (HAnd.hAnd (BitVec.ofInt 8 w) (BitVec.ofInt 8 (4 : Int)))) : Nat) : Int)) (0 : Int)) then
 bif (bne (packE (numsOf n (nRow ns))) (0 : Int)) then
 (.some (.tup [(.agg [(.lit (.int .u8 (0 : Int))), (.lit (.int .i64 (0 : Int))), (.lit (.int .u32 (0 : Int))), (.lit (.int .u32 (0 : Int))), (.lit (.slice .none 0 0))]), (.lit (.int .i64 (15 : Int)))]))
 else (.some (.tup [(.agg [(.lit (.int .u8 w)), (.lit (.int .i64 ((n : Nat) : Int))), (.lit (.int .u32 (nu ns 0))), (.lit (.int .u32 (0 : Int))), (.gsl 2 (List.length (packR (numsOf n (nRow ns)))) (sRow (packR (numsOf n (nRow ns)))))]), (.lit (.int .i64 (0 : Int)))]))
 else (.some (.tup [(.agg [(.lit (.int .u8 w)), (.lit (.int .i64 ((n : Nat) : Int))), (.lit (.int .u32 (nu ns 0))), (.lit (.int .u32 (0 : Int))), (.lit (.slice .none 0 0))]), (.lit (.int .i64 (0 : Int)))]))
 else bif (bne (IntKind.wrap .u8 (((BitVec.toNat (HAnd.hAnd (BitVec.ofInt 8 w) (BitVec.ofInt 8 (2 : Int)))) : Nat) : Int)) (0 : Int)) then
 bif (bne (IntKind.wrap .u8 (((BitVec.toNat (HAnd.hAnd (BitVec.ofInt 8 w) (BitVec.ofInt 8 (4 : Int)))) : Nat) : Int)) (0 : Int)) then
 bif (bne (packE (numsOf n (nRow ns))) (0 : Int)) then
 (.some (.tup [(.agg [(.lit (.int .u8 (0 : Int))), (.lit (.int .i64 (0 : Int))), (.lit (.int .u32 (0 : Int))), (.lit (.int .u32 (0 : Int))), (.lit (.slice .none 0 0))]), (.lit (.int .i64 (15 : Int)))]))
 else (.some (.tup [(.agg [(.lit (.int .u8 w)), (.lit (.int .i64 ((n : Nat) : Int))), (.lit (.int .u32 (0 : Int))), (.lit (.int .u32 (nu ns (Int.toNat (IntKind.wrap .i64 (((n : Nat) : Int) - (1 : Int))))))), (.gsl 2 (List.length (packR (numsOf n (nRow ns)))) (sRow (packR (numsOf n (nRow ns)))))]), (.lit (.int .i64 (0 : Int)))]))
 else (.some (.tup [(.agg [(.lit (.int .u8 w)), (.lit (.int .i64 ((n : Nat) : Int))), (.lit (.int .u32 (0 : Int))), (.lit (.int .u32 (nu ns (Int.toNat (IntKind.wrap .i64 (((n : Nat) : Int) - (1 : Int))))))), (.lit (.slice .none 0 0))]), (.lit (.int .i64 (0 : Int)))]))
 else bif (bne (IntKind.wrap .u8 (((BitVec.toNat (HAnd.hAnd (BitVec.ofInt 8 w) (BitVec.ofInt 8 (4 : Int)))) : Nat) : Int)) (0 : Int)) then
 bif (bne (packE (numsOf n (nRow ns))) (0 : Int)) then
 (.some (.tup [(.agg [(.lit (.int .u8 (0 : Int))), (.lit (.int .i64 (0 : Int))), (.lit (.int .u32 (0 : Int))), (.lit (.int .u32 (0 : Int))), (.lit (.slice .none 0 0))]), (.lit (.int .i64 (15 : Int)))]))
 else (.some (.tup [(.agg [(.lit (.int .u8 w)), (.lit (.int .i64 ((n : Nat) : Int))), (.lit (.int .u32 (0 : Int))), (.lit (.int .u32 (0 : Int))), (.gsl 2 (List.length (packR (numsOf n (nRow ns)))) (sRow (packR (numsOf n (nRow ns)))))]), (.lit (.int .i64 (0 : Int)))]))
 else (.some (.tup [(.agg [(.lit (.int .u8 w)), (.lit (.int .i64 ((n : Nat) : Int))), (.lit (.int .u32 (0 : Int))), (.lit (.int .u32 (0 : Int))), (.lit (.slice .none 0 0))]), (.lit (.int .i64 (0 : Int)))]))
 else bif (((n : Nat) : Int) == (0 : Int)) then
 (.some (.tup [(.agg [(.lit (.int .u8 w)), (.lit (.int .i64 (0 : Int))), (.lit (.int .u32 (0 : Int))), (.lit (.int .u32 (0 : Int))), (.lit (.slice .none 0 0))]), (.lit (.int .i64 (0 : Int)))]))
 else bif (bne (IntKind.wrap .u8 (((BitVec.toNat (HAnd.hAnd (BitVec.ofInt 8 w) (BitVec.ofInt 8 (1 : Int)))) : Nat) : Int)) (0 : Int)) then
 bif (bne (IntKind.wrap .u8 (((BitVec.toNat (HAnd.hAnd (BitVec.ofInt 8 w) (BitVec.ofInt 8 (2 : Int)))) : Nat) : Int)) (0 : Int)) then
 bif (bne (IntKind.wrap .u8 (((BitVec.toNat (HAnd.hAnd (BitVec.ofInt 8 w) (BitVec.ofInt 8 (4 : Int)))) : Nat) : Int)) (0 : Int)) then
 bif (bne (packE (numsOf n (nRow ns))) (0 : Int)) then
 (.some (.tup [(.agg [(.lit (.int .u8 (0 : Int))), (.lit (.int .i64 (0 : Int))), (.lit (.int .u32 (0 : Int))), (.lit (.int .u32 (0 : Int))), (.lit (.slice .none 0 0))]), (.lit (.int .i64 (15 : Int)))]))
 else (.some (.tup [(.agg [(.lit (.int .u8 w)), (.lit (.int .i64 (0 : Int))), (.lit (.int .u32 (nu ns 0))), (.lit (.int .u32 (nu ns (Int.toNat (IntKind.wrap .i64 (((n : Nat) : Int) - (1 : Int))))))), (.gsl 2 (List.length (packR (numsOf n (nRow ns)))) (sRow (packR (numsOf n (nRow ns)))))]), (.lit (.int .i64 (0 : Int)))]))
 else (.some (.tup [(.agg [(.lit (.int .u8 w)), (.lit (.int .i64 (0 : Int))), (.lit (.int .u32 (nu ns 0))), (.lit (.int .u32 (nu ns (Int.toNat (IntKind.wrap .i64 (((n : Nat) : Int) - (1 : Int))))))), (.lit (.slice .none 0 0))]), (.lit (.int .i64 (0 : Int)))]))
 else bif (bne (IntKind.wrap .u8 (((BitVec.toNat (HAnd.hAnd (BitVec.ofInt 8 w) (BitVec.ofInt 8 (4 : Int)))) : Nat) : Int)) (0 : Int)) then
 bif (bne (packE (numsOf n (nRow ns))) (0 : Int)) then
 (.some (.tup [(.agg [(.lit (.int .u8 (0 : Int))), (.lit (.int .i64 (0 : Int))), (.lit (.int .u32 (0 : Int))), (.lit (.int .u32 (0 : Int))), (.lit (.slice .none 0 0))]), (.lit (.int .i64 (15 : Int)))]))
 else (.some (.tup [(.agg [(.lit (.int .u8 w)), (.lit (.int .i64 (0 : Int))), (.lit (.int .u32 (nu ns 0))), (.lit (.int .u32 (0 : Int))), (.gsl 2 (List.length (packR (numsOf n (nRow ns)))) (sRow (packR (numsOf n (nRow ns)))))]), (.lit (.int .i64 (0 : Int)))]))
 else (.some (.tup [(.agg [(.lit (.int .u8 w)), (.lit (.int .i64 (0 : Int))), (.lit (.int .u32 (nu ns 0))), (.lit (.int .u32 (0 : Int))), (.lit (.slice .none 0 0))]), (.lit (.int .i64 (0 : Int)))]))
 else bif (bne (IntKind.wrap .u8 (((BitVec.toNat (HAnd.hAnd (BitVec.ofInt 8 w) (BitVec.ofInt 8 (2 : Int)))) : Nat) : Int)) (0 : Int)) then
 bif (bne (IntKind.wrap .u8 (((BitVec.toNat (HAnd.hAnd (BitVec.ofInt 8 w) (BitVec.ofInt 8 (4 : Int)))) : Nat) : Int)) (0 : Int)) then
 bif (bne (packE (numsOf n (nRow ns))) (0 : Int)) then
 (.some (.tup [(.agg [(.lit (.int .u8 (0 : Int))), (.lit (.int .i64 (0 : Int))), (.lit (.int .u32 (0 : Int))), (.lit (.int .u32 (0 : Int))), (.lit (.slice .none 0 0))]), (.lit (.int .i64 (15 : Int)))]))
 else (.some (.tup [(.agg [(.lit (.int .u8 w)), (.lit (.int .i64 (0 : Int))), (.lit (.int .u32 (0 : Int))), (.lit (.int .u32 (nu ns (Int.toNat (IntKind.wrap .i64 (((n : Nat) : Int) - (1 : Int))))))), (.gsl 2 (List.length (packR (numsOf n (nRow ns)))) (sRow (packR (numsOf n (nRow ns)))))]), (.lit (.int .i64 (0 : Int)))]))
 else (.some (.tup [(.agg [(.lit (.int .u8 w)), (.lit (.int .i64 (0 : Int))), (.lit (.int .u32 (0 : Int))), (.lit (.int .u32 (nu ns (Int.toNat (IntKind.wrap .i64 (((n : Nat) : Int) - (1 : Int))))))), (.lit (.slice .none 0 0))]), (.lit (.int .i64 (0 : Int)))]))
 else bif (bne (IntKind.wrap .u8 (((BitVec.toNat (HAnd.hAnd (BitVec.ofInt 8 w) (BitVec.ofInt 8 (4 : Int)))) : Nat) : Int)) (0 : Int)) then
 bif (bne (packE (numsOf n (nRow ns))) (0 : Int)) then
 (.some (.tup [(.agg [(.lit (.int .u8 (0 : Int))), (.lit (.int .i64 (0 : Int))), (.lit (.int .u32 (0 : Int))), (.lit (.int .u32 (0 : Int))), (.lit (.slice .none 0 0))]), (.lit (.int .i64 (15 : Int)))]))
 else (.some (.tup [(.agg [(.lit (.int .u8 w)), (.lit (.int .i64 (0 : Int))), (.lit (.int .u32 (0 : Int))), (.lit (.int .u32 (0 : Int))), (.gsl 2 (List.length (packR (numsOf n (nRow ns)))) (sRow (packR (numsOf n (nRow ns)))))]), (.lit (.int .i64 (0 : Int)))]))
 else (.some (.tup [(.agg [(.lit (.int .u8 w)), (.lit (.int .i64 (0 : Int))), (.lit (.int .u32 (0 : Int))), (.lit (.int .u32 (0 : Int))), (.lit (.slice .none 0 0))]), (.lit (.int .i64 (0 : Int)))])) : Option PV) := by
  kernel_rfl
theorem tof_raw_c (m : Int) (t : TypeId) (fr : Nat × Nat) (w : Int) (n : Nat) (ns : List Int) : ((fnPure Tryz.prog (E23 (GG m t fr)) 60 Tryz.f6 (GG m t fr) [.lit (.int .u8 w), .gsl 1 n (nRow ns)])).conds =
 (bif (bne (IntKind.wrap .u8 (((BitVec.toNat (HAnd.hAnd (BitVec.ofInt 8 w) (Complement.complement (BitVec.ofInt 8 (15 : Int))))) : Nat) : Int)) (0 : Int)) then
 true
 else bif ((areNums n (nRow ns)) && (Nat.ble n (4294967280 : Nat))) then
 bif (List.contains (numsOf n (nRow ns)) (0 : Int)) then
 true
 else bif ((areNums n (nRow ns)) && (Nat.ble n (4294967280 : Nat))) then
 bif (bne (posE (numsOf n (nRow ns))) (0 : Int)) then
 true
 else bif (bne (IntKind.wrap .u8 (((BitVec.toNat (HAnd.hAnd (BitVec.ofInt 8 w) (BitVec.ofInt 8 (8 : Int)))) : Nat) : Int)) (0 : Int)) then
 bif (((n : Nat) : Int) == (0 : Int)) then
 true
 else bif (bne (IntKind.wrap .u8 (((BitVec.toNat (HAnd.hAnd (BitVec.ofInt 8 w) (BitVec.ofInt 8 (1 : Int)))) : Nat) : Int)) (0 : Int)) then
 bif (Nat.blt 0 n) then
 bif (bne (IntKind.wrap .u8 (((BitVec.toNat (HAnd.hAnd (BitVec.ofInt 8 w) (BitVec.ofInt 8 (2 : Int)))) : Nat) : Int)) (0 : Int)) then
 bif ((decide ((0 : Int) ≤ (IntKind.wrap .i64 (((n : Nat) : Int) - (1 : Int))))) && (Nat.blt (Int.toNat (IntKind.wrap .i64 (((n : Nat) : Int) - (1 : Int)))) n)) then
 bif (bne (IntKind.wrap .u8 (((BitVec.toNat (HAnd.hAnd (BitVec.ofInt 8 w) (BitVec.ofInt 8 (4 : Int)))) : Nat) : Int)) (0 : Int)) then
 bif ((areNums n (nRow ns)) && (Nat.ble n (4294967280 : Nat))) then
 bif ((areNums n (nRow ns)) && (Nat.ble n (4294967280 : Nat))) then
 bif (bne (packE (numsOf n (nRow ns))) (0 : Int)) then
 true
 else true
 else false
 else false
 else true
 else false
 else bif (bne (IntKind.wrap .u8 (((BitVec.toNat (HAnd.hAnd (BitVec.ofInt 8 w) (BitVec.ofInt 8 (4 : Int)))) : Nat) : Int)) (0 : Int)) then
 bif ((areNums n (nRow ns)) && (Nat.ble n (4294967280 : Nat))) then
 bif ((areNums n (nRow ns)) && (Nat.ble n (4294967280 : Nat))) then
 bif (bne (packE (numsOf n (nRow ns))) (0 : Int)) then
 true
 else true
 else false
 else false
 else true
 else false
 else bif (bne (IntKind.wrap .u8 (((BitVec.toNat (HAnd.hAnd (BitVec.ofInt 8 w) (BitVec.ofInt 8 (2 : Int)))) : Nat) : Int)) (0 : Int)) then
 bif ((decide ((0 : Int) ≤ (IntKind.wrap .i64 (((n : Nat) : Int) - (1 : Int))))) && (Nat.blt (Int.toNat (IntKind.wrap .i64 (((n : Nat) : Int) - (1 : Int)))) n)) then
 bif (bne (IntKind.wrap .u8 (((BitVec.toNat (HAnd.hAnd (BitVec.ofInt 8 w) (BitVec.ofInt 8 (4 : Int)))) : Nat) : Int)) (0 : Int)) then
 bif ((areNums n (nRow ns)) && (Nat.ble n (4294967280 : Nat))) then
 bif ((areNums n (nRow ns)) && (Nat.ble n (4294967280 : Nat))) then
 bif (bne (packE (numsOf n (nRow ns))) (0 : Int)) then
 true
 else true
 else false
 else false
 else true
 else false
 else bif (bne (IntKind.wrap .u8 (((BitVec.toNat (HAnd.hAnd (BitVec.ofInt 8 w) (BitVec.ofInt 8 (4 : Int)))) : Nat) : Int)) (0 : Int)) then
 bif ((areNums n (nRow ns)) && (Nat.ble n (4294967280 : Nat))) then
 bif ((areNums n (nRow ns)) && (Nat.ble n (4294967280 : Nat))) then
 bif (bne (packE (numsOf n (nRow ns))) (0 : Int)) then
 true
 else true
 else false
 else false
 else true
 else bif (((n : Nat) : Int) == (0 : Int)) then
 true
 else bif (bne (IntKind.wrap .u8 (((BitVec.toNat (HAnd.hAnd (BitVec.ofInt 8 w) (BitVec.ofInt 8 (1 : Int)))) : Nat) : Int)) (0 : Int)) then
 bif (Nat.blt 0 n) then
 bif (bne (IntKind.wrap .u8 (((BitVec.toNat (HAnd.hAnd (BitVec.ofInt 8 w) (BitVec.ofInt 8 (2 : Int)))) : Nat) : Int)) (0 : Int)) then
 bif ((decide ((0 : Int) ≤ (IntKind.wrap .i64 (((n : Nat) : Int) - (1 : Int))))) && (Nat.blt (Int.toNat (IntKind.wrap .i64 (((n : Nat) : Int) - (1 : Int)))) n)) then
 bif (bne (IntKind.wrap .u8 (((BitVec.toNat (HAnd.hAnd (BitVec.ofInt 8 w) (BitVec.ofInt 8 (4 : Int)))) : Nat) : Int)) (0 : Int)) then
 bif ((areNums n (nRow ns)) && (Nat.ble n (4294967280 : Nat))) then
 bif ((areNums n (nRow ns)) && (Nat.ble n (4294967280 : Nat))) then
 bif (bne (packE (numsOf n (nRow ns))) (0 : Int)) then
 true
 else true
 else false
 else false
 else true
 else false
 else bif (bne (IntKind.wrap .u8 (((BitVec.toNat (HAnd.hAnd (BitVec.ofInt 8 w) (BitVec.ofInt 8 (4 : Int)))) : Nat) : Int)) (0 : Int)) then
 bif ((areNums n (nRow ns)) && (Nat.ble n (4294967280 : Nat))) then
 bif ((areNums n (nRow ns)) && (Nat.ble n (4294967280 : Nat))) then
 bif (bne (packE (numsOf n (nRow ns))) (0 : Int)) then
 true
 else true
 else false
 else false
 else true
 else false
 else bif (bne (IntKind.wrap .u8 (((BitVec.toNat (HAnd.hAnd (BitVec.ofInt 8 w) (BitVec.ofInt 8 (2 : Int)))) : Nat) : Int)) (0 : Int)) then
 bif ((decide ((0 : Int) ≤ (IntKind.wrap .i64 (((n : Nat) : Int) - (1 : Int))))) && (Nat.blt (Int.toNat (IntKind.wrap .i64 (((n : Nat) : Int) - (1 : Int)))) n)) then
 bif (bne (IntKind.wrap .u8 (((BitVec.toNat (HAnd.hAnd (BitVec.ofInt 8 w) (BitVec.ofInt 8 (4 : Int)))) : Nat) : Int)) (0 : Int)) then
 bif ((areNums n (nRow ns)) && (Nat.ble n (4294967280 : Nat))) then
 bif ((areNums n (nRow ns)) && (Nat.ble n (4294967280 : Nat))) then
 bif (bne (packE (numsOf n (nRow ns))) (0 : Int)) then
 true
 else true
 else false
 else false
 else true
 else false
 else bif (bne (IntKind.wrap .u8 (((BitVec.toNat (HAnd.hAnd (BitVec.ofInt 8 w) (BitVec.ofInt 8 (4 : Int)))) : Nat) : Int)) (0 : Int)) then
 bif ((areNums n (nRow ns)) && (Nat.ble n (4294967280 : Nat))) then
 bif ((areNums n (nRow ns)) && (Nat.ble n (4294967280 : Nat))) then
 bif (bne (packE (numsOf n (nRow ns))) (0 : Int)) then
 true
 else true
 else false
 else false
 else true
 else false
 else false : Bool) := by
  kernel_rfl
end
end Go.Proofs.YtcdghinmmhcfcaaGreatDoor.Ev

/- tally.Of as a contract. No condition. -/
namespace Go.Proofs.YtcdghinmmhcfcaaGreatDoor.Ev
open Go Go.RowKit Go.Proofs Go.Proofs.YtcdghinmmhcfcaaGreatDoor.Str
set_option linter.unusedVariables false
set_option linter.unusedSimpArgs false
/-- why there is no tally -/
def ofE (w : Int) (ns : List Int) : Int := bif aN w then 1 else bif ns.contains 0 then 1 else bif bne (posE ns) 0 then posE ns else bif ((ns.length : Nat) : Int) == 0 then 0 else bif wb w 4 then (bif bne (packE ns) 0 then 15 else 0) else 0
/-- numbers' tally -/
def ofMany (w : Int) (ns : List Int) : Int := bif wb w 8 then ns.length else 0
def ofLeast (w : Int) (ns : List Int) : Int := bif ((ns.length : Nat) : Int) == 0 then 0 else bif wb w 1 then nu ns 0 else 0
def ofMost (w : Int) (ns : List Int) : Int := bif ((ns.length : Nat) : Int) == 0 then 0 else bif wb w 2 then nu ns (ns.length - 1) else 0
def ofL (w : Int) (ns : List Int) : List Sp := bif ((ns.length : Nat) : Int) == 0 then [] else bif wb w 4 then packR ns else []
def ofT (w : Int) (ns : List Int) : Tl := ⟨w, ofMany w ns, ofLeast w ns, ofMost w ns, ofL w ns⟩
/-- no row is a row of none -/
def nz (sz : Nat) : PV → PV
  | .lit (.slice none 0 0) => .gsl sz 0 fun _ => []
  | p => p
def nzL : List Nat → List PV → List PV
  | k :: ks, p :: ps => (match k with
    | 0 => p
    | k + 1 => nz (k + 1) p) :: nzL ks ps
  | _, ps => ps
theorem nz_le (sz : Nat) (p : PV) : PLe p (nz sz p) := by
  unfold nz
  split
  · exact PLe.nil sz _
  · exact .refl _
theorem nzL_le : ∀ (ks : List Nat) (ps : List PV), PLeL ps (nzL ks ps)
  | [], ps => by unfold nzL; exact .refl _
  | k :: ks, [] => by unfold nzL; exact .refl _
  | k :: ks, p :: ps => by
    unfold nzL
    refine PLeL.cons ?_ (nzL_le ks ps)
    cases k with
    | zero => exact .refl _
    | succ k => exact nz_le _ p
theorem PureOK.nz {P : Program} {G : GT} {f : FuncId} {g : List PV → Tr PV} (h : PureOK P G f g) (ks : List Nat) : PureOK P G f (fun ps => g (nzL ks ps)) :=
  fun ps p hp => (h _ p hp).pre (nzL_le ks ps)
section
variable {m : Int} {t : TypeId} {fr : Nat × Nat}
def ofG : List PV → Tr PV
  | [.lit (.int .u8 w), .gsl 1 n f] => .br (areNums n f && Nat.ble n 4294967280) (.br (ofE w (numsOf n f) == 0) (.leaf (.tup [tlV (ofT w (numsOf n f)), int 0])) (.leaf (.tup [tlZ, int (ofE w (numsOf n f))]))) .fail
  | _ => .fail
theorem of_ok : PureOK Tryz.prog (GG m t fr) 6 ofG := by
  intro ps p hp
  unfold ofG at hp
  split at hp
  · rename_i w n f
    have hb := br_run hp
    clear hp
    obtain ⟨hc0, hp⟩ := hb
    simp only [Bool.and_eq_true] at hc0
    have hL := nums_len n f
    refine PureAt.pre (qs := [.lit (.int .u8 w), .gsl 1 (numsOf n f).length (nRow (numsOf n f))]) ?_ (PLeL.cons (.refl _) (PLeL.cons (PLe.gsl hL.symm (nums_row hc0.1)) .nil))
    have base := fn_pure mixed (E23_ok (m := m) (t := t) (fr := fr)) (envOf_cuts ..) (f := 6) (fn := Tryz.f6) (by kernel_rfl)
    have hu := nums_u32 hc0.1
    have hn : Nat.ble (numsOf n f).length 4294967280 = true := by rw [hL]; exact hc0.2
    have hn' := Nat.le_of_ble_eq_true hn
    generalize numsOf n f = ns at hp hu hn hn' ⊢
    have hv := tof_raw_v m t fr w ns.length ns
    have hc := tof_raw_c m t fr w ns.length ns
    rw [nums_nRow] at hv hc
    rw [are_nRow hu, hn] at hc
    have e8 : ∀ k : Int, bne (IntKind.wrap .u8 (((BitVec.toNat (HAnd.hAnd (BitVec.ofInt 8 w) (BitVec.ofInt 8 k))) : Nat) : Int)) (0 : Int) = wb w k := fun _ => rfl
    rw [show bne (IntKind.wrap .u8 (((BitVec.toNat (HAnd.hAnd (BitVec.ofInt 8 w) (Complement.complement (BitVec.ofInt 8 (15 : Int))))) : Nat) : Int)) (0 : Int) = aN w from rfl] at hv hc
    simp only [e8] at hv hc
    simp only [Tr.run] at hp
    have same : ∀ {o : Option PV} {q : PV}, o = some q → ∀ {r : PV}, PLe q r → some r = some p → o = some q ∧ PLe q p := fun h1 _ h2 h3 => ⟨h1, by cases h3; exact h2⟩
    unfold ofE at hp
    cases c1 : aN w with
    | true =>
      rw [c1] at hv hc hp
      simp only [cond_true, show ((1 : Int) == 0) = false from rfl, cond_false, Option.some.injEq] at hp
      subst hp
      exact base _ _ (Tr.run_vc hv hc rfl rfl)
    | false =>
      rw [c1] at hv hc hp
      cases c2 : ns.contains (0 : Int) with
      | true =>
        rw [c2] at hv hc hp
        simp only [cond_true, show ((1 : Int) == 0) = false from rfl, cond_false, Option.some.injEq] at hp
        subst hp
        exact base _ _ (Tr.run_vc hv hc rfl rfl)
      | false =>
        rw [c2] at hv hc hp
        simp only [cond_false] at hp
        cases c3 : bne (posE ns) 0 with
        | true =>
          have c3' : (posE ns == 0) = false := by
            have := c3
            unfold bne at this
            simpa using this
          rw [c3] at hv hc hp
          simp only [cond_true, c3', cond_false, Option.some.injEq] at hp
          subst hp
          exact base _ _ (Tr.run_vc hv hc rfl rfl)
        | false =>
          rw [c3] at hv hc hp
          simp only [cond_false] at hp
          by_cases hz : ns.length = 0
          · have d0 : (((ns.length : Nat) : Int) == 0) = true := by rw [hz]; rfl
            simp only [d0, cond_true, show ((0 : Int) == 0) = true from rfl, Option.some.injEq] at hp
            subst hp
            rw [d0] at hv hc
            unfold ofT ofMany ofLeast ofMost ofL tlV tlP
            simp only [d0, cond_true]
            have nil : ∀ {a b c d : PV}, PLe (.tup [.agg [a, b, c, d, .lit (.slice none 0 0)], int 0]) (.tup [.agg [a, b, c, d, .gsl 2 ([] : List Sp).length (sRow [])], int 0]) := PLe.tup (PLeL.cons (PLe.agg (PLeL.cons (.refl _) (PLeL.cons (.refl _) (PLeL.cons (.refl _) (PLeL.cons (.refl _) (PLeL.cons (PLe.nil 2 _) .nil)))))) (.refl _))
            cases c4 : wb w 8 with
            | true =>
              rw [c4] at hv hc
              exact (base _ _ (Tr.run_vc hv hc rfl rfl)).post nil
            | false =>
              rw [c4] at hv hc
              exact (base _ _ (Tr.run_vc hv hc rfl rfl)).post nil
          · have d0 : (((ns.length : Nat) : Int) == 0) = false := by
              rw [beqD]
              exact decide_eq_false (by omega)
            have hw : IntKind.i64.wrap (((ns.length : Nat) : Int) - 1) = ((ns.length - 1 : Nat) : Int) := by
              have e : ((ns.length : Nat) : Int) - 1 = ((ns.length - 1 : Nat) : Int) := by omega
              rw [e]
              exact wrap_nat (by omega)
            have b1 : Nat.blt 0 ns.length = true := by rw [Nat.blt_eq]; omega
            have b2 : Nat.blt (ns.length - 1) ns.length = true := by rw [Nat.blt_eq]; omega
            have b3 : ∀ k : Nat, decide ((0 : Int) ≤ (k : Int)) = true := fun k => by simp
            rw [hw, Int.toNat_natCast] at hv hc
            rw [b3, b1, b2] at hc
            rw [d0] at hv hc
            simp only [d0, cond_false] at hp
            unfold ofT ofMany ofLeast ofMost ofL tlV tlP at hp
            simp only [d0, cond_false] at hp
            have nil : ∀ {a b c d : PV}, PLe (.tup [.agg [a, b, c, d, .lit (.slice none 0 0)], int 0]) (.tup [.agg [a, b, c, d, .gsl 2 ([] : List Sp).length (sRow [])], int 0]) := PLe.tup (PLeL.cons (PLe.agg (PLeL.cons (.refl _) (PLeL.cons (.refl _) (PLeL.cons (.refl _) (PLeL.cons (.refl _) (PLeL.cons (PLe.nil 2 _) .nil)))))) (.refl _))
            cases g8 : wb w 8 <;> cases g1 : wb w 1 <;> cases g2 : wb w 2 <;> cases g4 : wb w 4 <;> cases g5 : bne (packE ns) 0 <;> simp only [g8, g1, g2, g4, g5, cond_true, cond_false, show ((15 : Int) == 0) = false from rfl, show ((0 : Int) == 0) = true from rfl, Option.some.injEq] at hv hc hp <;> subst hp <;>
              first | exact base _ _ (Tr.run_vc hv hc rfl rfl) | exact (base _ _ (Tr.run_vc hv hc rfl rfl)).post nil
  · cases hp
def trPure : List (Nat × (List PV → Tr PV)) := (6, (fun ps => ofG (nzL [0,1] ps))) :: tqPure
theorem trPure_ok {m : Int} {t : TypeId} {fr : Nat × Nat} : TabOK Tryz.prog (GG m t fr) trPure := (TabOK.cons (of_ok.nz [0,1]) (fn := Tryz.f6) (by kernel_rfl) (by kernel_rfl) tqPure_ok)
noncomputable abbrev E24 (G : GT) : Env := envOf Tryz.prog G trPure tlFull
theorem E24_ok : (E24 (GG m t fr)).ok Tryz.prog (GG m t fr) := envOf_ok mixed trPure_ok tlFull_ok
end
end Go.Proofs.YtcdghinmmhcfcaaGreatDoor.Ev

/- What tally.Write writes, tally.Parse reads as it was. No condition, and no program in it. -/
namespace Go.Proofs.YtcdghinmmhcfcaaGreatDoor.Ev
open Go Go.RowKit Go.Proofs Go.Proofs.YtcdghinmmhcfcaaGreatDoor.Str
set_option linter.unusedVariables false
set_option linter.unusedSimpArgs false
/-! ### numerals -/
theorem dig_nat {n : Nat} (h : n < 10) : (UInt8.ofNat (48 + n)).toNat = 48 + n := by
  rw [UInt8.toNat_ofNat']
  omega
theorem num_fwd (M : Nat) (hM : M < 4294967296) (n : Nat) : ∀ (r : List UInt8), n ≤ M → Lib.parseUintM M 0 (Lib.decDigits n ++ r) = Lib.parseUintM M n r := by
  induction n using Nat.strongRecOn with
  | ind n ih =>
    intro r hn
    rw [Lib.decDigits.eq_1 n]
    by_cases h : n < 10
    · rw [dif_pos h]
      show Lib.parseUintM M 0 (UInt8.ofNat (48 + n) :: r) = _
      have e := dig_nat h
      rw [Lib.parseUintM, if_pos (by rw [e]; omega), if_neg (by omega), if_neg (by rw [e]; omega), e]
      have : 0 * 10 + (48 + n - 48) = n := by omega
      rw [this]
    · rw [dif_neg h, List.append_assoc, ih (n / 10) (by omega) _ (by omega)]
      show Lib.parseUintM M (n / 10) (UInt8.ofNat (48 + n % 10) :: r) = _
      have e := dig_nat (n := n % 10) (by omega)
      have : n / 10 * 10 + (48 + n % 10 - 48) = n := by omega
      rw [Lib.parseUintM, if_pos (by rw [e]; omega), if_neg (by omega), if_neg (by rw [e]; omega), e, this]
theorem dec_dig (n : Nat) : ∀ c ∈ Lib.decDigits n, 48 ≤ c.toNat ∧ c.toNat ≤ 57 := by
  induction n using Nat.strongRecOn with
  | ind n ih =>
    intro c hc
    rw [Lib.decDigits.eq_1 n] at hc
    by_cases h : n < 10
    · rw [dif_pos h] at hc
      rw [List.mem_singleton.1 hc, dig_nat h]
      omega
    · rw [dif_neg h] at hc
      rcases List.mem_append.1 hc with hc | hc
      · exact ih _ (by omega) c hc
      · rw [List.mem_singleton.1 hc, dig_nat (by omega)]
        omega
theorem dec_ne (n : Nat) : Lib.decDigits n ≠ [] := by
  rw [Lib.decDigits.eq_1 n]
  split <;> simp
theorem dec_first (n : Nat) : 0 < n → 49 ≤ ((Lib.decDigits n).getD 0 0).toNat := by
  induction n using Nat.strongRecOn with
  | ind n ih =>
    intro hn
    rw [Lib.decDigits.eq_1 n]
    by_cases h : n < 10
    · rw [dif_pos h]
      show 49 ≤ (UInt8.ofNat (48 + n)).toNat
      rw [dig_nat h]
      omega
    · rw [dif_neg h]
      have h1 := ih (n / 10) (by omega) (by omega)
      have h2 := dec_ne (n / 10)
      cases hd : Lib.decDigits (n / 10) with
      | nil => exact absurd hd h2
      | cons c r =>
        rw [hd] at h1
        simpa using h1
theorem dec_pu {n : Nat} (h : n < 4294967296) : Lib.parseUintB 32 (Lib.decDigits n) = .ok n := by
  unfold Lib.parseUintB
  rw [if_neg (dec_ne n)]
  have := num_fwd (2 ^ 32 - 1) (by omega) n [] (by omega)
  rw [List.append_nil] at this
  rw [this]
  rfl
theorem dec_ok {n : Nat} (h : n < 4294967296) : puOk (bs (Lib.decDigits n)) = true ∧ puVal (bs (Lib.decDigits n)) = n := by
  unfold puOk puVal
  have hb : (bs (Lib.decDigits n)).data.toList = Lib.decDigits n := ls_bs _
  rw [hb, dec_pu h]
  exact ⟨rfl, rfl⟩
theorem no_byte {n : Nat} {c : UInt8} (h : c.toNat < 48 ∨ 57 < c.toNat) : c ∉ Lib.decDigits n := fun hc => by
  have := dec_dig n c hc
  omega
theorem rd_dec {x : Int} (h0 : 0 ≤ x) (h1 : x < 4294967296) : rdN (decI x) = x := by
  obtain ⟨a, b⟩ := dec_ok (n := x.toNat) (by omega)
  unfold rdN decI
  rw [a, b, cond_true]
  omega
/-! ### spans -/
theorem end_word {n : Int} (h0 : 0 ≤ n) (h1 : n < 4294967296) : endB (wordS n) = true ∧ endV (wordS n) = n := by
  unfold wordS
  by_cases hz : n = 0
  · subst hz
    exact ⟨rfl, rfl⟩
  · have e : (n == 0) = false := by simpa using hz
    rw [e, cond_false]
    obtain ⟨a, b⟩ := dec_ok (n := n.toNat) (by omega)
    have f := dec_first n.toNat (by omega)
    have g : ((Lib.decDigits n.toNat).getD 0 0).toNat ≤ 57 := by
      cases hd : Lib.decDigits n.toNat with
      | nil => exact absurd hd (dec_ne _)
      | cons c r =>
        have := dec_dig n.toNat c (by rw [hd]; simp)
        simpa using this.2
    have hne := dec_ne n.toNat
    have h42 : decide (Lib.decDigits n.toNat = [42]) = false := decide_eq_false fun h => by
      have := dec_dig n.toNat 42 (by rw [h]; simp)
      exact absurd this (by decide)
    have k1 : decide (Lib.decDigits n.toNat = []) = false := decide_eq_false hne
    have k2 : decide (((Lib.decDigits n.toNat).getD 0 0).toNat < 49) = false := decide_eq_false (by omega)
    have k3 : decide (57 < ((Lib.decDigits n.toNat).getD 0 0).toNat) = false := decide_eq_false (by omega)
    unfold endB endV
    rw [h42, k1, k2, k3, a, b]
    refine ⟨rfl, ?_⟩
    show IntKind.wrap .u32 ((n.toNat : Nat) : Int) = n
    rw [IntKind.wrap_u32]
    omega
theorem word_free {n : Int} {c : UInt8} (h : c.toNat < 48 ∨ 57 < c.toNat) (h42 : c ≠ 42) : c ∉ wordS n := by
  unfold wordS
  cases n == 0
  · exact no_byte h
  · simpa using h42
theorem one_fwd {x : Sp} (h : u32B x = true) : okW (oneS x) = true ∧ spW (oneS x) = x := by
  unfold u32B at h
  simp only [Bool.and_eq_true, decide_eq_true_eq] at h
  obtain ⟨⟨h1, h2⟩, h3, h4⟩ := h
  obtain ⟨a1, a2⟩ := end_word h1 h2
  obtain ⟨b1, b2⟩ := end_word h3 h4
  have f : ∀ n, (58 : UInt8) ∉ wordS n := fun n => word_free (by decide) (by decide)
  unfold oneS
  cases hq : bne x.2 x.1 with
  | true =>
    rw [cond_true]
    have hc := cutC_app 58 (wordS x.1) (wordS x.2) (f _)
    have eA : wA (wordS x.1 ++ 58 :: wordS x.2) = wordS x.1 := by show (cutC 58 _).1 = _; rw [hc]
    have eB : wB (wordS x.1 ++ 58 :: wordS x.2) = wordS x.2 := by unfold wB; rw [hc]; rfl
    unfold okW spW
    rw [eA, eB, a1, b1, a2, b2]
    exact ⟨rfl, rfl⟩
  | false =>
    rw [cond_false, List.append_nil]
    have hc := cutC_free 58 (wordS x.1) (f _)
    have eA : wA (wordS x.1) = wordS x.1 := by show (cutC 58 _).1 = _; rw [hc]
    have eB : wB (wordS x.1) = wordS x.1 := by unfold wB; rw [hc]; rfl
    have e : x.2 = x.1 := by simpa using hq
    unfold okW spW
    rw [eA, eB, a1, a2]
    exact ⟨rfl, Prod.ext rfl e.symm⟩
theorem one_free {x : Sp} {c : UInt8} (h : c.toNat < 48 ∨ 57 < c.toNat) (h42 : c ≠ 42) (h58 : c ≠ 58) : c ∉ oneS x := by
  unfold oneS
  intro hc
  rcases List.mem_append.1 hc with hc | hc
  · exact word_free h h42 hc
  · cases hq : bne x.2 x.1 with
    | false => rw [hq] at hc; cases hc
    | true =>
      rw [hq, cond_true] at hc
      rcases List.mem_cons.1 hc with hc | hc
      · exact h58 hc
      · exact word_free h h42 hc
theorem join_free {d c : UInt8} (hd : c ≠ d) : ∀ (L : List (List UInt8)), (∀ x ∈ L, c ∉ x) → c ∉ joinC d L
  | [], _ => by simp [joinC]
  | [x], h => by
    have : joinC d [x] = x := by simp [joinC]
    rw [this]
    exact h x (by simp)
  | x :: y :: r, h => by
    have : joinC d (x :: y :: r) = x ++ d :: joinC d (y :: r) := by simp [joinC]
    rw [this]
    intro hc
    rcases List.mem_append.1 hc with hc | hc
    · exact h x (by simp) hc
    · rcases List.mem_cons.1 hc with hc | hc
      · exact hd hc
      · exact join_free hd (y :: r) (fun z hz => h z (by simp [hz])) hc
theorem spans_fwd {l : List Sp} (h : l.all u32B = true) (hne : l ≠ []) : areS (writeS l) = true ∧ spansS (writeS l) = l := by
  rw [List.all_eq_true] at h
  have hs : splitC 44 (writeS l) = l.map oneS := by
    unfold writeS
    refine split_join 44 _ (by simpa using hne) fun x hx => ?_
    obtain ⟨y, hy, rfl⟩ := List.mem_map.1 hx
    exact one_free (by decide) (by decide) (by decide)
  constructor
  · unfold areS
    rw [hs, List.all_eq_true]
    intro x hx
    obtain ⟨y, hy, rfl⟩ := List.mem_map.1 hx
    exact (one_fwd (h y hy)).1
  · unfold spansS
    rw [hs, List.map_map]
    have : l.map (spW ∘ oneS) = l.map id := List.map_congr_left fun y hy => (one_fwd (h y hy)).2
    rw [this, List.map_id]
theorem write_free {l : List Sp} : (32 : UInt8) ∉ writeS l := by
  refine join_free (by decide) _ fun x hx => ?_
  obtain ⟨y, hy, rfl⟩ := List.mem_map.1 hx
  exact one_free (by decide) (by decide) (by decide)
/-! ### a tally -/
theorem rd_two (x : Tl) (b : Bool) (a v : List UInt8) (R : List (List UInt8)) : rdA x ((bif b then [a, v] else []) ++ R) = rdA (bif b then rdT x a v else x) R := by
  cases b <;> rfl
theorem rd_split (x : Tl) {L : List (List UInt8)} (h : ∀ y ∈ L, (32 : UInt8) ∉ y) : rdA x (splitC 32 (joinC 32 L)) = rdA x L := by
  by_cases hL : L = []
  · subst hL
    rfl
  · rw [split_join 32 L hL h]
/-- what a right tally is, in numbers -/
theorem ck_facts8 {w many least most : Int} {l : List Sp} (h : ckP w many least most l = true) : aN w = false ∧ 0 ≤ many ∧ many ≤ 65536 ∧ pdB none l = true ∧ l.length ≤ 1024 ∧ (wb w 8 = false → many = 0) := by
  unfold ckP pkB at h
  simp only [Bool.and_eq_true, Bool.not_eq_true', decide_eq_false_iff_not, decide_eq_true_eq] at h
  obtain ⟨h1, h2, h3, ⟨h4, h5, h6⟩, ⟨h7, _⟩, _⟩ := h
  refine ⟨h1, by omega, by omega, h4, by omega, fun h8 => ?_⟩
  unfold evA at h7
  rw [h8] at h7
  simp only [Bool.and_eq_true] at h7
  have h9 := h7.2.2.2
  unfold evOk posB at h9
  by_cases hz : many > 0
  · rw [decide_eq_true hz] at h9
    simp at h9
  · omega
theorem parse_back {x : Tl} (hl : u32N x.least = true) (hm : u32N x.most = true) (hs : x.l.all u32B = true) (h : ckT x = true) : ptT x.w (twT x) = x := by
  obtain ⟨w, many, least, most, l⟩ := x
  obtain ⟨f1, f2, f3, f4, f5, f6⟩ := ck_facts8 h
  unfold u32N at hl hm
  simp only [Bool.and_eq_true, decide_eq_true_eq] at hl hm
  dsimp only at *
  have n32 : ∀ y : Int, (32 : UInt8) ∉ decI y := fun y => no_byte (by decide)
  have hfree : ∀ y ∈ twL w many least most l, (32 : UInt8) ∉ y := by
    intro y hy
    unfold twL at hy
    simp only [List.mem_append] at hy
    rcases hy with hy | hy | hy | hy
    · cases hb : decide (least > 0) with
      | false => rw [hb] at hy; cases hy
      | true =>
        rw [hb] at hy
        simp only [cond_true, List.mem_cons, List.not_mem_nil, or_false] at hy
        rcases hy with rfl | rfl
        · decide
        · exact n32 _
    · cases hb : decide (most > 0) with
      | false => rw [hb] at hy; cases hy
      | true =>
        rw [hb] at hy
        simp only [cond_true, List.mem_cons, List.not_mem_nil, or_false] at hy
        rcases hy with rfl | rfl
        · decide
        · exact n32 _
    · cases hb : decide ((l.length : Int) > 0) with
      | false => rw [hb] at hy; cases hy
      | true =>
        rw [hb] at hy
        simp only [cond_true, List.mem_cons, List.not_mem_nil, or_false] at hy
        rcases hy with rfl | rfl
        · decide
        · exact write_free
    · cases hb : wb w 8 with
      | false => rw [hb] at hy; cases hy
      | true =>
        rw [hb] at hy
        simp only [cond_true, List.mem_cons, List.not_mem_nil, or_false] at hy
        rcases hy with rfl | rfl
        · decide
        · exact n32 _
  show rdA ⟨w, 0, 0, 0, []⟩ (splitC 32 (joinC 32 (twL w many least most l))) = _
  rw [rd_split _ hfree]
  unfold twL
  have s1 : (bif decide (least > 0) then rdT ⟨w, 0, 0, 0, []⟩ wMIN (decI least) else ⟨w, 0, 0, 0, []⟩) = (⟨w, 0, least, 0, []⟩ : Tl) := by
    by_cases hb : least > 0
    · rw [decide_eq_true hb, cond_true]
      unfold rdT
      rw [rd_dec hl.1 hl.2, decide_eq_true (rfl : wMIN = wMIN), cond_true, IntKind.wrap_u32]
      have : least % 4294967296 = least := by omega
      simp [this]
    · rw [decide_eq_false hb, cond_false]
      have : least = 0 := by omega
      rw [this]
  have s2 : (bif decide (most > 0) then rdT ⟨w, 0, least, 0, []⟩ wMAX (decI most) else ⟨w, 0, least, 0, []⟩) = (⟨w, 0, least, most, []⟩ : Tl) := by
    by_cases hb : most > 0
    · rw [decide_eq_true hb, cond_true]
      unfold rdT
      rw [rd_dec hm.1 hm.2, decide_eq_true (rfl : wMAX = wMAX), (by decide : decide (wMAX = wMIN) = false), cond_true, cond_false, IntKind.wrap_u32]
      have : most % 4294967296 = most := by omega
      simp [this]
    · rw [decide_eq_false hb, cond_false]
      have : most = 0 := by omega
      rw [this]
  have s3 : (bif decide ((l.length : Int) > 0) then rdT ⟨w, 0, least, most, []⟩ wALL (writeS l) else ⟨w, 0, least, most, []⟩) = (⟨w, 0, least, most, l⟩ : Tl) := by
    by_cases hb : (l.length : Int) > 0
    · have hne : l ≠ [] := fun e => by rw [e] at hb; simp at hb
      obtain ⟨g1, g2⟩ := spans_fwd hs hne
      have g3 : rdL (writeS l) = l := by
        unfold rdL
        rw [g1, g2, Nat.ble_eq_true_of_le f5]
        rfl
      rw [decide_eq_true hb, cond_true]
      unfold rdT
      rw [g3, decide_eq_true (rfl : wALL = wALL), (by decide : decide (wALL = wMIN) = false), (by decide : decide (wALL = wMAX) = false)]
      rfl
    · rw [decide_eq_false hb, cond_false]
      have : l = [] := List.eq_nil_of_length_eq_zero (by omega)
      rw [this]
  have s4 : (bif wb w 8 then rdT ⟨w, 0, least, most, l⟩ wCOUNT (decI many) else ⟨w, 0, least, most, l⟩) = (⟨w, many, least, most, l⟩ : Tl) := by
    cases hb : wb w 8 with
    | true =>
      rw [cond_true]
      unfold rdT
      rw [rd_dec f2 (by omega), decide_eq_true (rfl : wCOUNT = wCOUNT), (by decide : decide (wCOUNT = wMIN) = false), (by decide : decide (wCOUNT = wMAX) = false), (by decide : decide (wCOUNT = wALL) = false)]
      have : IntKind.i64.wrap many = many := by
        have e : many = ((many.toNat : Nat) : Int) := by omega
        rw [e]
        exact wrap_nat (by omega)
      rw [this]
      rfl
    | false =>
      rw [cond_false, f6 hb]
  have e : (bif wb w 8 then [wCOUNT, decI many] else []) = (bif wb w 8 then [wCOUNT, decI many] else []) ++ ([] : List (List UInt8)) := by simp
  rw [e, rd_two, s1, rd_two, s2, rd_two, s3, rd_two, s4]
  rfl
theorem pt_ok {x : Tl} (hl : u32N x.least = true) (hm : u32N x.most = true) (hs : x.l.all u32B = true) (h : ckT x = true) : ptOk x.w (twT x) = true := by
  unfold ptOk
  rw [parse_back hl hm hs h, h]
  simp
end Go.Proofs.YtcdghinmmhcfcaaGreatDoor.Ev

/- The tally of numbers is right. No condition, and no program in it. -/
namespace Go.Proofs.YtcdghinmmhcfcaaGreatDoor.Ev
open Go Go.RowKit Go.Proofs Go.Proofs.YtcdghinmmhcfcaaGreatDoor.Str
set_option linter.unusedVariables false
set_option linter.unusedSimpArgs false
theorem pkS_ends : ∀ (r : List Int) (o : List Sp) (c : Sp) (q : List Sp), pkS r o c = some q → (sp q 0).1 = (sp (o ++ [c]) 0).1 ∧ 0 < q.length ∧ (sp q (q.length - 1)).2 = nu (c.2 :: r) r.length
  | [], o, c, q, h => by
    simp only [pkS, Option.some.injEq] at h
    subst h
    refine ⟨rfl, by simp, ?_⟩
    simp [sp, nu, List.getD]
  | n :: r, o, c, q, h => by
    rw [pkS] at h
    cases h1 : decide (n ≤ c.2) with
    | true => rw [h1] at h; cases h
    | false =>
      rw [h1, cond_false] at h
      cases h2 : decide (n = c.2 + 1) with
      | true =>
        rw [h2, cond_true] at h
        obtain ⟨a, b, d⟩ := pkS_ends r o (c.1, n) q h
        refine ⟨?_, b, d⟩
        rw [a]
        cases o <;> simp [sp, List.getD]
      | false =>
        rw [h2, cond_false] at h
        obtain ⟨a, b, d⟩ := pkS_ends r (o ++ [c]) (n, n) q h
        refine ⟨?_, b, d⟩
        rw [a]
        cases o <;> simp [sp, List.getD]
theorem pack_ends {ns : List Int} (h : packE ns = 0) (hn : ns.length ≠ 0) : (sp (packR ns) 0).1 = nu ns 0 ∧ (sp (packR ns) ((packR ns).length - 1)).2 = nu ns (ns.length - 1) := by
  have e : packR ns = theK (packZ ns) := by unfold packR; rw [h]; rfl
  rw [e]
  cases hq : packZ ns with
  | none => unfold packE at h; rw [hq] at h; cases h
  | some q =>
    show (sp q 0).1 = nu ns 0 ∧ (sp q (q.length - 1)).2 = nu ns (ns.length - 1)
    cases ns with
    | nil => exact absurd rfl hn
    | cons n r =>
      obtain ⟨a, b, d⟩ := pkS_ends r [] (n, n) q hq
      exact ⟨a, d⟩
theorem up_le : ∀ (r : List Int) (a : Int) (i : Nat), upB (a :: r) = true → i ≤ r.length → a + i ≤ nu (a :: r) i
  | _, a, 0, _, _ => by simp [nu]
  | [], a, i + 1, _, h => by simp at h
  | b :: r, a, i + 1, h, hi => by
    rw [upB] at h
    simp only [Bool.and_eq_true, decide_eq_true_eq] at h
    have := up_le r b i h.2 (by simpa using hi)
    have e : nu (a :: b :: r) (i + 1) = nu (b :: r) i := rfl
    rw [e]
    omega
theorem of_all {w : Int} {ns : List Int} (h : ofE w ns = 0) : aN w = false ∧ ns.contains 0 = false ∧ upB ns = true ∧ ns.length ≤ 65536 ∧ (ns.length ≠ 0 → wb w 4 = true → packE ns = 0) := by
  unfold ofE at h
  cases c0 : aN w with
  | true => rw [c0] at h; cases h
  | false =>
    rw [c0, cond_false] at h
    cases c1 : ns.contains (0 : Int) with
    | true => rw [c1] at h; cases h
    | false =>
      rw [c1, cond_false] at h
      have e2 : posE ns = 0 := by
        cases c2 : bne (posE ns) 0 with
        | true =>
          rw [c2, cond_true] at h
          exact h
        | false => simpa using c2
      have b2 : bne (posE ns) 0 = false := by rw [e2]; rfl
      rw [b2, cond_false] at h
      have e3 : upB ns = true ∧ ns.length ≤ 65536 := by
        unfold posE at e2
        cases c3 : upB ns with
        | false => rw [c3] at e2; cases e2
        | true =>
          rw [c3, cond_true] at e2
          cases c4 : decide ((ns.length : Int) > 65536) with
          | true => rw [c4] at e2; cases e2
          | false =>
            have := of_decide_eq_false c4
            exact ⟨rfl, by omega⟩
      refine ⟨rfl, rfl, e3.1, e3.2, fun hn h4 => ?_⟩
      have d0 : (((ns.length : Nat) : Int) == 0) = false := by
        rw [beqD]
        exact decide_eq_false (by omega)
      rw [d0, cond_false, h4, cond_true] at h
      cases c5 : bne (packE ns) 0 with
      | true => rw [c5] at h; cases h
      | false => simpa using c5
theorem nu_pos {ns : List Int} (hu : ns.all u32N = true) (h0 : ns.contains 0 = false) {i : Nat} (hi : i < ns.length) : 0 < nu ns i := by
  obtain ⟨a, _⟩ := nu_u32 hu i
  have hm : nu ns i ∈ ns := by
    have e : nu ns i = ns[i] := by simp [nu, hi]
    rw [e]
    exact List.getElem_mem hi
  have : nu ns i ≠ 0 := fun e => by
    rw [e] at hm
    have : ns.contains 0 = true := List.contains_iff_mem.2 hm
    rw [h0] at this
    cases this
  omega
theorem pd_of : ∀ (q : List Sp) (p : Option Sp), (match p with | none => okM none q | some x => okM (some x) q) = true → (∀ x ∈ q, x.1 ≠ 0) → pdB p q = true
  | [], _, _, _ => rfl
  | x :: r, p, h, hz => by
    have hx : (x.1 == 0) = false := by simpa using hz x (by simp)
    cases p with
    | none =>
      dsimp only at h
      rw [okM] at h
      simp only [Bool.and_eq_true] at h
      rw [pdB, pdX, hx, h.1, pd_of r (some x) h.2 fun y hy => hz y (by simp [hy])]
      rfl
    | some y =>
      dsimp only at h
      rw [okM] at h
      simp only [Bool.and_eq_true] at h
      rw [pdB, pdX, hx, h.1.1, pd_of r (some x) h.2 fun y hy => hz y (by simp [hy])]
      show (!false && (true && decide (y.2 + 2 ≤ x.1)) && true) = true
      rw [h.1.2]
      rfl
theorem ev_self (b s : Bool) : evOk b b s = true := by cases b <;> cases s <;> rfl
theorem of_u32 {w : Int} {ns : List Int} (hu : ns.all u32N = true) : u32N (ofLeast w ns) = true ∧ u32N (ofMost w ns) = true ∧ (ofL w ns).all u32B = true := by
  have hn : ∀ i, u32N (nu ns i) = true := fun i => by
    obtain ⟨a, b⟩ := nu_u32 hu i
    unfold u32N
    rw [decide_eq_true a, decide_eq_true b]
    rfl
  unfold ofLeast ofMost ofL
  refine ⟨?_, ?_, ?_⟩
  · cases ((ns.length : Nat) : Int) == 0
    · cases wb w 1
      · rfl
      · exact hn _
    · rfl
  · cases ((ns.length : Nat) : Int) == 0
    · cases wb w 2
      · rfl
      · exact hn _
    · rfl
  · cases ((ns.length : Nat) : Int) == 0
    · cases wb w 4
      · rfl
      · exact packR_u32 hu
    · rfl
theorem of_check {w : Int} {ns : List Int} (hu : ns.all u32N = true) (h : ofE w ns = 0) : ckT (ofT w ns) = true := by
  obtain ⟨g1, g2, g3, g4, g5⟩ := of_all h
  by_cases hz : ns.length = 0
  · have hns : ns = [] := List.eq_nil_of_length_eq_zero hz
    subst hns
    have e : ofT w [] = ⟨w, 0, 0, 0, []⟩ := by
      unfold ofT ofMany
      cases wb w 8 <;> rfl
    rw [e]
    show ckP w 0 0 0 [] = true
    unfold ckP evA
    have p0 : posB 0 = false := rfl
    have s0 : sumS [] = 0 := rfl
    have v0 : evS 0 0 0 0 = false := rfl
    rw [g1, s0, p0, v0]
    cases wb w 1 <;> cases wb w 2 <;> cases wb w 4 <;> cases wb w 8 <;> rfl
  · have d0 : (((ns.length : Nat) : Int) == 0) = false := by
      rw [beqD]
      exact decide_eq_false (by omega)
    have n0 := nu_pos hu g2 (i := 0) (by omega)
    have n1 := nu_pos hu g2 (i := ns.length - 1) (by omega)
    obtain ⟨_, n2⟩ := nu_u32 hu 0
    obtain ⟨_, n3⟩ := nu_u32 hu (ns.length - 1)
    have hup : nu ns 0 + ((ns.length - 1 : Nat) : Int) ≤ nu ns (ns.length - 1) := by
      cases ns with
      | nil => exact absurd rfl hz
      | cons a r => exact up_le r a r.length g3 (Nat.le_refl _)
    have eM : ofMany w ns = bif wb w 8 then (ns.length : Int) else 0 := rfl
    have eL : ofLeast w ns = bif wb w 1 then nu ns 0 else 0 := by unfold ofLeast; rw [d0]; rfl
    have eH : ofMost w ns = bif wb w 2 then nu ns (ns.length - 1) else 0 := by unfold ofMost; rw [d0]; rfl
    have eA : ofL w ns = bif wb w 4 then packR ns else [] := by unfold ofL; rw [d0]; rfl
    have hA : pkB (ofL w ns) = true ∧ sumS (ofL w ns) = (bif wb w 4 then (ns.length : Int) else 0) ∧ (wb w 4 = true → (sp (ofL w ns) 0).1 = nu ns 0 ∧ (sp (ofL w ns) ((ofL w ns).length - 1)).2 = nu ns (ns.length - 1)) := by
      rw [eA]
      cases c4 : wb w 4 with
      | false => exact ⟨rfl, rfl, fun h => by cases h⟩
      | true =>
        have hp := g5 hz c4
        obtain ⟨k1, k2, k3, -, -, -⟩ := pack_is hu hp 0
        have hl := packE_len (ns := ns)
        have hz0 : ∀ x ∈ packR ns, x.1 ≠ 0 := fun x hx e => by
          have e' : packR ns = theK (packZ ns) := by unfold packR; rw [hp]; rfl
          cases hq : packZ ns with
          | none => rw [e', hq] at hx; cases hx
          | some q =>
            rw [e', hq] at hx
            have hok := packZ_ok hu hq
            have : q.any (withinB 0) = true := List.any_eq_true.2 ⟨x, hx, by
              have := hok.2.1 x hx
              unfold fine at this
              unfold withinB
              simp
              omega⟩
            rw [hok.2.2.2 0, g2] at this
            cases this
        refine ⟨?_, k3, fun _ => pack_ends hp hz⟩
        simp only [cond_true]
        unfold pkB
        rw [pd_of (packR ns) none k1 hz0, k3, decide_eq_true (by omega), decide_eq_true (by omega)]
        rfl
    obtain ⟨a1, a2, a3⟩ := hA
    show ckP w (ofMany w ns) (ofLeast w ns) (ofMost w ns) (ofL w ns) = true
    generalize ofL w ns = l at a1 a2 a3
    have m1 : decide (ofMany w ns < 0) = false := decide_eq_false (by rw [eM]; cases wb w 8 <;> simp)
    have m2 : decide (ofMany w ns > 65536) = false := decide_eq_false (by rw [eM]; cases wb w 8 <;> simp <;> omega)
    have p1 : posB (ofLeast w ns) = wb w 1 := by
      rw [eL]
      cases wb w 1
      · rfl
      · exact decide_eq_true n0
    have p2 : posB (ofMost w ns) = wb w 2 := by
      rw [eH]
      cases wb w 2
      · rfl
      · exact decide_eq_true n1
    have p4 : posB (sumS l) = wb w 4 := by
      rw [a2]
      cases wb w 4
      · rfl
      · exact decide_eq_true (show (0 : Int) < (ns.length : Int) by omega)
    have p8 : posB (ofMany w ns) = wb w 8 := by
      rw [eM]
      cases wb w 8
      · rfl
      · exact decide_eq_true (show (0 : Int) < (ns.length : Int) by omega)
    have q1 : (bif gtB (sumS l) 0 then agB w (ofMany w ns) (ofLeast w ns) (ofMost w ns) l (sumS l) else true) = true := by
      show (bif posB (sumS l) then _ else true) = true
      rw [p4]
      cases c4 : wb w 4 with
      | false => rfl
      | true =>
        obtain ⟨f1, f2⟩ := a3 c4
        rw [c4, cond_true] at a2
        rw [cond_true]
        unfold agB
        rw [a2, eM, eL, eH, f1, f2]
        have w8 : IntKind.u64.wrap (ns.length : Int) = (ns.length : Int) := wrap_u64 (by omega)
        cases wb w 8 <;> cases wb w 1 <;> cases wb w 2 <;> simp [w8]
    have q2 : (bif sumS l == 0 then !(evS (ofMany w ns) (ofLeast w ns) (ofMost w ns) (sumS l)) || fiB w (ofMany w ns) (ofLeast w ns) (ofMost w ns) else true) = true := by
      cases sumS l == 0 with
      | false => rfl
      | true =>
        have hfi : fiB w (ofMany w ns) (ofLeast w ns) (ofMost w ns) = true := by
          unfold fiB
          rw [eM, eL, eH]
          have w8 : IntKind.u64.wrap (ns.length : Int) = (ns.length : Int) := wrap_u64 (by omega)
          have h1 : ns.length ≠ 1 ∨ nu ns 0 = nu ns (ns.length - 1) := by
            by_cases hh : ns.length = 1
            · rw [hh]
              exact .inr rfl
            · exact .inl hh
          have hg : gtB (bif wb w 1 then (bif wb w 1 then nu ns 0 else 0) else 1) (bif wb w 2 then (bif wb w 2 then nu ns (ns.length - 1) else 0) else 4294967295) = false := decide_eq_false (by cases wb w 1 <;> cases wb w 2 <;> simp <;> omega)
          rw [hg, cond_false]
          cases wb w 8 <;> cases wb w 1 <;> cases wb w 2 <;> simp [gtB, leB, w8] <;> omega
        rw [hfi]
        simp
    unfold ckP evA
    rw [g1, m1, m2, a1, p1, p2, p4, p8, ev_self, ev_self, ev_self, ev_self, q1, q2]
    rfl
/-- all that TallyBack asks of numbers' tally -/
theorem of_back {w : Int} {ns : List Int} (hu : ns.all u32N = true) (h : ofE w ns = 0) : ckT (ofT w ns) = true ∧ ptOk w (twT (ofT w ns)) = true ∧ ptT w (twT (ofT w ns)) = ofT w ns := by
  obtain ⟨k1, k2, k3⟩ := of_u32 (w := w) hu
  have hc := of_check hu h
  exact ⟨hc, pt_ok (x := ofT w ns) k1 k2 k3 hc, parse_back (x := ofT w ns) k1 k2 k3 hc⟩
end Go.Proofs.YtcdghinmmhcfcaaGreatDoor.Ev
