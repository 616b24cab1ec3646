/- JTallyTells24: several texts in one. Condition: each part's own. -/
import Derived.Test.YtcdghinmmhcfcaaGreatDoorJTallyTells23
import Derived.Test.YtcdghinmmhcfcaaGreatDoorJTallyTells18
/- The document's text of a tally is the program's. No condition. -/
namespace Go.Proofs.YtcdghinmmhcfcaaGreatDoor.Ev
open Go Go.RowKit Go.Proofs Go.Proofs.YtcdghinmmhcfcaaGreatDoor.Str
set_option linter.unusedVariables false
set_option linter.unusedSimpArgs false
theorem bif_iff (a b : Bool) : ((bif a then b else false) = true) = (a = true ∧ b = true) := by cases a <;> simp
/-- a tally's text, as the document makes it -/
def rwT (w many least most : Int) (l : List Sp) : List UInt8 :=
  (bif decide (least > 0) then 32 :: wMIN ++ (32 :: decI least) else []) ++ ((bif decide (most > 0) then 32 :: wMAX ++ (32 :: decI most) else []) ++ ((bif decide ((l.length : Int) > 0) then 32 :: wALL ++ (32 :: writeS l) else []) ++ (bif wb w 8 then 32 :: wCOUNT ++ (32 :: decI many) else [])))
theorem join_flat : ∀ (L : List (List UInt8)), joinC 32 L = (L.flatMap fun x => 32 :: x).drop 1
  | [] => rfl
  | [a] => by simp [joinC]
  | a :: b :: r => by
    have h := join_flat (b :: r)
    rw [joinC, h]
    simp
theorem rwT_eq (w many least most : Int) (l : List Sp) : (rwT w many least most l).drop 1 = twS w many least most l := by
  unfold twS
  rw [join_flat]
  unfold rwT twL
  cases decide (least > 0) <;> cases decide (most > 0) <;> cases decide ((l.length : Int) > 0) <;> cases wb w 8 <;> simp
section
variable {m : Int} {t : TypeId} {fr : Nat × Nat}
theorem rw_at {w many least most : Int} {l : List Sp} (hb : tlB w least most l.length (sRow l) = true) :
    PureAt Tryz.prog (GG m t fr) 9 [tlP w many least most l.length (sRow l)] (bif ckP w many least most l then .tup [str (bs (twS w many least most l)), int 0] else .tup [str ⟨#[]⟩, int 2]) := by
  have base := fn_pure mixed (Eq5_ok (m := m) (t := t) (fr := fr)) (envOf_cuts ..) (f := 9) (fn := Tryz.f9) (by kernel_rfl)
  have hv := rw_raw_v m t fr w many least most l.length l
  have hc := rw_raw_c m t fr w many least most l.length l
  have e8 : bne (IntKind.wrap .u8 (((BitVec.toNat (HAnd.hAnd (BitVec.ofInt 8 w) (BitVec.ofInt 8 (8 : Int)))) : Nat) : Int)) (0 : Int) = wb w 8 := rfl
  rw [e8, sps_sRow] at hv hc
  rw [hb] at hc
  cases c0 : ckP w many least most l with
  | false =>
    rw [c0] at hv hc
    exact base _ _ (Tr.run_vc hv hc rfl rfl)
  | true =>
    rw [c0] at hv hc
    obtain ⟨_, k1, k2, _, k4, _⟩ := ck_facts c0
    simp only [tlB, Bool.and_eq_true, decide_eq_true_eq] at hb
    obtain ⟨⟨hw, hl, hm⟩, hf, hn⟩ := hb
    have hl' := hl
    have hm' := hm
    unfold u32N at hl' hm'
    simp only [Bool.and_eq_true, decide_eq_true_eq] at hl' hm'
    have w1 : IntKind.u64.wrap least = least := wrap_u64 (by omega)
    have w2 : IntKind.u64.wrap most = most := wrap_u64 (by omega)
    have w3 : IntKind.u64.wrap many = many := wrap_u64 (by omega)
    have d1 : (decide ((0 : Int) ≤ least) && decide (least < 18446744073709551616)) = true := by simp; omega
    have d2 : (decide ((0 : Int) ≤ most) && decide (most < 18446744073709551616)) = true := by simp; omega
    have d3 : (decide ((0 : Int) ≤ many) && decide (many < 18446744073709551616)) = true := by simp; omega
    have n1 : (Lib.decDigits least.toNat).length ≤ 20 := Nat.le_trans (dec_len 10 _ (by omega)) (by omega)
    have n2 : (Lib.decDigits most.toNat).length ≤ 20 := Nat.le_trans (dec_len 10 _ (by omega)) (by omega)
    have n3 : (Lib.decDigits many.toNat).length ≤ 20 := Nat.le_trans (dec_len 10 _ (by omega)) (by omega)
    have n4 : (writeS l).length ≤ 1000000 := by
      have hu := sps_u32 hf
      rw [sps_sRow] at hu
      have := joinC_le 44 30 (l.map oneS) (fun x hx => by
        obtain ⟨y, hy, rfl⟩ := List.mem_map.1 hx
        have := oneS_len (List.all_eq_true.1 hu y hy)
        omega)
      rw [List.length_map] at this
      have h2 : (30 + 1) * l.length ≤ (30 + 1) * 1024 := Nat.mul_le_mul_left _ k4
      unfold writeS
      omega
    have enil : (⟨#[]⟩ : ByteArray) = bs [] := rfl
    have m1 : (⟨[(32 : UInt8), 77, 73, 78, 32].toArray⟩ : ByteArray) = bs (32 :: wMIN ++ [32]) := rfl
    have m2 : (⟨[(32 : UInt8), 77, 65, 88, 32].toArray⟩ : ByteArray) = bs (32 :: wMAX ++ [32]) := rfl
    have m3 : (⟨[(32 : UInt8), 65, 76, 76, 32].toArray⟩ : ByteArray) = bs (32 :: wALL ++ [32]) := rfl
    have m4 : (⟨[(32 : UInt8), 67, 79, 85, 78, 84, 32].toArray⟩ : ByteArray) = bs (32 :: wCOUNT ++ [32]) := rfl
    have hg3 : decide ((l.length : Int) > 0) = true → (areSps l.length (sRow l) && (Nat.ble l.length 1024 && Nat.blt 0 l.length)) = true := fun h => by
      have h := of_decide_eq_true h
      rw [hf, Nat.ble_eq_true_of_le (by omega), Bool.true_and, Bool.true_and, Nat.blt_eq]
      omega
    have one : ∀ r : List UInt8, r ≠ [] → decide ((1 : Int) ≤ ((r.length : Nat) : Int)) = true := fun r hr => by
      have hpos : 0 < r.length := by
        rcases Nat.eq_zero_or_pos r.length with h0 | h0
        · exact absurd (List.length_eq_zero_iff.1 h0) hr
        · exact h0
      simp
      omega
    have self : ∀ k : Nat, decide (((k : Nat) : Int) ≤ ((k : Nat) : Int)) = true := fun k => by simp
    have z1 : wMIN.length = 3 := rfl
    have z2 : wMAX.length = 3 := rfl
    have z3 : wALL.length = 3 := rfl
    have z4 : wCOUNT.length = 5 := rfl
    rw [cond_true, ← rwT_eq]
    unfold rwT decI
    cases g1 : decide (least > 0) <;> cases g2 : decide (most > 0) <;> cases g3 : decide ((l.length : Int) > 0) <;> cases g4 : wb w 8
    all_goals
      refine base _ _ (Tr.run_vc hv hc ?_ ?_)
      · first
          | have q3 := hg3 g3
            simp only [g1, g2, g3, g4, q3, cond_true, cond_false, w1, w2, w3, d1, d2, d3, enil, m1, m2, m3, m4, ba_app, ls_bs, eqB]
          | simp only [g1, g2, g3, g4, cond_true, cond_false, w1, w2, w3, d1, d2, d3, enil, m1, m2, m3, m4, ba_app, ls_bs, eqB]
        try simp only [z1, z2, z3, z4, bif_iff, Nat.ble_eq, List.length_append, List.length_cons, List.length_nil, List.nil_append, List.cons_append, List.append_eq_nil_iff, reduceCtorEq, false_and, and_false, decide_false, decide_true, Bool.not_false, Bool.not_true, cond_true, cond_false, true_and, and_true, Bool.and_eq_true, decide_eq_true_eq]
        try omega
      · simp only [g1, g2, g3, g4, cond_true, cond_false, w1, w2, w3, enil, m1, m2, m3, m4, ba_app, ls_bs, eqB]
        simp only [Int.toNat_natCast, bs_ext, ls_bs, List.take_length, List.nil_append, List.cons_append, List.append_nil, List.append_assoc, reduceCtorEq, decide_false, decide_true, Bool.not_false, Bool.not_true, cond_true, cond_false, List.drop_zero, List.drop_nil]
theorem rwrite_ok : PureOK Tryz.prog (GG m t fr) 9 twriteG := by
  intro ps p hp
  unfold twriteG at hp
  split at hp
  · rename_i q
    split at hp
    · rename_i w many least most n f hq
      obtain ⟨hb, hp⟩ := br_run hp
      have hb' := hb
      simp only [tlB, Bool.and_eq_true, decide_eq_true_eq] at hb'
      obtain ⟨⟨hw, hl, hm⟩, hf, hn⟩ := hb'
      have hL := sps_len n f
      have e0 : tlB w least most (spsOf n f).length (sRow (spsOf n f)) = true := by
        rw [tlB, are_sRow (sps_u32 hf), hL, hn, hl, hm, decide_eq_true hw.1, decide_eq_true hw.2]
        rfl
      have key := rw_at (m := m) (t := t) (fr := fr) (many := many) e0
      have le : PLeL [tlP w many least most n f] [tlP w many least most (spsOf n f).length (sRow (spsOf n f))] := (PLeL.cons (PLe.agg (PLeL.cons (.refl _) (PLeL.cons (.refl _) (PLeL.cons (.refl _) (PLeL.cons (.refl _) (PLeL.cons (PLe.gsl hL.symm (sps_row hf)) .nil)))))) .nil)
      have e : p = (bif ckP w many least most (spsOf n f) then .tup [str (bs (twS w many least most (spsOf n f))), int 0] else .tup [str ⟨#[]⟩, int 2]) := by
        revert hp
        cases ckP w many least most (spsOf n f) <;> simp only [Tr.run, cond_true, cond_false, Option.some.injEq] <;> exact Eq.symm
      rw [e]
      exact (key.pre le).pre (PLeL.cons (tlOf_le hq) .nil)
    · cases hp
  · cases hp
def t6Pure : List (Nat × (List PV → Tr PV)) := (9, twriteG) :: t5Pure
theorem t6Pure_ok {m : Int} {t : TypeId} {fr : Nat × Nat} : TabOK Tryz.prog (GG m t fr) t6Pure := (TabOK.cons rwrite_ok (fn := Tryz.f9) (by kernel_rfl) (by kernel_rfl) t5Pure_ok)
noncomputable abbrev Eq6 (G : GT) : Env := envOf Tryz.prog G t6Pure libFull
theorem Eq6_ok : (Eq6 (GG m t fr)).ok Tryz.prog (GG m t fr) := envOf_ok mixed t6Pure_ok libFull_ok
end
end Go.Proofs.YtcdghinmmhcfcaaGreatDoor.Ev

/- The document's tally of a text. No condition. -/
namespace Go.Proofs.YtcdghinmmhcfcaaGreatDoor.Ev
open Go Go.RowKit Go.Proofs Go.Proofs.YtcdghinmmhcfcaaGreatDoor.Str
set_option linter.unusedVariables false
set_option linter.unusedSimpArgs false
/-- what a word and the one behind it say, as the document reads them -/
def rdD (x : Tl) (a v : List UInt8) : Tl := bif decide (a = wMIN) then { x with least := eN v } else bif decide (a = wMAX) then { x with most := eN v } else bif decide (a = wCOUNT) then { x with many := eN v } else
  bif decide (a = wALL) then { x with l := d3L v } else x
def rdE : Tl → List (List UInt8) → Tl
  | x, a :: v :: r => rdE (rdD x a v) r
  | x, _ => x
theorem rdD_fit {x : Tl} {a v : List UInt8} (h : (x.l.length ≤ 1024 ∧ x.l.all u32B = true) ∧ u32N x.least = true ∧ u32N x.most = true) : (rdD x a v).w = x.w ∧ ((rdD x a v).l.length ≤ 1024 ∧ (rdD x a v).l.all u32B = true) ∧ u32N (rdD x a v).least = true ∧ u32N (rdD x a v).most = true := by
  have f1 := (end_fit v).1
  have f2 := d3_fit v
  unfold rdD
  cases decide (a = wMIN) with
  | true => exact ⟨rfl, h.1, f1, h.2.2⟩
  | false =>
    cases decide (a = wMAX) with
    | true => exact ⟨rfl, h.1, h.2.1, f1⟩
    | false =>
      cases decide (a = wCOUNT) with
      | true => exact ⟨rfl, h⟩
      | false =>
        cases decide (a = wALL) with
        | true => exact ⟨rfl, ⟨f2.2, f2.1⟩, h.2⟩
        | false => exact ⟨rfl, h⟩
theorem rdE_fit : ∀ {L : List (List UInt8)} {x : Tl}, ((x.l.length ≤ 1024 ∧ x.l.all u32B = true) ∧ u32N x.least = true ∧ u32N x.most = true) → (rdE x L).w = x.w ∧ ((rdE x L).l.length ≤ 1024 ∧ (rdE x L).l.all u32B = true) ∧ u32N (rdE x L).least = true ∧ u32N (rdE x L).most = true
  | [], _, h => ⟨rfl, h⟩
  | [_], _, h => ⟨rfl, h⟩
  | a :: v :: r, x, h => by
    have h1 := rdD_fit (a := a) (v := v) h
    have h2 := rdE_fit (L := r) h1.2
    exact ⟨h2.1.trans h1.1, h2.2⟩
def dtT (w : Int) (l : List UInt8) : Tl := rdE ⟨w, 0, 0, 0, []⟩ (splitC 32 l)
theorem dtT_fit (w : Int) (l : List UInt8) : (dtT w l).w = w ∧ ((dtT w l).l.length ≤ 1024 ∧ (dtT w l).l.all u32B = true) ∧ u32N (dtT w l).least = true ∧ u32N (dtT w l).most = true :=
  rdE_fit (L := splitC 32 l) (x := ⟨w, 0, 0, 0, []⟩) ⟨⟨by simp, rfl⟩, rfl, rfl⟩
section
variable {m : Int} {t : TypeId} {fr : Nat × Nat}
def dpOuts : Exit → Outs
  | .normal => { ks := [0, 1, 4, 5, 6, 7, 8], rs := [.slot 4, .slot 6] }
  | .exit _ => { ks := [0, 1, 4, 5, 6], rs := [.slot 4, .slot 6] }
  | _ => { ks := [] }
noncomputable abbrev dpRound (G : GT) := roundT Tryz.prog (Eq6 G) 60 G 81 dpOuts .normal (theLoop 0 Tryz.f11)
theorem dp_round (m : Int) (t : TypeId) (fr : Nat × Nat) (w : Int) (s : ByteArray) (x : Tl) (k : Nat) (L : List (List UInt8)) (i : Int) : (dpRound (GG m t fr) ([.lit (.int .u8 w), str s, .ptr 0 0, int 0, .ptr 1 0, .gsl 1 k (wRow L), int i], [.cells 27 [.lit (.int .u8 0), int 0, .lit (.int .u32 0), .lit (.int .u32 0), .lit (.slice none 0 0)], tlBk x])).run2 =
 (bif (decide ((IntKind.wrap .i64 (i + (1 : Int))) < ((k : Nat) : Int))) then
 bif ((ByteArray.toList (bs (List.getD L (Int.toNat i) []))) == (ByteArray.toList (.mk (List.toArray [(77 : UInt8), (73 : UInt8), (78 : UInt8)])))) then
 (.some ((.normal, ([(.lit (.int .u8 w)), (.lit (.string s)), (.ptr 0 0), (.lit (.int .i64 (0 : Int))), (.ptr 1 0), (.gsl 1 k (wRow L)), (.lit (.int .i64 (IntKind.wrap .i64 (i + (2 : Int)))))], [(.cells 27 [(.lit (.int .u8 (0 : Int))), (.lit (.int .i64 (0 : Int))), (.lit (.int .u32 (0 : Int))), (.lit (.int .u32 (0 : Int))), (.lit (.slice .none 0 0))]), (.cells 27 [(.lit (.int .u8 (Tl.w x))), (.lit (.int .i64 (Tl.many x))), (.lit (.int .u32 (eN (List.getD L (Int.toNat (IntKind.wrap .i64 (i + (1 : Int)))) [])))), (.lit (.int .u32 (Tl.most x))), (.gsl 2 (List.length (Tl.l x)) (sRow (Tl.l x)))])])), [((decide ((0 : Int) ≤ i)) && (Nat.blt (Int.toNat i) k)), (okS (bs (List.getD L (Int.toNat (IntKind.wrap .i64 (i + (1 : Int)))) []))), ((decide ((0 : Int) ≤ (IntKind.wrap .i64 (i + (1 : Int))))) && (Nat.blt (Int.toNat (IntKind.wrap .i64 (i + (1 : Int)))) k))]))
 else bif ((ByteArray.toList (bs (List.getD L (Int.toNat i) []))) == (ByteArray.toList (.mk (List.toArray [(77 : UInt8), (65 : UInt8), (88 : UInt8)])))) then
 (.some ((.normal, ([(.lit (.int .u8 w)), (.lit (.string s)), (.ptr 0 0), (.lit (.int .i64 (0 : Int))), (.ptr 1 0), (.gsl 1 k (wRow L)), (.lit (.int .i64 (IntKind.wrap .i64 (i + (2 : Int)))))], [(.cells 27 [(.lit (.int .u8 (0 : Int))), (.lit (.int .i64 (0 : Int))), (.lit (.int .u32 (0 : Int))), (.lit (.int .u32 (0 : Int))), (.lit (.slice .none 0 0))]), (.cells 27 [(.lit (.int .u8 (Tl.w x))), (.lit (.int .i64 (Tl.many x))), (.lit (.int .u32 (Tl.least x))), (.lit (.int .u32 (eN (List.getD L (Int.toNat (IntKind.wrap .i64 (i + (1 : Int)))) [])))), (.gsl 2 (List.length (Tl.l x)) (sRow (Tl.l x)))])])), [((decide ((0 : Int) ≤ i)) && (Nat.blt (Int.toNat i) k)), (okS (bs (List.getD L (Int.toNat (IntKind.wrap .i64 (i + (1 : Int)))) []))), ((decide ((0 : Int) ≤ (IntKind.wrap .i64 (i + (1 : Int))))) && (Nat.blt (Int.toNat (IntKind.wrap .i64 (i + (1 : Int)))) k))]))
 else bif ((ByteArray.toList (bs (List.getD L (Int.toNat i) []))) == (ByteArray.toList (.mk (List.toArray [(67 : UInt8), (79 : UInt8), (85 : UInt8), (78 : UInt8), (84 : UInt8)])))) then
 (.some ((.normal, ([(.lit (.int .u8 w)), (.lit (.string s)), (.ptr 0 0), (.lit (.int .i64 (0 : Int))), (.ptr 1 0), (.gsl 1 k (wRow L)), (.lit (.int .i64 (IntKind.wrap .i64 (i + (2 : Int)))))], [(.cells 27 [(.lit (.int .u8 (0 : Int))), (.lit (.int .i64 (0 : Int))), (.lit (.int .u32 (0 : Int))), (.lit (.int .u32 (0 : Int))), (.lit (.slice .none 0 0))]), (.cells 27 [(.lit (.int .u8 (Tl.w x))), (.lit (.int .i64 (IntKind.wrap .i64 (eN (List.getD L (Int.toNat (IntKind.wrap .i64 (i + (1 : Int)))) []))))), (.lit (.int .u32 (Tl.least x))), (.lit (.int .u32 (Tl.most x))), (.gsl 2 (List.length (Tl.l x)) (sRow (Tl.l x)))])])), [((decide ((0 : Int) ≤ i)) && (Nat.blt (Int.toNat i) k)), (okS (bs (List.getD L (Int.toNat (IntKind.wrap .i64 (i + (1 : Int)))) []))), ((decide ((0 : Int) ≤ (IntKind.wrap .i64 (i + (1 : Int))))) && (Nat.blt (Int.toNat (IntKind.wrap .i64 (i + (1 : Int)))) k))]))
 else bif ((ByteArray.toList (bs (List.getD L (Int.toNat i) []))) == (ByteArray.toList (.mk (List.toArray [(65 : UInt8), (76 : UInt8), (76 : UInt8)])))) then
 (.some ((.normal, ([(.lit (.int .u8 w)), (.lit (.string s)), (.ptr 0 0), (.lit (.int .i64 (0 : Int))), (.ptr 1 0), (.gsl 1 k (wRow L)), (.lit (.int .i64 (IntKind.wrap .i64 (i + (2 : Int)))))], [(.cells 27 [(.lit (.int .u8 (0 : Int))), (.lit (.int .i64 (0 : Int))), (.lit (.int .u32 (0 : Int))), (.lit (.int .u32 (0 : Int))), (.lit (.slice .none 0 0))]), (.cells 27 [(.lit (.int .u8 (Tl.w x))), (.lit (.int .i64 (Tl.many x))), (.lit (.int .u32 (Tl.least x))), (.lit (.int .u32 (Tl.most x))), (.gsl 2 (List.length (d3L (List.getD L (Int.toNat (IntKind.wrap .i64 (i + (1 : Int)))) []))) (sRow (d3L (List.getD L (Int.toNat (IntKind.wrap .i64 (i + (1 : Int)))) []))))])])), [(okS (bs (List.getD L (Int.toNat (IntKind.wrap .i64 (i + (1 : Int)))) []))), (okS (bs (List.getD L (Int.toNat (IntKind.wrap .i64 (i + (1 : Int)))) []))), ((decide ((0 : Int) ≤ (IntKind.wrap .i64 (i + (1 : Int))))) && (Nat.blt (Int.toNat (IntKind.wrap .i64 (i + (1 : Int)))) k)), ((decide ((0 : Int) ≤ i)) && (Nat.blt (Int.toNat i) k)), (okS (bs (List.getD L (Int.toNat (IntKind.wrap .i64 (i + (1 : Int)))) []))), ((decide ((0 : Int) ≤ (IntKind.wrap .i64 (i + (1 : Int))))) && (Nat.blt (Int.toNat (IntKind.wrap .i64 (i + (1 : Int)))) k))]))
 else (.some ((.normal, ([(.lit (.int .u8 w)), (.lit (.string s)), (.ptr 0 0), (.lit (.int .i64 (0 : Int))), (.ptr 1 0), (.gsl 1 k (wRow L)), (.lit (.int .i64 (IntKind.wrap .i64 (i + (2 : Int)))))], [(.cells 27 [(.lit (.int .u8 (0 : Int))), (.lit (.int .i64 (0 : Int))), (.lit (.int .u32 (0 : Int))), (.lit (.int .u32 (0 : Int))), (.lit (.slice .none 0 0))]), (.cells 27 [(.lit (.int .u8 (Tl.w x))), (.lit (.int .i64 (Tl.many x))), (.lit (.int .u32 (Tl.least x))), (.lit (.int .u32 (Tl.most x))), (.gsl 2 (List.length (Tl.l x)) (sRow (Tl.l x)))])])), [((decide ((0 : Int) ≤ i)) && (Nat.blt (Int.toNat i) k)), (okS (bs (List.getD L (Int.toNat (IntKind.wrap .i64 (i + (1 : Int)))) []))), ((decide ((0 : Int) ≤ (IntKind.wrap .i64 (i + (1 : Int))))) && (Nat.blt (Int.toNat (IntKind.wrap .i64 (i + (1 : Int)))) k))]))
 else (.some (((.exit 0), ([(.lit (.int .u8 w)), (.lit (.string s)), (.ptr 0 0), (.lit (.int .i64 (0 : Int))), (.ptr 1 0)], [(.cells 27 [(.lit (.int .u8 (0 : Int))), (.lit (.int .i64 (0 : Int))), (.lit (.int .u32 (0 : Int))), (.lit (.int .u32 (0 : Int))), (.lit (.slice .none 0 0))]), (.cells 27 [(.lit (.int .u8 (Tl.w x))), (.lit (.int .i64 (Tl.many x))), (.lit (.int .u32 (Tl.least x))), (.lit (.int .u32 (Tl.most x))), (.gsl 2 (List.length (Tl.l x)) (sRow (Tl.l x)))])])), [])) : Option ((Exit × Kept) × List Bool)) := by
  kernel_rfl
theorem dp_LR (w : Int) (s : ByteArray) (L : List (List UInt8)) (hn : L.length ≤ 4294967290) (hs : ∀ a ∈ L, okS (bs a) = true) : ∀ (r : List (List UInt8)) (i : Nat) (x : Tl), L.drop i = r → i ≤ L.length →
    LR Tryz.prog (Eq6 (GG m t fr)) 60 (GG m t fr) 81 dpOuts .normal (theLoop 0 Tryz.f11) (paIn w s L x i) (.exit 0) (paEnd w s (rdE x r))
  | [], i, x, hr, hi => by
    have h := dp_round m t fr w s x L.length L i
    have hlen := List.drop_eq_nil_iff.1 hr
    have hw : IntKind.i64.wrap ((i : Int) + 1) = ((i + 1 : Nat) : Int) := wrap_succ (by omega)
    have hd : decide (((i + 1 : Nat) : Int) < (L.length : Int)) = false := by simp; omega
    rw [hw, hd] at h
    exact .last (Tr.run_of h rfl) (by simp) (by simp)
  | [a], i, x, hr, hi => by
    have h := dp_round m t fr w s x L.length L i
    obtain ⟨h1, h2, h3⟩ := w_drop hr
    have hlen := List.drop_eq_nil_iff.1 h3
    have hw : IntKind.i64.wrap ((i : Int) + 1) = ((i + 1 : Nat) : Int) := wrap_succ (by omega)
    have hd : decide (((i + 1 : Nat) : Int) < (L.length : Int)) = false := by simp; omega
    rw [hw, hd] at h
    exact .last (Tr.run_of h rfl) (by simp) (by simp)
  | a :: v :: r, i, x, hr, hi => by
    have h := dp_round m t fr w s x L.length L i
    obtain ⟨h1, h2, h3⟩ := w_drop hr
    obtain ⟨k1, k2, k3⟩ := w_drop h3
    have hw : IntKind.i64.wrap ((i : Int) + 1) = ((i + 1 : Nat) : Int) := wrap_succ (by omega)
    have hw2 : IntKind.i64.wrap ((i : Int) + 2) = ((i + 2 : Nat) : Int) := by
      have e : (i : Int) + 2 = ((i + 2 : Nat) : Int) := by omega
      rw [e]
      exact wrap_nat (by omega)
    have hd : decide (((i + 1 : Nat) : Int) < (L.length : Int)) = true := by simp; omega
    have b1 : Nat.blt i L.length = true := by rw [Nat.blt_eq]; exact h1
    have b2 : Nat.blt (i + 1) L.length = true := by rw [Nat.blt_eq]; exact k1
    have b3 : ∀ k : Nat, decide ((0 : Int) ≤ (k : Int)) = true := fun k => by simp
    have hv : okS (bs v) = true := hs v (by rw [← k2]; simp [k1])
    have hi64 : IntKind.i64.wrap (eN v) = eN v := by
      have := (end_fit v).1
      unfold u32N at this
      simp only [Bool.and_eq_true, decide_eq_true_eq] at this
      exact wrap_mid (by omega) (by omega)
    have q1 : ∀ b : List UInt8, (ByteArray.toList (bs b) == ByteArray.toList ⟨[(77 : UInt8), 73, 78].toArray⟩) = decide (b = wMIN) := fun b => by rw [eqB, ls_bs]; rfl
    have q2 : ∀ b : List UInt8, (ByteArray.toList (bs b) == ByteArray.toList ⟨[(77 : UInt8), 65, 88].toArray⟩) = decide (b = wMAX) := fun b => by rw [eqB, ls_bs]; rfl
    have q3 : ∀ b : List UInt8, (ByteArray.toList (bs b) == ByteArray.toList ⟨[(67 : UInt8), 79, 85, 78, 84].toArray⟩) = decide (b = wCOUNT) := fun b => by rw [eqB, ls_bs]; rfl
    have q4 : ∀ b : List UInt8, (ByteArray.toList (bs b) == ByteArray.toList ⟨[(65 : UInt8), 76, 76].toArray⟩) = decide (b = wALL) := fun b => by rw [eqB, ls_bs]; rfl
    rw [hw, hw2, hd] at h
    simp only [Int.toNat_natCast, h2, k2, b1, b2, b3, hv, hi64, q1, q2, q3, q4] at h
    have key := dp_LR w s L hn hs r (i + 2) (rdD x a v) k3 (by omega)
    rw [rdE]
    unfold rdD at key ⊢
    cases c1 : decide (a = wMIN) with
    | true => rw [c1] at h key; exact .more (Tr.run_of h rfl) key
    | false =>
      rw [c1] at h key
      cases c2 : decide (a = wMAX) with
      | true => rw [c2] at h key; exact .more (Tr.run_of h rfl) key
      | false =>
        rw [c2] at h key
        cases c3 : decide (a = wCOUNT) with
        | true => rw [c3] at h key; exact .more (Tr.run_of h rfl) key
        | false =>
          rw [c3] at h key
          cases c4 : decide (a = wALL) with
          | true => rw [c4] at h key; exact .more (Tr.run_of h rfl) key
          | false => rw [c4] at h key; exact .more (Tr.run_of h rfl) key
def dpZ (w : Int) (n : Nat) (f : Nat → List PV) : Tl := rdE ⟨w, 0, 0, 0, []⟩ (wdsOf n f)
def dpF : Kept → Tr (Exit × Kept)
  | ([.lit (.int .u8 w), .lit (.string s), .ptr 0 0, .lit (.int .i64 0), .ptr 1 0, .gsl 1 n f, .lit (.int .i64 0)], [.cells ty0 [.lit (.int .u8 0), .lit (.int .i64 0), .lit (.int .u32 0), .lit (.int .u32 0), .lit (.slice none 0 0)], .cells ty [.lit (.int .u8 w1), .lit (.int .i64 0), .lit (.int .u32 0), .lit (.int .u32 0), .lit (.slice none 0 0)]]) =>
    match Nat.beq ty0 27 && Nat.beq ty 27 with
    | true => .br (areWds n f && Nat.ble n 4294967290) (.leaf (.exit 0, paEnd w s (dpZ w1 n f))) .fail
    | false => .fail
  | _ => .fail
theorem dpF_ok (k : Kept) (e : Exit) (y : Kept) (h : (dpF k).run = some (e, y)) : LR Tryz.prog (Eq6 (GG m t fr)) 60 (GG m t fr) 81 dpOuts .normal (theLoop 0 Tryz.f11) k e y := by
  unfold dpF at h
  split at h
  · rename_i w s n f ty0 ty w1
    split at h
    · rename_i hty
      simp only [Bool.and_eq_true] at hty
      obtain rfl := Nat.eq_of_beq_eq_true hty.1
      obtain rfl := Nat.eq_of_beq_eq_true hty.2
      have hb := br_run h
      clear h
      obtain ⟨hc, h⟩ := hb
      simp only [Bool.and_eq_true, Nat.ble_eq] at hc
      simp only [Tr.run, Option.some.injEq, Prod.mk.injEq] at h
      obtain ⟨rfl, rfl⟩ := h
      have hL := wds_len n f
      have key := dp_LR (m := m) (t := t) (fr := fr) w s (wdsOf n f) (by omega) (fun a ha => by
        simp only [wdsOf, strsOf, List.map_map, List.mem_map, List.mem_range] at ha
        obtain ⟨i, hi, rfl⟩ := ha
        have := List.all_eq_true.1 hc.1 i (List.mem_range.2 hi)
        simp only [Bool.and_eq_true] at this
        show okS (bs (ls (strOf (f i)))) = true
        rw [bs_ls]
        exact this.2) (wdsOf n f) 0 ⟨w1, 0, 0, 0, []⟩ rfl (Nat.zero_le _)
      refine .le ⟨PLeL.cons (.refl _) (PLeL.cons (.refl _) (PLeL.cons (.refl _) (PLeL.cons (.refl _) (PLeL.cons (.refl _) (PLeL.cons (PLe.gsl hL.symm (wds_row hc.1)) (.refl _)))))), BLeL.cons (.refl _) (BLeL.cons (.cells _ (PLeL.cons (.refl _) (PLeL.cons (.refl _) (PLeL.cons (.refl _) (PLeL.cons (.refl _) (PLeL.cons (PLe.nil 2 _) .nil)))))) .nil)⟩ key
    · cases h
  · cases h
noncomputable abbrev dpCut (G : GT) := cutOf G 81 dpOuts 0 dpF
theorem rparse_raw_v (m : Int) (t : TypeId) (fr : Nat × Nat) (w : Int) (s : ByteArray) : ((fnPure Tryz.prog ((Eq6 (GG m t fr)).withCuts (cut1 0 (dpCut (GG m t fr)))) 60 Tryz.f11 (GG m t fr) [.lit (.int .u8 w), str s])).val =
 (bif (decide (w > (15 : Int))) then
 (.some (.tup [(.agg [(.lit (.int .u8 (0 : Int))), (.lit (.int .i64 (0 : Int))), (.lit (.int .u32 (0 : Int))), (.lit (.int .u32 (0 : Int))), (.lit (.slice .none 0 0))]), (.lit (.int .i64 (1 : Int)))]))
 else bif (ckP (Tl.w (dpZ w (List.length (splitC (32 : UInt8) (ls s))) (wdR (splitC (32 : UInt8) (ls s))))) (Tl.many (dpZ w (List.length (splitC (32 : UInt8) (ls s))) (wdR (splitC (32 : UInt8) (ls s))))) (Tl.least (dpZ w (List.length (splitC (32 : UInt8) (ls s))) (wdR (splitC (32 : UInt8) (ls s))))) (Tl.most (dpZ w (List.length (splitC (32 : UInt8) (ls s))) (wdR (splitC (32 : UInt8) (ls s))))) (spsOf (List.length (Tl.l (dpZ w (List.length (splitC (32 : UInt8) (ls s))) (wdR (splitC (32 : UInt8) (ls s)))))) (sRow (Tl.l (dpZ w (List.length (splitC (32 : UInt8) (ls s))) (wdR (splitC (32 : UInt8) (ls s)))))))) then
 bif (!((ByteArray.toList (bs (twS (Tl.w (dpZ w (List.length (splitC (32 : UInt8) (ls s))) (wdR (splitC (32 : UInt8) (ls s))))) (Tl.many (dpZ w (List.length (splitC (32 : UInt8) (ls s))) (wdR (splitC (32 : UInt8) (ls s))))) (Tl.least (dpZ w (List.length (splitC (32 : UInt8) (ls s))) (wdR (splitC (32 : UInt8) (ls s))))) (Tl.most (dpZ w (List.length (splitC (32 : UInt8) (ls s))) (wdR (splitC (32 : UInt8) (ls s))))) (spsOf (List.length (Tl.l (dpZ w (List.length (splitC (32 : UInt8) (ls s))) (wdR (splitC (32 : UInt8) (ls s)))))) (sRow (Tl.l (dpZ w (List.length (splitC (32 : UInt8) (ls s))) (wdR (splitC (32 : UInt8) (ls s)))))))))) == (ByteArray.toList s))) then
 (.some (.tup [(.agg [(.lit (.int .u8 (0 : Int))), (.lit (.int .i64 (0 : Int))), (.lit (.int .u32 (0 : Int))), (.lit (.int .u32 (0 : Int))), (.lit (.slice .none 0 0))]), (.lit (.int .i64 (7 : Int)))]))
 else (.some (.tup [(.agg [(.lit (.int .u8 (Tl.w (dpZ w (List.length (splitC (32 : UInt8) (ls s))) (wdR (splitC (32 : UInt8) (ls s))))))), (.lit (.int .i64 (Tl.many (dpZ w (List.length (splitC (32 : UInt8) (ls s))) (wdR (splitC (32 : UInt8) (ls s))))))), (.lit (.int .u32 (Tl.least (dpZ w (List.length (splitC (32 : UInt8) (ls s))) (wdR (splitC (32 : UInt8) (ls s))))))), (.lit (.int .u32 (Tl.most (dpZ w (List.length (splitC (32 : UInt8) (ls s))) (wdR (splitC (32 : UInt8) (ls s))))))), (.gsl 2 (List.length (Tl.l (dpZ w (List.length (splitC (32 : UInt8) (ls s))) (wdR (splitC (32 : UInt8) (ls s)))))) (sRow (Tl.l (dpZ w (List.length (splitC (32 : UInt8) (ls s))) (wdR (splitC (32 : UInt8) (ls s)))))))]), (.lit (.int .i64 (0 : Int)))]))
 else (.some (.tup [(.agg [(.lit (.int .u8 (0 : Int))), (.lit (.int .i64 (0 : Int))), (.lit (.int .u32 (0 : Int))), (.lit (.int .u32 (0 : Int))), (.lit (.slice .none 0 0))]), (.lit (.int .i64 (7 : Int)))])) : Option PV) := by
  kernel_rfl
theorem rparse_raw_c (m : Int) (t : TypeId) (fr : Nat × Nat) (w : Int) (s : ByteArray) : ((fnPure Tryz.prog ((Eq6 (GG m t fr)).withCuts (cut1 0 (dpCut (GG m t fr)))) 60 Tryz.f11 (GG m t fr) [.lit (.int .u8 w), str s])).conds =
 (bif (decide (w > (15 : Int))) then
 true
 else bif (okS s) then
 bif (okS s) then
 bif ((areWds (List.length (splitC (32 : UInt8) (ls s))) (wdR (splitC (32 : UInt8) (ls s)))) && (Nat.ble (List.length (splitC (32 : UInt8) (ls s))) (4294967290 : Nat))) then
 bif (tlB (Tl.w (dpZ w (List.length (splitC (32 : UInt8) (ls s))) (wdR (splitC (32 : UInt8) (ls s))))) (Tl.least (dpZ w (List.length (splitC (32 : UInt8) (ls s))) (wdR (splitC (32 : UInt8) (ls s))))) (Tl.most (dpZ w (List.length (splitC (32 : UInt8) (ls s))) (wdR (splitC (32 : UInt8) (ls s))))) (List.length (Tl.l (dpZ w (List.length (splitC (32 : UInt8) (ls s))) (wdR (splitC (32 : UInt8) (ls s)))))) (sRow (Tl.l (dpZ w (List.length (splitC (32 : UInt8) (ls s))) (wdR (splitC (32 : UInt8) (ls s))))))) then
 bif (ckP (Tl.w (dpZ w (List.length (splitC (32 : UInt8) (ls s))) (wdR (splitC (32 : UInt8) (ls s))))) (Tl.many (dpZ w (List.length (splitC (32 : UInt8) (ls s))) (wdR (splitC (32 : UInt8) (ls s))))) (Tl.least (dpZ w (List.length (splitC (32 : UInt8) (ls s))) (wdR (splitC (32 : UInt8) (ls s))))) (Tl.most (dpZ w (List.length (splitC (32 : UInt8) (ls s))) (wdR (splitC (32 : UInt8) (ls s))))) (spsOf (List.length (Tl.l (dpZ w (List.length (splitC (32 : UInt8) (ls s))) (wdR (splitC (32 : UInt8) (ls s)))))) (sRow (Tl.l (dpZ w (List.length (splitC (32 : UInt8) (ls s))) (wdR (splitC (32 : UInt8) (ls s)))))))) then
 bif (!((ByteArray.toList (bs (twS (Tl.w (dpZ w (List.length (splitC (32 : UInt8) (ls s))) (wdR (splitC (32 : UInt8) (ls s))))) (Tl.many (dpZ w (List.length (splitC (32 : UInt8) (ls s))) (wdR (splitC (32 : UInt8) (ls s))))) (Tl.least (dpZ w (List.length (splitC (32 : UInt8) (ls s))) (wdR (splitC (32 : UInt8) (ls s))))) (Tl.most (dpZ w (List.length (splitC (32 : UInt8) (ls s))) (wdR (splitC (32 : UInt8) (ls s))))) (spsOf (List.length (Tl.l (dpZ w (List.length (splitC (32 : UInt8) (ls s))) (wdR (splitC (32 : UInt8) (ls s)))))) (sRow (Tl.l (dpZ w (List.length (splitC (32 : UInt8) (ls s))) (wdR (splitC (32 : UInt8) (ls s)))))))))) == (ByteArray.toList s))) then
 true
 else true
 else true
 else false
 else false
 else false
 else false : Bool) := by
  kernel_rfl
end
end Go.Proofs.YtcdghinmmhcfcaaGreatDoor.Ev

/- What is written is read by the document as it was. No condition. -/
namespace Go.Proofs.YtcdghinmmhcfcaaGreatDoor.Ev
open Go Go.RowKit Go.Proofs Go.Proofs.YtcdghinmmhcfcaaGreatDoor.Str
set_option linter.unusedVariables false
set_option linter.unusedSimpArgs false
theorem en_stop {r : List UInt8} (n i : Nat) (h : r = [] ∨ (r.getD 0 0).toNat < 48 ∨ 57 < (r.getD 0 0).toNat) : enL r n i = (n, i) := by
  cases r with
  | nil => rfl
  | cons c r =>
    rw [enL]
    have h : c.toNat < 48 ∨ 57 < c.toNat := by simpa using h
    have : (decide (48 ≤ c.toNat) && (decide (c.toNat ≤ 57) && decide (n ≤ 4294967295))) = false := by
      rcases h with h | h
      · rw [decide_eq_false (by omega)]; rfl
      · rw [decide_eq_false (show ¬ c.toNat ≤ 57 by omega)]; simp
    rw [this, cond_false]
theorem en_digit {d : Nat} (hd : d < 10) (n i : Nat) (hn : n ≤ 4294967295) (r : List UInt8) : enL (UInt8.ofNat (48 + d) :: r) n i = enL r (10 * n + d) (i + 1) := by
  rw [enL, dig_nat hd, decide_eq_true (by omega), decide_eq_true (by omega), decide_eq_true hn, show 48 + d - 48 = d by omega]
  rfl
theorem en_fwd (n : Nat) : ∀ (r : List UInt8) (i : Nat), n ≤ 42949672959 → enL (Lib.decDigits n ++ r) 0 i = enL r n (i + (Lib.decDigits n).length) := by
  induction n using Nat.strongRecOn with
  | ind n ih =>
    intro r i hn
    by_cases h : n < 10
    · rw [Lib.decDigits_one h, List.singleton_append, en_digit h 0 i (by omega)]
      simp
    · have e : Lib.decDigits n = Lib.decDigits (n / 10) ++ [UInt8.ofNat (48 + n % 10)] := by rw [Lib.decDigits, dif_neg h]
      rw [e, List.append_assoc, List.singleton_append, ih (n / 10) (by omega) _ _ (by omega), en_digit (by omega) _ _ (by omega), List.length_append, show 10 * (n / 10) + n % 10 = n by omega]
      rfl
theorem getD_app {l r : List UInt8} (h : l ≠ []) : (l ++ r).getD 0 0 = l.getD 0 0 := by
  cases l with
  | nil => exact absurd rfl h
  | cons c l => rfl
theorem end_fwd {a : Int} (h0 : 0 ≤ a) (h1 : a < 4294967296) {T : List UInt8} (hT : T = [] ∨ T.getD 0 0 = 58 ∨ T.getD 0 0 = 44) : endZ (wordS a ++ T) = some (a, T) := by
  unfold wordS
  by_cases ha : a = 0
  · subst ha
    unfold endZ
    rw [show (((0 : Int) == 0)) = true from rfl, cond_true, decide_eq_false (by simp), cond_false, decide_eq_true (by rfl), cond_true]
    rfl
  · have e0 : (a == 0) = false := by
      rw [beqD]
      exact decide_eq_false ha
    rw [e0, cond_false]
    have hne := dec_ne a.toNat
    have hf := dec_first a.toNat (by omega)
    have hs : T = [] ∨ (T.getD 0 0).toNat < 48 ∨ 57 < (T.getD 0 0).toNat := by
      rcases hT with h | h | h
      · exact .inl h
      · rw [h]; exact .inr (.inr (by decide))
      · rw [h]; exact .inr (.inl (by decide))
    have hen : enL (Lib.decDigits a.toNat ++ T) 0 0 = (a.toNat, (Lib.decDigits a.toNat).length) := by
      rw [en_fwd a.toNat T 0 (by omega), en_stop _ _ hs, Nat.zero_add]
    have hlen : 0 < (Lib.decDigits a.toNat).length := by
      rcases Nat.eq_zero_or_pos (Lib.decDigits a.toNat).length with h | h
      · exact absurd (List.length_eq_zero_iff.1 h) hne
      · exact h
    have g0 : (Lib.decDigits a.toNat ++ T).getD 0 0 = (Lib.decDigits a.toNat).getD 0 0 := getD_app hne
    unfold endZ enN enI
    rw [hen, g0, decide_eq_false (show ¬ (Lib.decDigits a.toNat ++ T = []) by simp [hne])]
    have n42 : ¬ (Lib.decDigits a.toNat).getD 0 0 = 42 := fun e => by rw [e] at hf; revert hf; decide
    have n48 : ¬ (Lib.decDigits a.toNat).getD 0 0 = 48 := fun e => by rw [e] at hf; revert hf; decide
    rw [decide_eq_false n42, decide_eq_false n48]
    dsimp only
    rw [decide_eq_false (show ¬ (Lib.decDigits a.toNat).length = 0 by omega), decide_eq_false (show ¬ ((a.toNat : Nat) : Int) > 4294967295 by omega)]
    simp only [cond_false, List.drop_left, Option.some.injEq, Prod.mk.injEq, and_true]
    omega
theorem en_dec {x : Int} (h0 : 0 ≤ x) (h1 : x < 4294967296) : eN (decI x) = x := by
  unfold decI
  by_cases hx : x = 0
  · subst hx
    rw [show (0 : Int).toNat = 0 from rfl, Lib.decDigits_one (by omega)]
    decide
  · have := end_fwd h0 h1 (T := []) (.inl rfl)
    unfold wordS at this
    have e0 : (x == 0) = false := by
      rw [beqD]
      exact decide_eq_false hx
    rw [e0, cond_false, List.append_nil] at this
    unfold eN
    rw [this]
    rfl
theorem p3_one {x : Sp} (hu : u32B x = true) {T : List UInt8} (hT : T = [] ∨ T.getD 0 0 = 44) : p3S (oneS x ++ T) = some (x, T) := by
  unfold u32B at hu
  simp only [Bool.and_eq_true, decide_eq_true_eq] at hu
  have hT' : T = [] ∨ T.getD 0 0 = 58 ∨ T.getD 0 0 = 44 := by
    rcases hT with h | h
    · exact .inl h
    · exact .inr (.inr h)
  have k := end_fwd hu.2.1 hu.2.2 hT'
  unfold oneS p3S eO eN eR
  cases hb : bne x.2 x.1 with
  | true =>
    have h := end_fwd hu.1.1 hu.1.2 (T := 58 :: (wordS x.2 ++ T)) (.inr (.inl rfl))
    have e : wordS x.1 ++ (bif true then 58 :: wordS x.2 else []) ++ T = wordS x.1 ++ 58 :: (wordS x.2 ++ T) := by simp
    rw [e, h]
    simp only [Option.isSome_some, Option.getD_some, cond_true, List.drop_succ_cons, List.drop_zero, k]
    have c1 : decide (58 :: (wordS x.2 ++ T) = []) = false := decide_eq_false (by simp)
    have c2 : decide ((58 :: (wordS x.2 ++ T)).getD 0 0 = 58) = true := decide_eq_true rfl
    rw [c1, c2]
    rfl
  | false =>
    have hx : x.2 = x.1 := by
      unfold bne at hb
      simpa using hb
    have h := end_fwd hu.1.1 hu.1.2 hT'
    rw [cond_false, List.append_nil, h]
    simp only [Option.isSome_some, Option.getD_some, cond_true]
    have c1 : (!(decide (T = [])) && decide (T.getD 0 0 = 58)) = false := by
      rcases hT with h | h
      · rw [decide_eq_true h]; rfl
      · rw [h]; simp
    rw [c1, cond_false]
    have : x = (x.1, x.1) := Prod.ext rfl hx
    rw [← this]
def tl3 (r : List Sp) : List UInt8 := r.flatMap fun x => 44 :: oneS x
theorem tl3_head (r : List Sp) : tl3 r = [] ∨ (tl3 r).getD 0 0 = 44 := by
  cases r with
  | nil => exact .inl rfl
  | cons y r => exact .inr rfl
theorem p3_fwd : ∀ (r : List Sp) (x : Sp) (o : List Sp) (k : Nat), (x :: r).all u32B = true → (oneS x ++ tl3 r).length < k → p3F k (oneS x ++ tl3 r) o = some (o ++ x :: r)
  | r, x, o, 0, hu, hk => absurd hk (by omega)
  | [], x, o, k + 1, hu, hk => by
    simp only [List.all_cons, Bool.and_eq_true] at hu
    rw [p3F, p3_one hu.1 (tl3_head [])]
    rfl
  | y :: r, x, o, k + 1, hu, hk => by
    simp only [List.all_cons, Bool.and_eq_true] at hu
    have e : tl3 (y :: r) = 44 :: (oneS y ++ tl3 r) := by simp [tl3]
    rw [p3F, p3_one hu.1 (tl3_head (y :: r))]
    rw [e] at hk
    simp only [List.length_append, List.length_cons] at hk
    have c1 : decide (44 :: (oneS y ++ tl3 r) = []) = false := decide_eq_false (by simp)
    have c2 : decide ((44 :: (oneS y ++ tl3 r)).getD 0 0 = 44) = true := decide_eq_true rfl
    simp only [e, c1, c2, cond_true, cond_false, List.drop_succ_cons, List.drop_zero]
    rw [p3_fwd r y (o ++ [x]) k (by simp only [List.all_cons, Bool.and_eq_true]; exact hu.2) (by rw [List.length_append]; omega)]
    simp
theorem d3_back {l : List Sp} (hu : l.all u32B = true) (hne : l ≠ []) (hl : l.length ≤ 1024) : d3L (writeS l) = l := by
  cases l with
  | nil => exact absurd rfl hne
  | cons x r =>
    have e : writeS (x :: r) = oneS x ++ tl3 r := by rw [← wj_join, wj_eq]; rfl
    have h := p3_fwd r x [] ((oneS x ++ tl3 r).length + 1) hu (by omega)
    unfold d3L p3K p3L p3Z
    rw [e, h]
    rw [List.nil_append, Option.isSome_some, Option.getD_some, Nat.ble_eq_true_of_le hl]
    rfl
theorem rd_two' (x : Tl) (b : Bool) (a v : List UInt8) (R : List (List UInt8)) : rdE x ((bif b then [a, v] else []) ++ R) = rdE (bif b then rdD x a v else x) R := by
  cases b <;> rfl
theorem rd_split' (x : Tl) {L : List (List UInt8)} (h : ∀ y ∈ L, (32 : UInt8) ∉ y) : rdE x (splitC 32 (joinC 32 L)) = rdE x L := by
  by_cases hL : L = []
  · subst hL
    rfl
  · rw [split_join 32 L hL h]
theorem dparse_back {x : Tl} (hl : u32N x.least = true) (hm : u32N x.most = true) (hs : x.l.all u32B = true) (h : ckT x = true) : dtT x.w (twT x) = x := by
  obtain ⟨w, many, least, most, l⟩ := x
  obtain ⟨f1, f2, f3, f4, f5, f6⟩ := ck_facts8 h
  unfold u32N at hl hm
  simp only [Bool.and_eq_true, decide_eq_true_eq] at hl hm
  dsimp only at *
  have n32 : ∀ y : Int, (32 : UInt8) ∉ decI y := fun y => no_byte (by decide)
  have hfree : ∀ y ∈ twL w many least most l, (32 : UInt8) ∉ y := by
    intro y hy
    unfold twL at hy
    simp only [List.mem_append] at hy
    rcases hy with hy | hy | hy | hy
    · cases hb : decide (least > 0) with
      | false => rw [hb] at hy; cases hy
      | true =>
        rw [hb] at hy
        simp only [cond_true, List.mem_cons, List.not_mem_nil, or_false] at hy
        rcases hy with rfl | rfl
        · decide
        · exact n32 _
    · cases hb : decide (most > 0) with
      | false => rw [hb] at hy; cases hy
      | true =>
        rw [hb] at hy
        simp only [cond_true, List.mem_cons, List.not_mem_nil, or_false] at hy
        rcases hy with rfl | rfl
        · decide
        · exact n32 _
    · cases hb : decide ((l.length : Int) > 0) with
      | false => rw [hb] at hy; cases hy
      | true =>
        rw [hb] at hy
        simp only [cond_true, List.mem_cons, List.not_mem_nil, or_false] at hy
        rcases hy with rfl | rfl
        · decide
        · exact write_free
    · cases hb : wb w 8 with
      | false => rw [hb] at hy; cases hy
      | true =>
        rw [hb] at hy
        simp only [cond_true, List.mem_cons, List.not_mem_nil, or_false] at hy
        rcases hy with rfl | rfl
        · decide
        · exact n32 _
  show rdE ⟨w, 0, 0, 0, []⟩ (splitC 32 (joinC 32 (twL w many least most l))) = _
  rw [rd_split' _ hfree]
  unfold twL
  have s1 : (bif decide (least > 0) then rdD ⟨w, 0, 0, 0, []⟩ wMIN (decI least) else ⟨w, 0, 0, 0, []⟩) = (⟨w, 0, least, 0, []⟩ : Tl) := by
    by_cases hb : least > 0
    · rw [decide_eq_true hb, cond_true]
      unfold rdD
      rw [en_dec hl.1 hl.2, decide_eq_true (rfl : wMIN = wMIN), cond_true]
    · rw [decide_eq_false hb, cond_false]
      have : least = 0 := by omega
      rw [this]
  have s2 : (bif decide (most > 0) then rdD ⟨w, 0, least, 0, []⟩ wMAX (decI most) else ⟨w, 0, least, 0, []⟩) = (⟨w, 0, least, most, []⟩ : Tl) := by
    by_cases hb : most > 0
    · rw [decide_eq_true hb, cond_true]
      unfold rdD
      rw [en_dec hm.1 hm.2, decide_eq_true (rfl : wMAX = wMAX), (by decide : decide (wMAX = wMIN) = false), cond_true, cond_false]
    · rw [decide_eq_false hb, cond_false]
      have : most = 0 := by omega
      rw [this]
  have s3 : (bif decide ((l.length : Int) > 0) then rdD ⟨w, 0, least, most, []⟩ wALL (writeS l) else ⟨w, 0, least, most, []⟩) = (⟨w, 0, least, most, l⟩ : Tl) := by
    by_cases hb : (l.length : Int) > 0
    · have hne : l ≠ [] := fun e => by rw [e] at hb; simp at hb
      rw [decide_eq_true hb, cond_true]
      unfold rdD
      rw [d3_back hs hne f5, decide_eq_true (rfl : wALL = wALL), (by decide : decide (wALL = wMIN) = false), (by decide : decide (wALL = wMAX) = false), (by decide : decide (wALL = wCOUNT) = false)]
      rfl
    · rw [decide_eq_false hb, cond_false]
      have : l = [] := List.eq_nil_of_length_eq_zero (by omega)
      rw [this]
  have s4 : (bif wb w 8 then rdD ⟨w, 0, least, most, l⟩ wCOUNT (decI many) else ⟨w, 0, least, most, l⟩) = (⟨w, many, least, most, l⟩ : Tl) := by
    cases hb : wb w 8 with
    | true =>
      rw [cond_true]
      unfold rdD
      rw [en_dec f2 (by omega), decide_eq_true (rfl : wCOUNT = wCOUNT), (by decide : decide (wCOUNT = wMIN) = false), (by decide : decide (wCOUNT = wMAX) = false)]
      rfl
    | false =>
      rw [cond_false, f6 hb]
  have e : (bif wb w 8 then [wCOUNT, decI many] else []) = (bif wb w 8 then [wCOUNT, decI many] else []) ++ ([] : List (List UInt8)) := by simp
  rw [e, rd_two', s1, rd_two', s2, rd_two', s3, rd_two', s4]
  rfl
/-- the document's tally of a text is the program's -/
def dtOk (w : Int) (l : List UInt8) : Bool := ckT (dtT w l) && decide (twT (dtT w l) = l)
theorem dt_is (w : Int) (l : List UInt8) : dtOk w l = ptOk w l ∧ (ptOk w l = true → dtT w l = ptT w l) := by
  obtain ⟨f1, f2, f3, f4, f5⟩ := ptT_fit w l
  obtain ⟨g1, ⟨g2, g3⟩, g4, g5⟩ := dtT_fit w l
  have a : ptOk w l = true → dtT w l = ptT w l := fun h => by
    unfold ptOk at h
    simp only [Bool.and_eq_true, decide_eq_true_eq] at h
    have := dparse_back f3 f4 f5 h.1
    rw [f1, h.2] at this
    exact this
  have b : dtOk w l = true → ptT w l = dtT w l := fun h => by
    unfold dtOk at h
    simp only [Bool.and_eq_true, decide_eq_true_eq] at h
    have := parse_back g4 g5 g3 h.1
    rw [g1, h.2] at this
    exact this
  refine ⟨?_, a⟩
  cases h1 : ptOk w l with
  | true =>
    unfold dtOk
    rw [a h1]
    exact h1
  | false =>
    cases h2 : dtOk w l with
    | false => rfl
    | true =>
      have := b h2
      unfold dtOk at h2
      rw [← this] at h2
      exact absurd (show ptOk w l = true from h2) (by rw [h1]; decide)
end Go.Proofs.YtcdghinmmhcfcaaGreatDoor.Ev

/- The document's tally of a text is the program's. No condition. -/
namespace Go.Proofs.YtcdghinmmhcfcaaGreatDoor.Ev
open Go Go.RowKit Go.Proofs Go.Proofs.YtcdghinmmhcfcaaGreatDoor.Str
set_option linter.unusedVariables false
set_option linter.unusedSimpArgs false
theorem wd_row (L : List (List UInt8)) : wdsOf L.length (wdR L) = L := by
  unfold wdsOf strsOf
  rw [List.map_map]
  refine List.ext_getElem (by simp) fun i h1 h2 => ?_
  simp only [List.getElem_map, List.getElem_range, Function.comp_apply]
  show ls (bs (L.getD i [])) = _
  rw [ls_bs]
  simp [h2]
theorem wd_are {L : List (List UInt8)} (h : ∀ a ∈ L, okS (bs a) = true) : areWds L.length (wdR L) = true := by
  unfold areWds
  refine List.all_eq_true.2 fun i hi => ?_
  have hi := List.mem_range.1 hi
  show okS (bs (L.getD i [])) = true
  refine h _ ?_
  simp [hi]
section
variable {m : Int} {t : TypeId} {fr : Nat × Nat}
theorem rparse_ok : PureOK Tryz.prog (GG m t fr) 11 tparseG := by
  refine PureOK.of (fn_cuts mixed Eq6_ok (fn := Tryz.f11) (cuts := cut1 0 (dpCut (GG m t fr))) (by kernel_rfl) (CutLaws.one (by omega) (by kernel_rfl) fun st e st' h => cutOf_ok Eq6_ok mixed (noCuts_ok (envOf_cuts ..) _) dpF_ok h)) fun ps p hp => ?_
  unfold tparseG at hp
  split at hp
  · rename_i w s
    obtain ⟨hb, hp⟩ := br_run hp
    simp only [Bool.and_eq_true] at hb
    obtain ⟨hs, hw0, hw1⟩ := hb
    have hv := rparse_raw_v m t fr w s
    have hc := rparse_raw_c m t fr w s
    have e1 : dpZ w (splitC 32 (ls s)).length (wdR (splitC 32 (ls s))) = dtT w (ls s) := by
      unfold dpZ dtT
      rw [wd_row]
    have hlen := okS_le hs
    have hl0 := ls_len s
    have hcnt : Nat.ble (splitC 32 (ls s)).length 4294967290 = true := by
      refine Nat.ble_eq_true_of_le ?_
      have h1 := splitC_count 32 (ls s)
      omega
    have hare : areWds (splitC 32 (ls s)).length (wdR (splitC 32 (ls s))) = true := wd_are fun a ha => okS_of (by
      rw [bs_len]
      have := splitC_len 32 (ls s) a ha
      omega)
    obtain ⟨f1, ⟨f2, f5⟩, f3, f4⟩ := dtT_fit w (ls s)
    have ht : tlB (dtT w (ls s)).w (dtT w (ls s)).least (dtT w (ls s)).most (dtT w (ls s)).l.length (sRow (dtT w (ls s)).l) = true := by
      have hl : Nat.ble (dtT w (ls s)).l.length 4294967280 = true := Nat.ble_eq_true_of_le (by omega)
      unfold tlB
      rw [f1, hw0, hw1, f3, f4, are_sRow f5, hl]
      rfl
    simp only [e1, sps_sRow] at hv hc
    rw [hs, hare, hcnt, ht] at hc
    simp only [Tr.run] at hp
    have e2 : ∀ z : Tl, ckP z.w z.many z.least z.most z.l = ckT z := fun _ => rfl
    have e3 : ∀ z : Tl, twS z.w z.many z.least z.most z.l = twT z := fun _ => rfl
    have e4 : (ByteArray.toList (bs (twT (dtT w (ls s)))) == ByteArray.toList s) = decide (twT (dtT w (ls s)) = ls s) := by rw [eqB, ls_bs]
    rw [← aN_gt ⟨of_decide_eq_true hw0, of_decide_eq_true hw1⟩, e2, e3, e4] at hv hc
    obtain ⟨d1, d2⟩ := dt_is w (ls s)
    cases c1 : aN w with
    | true =>
      rw [c1] at hv hc hp
      simp only [cond_true, Option.some.injEq] at hp
      subst hp
      exact ⟨_, Tr.run_vc hv hc rfl rfl, PLe.of_eq rfl⟩
    | false =>
      rw [c1, ← d1] at hp
      rw [c1] at hv hc
      unfold dtOk at hp d1
      cases c2 : ckT (dtT w (ls s)) with
      | false =>
        rw [c2] at hv hc hp
        simp only [cond_false, Bool.false_and, Option.some.injEq] at hp
        subst hp
        exact ⟨_, Tr.run_vc hv hc rfl rfl, PLe.of_eq rfl⟩
      | true =>
        rw [c2] at hv hc hp d1
        cases c3 : decide (twT (dtT w (ls s)) = ls s) with
        | false =>
          rw [c3] at hv hc hp
          simp only [cond_false, Bool.and_false, Option.some.injEq] at hp
          subst hp
          exact ⟨_, Tr.run_vc hv hc rfl rfl, PLe.of_eq rfl⟩
        | true =>
          rw [c3] at hv hc hp d1
          have d3 := d2 d1.symm
          simp only [cond_false, cond_true, Bool.and_true, Option.some.injEq] at hp
          subst hp
          rw [← d3]
          exact ⟨_, Tr.run_vc hv hc rfl rfl, PLe.of_eq rfl⟩
  · cases hp
end
end Go.Proofs.YtcdghinmmhcfcaaGreatDoor.Ev

/- The document's Check of a list; its tally of numbers as evaluated. No condition. -/
namespace Go.Proofs.YtcdghinmmhcfcaaGreatDoor.Ev
open Go Go.RowKit Go.Proofs Go.Proofs.YtcdghinmmhcfcaaGreatDoor.Str
set_option linter.unusedVariables false
set_option linter.unusedSimpArgs false
section
variable {m : Int} {t : TypeId} {fr : Nat × Nat}
theorem pd_LR13 (ns : List Int) (hn : ns.length ≤ 4294967280) : ∀ (s : List Int) (i : Nat) (a : Int), 0 < i → ns.drop (i - 1) = a :: s →
    LR Tryz.prog (E21 (GG m t fr)) 60 (GG m t fr) 27 pdcOuts .normal (theLoop 0 Tryz.f27) ([.gsl 1 ns.length (nRow ns), int ns.length, int i], []) (pcEnd ns (upB (a :: s))).1 (pcEnd ns (upB (a :: s))).2
  | [], i, a, h0, hr => by
    have h := pdc_round m t fr ns ns.length ns.length i
    obtain ⟨hlt, hx, hdr⟩ := nu_drop hr
    have hlen := List.drop_eq_nil_iff.1 hdr
    have hd : decide ((i : Int) < (ns.length : Int)) = false := by simp; omega
    rw [hd] at h
    exact .last (Tr.run_of h rfl) (by simp [pcEnd, upB]) (by simp [pcEnd, upB])
  | b :: s, i, a, h0, hr => by
    have h := pdc_round m t fr ns ns.length ns.length i
    obtain ⟨hlt, hx, hdr⟩ := nu_drop hr
    have ei : i - 1 + 1 = i := by omega
    rw [ei] at hdr
    obtain ⟨klt, kx, kdr⟩ := nu_drop hdr
    have hd : decide ((i : Int) < (ns.length : Int)) = true := by simp; omega
    have hd0 : decide ((i : Int) > (0 : Int)) = true := by simp; omega
    have hw : IntKind.i64.wrap ((i : Int) + 1) = ((i + 1 : Nat) : Int) := wrap_succ (by omega)
    have hw2 : IntKind.i64.wrap ((i : Int) - 1) = ((i - 1 : Nat) : Int) := by
      have e : (i : Int) - 1 = ((i - 1 : Nat) : Int) := by omega
      rw [e]
      exact wrap_nat (by omega)
    have b1 : Nat.blt i ns.length = true := by rw [Nat.blt_eq]; exact klt
    have b2 : Nat.blt (i - 1) ns.length = true := by rw [Nat.blt_eq]; exact hlt
    have b3 : ∀ k : Nat, decide ((0 : Int) ≤ (k : Int)) = true := fun k => by simp
    rw [hd, hd0, hw, hw2, Int.toNat_natCast, Int.toNat_natCast, hx, kx, b1, b2, b3, b3] at h
    by_cases hle : b ≤ a
    · rw [decide_eq_true hle] at h
      have e : upB (a :: b :: s) = false := by
        rw [upB, decide_eq_false (by omega)]
        rfl
      rw [e]
      show LR _ _ _ _ _ _ _ _ _ .ret ([int 12], [])
      exact .last (Tr.run_of h rfl) (by simp) (by simp)
    · rw [decide_eq_false hle] at h
      have e : upB (a :: b :: s) = upB (b :: s) := by
        rw [upB, decide_eq_true (by omega), Bool.true_and]
      rw [e]
      exact .more (Tr.run_of h rfl) (pd_LR13 ns hn s (i + 1) b (by omega) (by rw [Nat.add_sub_cancel]; exact hdr))
def pdF13 : Kept → Tr (Exit × Kept)
  | ([.gsl 1 n f, .lit (.int .i64 u), .lit (.int .i64 0)], []) => .br (areNums n f && decide (u = (n : Int)) && Nat.ble n 4294967280) (.br (upB (numsOf n f)) (.leaf (.exit 0, ([.gsl 1 n (nRow (numsOf n f))], []))) (.leaf (.ret, ([int 12], [])))) .fail
  | _ => .fail
theorem pdF13_ok (k : Kept) (e : Exit) (y : Kept) (h : (pdF13 k).run = some (e, y)) : LR Tryz.prog (E21 (GG m t fr)) 60 (GG m t fr) 27 pdcOuts .normal (theLoop 0 Tryz.f27) k e y := by
  unfold pdF13 at h
  split at h
  · rename_i n f u
    have hb := br_run h
    clear h
    obtain ⟨hc, h⟩ := hb
    simp only [Bool.and_eq_true, Nat.ble_eq, decide_eq_true_eq] at hc
    obtain ⟨⟨hf, rfl⟩, hn⟩ := hc
    have hL := nums_len n f
    have hin : KLe ([.gsl 1 n f, int (n : Int), int 0], []) ([.gsl 1 (numsOf n f).length (nRow (numsOf n f)), int (numsOf n f).length, int (0 : Nat)], []) := by
      refine ⟨PLeL.cons (PLe.gsl hL.symm (nums_row hf)) (PLeL.cons (PLe.of_eq ?_) (.refl _)), .refl _⟩
      rw [hL]
    have hout : KLe ([.gsl 1 (numsOf n f).length (nRow (numsOf n f))], []) ([.gsl 1 n (nRow (numsOf n f))], []) := ⟨PLeL.cons (PLe.gsl hL fun _ _ => rfl) .nil, .refl _⟩
    simp only [Tr.run] at h
    have key : LR Tryz.prog (E21 (GG m t fr)) 60 (GG m t fr) 27 pdcOuts .normal (theLoop 0 Tryz.f27) ([.gsl 1 (numsOf n f).length (nRow (numsOf n f)), int (numsOf n f).length, int (0 : Nat)], []) (pcEnd (numsOf n f) (upB (numsOf n f))).1 (pcEnd (numsOf n f) (upB (numsOf n f))).2 := by
      cases hq : numsOf n f with
      | nil =>
        have h2 := pdc_round m t fr [] 0 0 0
        exact .last (Tr.run_of h2 rfl) (by simp [pcEnd, upB]) (by simp [pcEnd, upB])
      | cons a s =>
        rw [← hq]
        have hl : (numsOf n f).length = s.length + 1 := by rw [hq]; rfl
        have h2 := pdc_round m t fr (numsOf n f) (numsOf n f).length (numsOf n f).length (0 : Nat)
        have hd : decide (((0 : Nat) : Int) < ((numsOf n f).length : Int)) = true := by simp; omega
        have hd0 : decide (((0 : Nat) : Int) > (0 : Int)) = false := by simp
        have hw : IntKind.i64.wrap (((0 : Nat) : Int) + 1) = ((1 : Nat) : Int) := rfl
        rw [hd, hd0, hw] at h2
        have := pd_LR13 (m := m) (t := t) (fr := fr) (numsOf n f) (by omega) s 1 a (by omega) hq
        rw [← hq] at this
        exact .more (Tr.run_of h2 rfl) this
    cases c : upB (numsOf n f) with
    | true =>
      rw [c] at h key
      simp only [cond_true, Option.some.injEq, Prod.mk.injEq] at h
      obtain ⟨rfl, rfl⟩ := h
      exact .le hin (.out key hout)
    | false =>
      rw [c] at h key
      simp only [cond_false, Option.some.injEq, Prod.mk.injEq] at h
      obtain ⟨rfl, rfl⟩ := h
      exact .le hin key
  · cases h
noncomputable abbrev pdCut13 (G : GT) := cutOf G 27 pdcOuts 0 pdF13
theorem rpost_raw (m : Int) (t : TypeId) (fr : Nat × Nat) (n : Nat) (f : Nat → List PV) : (fnPure Tryz.prog ((E21 (GG m t fr)).withCuts (cut1 0 (pdCut13 (GG m t fr)))) 60 Tryz.f27 (GG m t fr) [.gsl 1 n f]).run2 =
 (bif (upB (numsOf n f)) then
 bif (decide (((n : Nat) : Int) > (65536 : Int))) then
 (.some ((.lit (.int .i64 (15 : Int))), [(((areNums n f) && (decide (((n : Nat) : Int) = ((n : Nat) : Int)))) && (Nat.ble n (4294967280 : Nat)))]))
 else (.some ((.lit (.int .i64 (0 : Int))), [(((areNums n f) && (decide (((n : Nat) : Int) = ((n : Nat) : Int)))) && (Nat.ble n (4294967280 : Nat)))]))
 else (.some ((.lit (.int .i64 (12 : Int))), [(((areNums n f) && (decide (((n : Nat) : Int) = ((n : Nat) : Int)))) && (Nat.ble n (4294967280 : Nat)))])) : Option (PV × List Bool)) := by
  kernel_rfl
theorem rpost_ok : PureOK Tryz.prog (GG m t fr) 27 pcheckG := by
  refine PureOK.of (fn_cuts mixed E21_ok (fn := Tryz.f27) (cuts := cut1 0 (pdCut13 (GG m t fr))) (by kernel_rfl) (CutLaws.one (by omega) (by kernel_rfl) fun st e st' h => cutOf_ok E21_ok mixed (noCuts_ok (envOf_cuts ..) _) pdF13_ok h)) fun ps p hp => ?_
  unfold pcheckG at hp
  split at hp
  · rename_i n f
    obtain ⟨hc, hp⟩ := br_run hp
    simp only [Bool.and_eq_true] at hc
    simp only [Tr.run, Option.some.injEq] at hp
    subst hp
    have h := rpost_raw m t fr n f
    rw [hc.1, hc.2, decide_eq_true rfl] at h
    unfold posE
    rw [nums_len]
    cases c : upB (numsOf n f) with
    | false =>
      rw [c] at h
      exact ⟨_, Tr.run_of h rfl, PLe.of_eq rfl⟩
    | true =>
      rw [c] at h
      cases d : decide ((n : Int) > 65536) with
      | false =>
        rw [d] at h
        exact ⟨_, Tr.run_of h rfl, PLe.of_eq rfl⟩
      | true =>
        rw [d] at h
        exact ⟨_, Tr.run_of h rfl, PLe.of_eq rfl⟩
  · cases hp
def roPure : List (Nat × (List PV → Tr PV)) := (27, pcheckG) :: (28, packG) :: libPure
theorem roPure_ok {m : Int} {t : TypeId} {fr : Nat × Nat} : TabOK Tryz.prog (GG m t fr) roPure := (TabOK.cons rpost_ok (fn := Tryz.f27) (by kernel_rfl) (by kernel_rfl) (TabOK.cons rpack_ok (fn := Tryz.f28) (by kernel_rfl) (by kernel_rfl) libPure_ok))
noncomputable abbrev Eof (G : GT) : Env := envOf Tryz.prog G roPure libFull
theorem Eof_ok : (Eof (GG m t fr)).ok Tryz.prog (GG m t fr) := envOf_ok mixed roPure_ok libFull_ok
def roOuts : Exit → Outs
  | .normal => { ks := [0, 1, 4, 15, 16, 17], rs := [.slot 4] }
  | .exit _ => { ks := [0, 1, 4], rs := [.slot 4] }
  | _ => { ks := [4, 5], rs := [.slot 4] }
noncomputable abbrev roRound (G : GT) := roundT Tryz.prog (Eof G) 60 G 74 roOuts .normal (theLoop 0 Tryz.f7)
theorem ro_round (m : Int) (t : TypeId) (fr : Nat × Nat) (w : Int) (ns : List Int) (n : Nat) (u i : Int) : (roRound (GG m t fr) ([.lit (.int .u8 w), .gsl 1 n (nRow ns), .ptr 0 0, .gsl 1 n (nRow ns), int u, int i], [.cells 27 [.lit (.int .u8 0), int 0, .lit (.int .u32 0), .lit (.int .u32 0), .lit (.slice none 0 0)]])).run2 =
 (bif (decide (i < u)) then
 bif ((nu ns (Int.toNat i)) == (0 : Int)) then
 (.some ((.ret, ([(.ptr 0 0), (.lit (.int .i64 (1 : Int)))], [(.cells 27 [(.lit (.int .u8 (0 : Int))), (.lit (.int .i64 (0 : Int))), (.lit (.int .u32 (0 : Int))), (.lit (.int .u32 (0 : Int))), (.lit (.slice .none 0 0))])])), [((decide ((0 : Int) ≤ i)) && (Nat.blt (Int.toNat i) n))]))
 else (.some ((.normal, ([(.lit (.int .u8 w)), (.gsl 1 n (nRow ns)), (.ptr 0 0), (.gsl 1 n (nRow ns)), (.lit (.int .i64 u)), (.lit (.int .i64 (IntKind.wrap .i64 (i + (1 : Int)))))], [(.cells 27 [(.lit (.int .u8 (0 : Int))), (.lit (.int .i64 (0 : Int))), (.lit (.int .u32 (0 : Int))), (.lit (.int .u32 (0 : Int))), (.lit (.slice .none 0 0))])])), [((decide ((0 : Int) ≤ i)) && (Nat.blt (Int.toNat i) n))]))
 else (.some (((.exit 0), ([(.lit (.int .u8 w)), (.gsl 1 n (nRow ns)), (.ptr 0 0)], [(.cells 27 [(.lit (.int .u8 (0 : Int))), (.lit (.int .i64 (0 : Int))), (.lit (.int .u32 (0 : Int))), (.lit (.int .u32 (0 : Int))), (.lit (.slice .none 0 0))])])), [])) : Option ((Exit × Kept) × List Bool)) := by
  kernel_rfl
end
end Go.Proofs.YtcdghinmmhcfcaaGreatDoor.Ev
