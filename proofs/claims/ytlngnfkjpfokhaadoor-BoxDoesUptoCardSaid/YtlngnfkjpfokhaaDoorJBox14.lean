/- JBox14: several texts in one. Condition: each part's own. -/
import Derived.Test.YtlngnfkjpfokhaaDoorJBox13
import Derived.Test.YtlngnfkjpfokhaaDoorJBox07
/- The document's Check. No condition. -/
namespace Go.Proofs.YtlngnfkjpfokhaaDoor.Ev
open Go Go.RowKit Go.Proofs Go.Proofs.YtlngnfkjpfokhaaDoor.Str
set_option linter.unusedVariables false
set_option linter.unusedSimpArgs false
section
variable {m : Int} {t : TypeId} {fr : Nat × Nat}
def rkOuts : Exit → Outs
  | .normal => { ks := [1, 40, 41, 42], rs := [.slot 1] }
  | .exit _ => { ks := [] }
  | _ => { ks := [2] }
noncomputable abbrev rkRound (G : GT) := roundT Tryd.prog (E15 G) 60 G 85 rkOuts .normal (theLoop 0 Tryd.f17)
def rkB (v nx mk la : Int) (q : PV) : Blk := .cells 26 [.lit (.int .u32 v), .lit (.int .u64 nx), .lit (.int .u32 mk), .lit (.int .u32 la), q]
theorem rk_round_v (m : Int) (t : TypeId) (fr : Nat × Nat) (l : List Ml) (n : Nat) (v nx mk la u i : Int) : ((rkRound (GG m t fr) ([.ptr 0 0, .gsl 6 n (mRow l), int u, int i], [rkB v nx mk la (.gsl 6 n (mRow l))]))).val =
 (bif (decide (i < u)) then
 bif ((Ml.u (ml l (Int.toNat i))) == (0 : Int)) then
 (.some (.ret, ([(.lit (.int .i64 (2 : Int)))], [])))
 else bif (decide ((IntKind.wrap .u64 (Ml.u (ml l (Int.toNat i)))) ≥ nx)) then
 (.some (.ret, ([(.lit (.int .i64 (2 : Int)))], [])))
 else bif (decide (i > (0 : Int))) then
 bif (decide ((Ml.u (ml l (Int.toNat i))) ≤ (Ml.u (ml l (Int.toNat (IntKind.wrap .i64 (i - (1 : Int)))))))) then
 (.some (.ret, ([(.lit (.int .i64 (2 : Int)))], [])))
 else bif (!(fineB (Ml.f (ml l (Int.toNat i))) (Ml.d (ml l (Int.toNat i))) (Ml.s (ml l (Int.toNat i))) (Ml.z (ml l (Int.toNat i))) (Ml.r (ml l (Int.toNat i))))) then
 (.some (.ret, ([(.lit (.int .i64 (2 : Int)))], [])))
 else (.some (.normal, ([(.ptr 0 0), (.gsl 6 n (mRow l)), (.lit (.int .i64 u)), (.lit (.int .i64 (IntKind.wrap .i64 (i + (1 : Int)))))], [(.cells 26 [(.lit (.int .u32 v)), (.lit (.int .u64 nx)), (.lit (.int .u32 mk)), (.lit (.int .u32 la)), (.gsl 6 n (mRow l))])])))
 else bif (!(fineB (Ml.f (ml l (Int.toNat i))) (Ml.d (ml l (Int.toNat i))) (Ml.s (ml l (Int.toNat i))) (Ml.z (ml l (Int.toNat i))) (Ml.r (ml l (Int.toNat i))))) then
 (.some (.ret, ([(.lit (.int .i64 (2 : Int)))], [])))
 else (.some (.normal, ([(.ptr 0 0), (.gsl 6 n (mRow l)), (.lit (.int .i64 u)), (.lit (.int .i64 (IntKind.wrap .i64 (i + (1 : Int)))))], [(.cells 26 [(.lit (.int .u32 v)), (.lit (.int .u64 nx)), (.lit (.int .u32 mk)), (.lit (.int .u32 la)), (.gsl 6 n (mRow l))])])))
 else (.some ((.exit 0), ([], []))) : Option (Exit × Kept)) := by
  kernel_rfl
theorem rk_round_c (m : Int) (t : TypeId) (fr : Nat × Nat) (l : List Ml) (n : Nat) (v nx mk la u i : Int) : ((rkRound (GG m t fr) ([.ptr 0 0, .gsl 6 n (mRow l), int u, int i], [rkB v nx mk la (.gsl 6 n (mRow l))]))).conds =
 (bif (decide (i < u)) then
 bif ((decide ((0 : Int) ≤ i)) && (Nat.blt (Int.toNat i) n)) then
 bif ((Ml.u (ml l (Int.toNat i))) == (0 : Int)) then
 true
 else bif (decide ((IntKind.wrap .u64 (Ml.u (ml l (Int.toNat i)))) ≥ nx)) then
 true
 else bif (decide (i > (0 : Int))) then
 bif ((decide ((0 : Int) ≤ (IntKind.wrap .i64 (i - (1 : Int))))) && (Nat.blt (Int.toNat (IntKind.wrap .i64 (i - (1 : Int)))) n)) then
 bif (decide ((Ml.u (ml l (Int.toNat i))) ≤ (Ml.u (ml l (Int.toNat (IntKind.wrap .i64 (i - (1 : Int)))))))) then
 true
 else bif (u8B (Ml.f (ml l (Int.toNat i)))) then
 bif (!(fineB (Ml.f (ml l (Int.toNat i))) (Ml.d (ml l (Int.toNat i))) (Ml.s (ml l (Int.toNat i))) (Ml.z (ml l (Int.toNat i))) (Ml.r (ml l (Int.toNat i))))) then
 true
 else true
 else false
 else false
 else bif (u8B (Ml.f (ml l (Int.toNat i)))) then
 bif (!(fineB (Ml.f (ml l (Int.toNat i))) (Ml.d (ml l (Int.toNat i))) (Ml.s (ml l (Int.toNat i))) (Ml.z (ml l (Int.toNat i))) (Ml.r (ml l (Int.toNat i))))) then
 true
 else true
 else false
 else false
 else true : Bool) := by
  kernel_rfl
def prv (ts : List Ml) : Nat → Int
  | 0 => 0
  | i + 1 => (ml ts i).u
def rkIn (b : Bx) (l : List Ml) (i : Nat) : Kept := ([.ptr 0 0, .gsl 6 l.length (mRow l), int l.length, int i], [rkB b.v b.nx b.ma b.la (.gsl 6 l.length (mRow l))])
theorem rk_LR (b : Bx) (ts : List Ml) (hR : ts.all mlR = true) (hn : ts.length ≤ 4294967280) : ∀ (l : List Ml) (i : Nat), ts.drop i = l →
    LR Tryd.prog (E15 (GG m t fr)) 60 (GG m t fr) 85 rkOuts .normal (theLoop 0 Tryd.f17) (rkIn b ts i) (ckEnd b.nx (prv ts i) l).1 (ckEnd b.nx (prv ts i) l).2
  | [], i, ha => by
    have hv := rk_round_v m t fr ts ts.length b.v b.nx b.ma b.la ts.length i
    have hc := rk_round_c m t fr ts ts.length b.v b.nx b.ma b.la ts.length i
    have hi := List.drop_eq_nil_iff.1 ha
    have hd : decide ((i : Int) < (ts.length : Int)) = false := by simp; omega
    rw [hd] at hv hc
    exact .last (Tr.run_vc hv hc rfl rfl) (by simp [ckEnd, msB]) (by simp [ckEnd, msB])
  | x :: r, i, ha => by
    have hv := rk_round_v m t fr ts ts.length b.v b.nx b.ma b.la ts.length i
    have hc := rk_round_c m t fr ts ts.length b.v b.nx b.ma b.la ts.length i
    obtain ⟨hi, hx, hda⟩ := ml_drop ha
    have hxr := ml_R hR hi
    rw [hx] at hxr
    obtain ⟨r1, r2, r3⟩ := mlR_at hxr
    have hd : decide ((i : Int) < (ts.length : Int)) = true := by simp; omega
    have hw : IntKind.i64.wrap ((i : Int) + 1) = ((i + 1 : Nat) : Int) := wrap_succ (by omega)
    have hw2 : IntKind.u64.wrap x.u = x.u := wrap_u64 r1 r2
    have hin : (decide ((0 : Int) ≤ (i : Int)) && Nat.blt i ts.length) = true := by
      rw [Bool.and_eq_true]
      exact ⟨decide_eq_true (by omega), by rw [Nat.blt_eq]; exact hi⟩
    rw [hd, hw, Int.toNat_natCast, hx, hw2] at hv
    rw [hd, Int.toNat_natCast, hx, hw2, hin, r3] at hc
    simp only [cond_true] at hv hc
    have out : ∀ {q : Bool}, q = msB b.nx (prv ts i) (x :: r) → q = false → (rkRound (GG m t fr) (rkIn b ts i)).val = some (.ret, ([int 2], [])) → (rkRound (GG m t fr) (rkIn b ts i)).conds = true →
        LR Tryd.prog (E15 (GG m t fr)) 60 (GG m t fr) 85 rkOuts .normal (theLoop 0 Tryd.f17) (rkIn b ts i) (ckEnd b.nx (prv ts i) (x :: r)).1 (ckEnd b.nx (prv ts i) (x :: r)).2 := by
      intro q hq h0 h1 h2
      unfold ckEnd
      rw [← hq, h0]
      exact .last (Tr.run_vc h1 h2 rfl rfl) (by simp) (by simp)
    have hprv0 : 0 ≤ prv ts i := by
      cases i with
      | zero => exact Int.le_refl _
      | succ j =>
        have := mlR_at (ml_R hR (show j < ts.length by omega))
        exact this.1
    have pin : ∀ {c : Bool}, decide ((i : Int) > 0) = c → c = true → (decide ((0 : Int) ≤ IntKind.i64.wrap ((i : Int) - 1)) && Nat.blt (Int.toNat (IntKind.i64.wrap ((i : Int) - 1))) ts.length) = true ∧ ml ts (Int.toNat (IntKind.i64.wrap ((i : Int) - 1))) = ml ts (i - 1) := by
      intro c h1 h2
      subst h2
      have h1 := of_decide_eq_true h1
      have e : IntKind.i64.wrap ((i : Int) - 1) = ((i - 1 : Nat) : Int) := by
        have := wrap_nat (n := i - 1) (by omega)
        have e2 : (i : Int) - 1 = ((i - 1 : Nat) : Int) := by omega
        rw [e2, this]
      rw [e, Int.toNat_natCast]
      refine ⟨?_, rfl⟩
      rw [Bool.and_eq_true]
      exact ⟨decide_eq_true (by omega), by rw [Nat.blt_eq]; omega⟩
    by_cases c0 : x.u = 0
    · have c0' : (x.u == 0) = true := by simpa using c0
      rw [c0'] at hv hc
      exact out rfl (by simp [msB]; intro h; omega) hv hc
    · have c0' : (x.u == 0) = false := by simpa using c0
      rw [c0'] at hv hc
      by_cases c1 : x.u ≥ b.nx
      · rw [decide_eq_true c1] at hv hc
        exact out rfl (by simp [msB]; intro h h'; omega) hv hc
      · rw [decide_eq_false c1] at hv hc
        have go : prv ts i < x.u → (rkRound (GG m t fr) (rkIn b ts i)).val = (bif !(fineB x.f x.d x.s x.z x.r) then some (.ret, ([int 2], [])) else some (.normal, rkIn b ts (i + 1))) → (rkRound (GG m t fr) (rkIn b ts i)).conds = true →
            LR Tryd.prog (E15 (GG m t fr)) 60 (GG m t fr) 85 rkOuts .normal (theLoop 0 Tryd.f17) (rkIn b ts i) (ckEnd b.nx (prv ts i) (x :: r)).1 (ckEnd b.nx (prv ts i) (x :: r)).2 := by
          intro hlt h1 h2
          cases c3 : mFine x with
          | true =>
            have e : ckEnd b.nx (prv ts i) (x :: r) = ckEnd b.nx (prv ts (i + 1)) r := by
              have ep : prv ts (i + 1) = x.u := by show (ml ts i).u = _; rw [hx]
              unfold ckEnd
              have : msB b.nx (prv ts i) (x :: r) = msB b.nx x.u r := by
                simp [msB, hlt, c3]
                omega
              rw [this, ep]
            unfold mFine at c3
            rw [c3] at h1
            rw [e]
            exact .more (Tr.run_vc h1 h2 rfl rfl) (rk_LR b ts hR hn r (i + 1) hda)
          | false =>
            have c3' := c3
            unfold mFine at c3
            rw [c3] at h1
            exact out rfl (by simp [msB, c3']) h1 h2
        cases c2 : decide ((i : Int) > 0) with
        | true =>
          obtain ⟨p1, p2⟩ := pin c2 rfl
          have hi0 := of_decide_eq_true c2
          have ep : prv ts i = (ml ts (i - 1)).u := by
            cases i with
            | zero => omega
            | succ j => rfl
          rw [c2, p2, ← ep] at hv
          rw [c2, p1, p2, ← ep] at hc
          by_cases c4 : x.u ≤ prv ts i
          · rw [decide_eq_true c4] at hv hc
            exact out rfl (by simp [msB]; intro h; omega) hv hc
          · rw [decide_eq_false c4] at hv hc
            simp only [Bool.cond_self, cond_true, cond_false] at hc
            exact go (by omega) hv hc
        | false =>
          have hi0 := of_decide_eq_false c2
          have e0 : i = 0 := by omega
          rw [c2] at hv hc
          simp only [Bool.cond_self, cond_true, cond_false] at hc
          refine go ?_ hv hc
          rw [e0]
          show (0 : Int) < x.u
          omega
def rkF : Kept → Tr (Exit × Kept)
  | ([.ptr 0 0, .gsl 6 n f, .lit (.int .i64 u), .lit (.int .i64 0)], [.cells ty [.lit (.int .u32 v), .lit (.int .u64 nx), .lit (.int .u32 mk), .lit (.int .u32 la), q]]) => match rowP 6 q with
    | some (n', f') => .br (Nat.beq ty 26 && areMls n f && decide (u = (n : Int)) && Nat.ble n 4294967280 && areMls n' f' && decide (mlsOf n' f' = mlsOf n f)) (.br (msB nx 0 (mlsOf n f)) (.leaf (.exit 0, ([], []))) (.leaf (.ret, ([int 2], [])))) .fail
    | none => .fail
  | _ => .fail
theorem rkF_ok (x : Kept) (e : Exit) (y : Kept) (h : (rkF x).run = some (e, y)) : LR Tryd.prog (E15 (GG m t fr)) 60 (GG m t fr) 85 rkOuts .normal (theLoop 0 Tryd.f17) x e y := by
  unfold rkF at h
  split at h
  · rename_i n f u ty v nx mk la q
    split at h
    · rename_i n' f' hq
      have hb := br_run h
      clear h
      obtain ⟨hc, h⟩ := hb
      simp only [Bool.and_eq_true, decide_eq_true_eq, Nat.ble_eq] at hc
      obtain ⟨⟨⟨⟨⟨hty, hf⟩, rfl⟩, hn⟩, hf'⟩, hee⟩ := hc
      have hty := Nat.eq_of_beq_eq_true hty
      subst hty
      have hlen := mls_len n f
      have hlen' := mls_len n' f'
      have key := rk_LR (m := m) (t := t) (fr := fr) ⟨v, nx, mk, la, []⟩ (mlsOf n f) (mls_R hf) (by omega) _ 0 rfl
      have hqle : PLe q (.gsl 6 (mlsOf n f).length (mRow (mlsOf n f))) := (rowP_le hq).trans (by rw [← hee]; exact PLe.gsl hlen'.symm (mls_row hf'))
      have hin : KLe ([.ptr 0 0, .gsl 6 n f, int (n : Int), int 0], [.cells 26 [.lit (.int .u32 v), .lit (.int .u64 nx), .lit (.int .u32 mk), .lit (.int .u32 la), q]]) (rkIn ⟨v, nx, mk, la, []⟩ (mlsOf n f) 0) := by
        refine ⟨.cons (.refl _) (PLeL.cons (PLe.gsl hlen.symm (mls_row hf)) (PLeL.cons (PLe.of_eq ?_) (.refl _))), ?_⟩
        · rw [hlen]
        · exact BLeL.cons (BLe.cells _ (.cons (.refl _) (.cons (.refl _) (.cons (.refl _) (.cons (.refl _) (.cons hqle .nil)))))) .nil
      rw [List.drop_zero] at key
      have e0 : prv (mlsOf n f) 0 = 0 := rfl
      rw [e0] at key
      unfold ckEnd at key
      cases hd : msB nx 0 (mlsOf n f) with
      | true =>
        rw [hd] at key h
        simp only [Tr.run, cond_true, Option.some.injEq, Prod.mk.injEq] at h
        obtain ⟨rfl, rfl⟩ := h
        exact .le hin key
      | false =>
        rw [hd] at key h
        simp only [Tr.run, cond_false, Option.some.injEq, Prod.mk.injEq] at h
        obtain ⟨rfl, rfl⟩ := h
        exact .le hin key
    · cases h
  · cases h
noncomputable abbrev rkCut (G : GT) := cutOf G 85 rkOuts 0 rkF
theorem rck_raw_v (m : Int) (t : TypeId) (fr : Nat × Nat) (b : Bx) : ((fnPure Tryd.prog ((E15 (GG m t fr)).withCuts (cut1 0 (rkCut (GG m t fr)))) 60 Tryd.f17 (GG m t fr) [bxP b])).val =
 (bif ((Bx.v b) == (0 : Int)) then
 (.some (.lit (.int .i64 (2 : Int))))
 else bif (decide ((Bx.nx b) < (1 : Int))) then
 (.some (.lit (.int .i64 (2 : Int))))
 else bif (decide ((Bx.nx b) > (4294967296 : Int))) then
 (.some (.lit (.int .i64 (2 : Int))))
 else bif (decide ((((List.length (Bx.l b)) : Nat) : Int) > (4096 : Int))) then
 (.some (.lit (.int .i64 (2 : Int))))
 else bif (decide ((Bx.ma b) > (Bx.la b))) then
 (.some (.lit (.int .i64 (2 : Int))))
 else bif (decide ((IntKind.wrap .u64 (Bx.la b)) ≥ (Bx.nx b))) then
 (.some (.lit (.int .i64 (2 : Int))))
 else bif (msB (Bx.nx b) (0 : Int) (mlsOf (List.length (Bx.l b)) (mRow (Bx.l b)))) then
 (.some (.lit (.int .i64 (0 : Int))))
 else (.some (.lit (.int .i64 (2 : Int)))) : Option PV) := by
  kernel_rfl
theorem rck_raw_c (m : Int) (t : TypeId) (fr : Nat × Nat) (b : Bx) : ((fnPure Tryd.prog ((E15 (GG m t fr)).withCuts (cut1 0 (rkCut (GG m t fr)))) 60 Tryd.f17 (GG m t fr) [bxP b])).conds =
 (bif ((Bx.v b) == (0 : Int)) then
 true
 else bif (decide ((Bx.nx b) < (1 : Int))) then
 true
 else bif (decide ((Bx.nx b) > (4294967296 : Int))) then
 true
 else bif (decide ((((List.length (Bx.l b)) : Nat) : Int) > (4096 : Int))) then
 true
 else bif (decide ((Bx.ma b) > (Bx.la b))) then
 true
 else bif (decide ((IntKind.wrap .u64 (Bx.la b)) ≥ (Bx.nx b))) then
 true
 else bif (((((areMls (List.length (Bx.l b)) (mRow (Bx.l b))) && (decide ((((List.length (Bx.l b)) : Nat) : Int) = (((List.length (Bx.l b)) : Nat) : Int)))) && (Nat.ble (List.length (Bx.l b)) (4294967280 : Nat))) && (areMls (List.length (Bx.l b)) (mRow (Bx.l b)))) && (decide ((mlsOf (List.length (Bx.l b)) (mRow (Bx.l b))) = (mlsOf (List.length (Bx.l b)) (mRow (Bx.l b)))))) then
 bif (msB (Bx.nx b) (0 : Int) (mlsOf (List.length (Bx.l b)) (mRow (Bx.l b)))) then
 true
 else true
 else false : Bool) := by
  kernel_rfl
theorem rchk_at {b : Bx} (hR : bxR b = true) : ∃ p, (fnPure Tryd.prog ((E15 (GG m t fr)).withCuts (cut1 0 (rkCut (GG m t fr)))) 60 Tryd.f17 (GG m t fr) [bxP b]).run = some p ∧ p = int (chkE b) := by
  obtain ⟨r1, r2, r3, r4, r5, r6⟩ := bxR_at hR
  have hv := rck_raw_v m t fr b
  have hcc := rck_raw_c m t fr b
  have hla := u32N_at r4
  rw [mls_mRow, wrap_u64 hla.1 hla.2] at hv hcc
  have hnn' : (areMls b.l.length (mRow b.l) && decide ((((b.l.length) : Nat) : Int) = ((b.l.length : Nat) : Int)) && Nat.ble b.l.length 4294967280) = true := by
    rw [are_mRow r5, decide_eq_true rfl, Nat.ble_eq_true_of_le r6]
    rfl
  rw [hnn', are_mRow r5, decide_eq_true rfl] at hcc
  have key : chkE b = bif b.v == 0 then 2 else bif decide (b.nx < 1) then 2 else bif decide (b.nx > 4294967296) then 2 else bif decide (((b.l.length : Nat) : Int) > 4096) then 2 else bif decide (b.ma > b.la) then 2 else bif decide (b.la ≥ b.nx) then 2 else bif msB b.nx 0 b.l then 0 else 2 := by
    unfold chkE bxOk
    have f1 : decide (b.nx < 1) = !decide (1 ≤ b.nx) := by rw [← decide_not]; exact decide_eq_decide.2 (by omega)
    have f2 : decide (b.nx > 4294967296) = !decide (b.nx ≤ 4294967296) := by rw [← decide_not]; exact decide_eq_decide.2 (by omega)
    have f3 : decide (((b.l.length : Nat) : Int) > 4096) = !Nat.ble b.l.length 4096 := by
      cases hb : Nat.ble b.l.length 4096 with
      | true =>
        have := Nat.le_of_ble_eq_true hb
        exact decide_eq_false (by omega)
      | false =>
        have : ¬ b.l.length ≤ 4096 := fun h => by rw [Nat.ble_eq_true_of_le h] at hb; cases hb
        exact decide_eq_true (by omega)
    have f4 : decide (b.ma > b.la) = !decide (b.ma ≤ b.la) := by rw [← decide_not]; exact decide_eq_decide.2 (by omega)
    have f5 : decide (b.la ≥ b.nx) = !decide (b.la < b.nx) := by rw [← decide_not]; exact decide_eq_decide.2 (by omega)
    rw [f1, f2, f3, f4, f5]
    cases b.v == 0 <;> cases decide (1 ≤ b.nx) <;> cases decide (b.nx ≤ 4294967296) <;> cases Nat.ble b.l.length 4096 <;> cases decide (b.ma ≤ b.la) <;> cases decide (b.la < b.nx) <;> cases msB b.nx 0 b.l <;> rfl
  refine ⟨_, ?_, rfl⟩
  rw [key]
  cases c0 : b.v == 0 <;> cases c1 : decide (b.nx < 1) <;> cases c2 : decide (b.nx > 4294967296) <;> cases c3 : decide (((b.l.length : Nat) : Int) > 4096) <;> cases c4 : decide (b.ma > b.la) <;> cases c5 : decide (b.la ≥ b.nx) <;> cases c6 : msB b.nx 0 b.l <;>
    (simp only [c0, c1, c2, c3, c4, c5, c6, cond_true, cond_false] at hv hcc; exact Tr.run_vc hv hcc rfl rfl)
theorem rchk_ok : PureOK Tryd.prog (GG m t fr) 17 bchkG := by
  intro ps p hp
  unfold bchkG at hp
  split at hp
  · split at hp
    · rename_i v nx mk la n f hb
      obtain ⟨hc, hq⟩ := br_run hp
      clear hp
      simp only [Tr.run, Option.some.injEq] at hq
      subst hq
      obtain ⟨hle, hR⟩ := bxOf_le hb hc
      obtain ⟨q, h1, rfl⟩ := rchk_at (m := m) (t := t) (fr := fr) hR
      exact ((fn_cuts mixed E15_ok (fn := Tryd.f17) (cuts := cut1 0 (rkCut (GG m t fr))) (by kernel_rfl) (CutLaws.one (by omega) (by kernel_rfl) fun st e st' h => cutOf_ok E15_ok mixed (noCuts_ok (envOf_cuts ..) _) rkF_ok h)) _ _ h1).pre (.cons hle .nil)
    · cases hp
  · cases hp
end
end Go.Proofs.YtlngnfkjpfokhaaDoor.Ev

/- Lists of numbers: the small functions on them, a round each. No condition. -/
namespace Go.Proofs.YtlngnfkjpfokhaaDoor.Ev
open Go Go.RowKit Go.Proofs Go.Proofs.YtlngnfkjpfokhaaDoor.Str
set_option linter.unusedVariables false
set_option linter.unusedSimpArgs false
section
variable {m : Int} {t : TypeId} {fr : Nat × Nat}
def bqPure : List (Nat × (List PV → Tr PV)) := (17, bchkG) :: bpPure
theorem bqPure_ok {m : Int} {t : TypeId} {fr : Nat × Nat} : TabOK Tryd.prog (GG m t fr) bqPure := (TabOK.cons rchk_ok (fn := Tryd.f17) (by kernel_rfl) (by kernel_rfl) bpPure_ok)
noncomputable abbrev E16 (G : GT) : Env := envOf Tryd.prog G bqPure biFull
theorem E16_ok : (E16 (GG m t fr)).ok Tryd.prog (GG m t fr) := envOf_ok mixed bqPure_ok biFull_ok
def pcOuts : Exit → Outs
  | .normal => { ks := [0, 3] }
  | .exit _ => { ks := [0] }
  | _ => { ks := [2] }
noncomputable abbrev pcRound (G : GT) := roundT Tryd.prog (E16 G) 60 G 23 pcOuts .normal (theLoop 0 Tryd.f35)
theorem pc_round_v (m : Int) (t : TypeId) (fr : Nat × Nat) (l : List Int) (n : Nat) (i : Int) : ((pcRound (GG m t fr) ([.gsl 1 n (nRow l), int i], []))).val =
 (bif (decide (i < ((n : Nat) : Int))) then
 bif (decide ((nu l (Int.toNat i)) ≤ (nu l (Int.toNat (IntKind.wrap .i64 (i - (1 : Int))))))) then
 (.some (.ret, ([(.lit (.int .i64 (12 : Int)))], [])))
 else (.some (.normal, ([(.gsl 1 n (fun i => [PV.lit (Value.int IntKind.u32 (nu l i))])), (.lit (.int .i64 (IntKind.wrap .i64 (i + (1 : Int)))))], [])))
 else (.some ((.exit 0), ([(.gsl 1 n (fun i => [PV.lit (Value.int IntKind.u32 (nu l i))]))], []))) : Option (Exit × Kept)) := by
  kernel_rfl
theorem pc_round_c (m : Int) (t : TypeId) (fr : Nat × Nat) (l : List Int) (n : Nat) (i : Int) : ((pcRound (GG m t fr) ([.gsl 1 n (nRow l), int i], []))).conds =
 (bif (decide (i < ((n : Nat) : Int))) then
 bif ((decide ((0 : Int) ≤ i)) && (Nat.blt (Int.toNat i) n)) then
 bif ((decide ((0 : Int) ≤ (IntKind.wrap .i64 (i - (1 : Int))))) && (Nat.blt (Int.toNat (IntKind.wrap .i64 (i - (1 : Int)))) n)) then
 bif (decide ((nu l (Int.toNat i)) ≤ (nu l (Int.toNat (IntKind.wrap .i64 (i - (1 : Int))))))) then
 true
 else true
 else false
 else false
 else true : Bool) := by
  kernel_rfl
def rpOuts : Exit → Outs
  | .normal => { ks := [0, 5, 6] }
  | .exit _ => { ks := [0] }
  | _ => { ks := [2] }
noncomputable abbrev rpRound (G : GT) := roundT Tryd.prog (E16 G) 60 G 27 rpOuts .normal (theLoop 0 Tryd.f36)
theorem rp_round_v (m : Int) (t : TypeId) (fr : Nat × Nat) (l : List Int) (n : Nat) (u i : Int) : ((rpRound (GG m t fr) ([.gsl 1 n (nRow l), int u, int i], []))).val =
 (bif (decide (i < u)) then
 bif (decide (i > (0 : Int))) then
 bif (decide ((nu l (Int.toNat i)) ≤ (nu l (Int.toNat (IntKind.wrap .i64 (i - (1 : Int))))))) then
 (.some (.ret, ([(.lit (.int .i64 (12 : Int)))], [])))
 else (.some (.normal, ([(.gsl 1 n (fun i => [PV.lit (Value.int IntKind.u32 (nu l i))])), (.lit (.int .i64 u)), (.lit (.int .i64 (IntKind.wrap .i64 (i + (1 : Int)))))], [])))
 else (.some (.normal, ([(.gsl 1 n (fun i => [PV.lit (Value.int IntKind.u32 (nu l i))])), (.lit (.int .i64 u)), (.lit (.int .i64 (IntKind.wrap .i64 (i + (1 : Int)))))], [])))
 else (.some ((.exit 0), ([(.gsl 1 n (fun i => [PV.lit (Value.int IntKind.u32 (nu l i))]))], []))) : Option (Exit × Kept)) := by
  kernel_rfl
theorem rp_round_c (m : Int) (t : TypeId) (fr : Nat × Nat) (l : List Int) (n : Nat) (u i : Int) : ((rpRound (GG m t fr) ([.gsl 1 n (nRow l), int u, int i], []))).conds =
 (bif (decide (i < u)) then
 bif (decide (i > (0 : Int))) then
 bif ((decide ((0 : Int) ≤ i)) && (Nat.blt (Int.toNat i) n)) then
 bif ((decide ((0 : Int) ≤ (IntKind.wrap .i64 (i - (1 : Int))))) && (Nat.blt (Int.toNat (IntKind.wrap .i64 (i - (1 : Int)))) n)) then
 bif (decide ((nu l (Int.toNat i)) ≤ (nu l (Int.toNat (IntKind.wrap .i64 (i - (1 : Int))))))) then
 true
 else true
 else false
 else false
 else true
 else true : Bool) := by
  kernel_rfl
def inOuts : Exit → Outs
  | .normal => { ks := [1, 7, 8, 9] }
  | .exit _ => { ks := [] }
  | _ => { ks := [4] }
noncomputable abbrev inRound (G : GT) := roundT Tryd.prog (E16 G) 60 G 17 inOuts .normal (theLoop 0 Tryd.f28)
theorem in_round_v (m : Int) (t : TypeId) (fr : Nat × Nat) (l : List Int) (n : Nat) (x u i : Int) : ((inRound (GG m t fr) ([.lit (.int .u32 x), .gsl 1 n (nRow l), int u, int i], []))).val =
 (bif (decide (i < u)) then
 bif ((nu l (Int.toNat i)) == x) then
 (.some (.ret, ([(.lit (.bool true))], [])))
 else (.some (.normal, ([(.lit (.int .u32 x)), (.gsl 1 n (fun i => [PV.lit (Value.int IntKind.u32 (nu l i))])), (.lit (.int .i64 u)), (.lit (.int .i64 (IntKind.wrap .i64 (i + (1 : Int)))))], [])))
 else (.some ((.exit 0), ([], []))) : Option (Exit × Kept)) := by
  kernel_rfl
theorem in_round_c (m : Int) (t : TypeId) (fr : Nat × Nat) (l : List Int) (n : Nat) (x u i : Int) : ((inRound (GG m t fr) ([.lit (.int .u32 x), .gsl 1 n (nRow l), int u, int i], []))).conds =
 (bif (decide (i < u)) then
 bif ((decide ((0 : Int) ≤ i)) && (Nat.blt (Int.toNat i) n)) then
 bif ((nu l (Int.toNat i)) == x) then
 true
 else true
 else false
 else true : Bool) := by
  kernel_rfl
def smOuts : Exit → Outs
  | .normal => { ks := [0, 1, 12, 13] }
  | .exit _ => { ks := [] }
  | _ => { ks := [4] }
noncomputable abbrev smRound (G : GT) := roundT Tryd.prog (E16 G) 60 G 26 smOuts .normal (theLoop 0 Tryd.f15)
theorem sm_round_v (m : Int) (t : TypeId) (fr : Nat × Nat) (l l' : List Int) (n n' : Nat) (u i : Int) : ((smRound (GG m t fr) ([.gsl 1 n (nRow l), .gsl 1 n' (nRow l'), int u, int i], []))).val =
 (bif (decide (i < u)) then
 bif (bne (nu l (Int.toNat i)) (nu l' (Int.toNat i))) then
 (.some (.ret, ([(.lit (.bool false))], [])))
 else (.some (.normal, ([(.gsl 1 n (fun i => [PV.lit (Value.int IntKind.u32 (nu l i))])), (.gsl 1 n' (fun i => [PV.lit (Value.int IntKind.u32 (nu l' i))])), (.lit (.int .i64 u)), (.lit (.int .i64 (IntKind.wrap .i64 (i + (1 : Int)))))], [])))
 else (.some ((.exit 0), ([], []))) : Option (Exit × Kept)) := by
  kernel_rfl
theorem sm_round_c (m : Int) (t : TypeId) (fr : Nat × Nat) (l l' : List Int) (n n' : Nat) (u i : Int) : ((smRound (GG m t fr) ([.gsl 1 n (nRow l), .gsl 1 n' (nRow l'), int u, int i], []))).conds =
 (bif (decide (i < u)) then
 bif ((decide ((0 : Int) ≤ i)) && (Nat.blt (Int.toNat i) n)) then
 bif ((decide ((0 : Int) ≤ i)) && (Nat.blt (Int.toNat i) n')) then
 bif (bne (nu l (Int.toNat i)) (nu l' (Int.toNat i))) then
 true
 else true
 else false
 else false
 else true : Bool) := by
  kernel_rfl
end
end Go.Proofs.YtlngnfkjpfokhaaDoor.Ev

/- Loops that count up: what each round does, told by its number. No condition. -/
namespace Go.Proofs.YtlngnfkjpfokhaaDoor.Ev
open Go Go.RowKit
set_option linter.unusedVariables false
/-- from round i on, k rounds at most: what ends them -/
def scanR (bad : Nat → Option (Exit × Kept)) (z : Exit × Kept) : Nat → Nat → Exit × Kept
  | 0, _ => z
  | k + 1, i => match bad i with
    | some r => r
    | none => scanR bad z k (i + 1)
theorem scanR_all {bad : Nat → Option (Exit × Kept)} {z : Exit × Kept} : ∀ {k i : Nat}, (∀ j, i ≤ j → j < i + k → bad j = none) → scanR bad z k i = z
  | 0, i, h => rfl
  | k + 1, i, h => by
    unfold scanR
    rw [h i (Nat.le_refl _) (by omega)]
    exact scanR_all fun j h1 h2 => h j (by omega) (by omega)
theorem scanR_at {bad : Nat → Option (Exit × Kept)} {z r : Exit × Kept} : ∀ {k i j : Nat}, i ≤ j → j < i + k → bad j = some r → (∀ j', i ≤ j' → j' < j → bad j' = none) → scanR bad z k i = r
  | 0, i, j, h1, h2, h3, h4 => by omega
  | k + 1, i, j, h1, h2, h3, h4 => by
    unfold scanR
    by_cases hj : j = i
    · subst hj
      rw [h3]
    · rw [h4 i (Nat.le_refl _) (by omega)]
      exact scanR_at (j := j) (by omega) (by omega) h3 fun j' h5 h6 => h4 j' (by omega) h6
theorem scanR_some {bad : Nat → Option (Exit × Kept)} {z r : Exit × Kept} (hb : ∀ j, bad j = none ∨ bad j = some r) : ∀ {k i : Nat}, (∃ j, i ≤ j ∧ j < i + k ∧ bad j = some r) → scanR bad z k i = r
  | 0, i, ⟨j, h1, h2, h3⟩ => by omega
  | k + 1, i, ⟨j, h1, h2, h3⟩ => by
    unfold scanR
    rcases hb i with h | h
    · rw [h]
      refine scanR_some hb ⟨j, ?_, by omega, h3⟩
      rcases Nat.lt_or_ge i j with h4 | h4
      · exact h4
      · have : j = i := by omega
        subst this
        rw [h] at h3
        cases h3
    · rw [h]
/-- rounds that count up -/
theorem LR.scan {P : Program} {E : Env} {n : Nat} {G : GT} {N : Nat} {outs : Exit → Outs} {c : Code} {st : Nat → Kept} {bad : Nat → Option (Exit × Kept)} {K : Nat}
    (hgo : ∀ i, i < K → bad i = none → (roundT P E n G N outs .normal c (st i)).run = some (.normal, st (i + 1)))
    (hbad : ∀ i r, i < K → bad i = some r → (roundT P E n G N outs .normal c (st i)).run = some r ∧ r.1 ≠ .normal ∧ ∀ l, r.1 ≠ .goto l)
    {z : Exit × Kept} (hend : (roundT P E n G N outs .normal c (st K)).run = some z) (h0 : z.1 ≠ .normal) (h1 : ∀ l, z.1 ≠ .goto l) :
    ∀ (k i : Nat), i + k = K → LR P E n G N outs .normal c (st i) (scanR bad z k i).1 (scanR bad z k i).2
  | 0, i, hk => by
    have : i = K := by omega
    subst this
    exact .last hend h0 h1
  | k + 1, i, hk => by
    unfold scanR
    cases hb : bad i with
    | none => exact .more (hgo i (by omega) hb) (LR.scan hgo hbad hend h0 h1 k (i + 1) (by omega))
    | some r =>
      obtain ⟨a, b, c⟩ := hbad i r (by omega) hb
      exact .last a b c
/-- .. from a number on -/
theorem LR.scan2 {P : Program} {E : Env} {n : Nat} {G : GT} {N : Nat} {outs : Exit → Outs} {c : Code} {st : Nat → Kept} {bad : Nat → Option (Exit × Kept)} {s K : Nat}
    (h : ∀ i, s ≤ i → i < K → (roundT P E n G N outs .normal c (st i)).run = some ((bad i).getD (.normal, st (i + 1)))) (hne : ∀ i r, bad i = some r → r.1 ≠ .normal ∧ ∀ l, r.1 ≠ .goto l)
    {z : Exit × Kept} (hend : (roundT P E n G N outs .normal c (st K)).run = some z) (h0 : z.1 ≠ .normal) (h1 : ∀ l, z.1 ≠ .goto l) :
    ∀ (k i : Nat), s ≤ i → i + k = K → LR P E n G N outs .normal c (st i) (scanR bad z k i).1 (scanR bad z k i).2
  | 0, i, hs, hk => by
    have : i = K := by omega
    subst this
    exact .last hend h0 h1
  | k + 1, i, hs, hk => by
    unfold scanR
    have hi := h i hs (by omega)
    cases hb : bad i with
    | none =>
      rw [hb] at hi
      exact .more hi (LR.scan2 h hne hend h0 h1 k (i + 1) (by omega) (by omega))
    | some r =>
      rw [hb] at hi
      obtain ⟨b, c⟩ := hne i r hb
      exact .last hi b c
/-- .. where what is kept is told anew -/
theorem LR.fold {P : Program} {E : Env} {n : Nat} {G : GT} {N : Nat} {outs : Exit → Outs} {c : Code} {st : Nat → Kept} {K : Nat}
    (h : ∀ i, i < K → ∃ y, (roundT P E n G N outs .normal c (st i)).run = some (.normal, y) ∧ KLe y (st (i + 1)))
    {z : Exit × Kept} (hend : (roundT P E n G N outs .normal c (st K)).run = some z) (h0 : z.1 ≠ .normal) (h1 : ∀ l, z.1 ≠ .goto l) :
    ∀ (k i : Nat), i + k = K → LR P E n G N outs .normal c (st i) z.1 z.2
  | 0, i, hk => by
    have : i = K := by omega
    subst this
    exact .last hend h0 h1
  | k + 1, i, hk => by
    obtain ⟨y, hy, hle⟩ := h i (by omega)
    exact .more hy (.le hle (LR.fold h hend h0 h1 k (i + 1) (by omega)))
theorem LR.le2 {P : Program} {E : Env} {n : Nat} {G : GT} {N : Nat} {outs : Exit → Outs} {cont : Exit} {c : Code} {ps qs : List PV} {bs cs : List Blk} {e : Exit} {z : Kept} (h1 : PLeL ps qs) (h2 : BLeL bs cs) (k : LR P E n G N outs cont c (qs, cs) e z) : LR P E n G N outs cont c (ps, bs) e z := .le ⟨h1, h2⟩ k
/-- a range's bounds -/
theorem in_rng {i n : Nat} (h : i < n) : (decide ((0 : Int) ≤ (i : Int)) && Nat.blt i n) = true := by
  rw [Bool.and_eq_true]
  exact ⟨decide_eq_true (by omega), by rw [Nat.blt_eq]; exact h⟩
theorem lt_cast {i n : Nat} : decide ((i : Int) < ((n : Nat) : Int)) = decide (i < n) := decide_eq_decide.2 (by omega)
end Go.Proofs.YtlngnfkjpfokhaaDoor.Ev

/- Lists of numbers: the small functions on them: contracts. No condition. -/
namespace Go.Proofs.YtlngnfkjpfokhaaDoor.Ev
open Go Go.RowKit Go.Proofs Go.Proofs.YtlngnfkjpfokhaaDoor.Str
set_option linter.unusedVariables false
set_option linter.unusedSimpArgs false
/-- the number at a place is above the one ahead of it -/
def upI (l : List Int) (i : Nat) : Bool := !(decide (nu l i ≤ nu l (i - 1)))
theorem nu_get {l : List Int} {i : Nat} (h : i < l.length) : nu l i = l[i] := by simp [nu, h]
theorem ris_up {l : List Int} : risI l = true ↔ ∀ i, 1 ≤ i → i < l.length → upI l i = true := by
  unfold risI upI
  rw [decide_eq_true_eq, List.pairwise_iff_getElem]
  constructor
  · intro h i h1 h2
    have := h (i - 1) i (by omega) h2 (by omega)
    rw [nu_get h2, nu_get (show i - 1 < l.length by omega)]
    simp
    omega
  · intro h i j hi hj hij
    have key : ∀ d : Nat, ∀ (hj : i + d + 1 < l.length), l[i] < l[i + d + 1] := by
      intro d
      induction d with
      | zero =>
        intro hj
        have := h (i + 1) (by omega) hj
        rw [nu_get hj, nu_get (show i + 1 - 1 < l.length by omega)] at this
        simp at this
        simpa using this
      | succ d ih =>
        intro hj
        have h1 := ih (by omega)
        have := h (i + d + 1 + 1) (by omega) (by omega)
        rw [nu_get (show i + d + 1 + 1 < l.length by omega), nu_get (show i + d + 1 + 1 - 1 < l.length by omega)] at this
        simp at this
        have e : l[i + (d + 1) + 1] = l[i + d + 1 + 1] := rfl
        rw [e]
        omega
    have e : j = i + (j - i - 1) + 1 := by omega
    have := key (j - i - 1) (by omega)
    have e2 : l[j] = l[i + (j - i - 1) + 1] := by congr 1
    rw [e2]
    exact this
def posE (l : List Int) : Int := bif risI l then (bif decide (l.length > 65536) then 15 else 0) else 12
section
variable {m : Int} {t : TypeId} {fr : Nat × Nat}
theorem pred_wrap {i : Nat} (h1 : 1 ≤ i) (h2 : i ≤ 4294967296) : IntKind.wrap .i64 ((i : Int) - (1 : Int)) = ((i - 1 : Nat) : Int) := by
  rw [wrap_pred h2]
  omega
def pcBad (l : List Int) (i : Nat) : Option (Exit × Kept) := bif upI l i then none else some (.ret, ([int 12], []))
theorem pc_LR (l : List Int) (hn : l.length ≤ 4294967280) (k i : Nat) (hi : 1 ≤ i) (hk : i + k = max 1 l.length) : LR Tryd.prog (E16 (GG m t fr)) 60 (GG m t fr) 23 pcOuts .normal (theLoop 0 Tryd.f35) ([.gsl 1 l.length (nRow l), int i], [])
    (scanR (pcBad l) (.exit 0, ([.gsl 1 l.length (nRow l)], [])) k i).1 (scanR (pcBad l) (.exit 0, ([.gsl 1 l.length (nRow l)], [])) k i).2 := by
  refine LR.scan2 (s := 1) (K := max 1 l.length) (st := fun j : Nat => ([.gsl 1 l.length (nRow l), int j], [])) (fun j h1 h2 => ?_) (fun j r hb => ?_) ?_ (by simp) (by simp) k i hi hk
  · have hv := pc_round_v m t fr l l.length j
    have hc := pc_round_c m t fr l l.length j
    have hlt : j < l.length := by omega
    rw [lt_cast, decide_eq_true hlt, Int.toNat_natCast, pred_wrap (by omega) (by omega), Int.toNat_natCast, wrap_succ (by omega)] at hv
    rw [lt_cast, decide_eq_true hlt, Int.toNat_natCast, pred_wrap (by omega) (by omega), Int.toNat_natCast, in_rng hlt, in_rng (show j - 1 < l.length by omega)] at hc
    unfold pcBad upI
    cases hd : decide (nu l j ≤ nu l (j - 1)) <;> (rw [hd] at hv hc; exact Tr.run_vc hv hc rfl rfl)
  · unfold pcBad at hb
    cases hd : upI l j <;> (rw [hd] at hb; cases hb)
    exact ⟨by simp, by simp⟩
  · have hv := pc_round_v m t fr l l.length ((max 1 l.length : Nat) : Int)
    have hc := pc_round_c m t fr l l.length ((max 1 l.length : Nat) : Int)
    rw [lt_cast, decide_eq_false (by omega)] at hv hc
    exact Tr.run_vc hv hc rfl rfl
/-- what scans for a fall come to -/
theorem pc_scan {l : List Int} {z : Exit × Kept} {k i K : Nat} (hi : i ≤ 1) (hk : i + k = K) (hK : l.length ≤ K) (hK2 : K ≤ max 1 l.length) {bad : Nat → Option (Exit × Kept)} {r : Exit × Kept} (h0 : bad 0 = none ∨ (i = 1 ∧ bad 0 = some r)) (hb : ∀ j, 1 ≤ j → bad j = bif upI l j then none else some r) :
    scanR bad z k i = bif risI l then z else r := by
  cases hr : risI l with
  | true =>
    rw [ris_up] at hr
    refine scanR_all fun j h1 h2 => ?_
    rcases Nat.eq_zero_or_pos j with rfl | hj
    · rcases h0 with h0 | ⟨h0, _⟩
      · exact h0
      · omega
    · rw [hb j hj]
      rcases Nat.lt_or_ge j l.length with h3 | h3
      · rw [hr j hj h3]; rfl
      · have : K = 1 := by omega
        omega
  | false =>
    have hex : ∃ j, 1 ≤ j ∧ j < l.length ∧ upI l j = false := by
      refine Classical.byContradiction fun hn => ?_
      have : risI l = true := ris_up.2 fun j h1 h2 => by
        cases hu : upI l j with
        | true => rfl
        | false => exact absurd ⟨j, h1, h2, hu⟩ hn
      rw [this] at hr
      cases hr
    obtain ⟨j, h1, h2, h3⟩ := hex
    refine scanR_some (fun j => ?_) ⟨j, by omega, by omega, by rw [hb j h1, h3]; rfl⟩
    rcases Nat.eq_zero_or_pos j with rfl | hj
    · exact h0.imp id (·.2)
    · rw [hb j hj]
      cases upI l j
      · exact .inr rfl
      · exact .inl rfl
def pcF : Kept → Tr (Exit × Kept)
  | ([p, .lit (.int .i64 1)], []) => match rowP 1 p with
    | some (n, f) => .br (areNums n f && Nat.ble n 4294967280) (.br (risI (numsOf n f)) (.leaf (.exit 0, ([.gsl 1 n (nRow (numsOf n f))], []))) (.leaf (.ret, ([int 12], [])))) .fail
    | none => .fail
  | _ => .fail
theorem pcF_ok (x : Kept) (e : Exit) (y : Kept) (h : (pcF x).run = some (e, y)) : LR Tryd.prog (E16 (GG m t fr)) 60 (GG m t fr) 23 pcOuts .normal (theLoop 0 Tryd.f35) x e y := by
  unfold pcF at h
  split at h
  · split at h
    · rename_i n f hq
      have hb := br_run h
      clear h
      obtain ⟨hc, h⟩ := hb
      simp only [Bool.and_eq_true, Nat.ble_eq] at hc
      obtain ⟨hf, hn⟩ := hc
      have hlen := nums_len n f
      have hle := (rowP_le hq).trans (PLe.gsl rfl (nums_row hf))
      generalize hL : numsOf n f = l at hlen hle h
      subst hlen
      have key := pc_LR (m := m) (t := t) (fr := fr) l hn (max 1 l.length - 1) 1 (by omega) (by omega)
      rw [pc_scan (l := l) (bad := pcBad l) (i := 1) (K := max 1 l.length) (r := (.ret, ([int 12], []))) (by omega) (by omega) (by omega) (by omega) (.inr ⟨rfl, by unfold pcBad upI; simp⟩) (fun j hj => rfl)] at key
      cases hr : risI l with
      | true =>
        rw [hr] at key h
        simp only [Tr.run, cond_true, Option.some.injEq, Prod.mk.injEq] at h
        obtain ⟨rfl, rfl⟩ := h
        exact .le ⟨.cons hle (.refl _), .nil⟩ key
      | false =>
        rw [hr] at key h
        simp only [Tr.run, cond_false, Option.some.injEq, Prod.mk.injEq] at h
        obtain ⟨rfl, rfl⟩ := h
        exact .le ⟨.cons hle (.refl _), .nil⟩ key
    · cases h
  · cases h
theorem pc_raw_v (m : Int) (t : TypeId) (fr : Nat × Nat) (n : Nat) (l : List Int) : ((fnPure Tryd.prog ((E16 (GG m t fr)).withCuts (cut1 0 (cutOf (GG m t fr) 23 pcOuts 0 pcF))) 60 Tryd.f35 (GG m t fr) [.gsl 1 n (nRow l)])).val =
 (bif (risI (numsOf n (nRow l))) then
 bif (decide (((n : Nat) : Int) > (65536 : Int))) then
 (.some (.lit (.int .i64 (15 : Int))))
 else (.some (.lit (.int .i64 (0 : Int))))
 else (.some (.lit (.int .i64 (12 : Int)))) : Option PV) := by
  kernel_rfl
theorem pc_raw_c (m : Int) (t : TypeId) (fr : Nat × Nat) (n : Nat) (l : List Int) : ((fnPure Tryd.prog ((E16 (GG m t fr)).withCuts (cut1 0 (cutOf (GG m t fr) 23 pcOuts 0 pcF))) 60 Tryd.f35 (GG m t fr) [.gsl 1 n (nRow l)])).conds =
 (bif ((areNums n (nRow l)) && (Nat.ble n (4294967280 : Nat))) then
 bif (risI (numsOf n (nRow l))) then
 bif (decide (((n : Nat) : Int) > (65536 : Int))) then
 true
 else true
 else true
 else false : Bool) := by
  kernel_rfl
def rpBad (l : List Int) (i : Nat) : Option (Exit × Kept) := bif decide (i = 0) || upI l i then none else some (.ret, ([int 12], []))
theorem rp_LR (l : List Int) (hn : l.length ≤ 4294967280) (k i : Nat) (hk : i + k = l.length) : LR Tryd.prog (E16 (GG m t fr)) 60 (GG m t fr) 27 rpOuts .normal (theLoop 0 Tryd.f36) ([.gsl 1 l.length (nRow l), int l.length, int i], [])
    (scanR (rpBad l) (.exit 0, ([.gsl 1 l.length (nRow l)], [])) k i).1 (scanR (rpBad l) (.exit 0, ([.gsl 1 l.length (nRow l)], [])) k i).2 := by
  refine LR.scan2 (s := 0) (K := l.length) (st := fun j : Nat => ([.gsl 1 l.length (nRow l), int l.length, int j], [])) (fun j h1 hlt => ?_) (fun j r hb => ?_) ?_ (by simp) (by simp) k i (by omega) hk
  · have hv := rp_round_v m t fr l l.length l.length j
    have hc := rp_round_c m t fr l l.length l.length j
    rw [lt_cast, decide_eq_true hlt, Int.toNat_natCast, wrap_succ (by omega)] at hv
    rw [lt_cast, decide_eq_true hlt, Int.toNat_natCast, in_rng hlt] at hc
    unfold rpBad upI
    rcases Nat.eq_zero_or_pos j with rfl | hj
    · exact Tr.run_vc hv hc rfl rfl
    · have h0 : decide ((j : Int) > 0) = true := decide_eq_true (by omega)
      have h0' : decide (j = 0) = false := decide_eq_false (by omega)
      rw [pred_wrap (by omega) (by omega), Int.toNat_natCast, h0] at hv hc
      rw [in_rng (show j - 1 < l.length by omega)] at hc
      rw [h0']
      cases hd : decide (nu l j ≤ nu l (j - 1)) <;> (rw [hd] at hv hc; exact Tr.run_vc hv hc rfl rfl)
  · unfold rpBad at hb
    cases hd : decide (j = 0) || upI l j <;> (rw [hd] at hb; cases hb)
    exact ⟨by simp, by simp⟩
  · have hv := rp_round_v m t fr l l.length l.length l.length
    have hc := rp_round_c m t fr l l.length l.length l.length
    rw [lt_cast, decide_eq_false (by omega)] at hv hc
    exact Tr.run_vc hv hc rfl rfl
def rpF : Kept → Tr (Exit × Kept)
  | ([p, .lit (.int .i64 u), .lit (.int .i64 0)], []) => match rowP 1 p with
    | some (n, f) => .br (areNums n f && Nat.ble n 4294967280 && decide (u = n)) (.br (risI (numsOf n f)) (.leaf (.exit 0, ([.gsl 1 n (nRow (numsOf n f))], []))) (.leaf (.ret, ([int 12], [])))) .fail
    | none => .fail
  | _ => .fail
theorem rpF_ok (x : Kept) (e : Exit) (y : Kept) (h : (rpF x).run = some (e, y)) : LR Tryd.prog (E16 (GG m t fr)) 60 (GG m t fr) 27 rpOuts .normal (theLoop 0 Tryd.f36) x e y := by
  unfold rpF at h
  split at h
  · rename_i u
    split at h
    · rename_i n f hq
      have hb := br_run h
      clear h
      obtain ⟨hc, h⟩ := hb
      simp only [Bool.and_eq_true, Nat.ble_eq, decide_eq_true_eq] at hc
      obtain ⟨⟨hf, hn⟩, rfl⟩ := hc
      have hlen := nums_len n f
      have hle := (rowP_le hq).trans (PLe.gsl rfl (nums_row hf))
      generalize hL : numsOf n f = l at hlen hle h
      subst hlen
      have key := rp_LR (m := m) (t := t) (fr := fr) l hn l.length 0 (by omega)
      rw [pc_scan (l := l) (bad := rpBad l) (i := 0) (K := l.length) (r := (.ret, ([int 12], []))) (by omega) (by omega) (by omega) (by omega) (.inl rfl) (fun j hj => by unfold rpBad; rw [decide_eq_false (by omega)]; rfl)] at key
      cases hr : risI l with
      | true =>
        rw [hr] at key h
        simp only [Tr.run, cond_true, Option.some.injEq, Prod.mk.injEq] at h
        obtain ⟨rfl, rfl⟩ := h
        exact .le ⟨.cons hle (.refl _), .nil⟩ key
      | false =>
        rw [hr] at key h
        simp only [Tr.run, cond_false, Option.some.injEq, Prod.mk.injEq] at h
        obtain ⟨rfl, rfl⟩ := h
        exact .le ⟨.cons hle (.refl _), .nil⟩ key
    · cases h
  · cases h
theorem rp_raw_v (m : Int) (t : TypeId) (fr : Nat × Nat) (n : Nat) (l : List Int) : ((fnPure Tryd.prog ((E16 (GG m t fr)).withCuts (cut1 0 (cutOf (GG m t fr) 27 rpOuts 0 rpF))) 60 Tryd.f36 (GG m t fr) [.gsl 1 n (nRow l)])).val =
 (bif (risI (numsOf n (nRow l))) then
 bif (decide (((n : Nat) : Int) > (65536 : Int))) then
 (.some (.lit (.int .i64 (15 : Int))))
 else (.some (.lit (.int .i64 (0 : Int))))
 else (.some (.lit (.int .i64 (12 : Int)))) : Option PV) := by
  kernel_rfl
theorem rp_raw_c (m : Int) (t : TypeId) (fr : Nat × Nat) (n : Nat) (l : List Int) : ((fnPure Tryd.prog ((E16 (GG m t fr)).withCuts (cut1 0 (cutOf (GG m t fr) 27 rpOuts 0 rpF))) 60 Tryd.f36 (GG m t fr) [.gsl 1 n (nRow l)])).conds =
 (bif (((areNums n (nRow l)) && (Nat.ble n (4294967280 : Nat))) && (decide (((n : Nat) : Int) = ((n : Nat) : Int)))) then
 bif (risI (numsOf n (nRow l))) then
 bif (decide (((n : Nat) : Int) > (65536 : Int))) then
 true
 else true
 else true
 else false : Bool) := by
  kernel_rfl
end
end Go.Proofs.YtlngnfkjpfokhaaDoor.Ev

/- Lists of numbers: the small functions on them: contracts. No condition. -/
namespace Go.Proofs.YtlngnfkjpfokhaaDoor.Ev
open Go Go.RowKit Go.Proofs Go.Proofs.YtlngnfkjpfokhaaDoor.Str
set_option linter.unusedVariables false
set_option linter.unusedSimpArgs false
section
variable {m : Int} {t : TypeId} {fr : Nat × Nat}
def postG : List PV → Tr PV
  | [p] => match rowP 1 p with
    | some (n, f) => .br (areNums n f && Nat.ble n 4294967280) (.leaf (int (posE (numsOf n f)))) .fail
    | none => .fail
  | _ => .fail
theorem pos_val (l : List Int) : (bif risI l then bif decide (((l.length : Nat) : Int) > 65536) then some (int 15) else some (int 0) else some (int 12)) = some (int (posE l)) := by
  unfold posE
  have : decide (((l.length : Nat) : Int) > 65536) = decide (l.length > 65536) := decide_eq_decide.2 (by omega)
  rw [this]
  cases risI l <;> cases decide (l.length > 65536) <;> rfl
theorem post_ok : PureOK Tryd.prog (GG m t fr) 35 postG := by
  intro ps p hp
  unfold postG at hp
  split at hp
  · split at hp
    · rename_i n f hq
      have hb := br_run hp
      clear hp
      obtain ⟨hc, hp⟩ := hb
      simp only [Bool.and_eq_true, Nat.ble_eq] at hc
      obtain ⟨hf, hn⟩ := hc
      simp only [Tr.run, Option.some.injEq] at hp
      subst hp
      have hlen := nums_len n f
      have hle := (rowP_le hq).trans (PLe.gsl rfl (nums_row hf))
      have hu := nums_u32 hf
      generalize hL : numsOf n f = l at hlen hle hu
      subst hlen
      have hv := pc_raw_v m t fr l.length l
      have hc := pc_raw_c m t fr l.length l
      rw [nums_nRow] at hv hc
      rw [are_nRow hu, Nat.ble_eq_true_of_le hn] at hc
      simp only [Bool.and_self, Bool.cond_self, cond_true] at hc
      exact ((fn_cuts mixed E16_ok (fn := Tryd.f35) (cuts := cut1 0 (cutOf (GG m t fr) 23 pcOuts 0 pcF)) (by kernel_rfl) (CutLaws.one (by omega) (by kernel_rfl) fun st e st' h => cutOf_ok E16_ok mixed (noCuts_ok (envOf_cuts ..) _) pcF_ok h)) _ _
        (Tr.run_vc hv hc rfl (pos_val l))).pre (.cons hle .nil)
    · cases hp
  · cases hp
theorem rpost_ok : PureOK Tryd.prog (GG m t fr) 36 postG := by
  intro ps p hp
  unfold postG at hp
  split at hp
  · split at hp
    · rename_i n f hq
      have hb := br_run hp
      clear hp
      obtain ⟨hc, hp⟩ := hb
      simp only [Bool.and_eq_true, Nat.ble_eq] at hc
      obtain ⟨hf, hn⟩ := hc
      simp only [Tr.run, Option.some.injEq] at hp
      subst hp
      have hlen := nums_len n f
      have hle := (rowP_le hq).trans (PLe.gsl rfl (nums_row hf))
      have hu := nums_u32 hf
      generalize hL : numsOf n f = l at hlen hle hu
      subst hlen
      have hv := rp_raw_v m t fr l.length l
      have hc := rp_raw_c m t fr l.length l
      rw [nums_nRow] at hv hc
      rw [are_nRow hu, Nat.ble_eq_true_of_le hn, decide_eq_true rfl] at hc
      simp only [Bool.and_self, Bool.cond_self, cond_true] at hc
      exact ((fn_cuts mixed E16_ok (fn := Tryd.f36) (cuts := cut1 0 (cutOf (GG m t fr) 27 rpOuts 0 rpF)) (by kernel_rfl) (CutLaws.one (by omega) (by kernel_rfl) fun st e st' h => cutOf_ok E16_ok mixed (noCuts_ok (envOf_cuts ..) _) rpF_ok h)) _ _
        (Tr.run_vc hv hc rfl (pos_val l))).pre (.cons hle .nil)
    · cases hp
  · cases hp
/-! ### whether a list has a number -/
def inBad (l : List Int) (x : Int) (i : Nat) : Option (Exit × Kept) := bif nu l i == x then some (.ret, ([bool true], [])) else none
theorem in_LR (l : List Int) (hn : l.length ≤ 4294967280) (x : Int) (k i : Nat) (hk : i + k = l.length) : LR Tryd.prog (E16 (GG m t fr)) 60 (GG m t fr) 17 inOuts .normal (theLoop 0 Tryd.f28) ([.lit (.int .u32 x), .gsl 1 l.length (nRow l), int l.length, int i], [])
    (scanR (inBad l x) (.exit 0, ([], [])) k i).1 (scanR (inBad l x) (.exit 0, ([], [])) k i).2 := by
  refine LR.scan2 (s := 0) (K := l.length) (st := fun j : Nat => ([.lit (.int .u32 x), .gsl 1 l.length (nRow l), int l.length, int j], [])) (fun j h1 hlt => ?_) (fun j r hb => ?_) ?_ (by simp) (by simp) k i (by omega) hk
  · have hv := in_round_v m t fr l l.length x l.length j
    have hc := in_round_c m t fr l l.length x l.length j
    rw [lt_cast, decide_eq_true hlt, Int.toNat_natCast, wrap_succ (by omega)] at hv
    rw [lt_cast, decide_eq_true hlt, Int.toNat_natCast, in_rng hlt] at hc
    unfold inBad
    cases hd : nu l j == x <;> (rw [hd] at hv hc; exact Tr.run_vc hv hc rfl rfl)
  · unfold inBad at hb
    cases hd : nu l j == x <;> (rw [hd] at hb; cases hb)
    exact ⟨by simp, by simp⟩
  · have hv := in_round_v m t fr l l.length x l.length l.length
    have hc := in_round_c m t fr l l.length x l.length l.length
    rw [lt_cast, decide_eq_false (by omega)] at hv hc
    exact Tr.run_vc hv hc rfl rfl
theorem in_scan (l : List Int) (x : Int) (z : Exit × Kept) : scanR (inBad l x) z l.length 0 = bif inI l x then (.ret, ([bool true], [])) else z := by
  unfold inI
  by_cases h : x ∈ l
  · rw [decide_eq_true h]
    obtain ⟨k, hk, rfl⟩ := List.mem_iff_getElem.1 h
    refine scanR_some (fun j => ?_) ⟨k, by omega, by omega, ?_⟩
    · unfold inBad
      cases nu l j == l[k]
      · exact .inl rfl
      · exact .inr rfl
    · unfold inBad
      rw [nu_get hk, beq_self_eq_true]
      rfl
  · rw [decide_eq_false h]
    refine scanR_all fun j h1 h2 => ?_
    have hj : j < l.length := by omega
    unfold inBad
    have : (nu l j == x) = false := by
      rw [nu_get hj]
      refine beq_false_of_ne fun e => h ?_
      rw [← e]
      exact List.getElem_mem hj
    rw [this]
    rfl
def inF : Kept → Tr (Exit × Kept)
  | ([.lit (.int .u32 x), p, .lit (.int .i64 u), .lit (.int .i64 0)], []) => match rowP 1 p with
    | some (n, f) => .br (areNums n f && Nat.ble n 4294967280 && decide (u = n)) (.br (inI (numsOf n f) x) (.leaf (.ret, ([bool true], []))) (.leaf (.exit 0, ([], [])))) .fail
    | none => .fail
  | _ => .fail
theorem inF_ok (x : Kept) (e : Exit) (y : Kept) (h : (inF x).run = some (e, y)) : LR Tryd.prog (E16 (GG m t fr)) 60 (GG m t fr) 17 inOuts .normal (theLoop 0 Tryd.f28) x e y := by
  unfold inF at h
  split at h
  · rename_i x p u
    split at h
    · rename_i n f hq
      have hb := br_run h
      clear h
      obtain ⟨hc, h⟩ := hb
      simp only [Bool.and_eq_true, Nat.ble_eq, decide_eq_true_eq] at hc
      obtain ⟨⟨hf, hn⟩, rfl⟩ := hc
      have hlen := nums_len n f
      have hle := (rowP_le hq).trans (PLe.gsl rfl (nums_row hf))
      generalize hL : numsOf n f = l at hlen hle h
      subst hlen
      have key := in_LR (m := m) (t := t) (fr := fr) l hn x l.length 0 (by omega)
      rw [in_scan] at key
      cases hr : inI l x with
      | true =>
        rw [hr] at key h
        simp only [Tr.run, cond_true, Option.some.injEq, Prod.mk.injEq] at h
        obtain ⟨rfl, rfl⟩ := h
        exact .le ⟨.cons (.refl _) (PLeL.cons hle (.refl _)), .nil⟩ key
      | false =>
        rw [hr] at key h
        simp only [Tr.run, cond_false, Option.some.injEq, Prod.mk.injEq] at h
        obtain ⟨rfl, rfl⟩ := h
        exact .le ⟨.cons (.refl _) (PLeL.cons hle (.refl _)), .nil⟩ key
    · cases h
  · cases h
theorem in_raw_v (m : Int) (t : TypeId) (fr : Nat × Nat) (n : Nat) (l : List Int) (x : Int) : ((fnPure Tryd.prog ((E16 (GG m t fr)).withCuts (cut1 0 (cutOf (GG m t fr) 17 inOuts 0 inF))) 60 Tryd.f28 (GG m t fr) [.gsl 1 n (nRow l), .lit (.int .u32 x)])).val =
 (bif (inI (numsOf n (nRow l)) x) then
 (.some (.lit (.bool true)))
 else (.some (.lit (.bool false))) : Option PV) := by
  kernel_rfl
theorem in_raw_c (m : Int) (t : TypeId) (fr : Nat × Nat) (n : Nat) (l : List Int) (x : Int) : ((fnPure Tryd.prog ((E16 (GG m t fr)).withCuts (cut1 0 (cutOf (GG m t fr) 17 inOuts 0 inF))) 60 Tryd.f28 (GG m t fr) [.gsl 1 n (nRow l), .lit (.int .u32 x)])).conds =
 (bif (((areNums n (nRow l)) && (Nat.ble n (4294967280 : Nat))) && (decide (((n : Nat) : Int) = ((n : Nat) : Int)))) then
 bif (inI (numsOf n (nRow l)) x) then
 true
 else true
 else false : Bool) := by
  kernel_rfl
/-! ### whether two lists are one -/
def smBad (l l' : List Int) (i : Nat) : Option (Exit × Kept) := bif bne (nu l i) (nu l' i) then some (.ret, ([bool false], [])) else none
theorem sm_LR (l l' : List Int) (hn : l.length ≤ 4294967280) (he : l.length = l'.length) (k i : Nat) (hk : i + k = l.length) : LR Tryd.prog (E16 (GG m t fr)) 60 (GG m t fr) 26 smOuts .normal (theLoop 0 Tryd.f15) ([.gsl 1 l.length (nRow l), .gsl 1 l'.length (nRow l'), int l.length, int i], [])
    (scanR (smBad l l') (.exit 0, ([], [])) k i).1 (scanR (smBad l l') (.exit 0, ([], [])) k i).2 := by
  refine LR.scan2 (s := 0) (K := l.length) (st := fun j : Nat => ([.gsl 1 l.length (nRow l), .gsl 1 l'.length (nRow l'), int l.length, int j], [])) (fun j h1 hlt => ?_) (fun j r hb => ?_) ?_ (by simp) (by simp) k i (by omega) hk
  · have hv := sm_round_v m t fr l l' l.length l'.length l.length j
    have hc := sm_round_c m t fr l l' l.length l'.length l.length j
    rw [lt_cast, decide_eq_true hlt, Int.toNat_natCast, wrap_succ (by omega)] at hv
    rw [lt_cast, decide_eq_true hlt, Int.toNat_natCast, in_rng hlt, in_rng (show j < l'.length by omega)] at hc
    unfold smBad
    cases hd : bne (nu l j) (nu l' j) <;> (rw [hd] at hv hc; exact Tr.run_vc hv hc rfl rfl)
  · unfold smBad at hb
    cases hd : bne (nu l j) (nu l' j) <;> (rw [hd] at hb; cases hb)
    exact ⟨by simp, by simp⟩
  · have hv := sm_round_v m t fr l l' l.length l'.length l.length l.length
    have hc := sm_round_c m t fr l l' l.length l'.length l.length l.length
    rw [lt_cast, decide_eq_false (by omega)] at hv hc
    exact Tr.run_vc hv hc rfl rfl
theorem sm_scan {l l' : List Int} (he : l.length = l'.length) (z : Exit × Kept) : scanR (smBad l l') z l.length 0 = bif decide (l = l') then z else (.ret, ([bool false], [])) := by
  by_cases h : l = l'
  · rw [decide_eq_true h]
    subst h
    refine scanR_all fun j h1 h2 => ?_
    unfold smBad
    simp
  · rw [decide_eq_false h]
    have : ∃ j, j < l.length ∧ nu l j ≠ nu l' j := by
      refine Classical.byContradiction fun hn => h (List.ext_getElem he fun j h1 h2 => ?_)
      have : nu l j = nu l' j := Classical.byContradiction fun hx => hn ⟨j, h1, hx⟩
      rw [nu_get h1, nu_get h2] at this
      exact this
    obtain ⟨j, h1, h2⟩ := this
    refine scanR_some (fun j => ?_) ⟨j, by omega, by omega, ?_⟩
    · unfold smBad
      cases bne (nu l j) (nu l' j)
      · exact .inl rfl
      · exact .inr rfl
    · unfold smBad
      have : bne (nu l j) (nu l' j) = true := by simpa using h2
      rw [this]
      rfl
def smF : Kept → Tr (Exit × Kept)
  | ([p, q, .lit (.int .i64 u), .lit (.int .i64 0)], []) => match rowP 1 p, rowP 1 q with
    | some (n, f), some (n', f') => .br (areNums n f && areNums n' f' && Nat.ble n 4294967280 && Nat.beq n n' && decide (u = n)) (.br (decide (numsOf n f = numsOf n' f')) (.leaf (.exit 0, ([], []))) (.leaf (.ret, ([bool false], [])))) .fail
    | _, _ => .fail
  | _ => .fail
theorem smF_ok (x : Kept) (e : Exit) (y : Kept) (h : (smF x).run = some (e, y)) : LR Tryd.prog (E16 (GG m t fr)) 60 (GG m t fr) 26 smOuts .normal (theLoop 0 Tryd.f15) x e y := by
  unfold smF at h
  split at h
  · rename_i p q u
    split at h
    · rename_i n f n' f' hq hq'
      have hb := br_run h
      clear h
      obtain ⟨hc, h⟩ := hb
      simp only [Bool.and_eq_true, Nat.ble_eq, decide_eq_true_eq] at hc
      obtain ⟨⟨⟨⟨hf, hf'⟩, hn⟩, he⟩, rfl⟩ := hc
      have he := Nat.eq_of_beq_eq_true he
      have hlen := nums_len n f
      have hlen' := nums_len n' f'
      have hle := (rowP_le hq).trans (PLe.gsl rfl (nums_row hf))
      have hle' := (rowP_le hq').trans (PLe.gsl rfl (nums_row hf'))
      generalize hL : numsOf n f = l at hlen hle h
      generalize hL' : numsOf n' f' = l' at hlen' hle' h
      subst hlen hlen'
      have key := sm_LR (m := m) (t := t) (fr := fr) l l' hn he l.length 0 (by omega)
      rw [sm_scan he] at key
      cases hr : decide (l = l') with
      | true =>
        rw [hr] at key h
        simp only [Tr.run, cond_true, Option.some.injEq, Prod.mk.injEq] at h
        obtain ⟨rfl, rfl⟩ := h
        exact .le ⟨.cons hle (PLeL.cons hle' (.refl _)), .nil⟩ key
      | false =>
        rw [hr] at key h
        simp only [Tr.run, cond_false, Option.some.injEq, Prod.mk.injEq] at h
        obtain ⟨rfl, rfl⟩ := h
        exact .le ⟨.cons hle (PLeL.cons hle' (.refl _)), .nil⟩ key
    · cases h
  · cases h
theorem sm_raw_v (m : Int) (t : TypeId) (fr : Nat × Nat) (n n' : Nat) (l l' : List Int) : ((fnPure Tryd.prog ((E16 (GG m t fr)).withCuts (cut1 0 (cutOf (GG m t fr) 26 smOuts 0 smF))) 60 Tryd.f15 (GG m t fr) [.gsl 1 n (nRow l), .gsl 1 n' (nRow l')])).val =
 (bif (bne ((n : Nat) : Int) ((n' : Nat) : Int)) then
 (.some (.lit (.bool false)))
 else bif (decide ((numsOf n (nRow l)) = (numsOf n' (nRow l')))) then
 (.some (.lit (.bool true)))
 else (.some (.lit (.bool false))) : Option PV) := by
  kernel_rfl
theorem sm_raw_c (m : Int) (t : TypeId) (fr : Nat × Nat) (n n' : Nat) (l l' : List Int) : ((fnPure Tryd.prog ((E16 (GG m t fr)).withCuts (cut1 0 (cutOf (GG m t fr) 26 smOuts 0 smF))) 60 Tryd.f15 (GG m t fr) [.gsl 1 n (nRow l), .gsl 1 n' (nRow l')])).conds =
 (bif (bne ((n : Nat) : Int) ((n' : Nat) : Int)) then
 true
 else bif (((((areNums n (nRow l)) && (areNums n' (nRow l'))) && (Nat.ble n (4294967280 : Nat))) && (Nat.beq n n')) && (decide (((n : Nat) : Int) = ((n : Nat) : Int)))) then
 bif (decide ((numsOf n (nRow l)) = (numsOf n' (nRow l')))) then
 true
 else true
 else false : Bool) := by
  kernel_rfl
end
end Go.Proofs.YtlngnfkjpfokhaaDoor.Ev
