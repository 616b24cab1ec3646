/- nset.bands: spans at work. No condition. -/
import Derived.Test.YtbpmfaghjlmjmaaDoorNsO
import Derived.Test.YtbpmfaghjlmjmaaDoorEvRow
namespace Go.Proofs.YtbpmfaghjlmjmaaDoor.Ev
open Go Go.RowKit Go.Proofs Go.Proofs.YtbpmfaghjlmjmaaDoor.Str
set_option linter.unusedVariables false
set_option linter.unusedSimpArgs false
section
variable {m : Int} {t : TypeId} {fr : Nat × Nat}
def bnOuts : Exit → Outs := fun e => match e with
  | .normal => { ks := [1, 5, 11, 12, 13], rs := [.slot 5] }
  | _ => { ks := [5], rs := [.slot 5] }
noncomputable abbrev bnRound (G : GT) := roundT Tryd.prog (E2 G) 60 G 47 bnOuts .normal (theLoop 0 Tryd.f23)
-- from: bn_round [bs, okS, ls, sp, rowSet] (m : Int) (t : TypeId) (fr : Nat × Nat) (l : List Sp) (n k : Nat) (most u i : Int) (f : Nat → List PV) : (bnRound (GG m t fr) ([.lit (.int .u32 most), .own 0, .gsl 2 n (sRow l), int u, int i], [.row 50 2 k f])).run2
theorem bn_round (m : Int) (t : TypeId) (fr : Nat × Nat) (l : List Sp) (n k : Nat) (most u i : Int) (f : Nat → List PV) : (bnRound (GG m t fr) ([.lit (.int .u32 most), .own 0, .gsl 2 n (sRow l), int u, int i], [.row 50 2 k f])).run2 =
    (bif (decide (i < u)) then
        bif (bne (Prod.fst (sp l (Int.toNat i))) (0 : Int)) then
          bif (bne (Prod.snd (sp l (Int.toNat i))) (0 : Int)) then
            (.some ((.normal, ([(.lit (.int .u32 most)), (.own 0), (.gsl 2 n (fun i => [PV.lit (Value.int IntKind.u32 (sp l i).fst), PV.lit (Value.int IntKind.u32 (sp l i).snd)])), (.lit (.int .i64 u)), (.lit (.int .i64 (IntKind.wrap .i64 (i + (1 : Int)))))], [(.row (50 : TypeId) 2 k (rowSet f (Int.toNat i) 0 [(.lit (.int .u32 (ite ((Prod.snd (sp l (Int.toNat i))) < (Prod.fst (sp l (Int.toNat i)))) (Prod.snd (sp l (Int.toNat i))) (Prod.fst (sp l (Int.toNat i)))))), (.lit (.int .u32 (ite ((Prod.snd (sp l (Int.toNat i))) > (Prod.fst (sp l (Int.toNat i)))) (Prod.snd (sp l (Int.toNat i))) (Prod.fst (sp l (Int.toNat i))))))]))])), [(Nat.blt (Int.toNat i) k), ((decide ((0 : Int) ≤ i)) && (Nat.blt (Int.toNat i) k)), true, true, ((decide ((0 : Int) ≤ i)) && (Nat.blt (Int.toNat i) n))]))
          else bif (bne most (0 : Int)) then
              (.some ((.normal, ([(.lit (.int .u32 most)), (.own 0), (.gsl 2 n (fun i => [PV.lit (Value.int IntKind.u32 (sp l i).fst), PV.lit (Value.int IntKind.u32 (sp l i).snd)])), (.lit (.int .i64 u)), (.lit (.int .i64 (IntKind.wrap .i64 (i + (1 : Int)))))], [(.row (50 : TypeId) 2 k (rowSet f (Int.toNat i) 0 [(.lit (.int .u32 (ite (most < (Prod.fst (sp l (Int.toNat i)))) most (Prod.fst (sp l (Int.toNat i)))))), (.lit (.int .u32 (ite (most > (Prod.fst (sp l (Int.toNat i)))) most (Prod.fst (sp l (Int.toNat i))))))]))])), [(Nat.blt (Int.toNat i) k), ((decide ((0 : Int) ≤ i)) && (Nat.blt (Int.toNat i) k)), true, true, true, ((decide ((0 : Int) ≤ i)) && (Nat.blt (Int.toNat i) n))]))
            else (.some ((.normal, ([(.lit (.int .u32 most)), (.own 0), (.gsl 2 n (fun i => [PV.lit (Value.int IntKind.u32 (sp l i).fst), PV.lit (Value.int IntKind.u32 (sp l i).snd)])), (.lit (.int .i64 u)), (.lit (.int .i64 (IntKind.wrap .i64 (i + (1 : Int)))))], [(.row (50 : TypeId) 2 k (rowSet f (Int.toNat i) 0 [(.lit (.int .u32 (ite ((0 : Int) < (Prod.fst (sp l (Int.toNat i)))) (0 : Int) (Prod.fst (sp l (Int.toNat i)))))), (.lit (.int .u32 (ite ((0 : Int) > (Prod.fst (sp l (Int.toNat i)))) (0 : Int) (Prod.fst (sp l (Int.toNat i))))))]))])), [(Nat.blt (Int.toNat i) k), ((decide ((0 : Int) ≤ i)) && (Nat.blt (Int.toNat i) k)), true, true, true, ((decide ((0 : Int) ≤ i)) && (Nat.blt (Int.toNat i) n))]))
        else bif (bne most (0 : Int)) then
            bif (bne (Prod.snd (sp l (Int.toNat i))) (0 : Int)) then
              (.some ((.normal, ([(.lit (.int .u32 most)), (.own 0), (.gsl 2 n (fun i => [PV.lit (Value.int IntKind.u32 (sp l i).fst), PV.lit (Value.int IntKind.u32 (sp l i).snd)])), (.lit (.int .i64 u)), (.lit (.int .i64 (IntKind.wrap .i64 (i + (1 : Int)))))], [(.row (50 : TypeId) 2 k (rowSet f (Int.toNat i) 0 [(.lit (.int .u32 (ite ((Prod.snd (sp l (Int.toNat i))) < most) (Prod.snd (sp l (Int.toNat i))) most))), (.lit (.int .u32 (ite ((Prod.snd (sp l (Int.toNat i))) > most) (Prod.snd (sp l (Int.toNat i))) most)))]))])), [(Nat.blt (Int.toNat i) k), ((decide ((0 : Int) ≤ i)) && (Nat.blt (Int.toNat i) k)), true, true, true, ((decide ((0 : Int) ≤ i)) && (Nat.blt (Int.toNat i) n))]))
            else bif (bne most (0 : Int)) then
                (.some ((.normal, ([(.lit (.int .u32 most)), (.own 0), (.gsl 2 n (fun i => [PV.lit (Value.int IntKind.u32 (sp l i).fst), PV.lit (Value.int IntKind.u32 (sp l i).snd)])), (.lit (.int .i64 u)), (.lit (.int .i64 (IntKind.wrap .i64 (i + (1 : Int)))))], [(.row (50 : TypeId) 2 k (rowSet f (Int.toNat i) 0 [(.lit (.int .u32 (ite (most < most) most most))), (.lit (.int .u32 (ite (most > most) most most)))]))])), [(Nat.blt (Int.toNat i) k), ((decide ((0 : Int) ≤ i)) && (Nat.blt (Int.toNat i) k)), true, true, true, true, ((decide ((0 : Int) ≤ i)) && (Nat.blt (Int.toNat i) n))]))
              else (.some ((.normal, ([(.lit (.int .u32 most)), (.own 0), (.gsl 2 n (fun i => [PV.lit (Value.int IntKind.u32 (sp l i).fst), PV.lit (Value.int IntKind.u32 (sp l i).snd)])), (.lit (.int .i64 u)), (.lit (.int .i64 (IntKind.wrap .i64 (i + (1 : Int)))))], [(.row (50 : TypeId) 2 k (rowSet f (Int.toNat i) 0 [(.lit (.int .u32 (ite ((0 : Int) < most) (0 : Int) most))), (.lit (.int .u32 (ite ((0 : Int) > most) (0 : Int) most)))]))])), [(Nat.blt (Int.toNat i) k), ((decide ((0 : Int) ≤ i)) && (Nat.blt (Int.toNat i) k)), true, true, true, true, ((decide ((0 : Int) ≤ i)) && (Nat.blt (Int.toNat i) n))]))
          else bif (bne (Prod.snd (sp l (Int.toNat i))) (0 : Int)) then
              (.some ((.normal, ([(.lit (.int .u32 most)), (.own 0), (.gsl 2 n (fun i => [PV.lit (Value.int IntKind.u32 (sp l i).fst), PV.lit (Value.int IntKind.u32 (sp l i).snd)])), (.lit (.int .i64 u)), (.lit (.int .i64 (IntKind.wrap .i64 (i + (1 : Int)))))], [(.row (50 : TypeId) 2 k (rowSet f (Int.toNat i) 0 [(.lit (.int .u32 (ite ((Prod.snd (sp l (Int.toNat i))) < (0 : Int)) (Prod.snd (sp l (Int.toNat i))) (0 : Int)))), (.lit (.int .u32 (ite ((Prod.snd (sp l (Int.toNat i))) > (0 : Int)) (Prod.snd (sp l (Int.toNat i))) (0 : Int))))]))])), [(Nat.blt (Int.toNat i) k), ((decide ((0 : Int) ≤ i)) && (Nat.blt (Int.toNat i) k)), true, true, true, ((decide ((0 : Int) ≤ i)) && (Nat.blt (Int.toNat i) n))]))
            else bif (bne most (0 : Int)) then
                (.some ((.normal, ([(.lit (.int .u32 most)), (.own 0), (.gsl 2 n (fun i => [PV.lit (Value.int IntKind.u32 (sp l i).fst), PV.lit (Value.int IntKind.u32 (sp l i).snd)])), (.lit (.int .i64 u)), (.lit (.int .i64 (IntKind.wrap .i64 (i + (1 : Int)))))], [(.row (50 : TypeId) 2 k (rowSet f (Int.toNat i) 0 [(.lit (.int .u32 (ite (most < (0 : Int)) most (0 : Int)))), (.lit (.int .u32 (ite (most > (0 : Int)) most (0 : Int))))]))])), [(Nat.blt (Int.toNat i) k), ((decide ((0 : Int) ≤ i)) && (Nat.blt (Int.toNat i) k)), true, true, true, true, ((decide ((0 : Int) ≤ i)) && (Nat.blt (Int.toNat i) n))]))
              else (.some ((.normal, ([(.lit (.int .u32 most)), (.own 0), (.gsl 2 n (fun i => [PV.lit (Value.int IntKind.u32 (sp l i).fst), PV.lit (Value.int IntKind.u32 (sp l i).snd)])), (.lit (.int .i64 u)), (.lit (.int .i64 (IntKind.wrap .i64 (i + (1 : Int)))))], [(.row (50 : TypeId) 2 k (rowSet f (Int.toNat i) 0 [(.lit (.int .u32 (0 : Int))), (.lit (.int .u32 (0 : Int)))]))])), [(Nat.blt (Int.toNat i) k), ((decide ((0 : Int) ≤ i)) && (Nat.blt (Int.toNat i) k)), true, true, true, true, ((decide ((0 : Int) ≤ i)) && (Nat.blt (Int.toNat i) n))]))
      else (.some (((.exit 0), ([(.own 0)], [(.row (50 : TypeId) 2 k f)])), [])) : Option ((Exit × Kept) × List Bool)) := by
  kernel_rfl
/-- a span at work -/
def eS (most a : Int) : Int := bif bne a 0 then a else bif bne most 0 then most else 0
def bandS (most : Int) (x : Sp) : Sp := (bif decide (eS most x.2 < eS most x.1) then eS most x.2 else eS most x.1, bif decide (eS most x.2 < eS most x.1) then eS most x.1 else eS most x.2)
theorem mn (a b : Int) : ite (b < a) b a = (bif decide (b < a) then b else a) := by by_cases h : b < a <;> simp [h]
theorem mx (a b : Int) : ite (b > a) b a = (bif decide (b < a) then a else b) := by
  by_cases h : b < a
  · simp [h, Int.not_lt.2 (Int.le_of_lt h)]
  · by_cases h2 : a < b
    · simp [h, h2]
    · have : a = b := by omega
      subst this
      simp
/-- the row, so far -/
def bnF (B : List Sp) (f : Nat → List PV) (i j : Nat) : List PV := bif Nat.blt j i then sRow B j else f j
theorem bnF_step (B : List Sp) (f : Nat → List PV) (i : Nat) (hf : (f i).drop 2 = []) : rowSet (bnF B f i) i 0 [.lit (.int .u32 (sp B i).1), .lit (.int .u32 (sp B i).2)] = bnF B f (i + 1) := by
  funext k
  rw [rowSet_eq]
  unfold rowSetO
  cases h : Nat.beq k i with
  | true =>
    obtain rfl := Nat.eq_of_beq_eq_true h
    have h1 : Nat.blt k k = false := by rw [Bool.eq_false_iff, ne_eq, Nat.blt_eq]; omega
    have h2 : Nat.blt k (k + 1) = true := by rw [Nat.blt_eq]; omega
    simp [bnF, h1, h2, hf, sRow]
  | false =>
    have hne : k ≠ i := fun e => by subst e; simp at h
    unfold bnF
    have : Nat.blt k i = Nat.blt k (i + 1) := by
      rw [Bool.eq_iff_iff, Nat.blt_eq, Nat.blt_eq]
      omega
    rw [this]
theorem bn_step (m : Int) (t : TypeId) (fr : Nat × Nat) (l : List Sp) (n k : Nat) (most : Int) (i : Nat) (f : Nat → List PV) (hi : i < n) (hk : i < k) (hn : n ≤ 4294967280) :
    (bnRound (GG m t fr) ([.lit (.int .u32 most), .own 0, .gsl 2 n (sRow l), int n, int i], [.row 50 2 k f])).run =
      some (.normal, ([.lit (.int .u32 most), .own 0, .gsl 2 n (sRow l), int n, int ((i + 1 : Nat) : Int)], [.row 50 2 k (rowSet f i 0 [.lit (.int .u32 (bandS most (sp l i)).1), .lit (.int .u32 (bandS most (sp l i)).2)])])) := by
  have h := bn_round m t fr l n k most n i f
  have hd : decide ((i : Int) < (n : Int)) = true := by simp; omega
  have hw : IntKind.i64.wrap ((i : Int) + 1) = ((i + 1 : Nat) : Int) := wrap_succ (by omega)
  have b1 : Nat.blt i k = true := by rw [Nat.blt_eq]; exact hk
  have b2 : Nat.blt i n = true := by rw [Nat.blt_eq]; exact hi
  have b3 : decide ((0 : Int) ≤ (i : Int)) = true := by simp
  rw [hd, hw, Int.toNat_natCast, b1, b2, b3] at h
  simp only [cond_true, mn, mx] at h
  have key : ∀ x y : Int, x = eS most (sp l i).1 → y = eS most (sp l i).2 → (bif decide (y < x) then y else x) = (bandS most (sp l i)).1 ∧ (bif decide (y < x) then x else y) = (bandS most (sp l i)).2 := by
    rintro x y rfl rfl
    exact ⟨rfl, rfl⟩
  cases c1 : bne (sp l i).1 0 with
  | true =>
    have e1 : (sp l i).1 = eS most (sp l i).1 := by unfold eS; rw [c1]; rfl
    rw [c1] at h
    cases c2 : bne (sp l i).2 0 with
    | true =>
      have e2 : (sp l i).2 = eS most (sp l i).2 := by unfold eS; rw [c2]; rfl
      rw [c2] at h
      obtain ⟨k1, k2⟩ := key _ _ e1 e2
      simp only [cond_true, k1, k2] at h
      exact Tr.run_of h (by simp)
    | false =>
      rw [c2] at h
      cases c3 : bne most 0 with
      | true =>
        have e2 : most = eS most (sp l i).2 := by unfold eS; rw [c2, c3]; rfl
        rw [c3] at h
        obtain ⟨k1, k2⟩ := key _ _ e1 e2
        simp only [cond_true, cond_false, k1, k2] at h
        exact Tr.run_of h (by simp)
      | false =>
        have e2 : 0 = eS most (sp l i).2 := by unfold eS; rw [c2, c3]; rfl
        rw [c3] at h
        obtain ⟨k1, k2⟩ := key _ _ e1 e2
        simp only [cond_false, k1, k2] at h
        exact Tr.run_of h (by simp)
  | false =>
    rw [c1] at h
    cases c3 : bne most 0 with
    | true =>
      have e1 : most = eS most (sp l i).1 := by unfold eS; rw [c1, c3]; rfl
      rw [c3] at h
      cases c2 : bne (sp l i).2 0 with
      | true =>
        have e2 : (sp l i).2 = eS most (sp l i).2 := by unfold eS; rw [c2]; rfl
        rw [c2] at h
        obtain ⟨k1, k2⟩ := key _ _ e1 e2
        simp only [cond_true, cond_false, k1, k2] at h
        exact Tr.run_of h (by simp)
      | false =>
        have e2 : most = eS most (sp l i).2 := by unfold eS; rw [c2, c3]; rfl
        rw [c2] at h
        obtain ⟨k1, k2⟩ := key _ _ e1 e2
        have k3 : (bandS most (sp l i)).1 = (bandS most (sp l i)).2 := by rw [← k1, ← k2]
        simp only [cond_true, cond_false, k1] at h
        rw [← k3]
        exact Tr.run_of h (by simp)
    | false =>
      have e1 : 0 = eS most (sp l i).1 := by unfold eS; rw [c1, c3]; rfl
      rw [c3] at h
      cases c2 : bne (sp l i).2 0 with
      | true =>
        have e2 : (sp l i).2 = eS most (sp l i).2 := by unfold eS; rw [c2]; rfl
        rw [c2] at h
        obtain ⟨k1, k2⟩ := key _ _ e1 e2
        simp only [cond_true, cond_false, k1, k2] at h
        exact Tr.run_of h (by simp)
      | false =>
        have e2 : 0 = eS most (sp l i).2 := by unfold eS; rw [c2, c3]; rfl
        rw [c2] at h
        obtain ⟨k1, k2⟩ := key _ _ e1 e2
        have k1 : 0 = (bandS most (sp l i)).1 := by rw [← k1]; rfl
        have k2 : 0 = (bandS most (sp l i)).2 := by rw [← k2]; rfl
        rw [← k1, ← k2]
        simp only [cond_false] at h
        exact Tr.run_of h (by simp)
def bnIn (l : List Sp) (most : Int) (k i : Nat) (f : Nat → List PV) : Kept := ([.lit (.int .u32 most), .own 0, .gsl 2 l.length (sRow l), int l.length, int i], [.row 50 2 k f])
theorem bn_LR (l : List Sp) (most : Int) (k : Nat) (f : Nat → List PV) (hn : l.length ≤ 4294967280) (hk : l.length ≤ k) (hf : ∀ i, i < l.length → (f i).drop 2 = []) : ∀ (d i : Nat), i + d = l.length →
    LR Tryd.prog (E2 (GG m t fr)) 60 (GG m t fr) 47 bnOuts .normal (theLoop 0 Tryd.f23) (bnIn l most k i (bnF (l.map (bandS most)) f i)) (.exit 0) ([.own 0], [.row 50 2 k (bnF (l.map (bandS most)) f l.length)])
  | 0, i, hi => by
    have h := bn_round m t fr l l.length k most l.length i (bnF (l.map (bandS most)) f i)
    have hd : decide ((i : Int) < (l.length : Int)) = false := by simp; omega
    rw [hd] at h
    have e : i = l.length := by omega
    have h := Tr.run_of h (by simp)
    rw [e] at h
    rw [e]
    exact .last h (by simp) (by simp)
  | d + 1, i, hi => by
    have h := bn_step m t fr l l.length k most i (bnF (l.map (bandS most)) f i) (by omega) (by omega) hn
    have hb : sp (l.map (bandS most)) i = bandS most (sp l i) := by
      simp [sp, show i < l.length by omega]
    rw [← hb, bnF_step _ _ _ (hf i (by omega))] at h
    exact .more h (bn_LR l most k f hn hk hf d (i + 1) (by omega))
def bnK : Kept → Tr (Exit × Kept)
  | ([.lit (.int .u32 most), .own 0, .gsl 2 n f', .lit (.int .i64 u), .lit (.int .i64 0)], [.row e 2 k f]) => match Nat.beq e 50 with
    | true => .br (areSps n f' && decide (u = (n : Int)) && Nat.ble n k && Nat.ble n 4294967280 && (List.range n).all fun i => Nat.ble (f i).length 2)
        (.leaf (.exit 0, ([.own 0], [.row 50 2 k (bnF ((spsOf n f').map (bandS most)) f n)]))) .fail
    | false => .fail
  | _ => .fail
theorem bnK_ok (x : Kept) (e : Exit) (y : Kept) (h : (bnK x).run = some (e, y)) : LR Tryd.prog (E2 (GG m t fr)) 60 (GG m t fr) 47 bnOuts .normal (theLoop 0 Tryd.f23) x e y := by
  unfold bnK at h
  split at h
  · rename_i most n f' u e0 k f
    split at h
    · rename_i he
      obtain rfl := Nat.eq_of_beq_eq_true he
      have hb := br_run h
      clear h
      obtain ⟨hc, h⟩ := hb
      simp only [Bool.and_eq_true, decide_eq_true_eq, Nat.ble_eq, List.all_eq_true, List.mem_range] at hc
      obtain ⟨⟨⟨⟨hf', rfl⟩, hnk⟩, hn⟩, hf⟩ := hc
      simp only [Tr.run, Option.some.injEq, Prod.mk.injEq] at h
      obtain ⟨rfl, rfl⟩ := h
      have hL := sps_len n f'
      have key := bn_LR (m := m) (t := t) (fr := fr) (spsOf n f') most k f (by omega) (by omega) (fun i hi => List.drop_eq_nil_of_le (hf i (by omega))) n 0 (by omega)
      have hin : KLe ([.lit (.int .u32 most), .own 0, .gsl 2 n f', int (n : Int), int 0], [.row 50 2 k f]) (bnIn (spsOf n f') most k 0 (bnF ((spsOf n f').map (bandS most)) f 0)) := by
        have e0 : bnF ((spsOf n f').map (bandS most)) f 0 = f := by
          funext j
          unfold bnF
          have : Nat.blt j 0 = false := by rw [Bool.eq_false_iff, ne_eq, Nat.blt_eq]; omega
          rw [this, cond_false]
        rw [e0]
        refine ⟨PLeL.cons (.refl _) (PLeL.cons (.refl _) (PLeL.cons (PLe.gsl hL.symm (sps_row hf')) (PLeL.cons (PLe.of_eq ?_) (.refl _)))), .refl _⟩
        rw [hL]
      rw [hL] at key
      exact .le hin key
    · cases h
  · cases h
noncomputable abbrev bnCut (G : GT) := cutOf G 47 bnOuts 0 bnK
-- from: bands_raw [bs, okS, ls, sp, rowSet, areSps, spsOf, bnF, bandS, sRow] (m : Int) (t : TypeId) (fr : Nat × Nat) (n : Nat) (f : Nat → List PV) (most : Int) : (fnRow Tryd.prog ((E2 (GG m t fr)).withCuts (cut1 0 (bnCut (GG m t fr)))) 60 Tryd.f23 (GG m t fr) [.gsl 2 n f, .lit (.int .u32 most)]).run2
theorem bands_raw (m : Int) (t : TypeId) (fr : Nat × Nat) (n : Nat) (f : Nat → List PV) (most : Int) : (fnRow Tryd.prog ((E2 (GG m t fr)).withCuts (cut1 0 (bnCut (GG m t fr)))) 60 Tryd.f23 (GG m t fr) [.gsl 2 n f, .lit (.int .u32 most)]).run2 =
    ((.some (((50 : TypeId), (2, ((Int.toNat ((n : Nat) : Int)), (bnF (List.map (bandS most) (spsOf n f)) (fun x => List.map PV.lit #[Value.int IntKind.u32 0, Value.int IntKind.u32 0].toList) n)))), [(((((areSps n f) && (decide (((n : Nat) : Int) = ((n : Nat) : Int)))) && (Nat.ble n (Int.toNat ((n : Nat) : Int)))) && (Nat.ble n (4294967280 : Nat))) && (List.all (List.range n) (fun i => ((fun x => List.map PV.lit #[Value.int IntKind.u32 0, Value.int IntKind.u32 0].toList) i).length.ble 2))), (((decide ((0 : Int) ≤ ((n : Nat) : Int))) && (decide (((n : Nat) : Int) = ((n : Nat) : Int)))) && (Nat.ble (8 * (Int.toNat ((n : Nat) : Int))) (140737488355328 : Nat)))])) : Option ((TypeId × Nat × Nat × (Nat → List PV)) × List Bool)) := by
  kernel_rfl
def bandsG : List PV → Tr (TypeId × Nat × Nat × (Nat → List PV))
  | [.gsl 2 n f, .lit (.int .u32 most)] => .br (areSps n f && Nat.ble n 4294967280) (.leaf (50, 2, n, sRow ((spsOf n f).map (bandS most)))) .fail
  | _ => .fail
theorem bands_ok : RowOK Tryd.prog (GG m t fr) 23 bandsG := by
  refine RowOK.of (row_of_ev (E2_ok.withCuts (cut1 0 (bnCut (GG m t fr)))) mixed (fn := Tryd.f23) (n := 60) (by kernel_rfl) (CutLaws.ok (E := (E2 (GG m t fr)).withCuts (cut1 0 (bnCut (GG m t fr)))) (CutLaws.one (by omega) (by kernel_rfl) fun st e st' h => cutOf_ok E2_ok mixed (noCuts_ok (envOf_cuts ..) _) bnK_ok h))) fun ps e sz n k hk => ?_
  unfold bandsG at hk
  split at hk
  · rename_i n' f most
    obtain ⟨hc, hk⟩ := br_run hk
    simp only [Bool.and_eq_true, Nat.ble_eq] at hc
    simp only [Tr.run, Option.some.injEq, Prod.mk.injEq] at hk
    obtain ⟨rfl, rfl, rfl, rfl⟩ := hk
    have h := bands_raw m t fr n' f most
    rw [Int.toNat_natCast] at h
    refine ⟨_, Tr.run_of h (by simp [hc.1]; omega), fun i hi => ?_⟩
    unfold bnF
    have : Nat.blt i n' = true := by rw [Nat.blt_eq]; exact hi
    rw [this, cond_true]
  · cases hk
def nbFull : List (Nat × (List PV → Mem → Tr (PV × Mem))) := (23, rowFn bandsG) :: nsFull
theorem nbFull_ok : FullOK Tryd.prog (GG m t fr) nbFull := FullOK.cons (row_fn bands_ok) (fn := Tryd.f23) (by kernel_rfl) (by kernel_rfl) nsFull_ok
noncomputable abbrev E4 (G : GT) : Env := envOf Tryd.prog G nsPure nbFull
theorem E4_ok : (E4 (GG m t fr)).ok Tryd.prog (GG m t fr) := envOf_ok mixed nsPure_ok nbFull_ok
end
end Go.Proofs.YtbpmfaghjlmjmaaDoor.Ev
