/- nset: the document's Sort, its loops. No condition. -/
import Derived.Test.YtbpmfaghjlmjmaaDoorNsU
namespace Go.Proofs.YtbpmfaghjlmjmaaDoor.Ev
open Go Go.RowKit Go.Proofs Go.Proofs.YtbpmfaghjlmjmaaDoor.Str
set_option linter.unusedVariables false
set_option linter.unusedSimpArgs false
section
variable {m : Int} {t : TypeId} {fr : Nat × Nat}
def riOuts : Exit → Outs
  | .normal => { ks := [1, 9, 10, 11, 18, 19, 20, 30, 31, 32], rs := [.slot 11], nils := [(11, 44, 2)] }
  | .exit _ => { ks := [1, 9, 10, 11, 18, 19, 20], rs := [.slot 11], nils := [(11, 44, 2)] }
  | _ => { ks := [] }
noncomputable abbrev riRound (G : GT) := roundT Tryd.prog (E9 G) 60 G 100 riOuts .normal (theLoop 2 Tryd.f9)
-- from: ri_round [bs, okS, ls, sp, rowSet, rowApp, rowOf, sRow] (m : Int) (t : TypeId) (fr : Nat × Nat) (o r : List Sp) (n k n0 : Nat) (f0 : Nat → List PV) (most a b u0 i0 u i : Int) : (riRound (GG m t fr) ([.lit (.int .u32 most), .lit (.int .u32 a), .lit (.int .u32 b), .own 0, .gsl 2 n0 f0, int u0, int i0, .gsl 2 n (sRow o), int u, int i], [.row 44 2 k (sRow r)])).run2
theorem ri_round (m : Int) (t : TypeId) (fr : Nat × Nat) (o r : List Sp) (n k n0 : Nat) (f0 : Nat → List PV) (most a b u0 i0 u i : Int) : (riRound (GG m t fr) ([.lit (.int .u32 most), .lit (.int .u32 a), .lit (.int .u32 b), .own 0, .gsl 2 n0 f0, int u0, int i0, .gsl 2 n (sRow o), int u, int i], [.row 44 2 k (sRow r)])).run2 =
    (bif (decide (i < u)) then
        bif (decide ((IntKind.wrap .u64 ((IntKind.wrap .u64 (Prod.snd (sp o (Int.toNat i)))) + (1 : Int))) < (IntKind.wrap .u64 a))) then
          (.some ((.normal, ([(.lit (.int .u32 most)), (.lit (.int .u32 a)), (.lit (.int .u32 b)), (.own 0), (.gsl 2 n0 f0), (.lit (.int .i64 u0)), (.lit (.int .i64 i0)), (.gsl 2 n (sRow o)), (.lit (.int .i64 u)), (.lit (.int .i64 (IntKind.wrap .i64 (i + (1 : Int)))))], [(.row 44 2 (k + 1) (rowApp k (sRow r) (rowOf [(.lit (.int .u32 (Prod.fst (sp o (Int.toNat i))))), (.lit (.int .u32 (Prod.snd (sp o (Int.toNat i)))))] 2)))])), [(Nat.ble ((k + 1) * 8) (140737488355328 : Nat)), true, true, true, true, true, true, ((decide ((0 : Int) ≤ i)) && (Nat.blt (Int.toNat i) n))]))
        else bif (decide ((IntKind.wrap .u64 ((IntKind.wrap .u64 b) + (1 : Int))) < (IntKind.wrap .u64 (Prod.fst (sp o (Int.toNat i)))))) then
            (.some ((.normal, ([(.lit (.int .u32 most)), (.lit (.int .u32 a)), (.lit (.int .u32 b)), (.own 0), (.gsl 2 n0 f0), (.lit (.int .i64 u0)), (.lit (.int .i64 i0)), (.gsl 2 n (sRow o)), (.lit (.int .i64 u)), (.lit (.int .i64 (IntKind.wrap .i64 (i + (1 : Int)))))], [(.row 44 2 (k + 1) (rowApp k (sRow r) (rowOf [(.lit (.int .u32 (Prod.fst (sp o (Int.toNat i))))), (.lit (.int .u32 (Prod.snd (sp o (Int.toNat i)))))] 2)))])), [(Nat.ble ((k + 1) * 8) (140737488355328 : Nat)), ((decide ((0 : Int) ≤ i)) && (Nat.blt (Int.toNat i) n))]))
          else bif (decide ((Prod.fst (sp o (Int.toNat i))) < a)) then
              bif (decide ((Prod.snd (sp o (Int.toNat i))) > b)) then
                (.some ((.normal, ([(.lit (.int .u32 most)), (.lit (.int .u32 (Prod.fst (sp o (Int.toNat i))))), (.lit (.int .u32 (Prod.snd (sp o (Int.toNat i))))), (.own 0), (.gsl 2 n0 f0), (.lit (.int .i64 u0)), (.lit (.int .i64 i0)), (.gsl 2 n (sRow o)), (.lit (.int .i64 u)), (.lit (.int .i64 (IntKind.wrap .i64 (i + (1 : Int)))))], [(.row (44 : TypeId) 2 k (sRow r))])), [((decide ((0 : Int) ≤ i)) && (Nat.blt (Int.toNat i) n))]))
              else (.some ((.normal, ([(.lit (.int .u32 most)), (.lit (.int .u32 (Prod.fst (sp o (Int.toNat i))))), (.lit (.int .u32 b)), (.own 0), (.gsl 2 n0 f0), (.lit (.int .i64 u0)), (.lit (.int .i64 i0)), (.gsl 2 n (sRow o)), (.lit (.int .i64 u)), (.lit (.int .i64 (IntKind.wrap .i64 (i + (1 : Int)))))], [(.row (44 : TypeId) 2 k (sRow r))])), [((decide ((0 : Int) ≤ i)) && (Nat.blt (Int.toNat i) n))]))
            else bif (decide ((Prod.snd (sp o (Int.toNat i))) > b)) then
                (.some ((.normal, ([(.lit (.int .u32 most)), (.lit (.int .u32 a)), (.lit (.int .u32 (Prod.snd (sp o (Int.toNat i))))), (.own 0), (.gsl 2 n0 f0), (.lit (.int .i64 u0)), (.lit (.int .i64 i0)), (.gsl 2 n (sRow o)), (.lit (.int .i64 u)), (.lit (.int .i64 (IntKind.wrap .i64 (i + (1 : Int)))))], [(.row (44 : TypeId) 2 k (sRow r))])), [((decide ((0 : Int) ≤ i)) && (Nat.blt (Int.toNat i) n))]))
              else (.some ((.normal, ([(.lit (.int .u32 most)), (.lit (.int .u32 a)), (.lit (.int .u32 b)), (.own 0), (.gsl 2 n0 f0), (.lit (.int .i64 u0)), (.lit (.int .i64 i0)), (.gsl 2 n (sRow o)), (.lit (.int .i64 u)), (.lit (.int .i64 (IntKind.wrap .i64 (i + (1 : Int)))))], [(.row (44 : TypeId) 2 k (sRow r))])), [((decide ((0 : Int) ≤ i)) && (Nat.blt (Int.toNat i) n))]))
      else (.some (((.exit 2), ([(.lit (.int .u32 most)), (.lit (.int .u32 a)), (.lit (.int .u32 b)), (.own 0), (.gsl 2 n0 f0), (.lit (.int .i64 u0)), (.lit (.int .i64 i0))], [(.row (44 : TypeId) 2 k (sRow r))])), [])) : Option ((Exit × Kept) × List Bool)) := by
  kernel_rfl
def rjOuts : Exit → Outs
  | .normal => { ks := [1, 9, 10, 11, 14, 18, 19, 20], frz := [11] }
  | .exit _ => { ks := [1, 9, 10, 11, 14, 18, 19, 20] }
  | _ => { ks := [] }
noncomputable abbrev rjRound (G : GT) := roundT Tryd.prog (E9 G) 60 G 100 rjOuts .normal (theLoop 4 Tryd.f9)
-- from: rj_round [bs, okS, ls, sp, rowSet, rowApp, rowOf, sRow] (m : Int) (t : TypeId) (fr : Nat × Nat) (r : List Sp) (k n0 : Nat) (f0 : Nat → List PV) (most a b u0 i0 j : Int) : (rjRound (GG m t fr) ([.lit (.int .u32 most), .lit (.int .u32 a), .lit (.int .u32 b), .gsl 2 k (sRow r), int j, .gsl 2 n0 f0, int u0, int i0], [])).run2
theorem rj_round (m : Int) (t : TypeId) (fr : Nat × Nat) (r : List Sp) (k n0 : Nat) (f0 : Nat → List PV) (most a b u0 i0 j : Int) : (rjRound (GG m t fr) ([.lit (.int .u32 most), .lit (.int .u32 a), .lit (.int .u32 b), .gsl 2 k (sRow r), int j, .gsl 2 n0 f0, int u0, int i0], [])).run2 =
    (bif (decide (j < ((k : Nat) : Int))) then
        bif (decide ((Prod.fst (sp r (Int.toNat j))) < a)) then
          (.some ((.normal, ([(.lit (.int .u32 most)), (.lit (.int .u32 a)), (.lit (.int .u32 b)), (.gsl 2 k (sRow r)), (.lit (.int .i64 (IntKind.wrap .i64 (j + (1 : Int))))), (.gsl 2 n0 f0), (.lit (.int .i64 u0)), (.lit (.int .i64 i0))], [])), [((decide ((0 : Int) ≤ j)) && (Nat.blt (Int.toNat j) k))]))
        else (.some (((.exit 4), ([(.lit (.int .u32 most)), (.lit (.int .u32 a)), (.lit (.int .u32 b)), (.gsl 2 k (sRow r)), (.lit (.int .i64 j)), (.gsl 2 n0 f0), (.lit (.int .i64 u0)), (.lit (.int .i64 i0))], [])), [((decide ((0 : Int) ≤ j)) && (Nat.blt (Int.toNat j) k))]))
      else (.some (((.exit 4), ([(.lit (.int .u32 most)), (.lit (.int .u32 a)), (.lit (.int .u32 b)), (.gsl 2 k (sRow r)), (.lit (.int .i64 j)), (.gsl 2 n0 f0), (.lit (.int .i64 u0)), (.lit (.int .i64 i0))], [])), [])) : Option ((Exit × Kept) × List Bool)) := by
  kernel_rfl
theorem w64 {a : Int} (h0 : 0 ≤ a) (h1 : a ≤ 8589934592) : IntKind.wrap .u64 a = a := by
  rw [IntKind.wrap_u64]
  omega
def riIn (most u0 i0 : Int) (n0 : Nat) (f0 : Nat → List PV) (o : List Sp) (i : Nat) (a b : Int) (r : List Sp) : Kept :=
  ([.lit (.int .u32 most), .lit (.int .u32 a), .lit (.int .u32 b), .own 0, .gsl 2 n0 f0, int u0, int i0, .gsl 2 o.length (sRow o), int o.length, int i], [.row 44 2 r.length (sRow r)])
def riEnd (most u0 i0 : Int) (n0 : Nat) (f0 : Nat → List PV) (z : (Int × Int) × List Sp) : Kept :=
  ([.lit (.int .u32 most), .lit (.int .u32 z.1.1), .lit (.int .u32 z.1.2), .own 0, .gsl 2 n0 f0, int u0, int i0], [.row 44 2 z.2.length (sRow z.2)])
theorem ri_LR (most u0 i0 : Int) (n0 : Nat) (f0 : Nat → List PV) (o : List Sp) (hu : o.all u32B = true) (hn : o.length ≤ 4294967280) : ∀ (s : List Sp) (i : Nat) (a b : Int) (r : List Sp), o.drop i = s → 0 ≤ a ∧ a < 4294967296 → 0 ≤ b ∧ b < 4294967296 → r.length ≤ i →
    LR Tryd.prog (E9 (GG m t fr)) 60 (GG m t fr) 100 riOuts .normal (theLoop 2 Tryd.f9) (riIn most u0 i0 n0 f0 o i a b r) (.exit 2) (riEnd most u0 i0 n0 f0 (riS s a b r))
  | [], i, a, b, r, hr, ha, hb, hi => by
    have h := ri_round m t fr o r o.length r.length n0 f0 most a b u0 i0 o.length i
    have hlen := List.drop_eq_nil_iff.1 hr
    have hd : decide ((i : Int) < (o.length : Int)) = false := by simp; omega
    rw [hd] at h
    exact .last (Tr.run_of h (by simp)) (by simp) (by simp [riS, riEnd])
  | y :: s, i, a, b, r, hr, ha, hb, hi => by
    have h := ri_round m t fr o r o.length r.length n0 f0 most a b u0 i0 o.length i
    obtain ⟨hlt, hx, hdr⟩ := sp_drop hr
    have hy : u32B y = true := by
      have := List.all_eq_true.1 hu o[i] (List.getElem_mem hlt)
      have e : sp o i = o[i] := by simp [sp, hlt]
      rw [← e, hx] at this
      exact this
    unfold u32B at hy
    simp only [Bool.and_eq_true, decide_eq_true_eq] at hy
    have hd : decide ((i : Int) < (o.length : Int)) = true := by simp; omega
    have hw : IntKind.i64.wrap ((i : Int) + 1) = ((i + 1 : Nat) : Int) := wrap_succ (by omega)
    rw [hd, hw, Int.toNat_natCast, hx, w64 (a := y.2) (by omega) (by omega), w64 (a := y.2 + 1) (by omega) (by omega), w64 (a := a) (by omega) (by omega), w64 (a := b) (by omega) (by omega), w64 (a := b + 1) (by omega) (by omega), w64 (a := y.1) (by omega) (by omega)] at h
    simp only [cond_true] at h
    have more : (decide (y.2 + 1 < a) || decide (b + 1 < y.1)) = true → LR Tryd.prog (E9 (GG m t fr)) 60 (GG m t fr) 100 riOuts .normal (theLoop 2 Tryd.f9)
        ([.lit (.int .u32 most), .lit (.int .u32 a), .lit (.int .u32 b), .own 0, .gsl 2 n0 f0, int u0, int i0, .gsl 2 o.length (sRow o), int o.length, int ((i + 1 : Nat) : Int)], [.row 44 2 (r.length + 1) (rowApp r.length (sRow r) (rowOf [.lit (.int .u32 y.1), .lit (.int .u32 y.2)] 2))]) (.exit 2) (riEnd most u0 i0 n0 f0 (riS (y :: s) a b r)) := by
      intro hc
      rw [riS, hc, cond_true]
      have ih := ri_LR most u0 i0 n0 f0 o hu hn s (i + 1) a b (r ++ [y]) hdr ha hb (by simp; omega)
      have le : KLe ([.lit (.int .u32 most), .lit (.int .u32 a), .lit (.int .u32 b), .own 0, .gsl 2 n0 f0, int u0, int i0, .gsl 2 o.length (sRow o), int o.length, int ((i + 1 : Nat) : Int)], [.row 44 2 (r.length + 1) (rowApp r.length (sRow r) (rowOf [.lit (.int .u32 y.1), .lit (.int .u32 y.2)] 2))]) (riIn most u0 i0 n0 f0 o (i + 1) a b (r ++ [y])) :=
        ⟨.refl _, BLeL.cons (.row _ _ (by simp) fun j hj => s_snoc r y.1 y.2 j hj) .nil⟩
      exact LR.le le ih
    cases c1 : decide (y.2 + 1 < a) with
    | true =>
      rw [c1] at h
      exact .more (Tr.run_of h (by simp; omega)) (more (by rw [c1]; rfl))
    | false =>
      rw [c1] at h
      cases c2 : decide (b + 1 < y.1) with
      | true =>
        rw [c2] at h
        exact .more (Tr.run_of h (by simp; omega)) (more (by rw [c1, c2]; rfl))
      | false =>
        rw [c2] at h
        rw [riS, c1, c2]
        simp only [cond_false, Bool.or_self] at h ⊢
        cases c3 : decide (y.1 < a) with
        | true =>
          rw [c3] at h
          cases c4 : decide (y.2 > b) with
          | true =>
            rw [c4] at h
            exact .more (Tr.run_of h (by simp; omega)) (ri_LR most u0 i0 n0 f0 o hu hn s (i + 1) y.1 y.2 r hdr hy.1 hy.2 (by omega))
          | false =>
            rw [c4] at h
            exact .more (Tr.run_of h (by simp; omega)) (ri_LR most u0 i0 n0 f0 o hu hn s (i + 1) y.1 b r hdr hy.1 hb (by omega))
        | false =>
          rw [c3] at h
          cases c4 : decide (y.2 > b) with
          | true =>
            rw [c4] at h
            exact .more (Tr.run_of h (by simp; omega)) (ri_LR most u0 i0 n0 f0 o hu hn s (i + 1) a y.2 r hdr ha hy.2 (by omega))
          | false =>
            rw [c4] at h
            exact .more (Tr.run_of h (by simp; omega)) (ri_LR most u0 i0 n0 f0 o hu hn s (i + 1) a b r hdr ha hb (by omega))
def riA (s : List Sp) (a b : Int) : Int := (riS s a b []).1.1
def riB (s : List Sp) (a b : Int) : Int := (riS s a b []).1.2
def riR (s : List Sp) (a b : Int) : List Sp := (riS s a b []).2
def riF : Kept → Tr (Exit × Kept)
  | ([.lit (.int .u32 most), .lit (.int .u32 a), .lit (.int .u32 b), .own 0, .gsl 2 n0 f0, .lit (.int .i64 u0), .lit (.int .i64 i0), .gsl 2 n f, .lit (.int .i64 u), .lit (.int .i64 0)], [.row e 2 0 g]) => match Nat.beq e 44 with
    | true => .br (areSps n f && decide (u = (n : Int)) && Nat.ble n 4294967280 && u32N a && u32N b)
        (.leaf (.exit 2, ([.lit (.int .u32 most), .lit (.int .u32 (riA (spsOf n f) a b)), .lit (.int .u32 (riB (spsOf n f) a b)), .own 0, .gsl 2 n0 f0, int u0, int i0], [.row 44 2 (riR (spsOf n f) a b).length (sRow (riR (spsOf n f) a b))]))) .fail
    | false => .fail
  | _ => .fail
theorem riF_ok (k : Kept) (e : Exit) (y : Kept) (h : (riF k).run = some (e, y)) : LR Tryd.prog (E9 (GG m t fr)) 60 (GG m t fr) 100 riOuts .normal (theLoop 2 Tryd.f9) k e y := by
  unfold riF at h
  split at h
  · rename_i most a b n0 f0 u0 i0 n f u e0 g
    split at h
    · rename_i he
      obtain rfl := Nat.eq_of_beq_eq_true he
      have hb := br_run h
      clear h
      obtain ⟨hc, h⟩ := hb
      simp only [Bool.and_eq_true, decide_eq_true_eq, Nat.ble_eq] at hc
      obtain ⟨⟨⟨⟨hf, rfl⟩, hn⟩, ha⟩, hbb⟩ := hc
      unfold u32N at ha hbb
      simp only [Bool.and_eq_true, decide_eq_true_eq] at ha hbb
      simp only [Tr.run, Option.some.injEq, Prod.mk.injEq] at h
      obtain ⟨rfl, rfl⟩ := h
      have hL := sps_len n f
      have key := ri_LR (m := m) (t := t) (fr := fr) most u0 i0 n0 f0 (spsOf n f) (sps_u32 hf) (by omega) (spsOf n f) 0 a b [] rfl ha hbb (Nat.le_refl _)
      have hin : KLe ([.lit (.int .u32 most), .lit (.int .u32 a), .lit (.int .u32 b), .own 0, .gsl 2 n0 f0, int u0, int i0, .gsl 2 n f, int (n : Int), int 0], [.row 44 2 0 g]) (riIn most u0 i0 n0 f0 (spsOf n f) 0 a b []) := by
        refine ⟨PLeL.cons (.refl _) (PLeL.cons (.refl _) (PLeL.cons (.refl _) (PLeL.cons (.refl _) (PLeL.cons (.refl _) (PLeL.cons (.refl _) (PLeL.cons (.refl _) (PLeL.cons (PLe.gsl hL.symm (sps_row hf)) (PLeL.cons (PLe.of_eq ?_) (.refl _))))))))), BLeL.cons (.row _ _ rfl fun j hj => absurd hj (by simp)) .nil⟩
        rw [hL]
      exact .le hin key
    · cases h
  · cases h
noncomputable abbrev riCut (G : GT) := cutOf G 100 riOuts 2 riF
/-! ### the place -/
def rjIn (most a b u0 i0 : Int) (n0 : Nat) (f0 : Nat → List PV) (r : List Sp) (j : Nat) : Kept := ([.lit (.int .u32 most), .lit (.int .u32 a), .lit (.int .u32 b), .gsl 2 r.length (sRow r), int j, .gsl 2 n0 f0, int u0, int i0], [])
theorem rj_LR (most a b u0 i0 : Int) (n0 : Nat) (f0 : Nat → List PV) (r : List Sp) (hn : r.length ≤ 4294967280) : ∀ (s : List Sp) (j : Nat), r.drop j = s →
    LR Tryd.prog (E9 (GG m t fr)) 60 (GG m t fr) 100 rjOuts .normal (theLoop 4 Tryd.f9) (rjIn most a b u0 i0 n0 f0 r j) (.exit 4) (rjIn most a b u0 i0 n0 f0 r (j + rjS a s))
  | [], j, hr => by
    have h := rj_round m t fr r r.length n0 f0 most a b u0 i0 j
    have hlen := List.drop_eq_nil_iff.1 hr
    have hd : decide ((j : Int) < (r.length : Int)) = false := by simp; omega
    rw [hd] at h
    exact .last (Tr.run_of h (by simp)) (by simp) (by simp [rjS, rjIn])
  | y :: s, j, hr => by
    have h := rj_round m t fr r r.length n0 f0 most a b u0 i0 j
    obtain ⟨hlt, hx, hdr⟩ := sp_drop hr
    have hd : decide ((j : Int) < (r.length : Int)) = true := by simp; omega
    have hw : IntKind.i64.wrap ((j : Int) + 1) = ((j + 1 : Nat) : Int) := wrap_succ (by omega)
    rw [hd, hw, Int.toNat_natCast, hx] at h
    cases c : decide (y.1 < a) with
    | true =>
      rw [c] at h
      have e : j + rjS a (y :: s) = (j + 1) + rjS a s := by rw [rjS, c, cond_true]; omega
      rw [e]
      exact .more (Tr.run_of h (by simp; omega)) (rj_LR most a b u0 i0 n0 f0 r hn s (j + 1) hdr)
    | false =>
      rw [c] at h
      have e : j + rjS a (y :: s) = j := by rw [rjS, c]; rfl
      rw [e]
      exact .last (Tr.run_of h (by simp; omega)) (by simp) (by simp [rjIn])
def rjF : Kept → Tr (Exit × Kept)
  | ([.lit (.int .u32 most), .lit (.int .u32 a), .lit (.int .u32 b), .gsl 2 n f, .lit (.int .i64 0), .gsl 2 n0 f0, .lit (.int .i64 u0), .lit (.int .i64 i0)], []) => .br (areSps n f && Nat.ble n 4294967280)
      (.leaf (.exit 4, ([.lit (.int .u32 most), .lit (.int .u32 a), .lit (.int .u32 b), .gsl 2 n (sRow (spsOf n f)), int (rjS a (spsOf n f) : Nat), .gsl 2 n0 f0, int u0, int i0], []))) .fail
  | _ => .fail
theorem rjF_ok (k : Kept) (e : Exit) (y : Kept) (h : (rjF k).run = some (e, y)) : LR Tryd.prog (E9 (GG m t fr)) 60 (GG m t fr) 100 rjOuts .normal (theLoop 4 Tryd.f9) k e y := by
  unfold rjF at h
  split at h
  · rename_i most a b n f n0 f0 u0 i0
    have hb := br_run h
    clear h
    obtain ⟨hc, h⟩ := hb
    simp only [Bool.and_eq_true, Nat.ble_eq] at hc
    obtain ⟨hf, hn⟩ := hc
    simp only [Tr.run, Option.some.injEq, Prod.mk.injEq] at h
    obtain ⟨rfl, rfl⟩ := h
    have hL := sps_len n f
    have key := rj_LR (m := m) (t := t) (fr := fr) most a b u0 i0 n0 f0 (spsOf n f) (by omega) (spsOf n f) 0 rfl
    rw [Nat.zero_add] at key
    have hin : KLe ([.lit (.int .u32 most), .lit (.int .u32 a), .lit (.int .u32 b), .gsl 2 n f, int 0, .gsl 2 n0 f0, int u0, int i0], []) (rjIn most a b u0 i0 n0 f0 (spsOf n f) 0) :=
      ⟨PLeL.cons (.refl _) (PLeL.cons (.refl _) (PLeL.cons (.refl _) (PLeL.cons (PLe.gsl hL.symm (sps_row hf)) (.refl _)))), .refl _⟩
    exact .out (.le hin key) ⟨PLeL.cons (.refl _) (PLeL.cons (.refl _) (PLeL.cons (.refl _) (PLeL.cons (PLe.gsl hL fun i hi => rfl) (.refl _)))), .refl _⟩
  · cases h
noncomputable abbrev rjCut (G : GT) := cutOf G 100 rjOuts 4 rjF
end
end Go.Proofs.YtbpmfaghjlmjmaaDoor.Ev
