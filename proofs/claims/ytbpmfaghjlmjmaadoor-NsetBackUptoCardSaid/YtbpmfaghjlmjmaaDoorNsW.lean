/- nset: numbers counted, numbers picked, numbers compared: loops. No condition. -/
import Derived.Test.YtbpmfaghjlmjmaaDoorNsU
namespace Go.Proofs.YtbpmfaghjlmjmaaDoor.Ev
open Go Go.RowKit Go.Proofs Go.Proofs.YtbpmfaghjlmjmaaDoor.Str
set_option linter.unusedVariables false
set_option linter.unusedSimpArgs false
section
variable {m : Int} {t : TypeId} {fr : Nat × Nat}
def cnOuts : Exit → Outs
  | .normal => { ks := [7, 8, 17, 18, 19] }
  | .exit _ => { ks := [7, 8] }
  | _ => { ks := [] }
noncomputable abbrev cnRound (G : GT) := roundT Tryd.prog (E9 G) 60 G 35 cnOuts .normal (theLoop 0 Tryd.f10)
-- from: cn_round [bs, okS, ls, sp] (m : Int) (t : TypeId) (fr : Nat × Nat) (o : List Sp) (n : Nat) (w c u i : Int) : (cnRound (GG m t fr) ([int w, .lit (.int .u64 c), .gsl 2 n (sRow o), int u, int i], [])).run2
theorem cn_round (m : Int) (t : TypeId) (fr : Nat × Nat) (o : List Sp) (n : Nat) (w c u i : Int) : (cnRound (GG m t fr) ([int w, .lit (.int .u64 c), .gsl 2 n (sRow o), int u, int i], [])).run2 =
    (bif (decide (i < u)) then
        (.some ((.normal, ([(.lit (.int .i64 w)), (.lit (.int .u64 (IntKind.wrap .u64 (c + (IntKind.wrap .u64 ((IntKind.wrap .u64 (IntKind.wrap .u32 ((Prod.snd (sp o (Int.toNat i))) - (Prod.fst (sp o (Int.toNat i)))))) + (1 : Int))))))), (.gsl 2 n (fun i => [PV.lit (Value.int IntKind.u32 (sp o i).fst), PV.lit (Value.int IntKind.u32 (sp o i).snd)])), (.lit (.int .i64 u)), (.lit (.int .i64 (IntKind.wrap .i64 (i + (1 : Int)))))], [])), [((decide ((0 : Int) ≤ i)) && (Nat.blt (Int.toNat i) n))]))
      else (.some (((.exit 0), ([(.lit (.int .i64 w)), (.lit (.int .u64 c))], [])), [])) : Option ((Exit × Kept) × List Bool)) := by
  kernel_rfl
noncomputable abbrev rcRound (G : GT) := roundT Tryd.prog (E9 G) 60 G 36 cnOuts .normal (theLoop 0 Tryd.f11)
-- from: rc_round [bs, okS, ls, sp] (m : Int) (t : TypeId) (fr : Nat × Nat) (o : List Sp) (n : Nat) (w c u i : Int) : (rcRound (GG m t fr) ([int w, .lit (.int .u64 c), .gsl 2 n (sRow o), int u, int i], [])).run2
theorem rc_round (m : Int) (t : TypeId) (fr : Nat × Nat) (o : List Sp) (n : Nat) (w c u i : Int) : (rcRound (GG m t fr) ([int w, .lit (.int .u64 c), .gsl 2 n (sRow o), int u, int i], [])).run2 =
    (bif (decide (i < u)) then
        (.some ((.normal, ([(.lit (.int .i64 w)), (.lit (.int .u64 (IntKind.wrap .u64 (c + (IntKind.wrap .u64 ((IntKind.wrap .u64 ((IntKind.wrap .u64 (Prod.snd (sp o (Int.toNat i)))) - (IntKind.wrap .u64 (Prod.fst (sp o (Int.toNat i)))))) + (1 : Int))))))), (.gsl 2 n (fun i => [PV.lit (Value.int IntKind.u32 (sp o i).fst), PV.lit (Value.int IntKind.u32 (sp o i).snd)])), (.lit (.int .i64 u)), (.lit (.int .i64 (IntKind.wrap .i64 (i + (1 : Int)))))], [])), [((decide ((0 : Int) ≤ i)) && (Nat.blt (Int.toNat i) n))]))
      else (.some (((.exit 0), ([(.lit (.int .i64 w)), (.lit (.int .u64 c))], [])), [])) : Option ((Exit × Kept) × List Bool)) := by
  kernel_rfl
def onOuts : Exit → Outs
  | .normal => { ks := [0, 1, 7, 10, 11, 12], rs := [.slot 7], nils := [(7, 23, 1)] }
  | .exit _ => { ks := [7], rs := [.slot 7], nils := [(7, 23, 1)] }
  | _ => { ks := [] }
noncomputable abbrev onRound (G : GT) := roundT Tryd.prog (E9 G) 60 G 26 onOuts .normal (theLoop 0 Tryd.f17)
-- from: on_round [bs, okS, ls, sp, nu, rowSet, rowApp, rowOf, nRow, hasS, areSps, spsOf, u32N] (m : Int) (t : TypeId) (fr : Nat × Nat) (ns r : List Int) (n k n0 : Nat) (f0 : Nat → List PV) (most u i : Int) : (onRound (GG m t fr) ([.gsl 2 n0 f0, .lit (.int .u32 most), .own 0, .gsl 1 n (nRow ns), int u, int i], [.row 23 1 k (nRow r)])).run2
theorem on_round (m : Int) (t : TypeId) (fr : Nat × Nat) (ns r : List Int) (n k n0 : Nat) (f0 : Nat → List PV) (most u i : Int) : (onRound (GG m t fr) ([.gsl 2 n0 f0, .lit (.int .u32 most), .own 0, .gsl 1 n (nRow ns), int u, int i], [.row 23 1 k (nRow r)])).run2 =
    (bif (decide (i < u)) then
        bif (hasS most (nu ns (Int.toNat i)) (spsOf n0 f0)) then
          (.some ((.normal, ([(.gsl 2 n0 f0), (.lit (.int .u32 most)), (.own 0), (.gsl 1 n (nRow ns)), (.lit (.int .i64 u)), (.lit (.int .i64 (IntKind.wrap .i64 (i + (1 : Int)))))], [(.row 23 1 (k + 1) (rowApp k (nRow r) (rowOf [(.lit (.int .u32 (nu ns (Int.toNat i))))] 1)))])), [(Nat.ble ((k + 1) * 4) (140737488355328 : Nat)), (((areSps n0 f0) && (Nat.ble n0 (4294967280 : Nat))) && (u32N most)), ((decide ((0 : Int) ≤ i)) && (Nat.blt (Int.toNat i) n))]))
        else (.some ((.normal, ([(.gsl 2 n0 f0), (.lit (.int .u32 most)), (.own 0), (.gsl 1 n (nRow ns)), (.lit (.int .i64 u)), (.lit (.int .i64 (IntKind.wrap .i64 (i + (1 : Int)))))], [(.row (23 : TypeId) 1 k (nRow r))])), [(((areSps n0 f0) && (Nat.ble n0 (4294967280 : Nat))) && (u32N most)), ((decide ((0 : Int) ≤ i)) && (Nat.blt (Int.toNat i) n))]))
      else (.some (((.exit 0), ([(.own 0)], [(.row (23 : TypeId) 1 k (nRow r))])), [])) : Option ((Exit × Kept) × List Bool)) := by
  kernel_rfl
noncomputable abbrev roRound (G : GT) := roundT Tryd.prog (E9 G) 60 G 26 onOuts .normal (theLoop 0 Tryd.f18)
-- from: ro_round [bs, okS, ls, sp, nu, rowSet, rowApp, rowOf, nRow, hasS, areSps, spsOf, u32N] (m : Int) (t : TypeId) (fr : Nat × Nat) (ns r : List Int) (n k n0 : Nat) (f0 : Nat → List PV) (most u i : Int) : (roRound (GG m t fr) ([.gsl 2 n0 f0, .lit (.int .u32 most), .own 0, .gsl 1 n (nRow ns), int u, int i], [.row 23 1 k (nRow r)])).run2
theorem ro_round (m : Int) (t : TypeId) (fr : Nat × Nat) (ns r : List Int) (n k n0 : Nat) (f0 : Nat → List PV) (most u i : Int) : (roRound (GG m t fr) ([.gsl 2 n0 f0, .lit (.int .u32 most), .own 0, .gsl 1 n (nRow ns), int u, int i], [.row 23 1 k (nRow r)])).run2 =
    (bif (decide (i < u)) then
        bif (hasS most (nu ns (Int.toNat i)) (spsOf n0 f0)) then
          (.some ((.normal, ([(.gsl 2 n0 f0), (.lit (.int .u32 most)), (.own 0), (.gsl 1 n (nRow ns)), (.lit (.int .i64 u)), (.lit (.int .i64 (IntKind.wrap .i64 (i + (1 : Int)))))], [(.row 23 1 (k + 1) (rowApp k (nRow r) (rowOf [(.lit (.int .u32 (nu ns (Int.toNat i))))] 1)))])), [(Nat.ble ((k + 1) * 4) (140737488355328 : Nat)), ((areSps n0 f0) && (Nat.ble n0 (4294967280 : Nat))), ((decide ((0 : Int) ≤ i)) && (Nat.blt (Int.toNat i) n))]))
        else (.some ((.normal, ([(.gsl 2 n0 f0), (.lit (.int .u32 most)), (.own 0), (.gsl 1 n (nRow ns)), (.lit (.int .i64 u)), (.lit (.int .i64 (IntKind.wrap .i64 (i + (1 : Int)))))], [(.row (23 : TypeId) 1 k (nRow r))])), [((areSps n0 f0) && (Nat.ble n0 (4294967280 : Nat))), ((decide ((0 : Int) ≤ i)) && (Nat.blt (Int.toNat i) n))]))
      else (.some (((.exit 0), ([(.own 0)], [(.row (23 : TypeId) 1 k (nRow r))])), [])) : Option ((Exit × Kept) × List Bool)) := by
  kernel_rfl
def s1Outs : Exit → Outs
  | .normal => { ks := [0, 1, 12, 13] }
  | .exit _ => { ks := [] }
  | _ => { ks := [4] }
noncomputable abbrev s1Round (G : GT) := roundT Tryd.prog (E9 G) 60 G 26 s1Outs .normal (theLoop 0 Tryd.f16)
-- from: s1_round [bs, okS, ls, sp, nu] (m : Int) (t : TypeId) (fr : Nat × Nat) (a b : List Int) (n k : Nat) (u i : Int) : (s1Round (GG m t fr) ([.gsl 1 n (nRow a), .gsl 1 k (nRow b), int u, int i], [])).run2
theorem s1_round (m : Int) (t : TypeId) (fr : Nat × Nat) (a b : List Int) (n k : Nat) (u i : Int) : (s1Round (GG m t fr) ([.gsl 1 n (nRow a), .gsl 1 k (nRow b), int u, int i], [])).run2 =
    (bif (decide (i < u)) then
        bif (bne (nu a (Int.toNat i)) (nu b (Int.toNat i))) then
          (.some ((.ret, ([(.lit (.bool false))], [])), [((decide ((0 : Int) ≤ i)) && (Nat.blt (Int.toNat i) k)), ((decide ((0 : Int) ≤ i)) && (Nat.blt (Int.toNat i) n))]))
        else (.some ((.normal, ([(.gsl 1 n (fun i => [PV.lit (Value.int IntKind.u32 (nu a i))])), (.gsl 1 k (fun i => [PV.lit (Value.int IntKind.u32 (nu b i))])), (.lit (.int .i64 u)), (.lit (.int .i64 (IntKind.wrap .i64 (i + (1 : Int)))))], [])), [((decide ((0 : Int) ≤ i)) && (Nat.blt (Int.toNat i) k)), ((decide ((0 : Int) ≤ i)) && (Nat.blt (Int.toNat i) n))]))
      else (.some (((.exit 0), ([], [])), [])) : Option ((Exit × Kept) × List Bool)) := by
  kernel_rfl
theorem okM_le : ∀ {p : Option Sp} {l : List Sp}, okM p l = true → ∀ y ∈ l, y.1 ≤ y.2
  | p, [], _, y, hy => by cases hy
  | p, x :: r, h, y, hy => by
    rw [okM_cons] at h
    simp only [Bool.and_eq_true, decide_eq_true_eq] at h
    rcases List.mem_cons.1 hy with rfl | hy
    · exact h.1.1
    · exact okM_le h.2 y hy
/-- how many numbers -/
def cnS : List Sp → Int → Int
  | [], c => c
  | y :: r, c => cnS r (c + (y.2 - y.1 + 1))
def cnIn (w : Int) (o : List Sp) (i : Nat) (c : Int) : Kept := ([int w, .lit (.int .u64 c), .gsl 2 o.length (sRow o), int o.length, int i], [])
def cnF : Kept → Tr (Exit × Kept)
  | ([.lit (.int .i64 w), .lit (.int .u64 0), .gsl 2 n f, .lit (.int .i64 u), .lit (.int .i64 0)], []) => .br (areSps n f && decide (u = (n : Int)) && Nat.ble n 1024 && okM none (spsOf n f)) (.leaf (.exit 0, ([int w, .lit (.int .u64 (cnS (spsOf n f) 0))], []))) .fail
  | _ => .fail

theorem cn_LR (w : Int) (o : List Sp) (hu : o.all u32B = true) (hf : ∀ y ∈ o, y.1 ≤ y.2) (hn : o.length ≤ 1024) : ∀ (s : List Sp) (i : Nat) (c : Int), o.drop i = s → 0 ≤ c ∧ c ≤ i * 4294967296 →
    LR Tryd.prog (E9 (GG m t fr)) 60 (GG m t fr) 35 cnOuts .normal (theLoop 0 Tryd.f10) (cnIn w o i c) (.exit 0) ([int w, .lit (.int .u64 (cnS s c))], [])
  | [], i, c, hr, hc => by
    have h := cn_round m t fr o o.length w c o.length i
    have hlen := List.drop_eq_nil_iff.1 hr
    have hd : decide ((i : Int) < (o.length : Int)) = false := by simp; omega
    rw [hd] at h
    exact .last (Tr.run_of h (by simp)) (by simp) (by simp [cnS])
  | y :: s, i, c, hr, hc => by
    have h := cn_round m t fr o o.length w c o.length i
    obtain ⟨hlt, hx, hdr⟩ := sp_drop hr
    have hmem : y ∈ o := by
      have e : sp o i = o[i] := by simp [sp, hlt]
      rw [← hx, e]
      exact List.getElem_mem hlt
    have hy := List.all_eq_true.1 hu y hmem
    have hle := hf y hmem
    unfold u32B at hy
    simp only [Bool.and_eq_true, decide_eq_true_eq] at hy
    have hd : decide ((i : Int) < (o.length : Int)) = true := by simp; omega
    have hw : IntKind.i64.wrap ((i : Int) + 1) = ((i + 1 : Nat) : Int) := wrap_succ (by omega)
    have hv : IntKind.wrap .u64 (c + IntKind.wrap .u64 (IntKind.wrap .u64 (IntKind.wrap .u32 (y.2 - y.1)) + 1)) = c + (y.2 - y.1 + 1) := by
      simp only [IntKind.wrap_u64, IntKind.wrap_u32]
      omega
    rw [hd, hw, Int.toNat_natCast, hx, hv] at h
    have ih := cn_LR w o hu hf hn s (i + 1) (c + (y.2 - y.1 + 1)) hdr (by omega)
    exact .more (Tr.run_of h (by simp; omega)) ih
theorem cnF_ok (k : Kept) (e : Exit) (y : Kept) (h : (cnF k).run = some (e, y)) : LR Tryd.prog (E9 (GG m t fr)) 60 (GG m t fr) 35 cnOuts .normal (theLoop 0 Tryd.f10) k e y := by
  unfold cnF at h
  split at h
  · rename_i w n f u
    have hb := br_run h
    clear h
    obtain ⟨hc, h⟩ := hb
    simp only [Bool.and_eq_true, decide_eq_true_eq, Nat.ble_eq] at hc
    obtain ⟨⟨⟨hf, rfl⟩, hn⟩, ho⟩ := hc
    simp only [Tr.run, Option.some.injEq, Prod.mk.injEq] at h
    obtain ⟨rfl, rfl⟩ := h
    have hL := sps_len n f
    have key := cn_LR (m := m) (t := t) (fr := fr) w (spsOf n f) (sps_u32 hf) (okM_le ho) (by omega) (spsOf n f) 0 0 rfl (by omega)
    have hin : KLe ([int w, .lit (.int .u64 0), .gsl 2 n f, int (n : Int), int 0], []) (cnIn w (spsOf n f) 0 0) := by
      refine ⟨PLeL.cons (.refl _) (PLeL.cons (.refl _) (PLeL.cons (PLe.gsl hL.symm (sps_row hf)) (PLeL.cons (PLe.of_eq ?_) (.refl _)))), .refl _⟩
      rw [hL]
    exact .le hin key
  · cases h
noncomputable abbrev cnCut (G : GT) := cutOf G 35 cnOuts 0 cnF

theorem rc_LR (w : Int) (o : List Sp) (hu : o.all u32B = true) (hf : ∀ y ∈ o, y.1 ≤ y.2) (hn : o.length ≤ 1024) : ∀ (s : List Sp) (i : Nat) (c : Int), o.drop i = s → 0 ≤ c ∧ c ≤ i * 4294967296 →
    LR Tryd.prog (E9 (GG m t fr)) 60 (GG m t fr) 36 cnOuts .normal (theLoop 0 Tryd.f11) (cnIn w o i c) (.exit 0) ([int w, .lit (.int .u64 (cnS s c))], [])
  | [], i, c, hr, hc => by
    have h := rc_round m t fr o o.length w c o.length i
    have hlen := List.drop_eq_nil_iff.1 hr
    have hd : decide ((i : Int) < (o.length : Int)) = false := by simp; omega
    rw [hd] at h
    exact .last (Tr.run_of h (by simp)) (by simp) (by simp [cnS])
  | y :: s, i, c, hr, hc => by
    have h := rc_round m t fr o o.length w c o.length i
    obtain ⟨hlt, hx, hdr⟩ := sp_drop hr
    have hmem : y ∈ o := by
      have e : sp o i = o[i] := by simp [sp, hlt]
      rw [← hx, e]
      exact List.getElem_mem hlt
    have hy := List.all_eq_true.1 hu y hmem
    have hle := hf y hmem
    unfold u32B at hy
    simp only [Bool.and_eq_true, decide_eq_true_eq] at hy
    have hd : decide ((i : Int) < (o.length : Int)) = true := by simp; omega
    have hw : IntKind.i64.wrap ((i : Int) + 1) = ((i + 1 : Nat) : Int) := wrap_succ (by omega)
    have hv : IntKind.wrap .u64 (c + IntKind.wrap .u64 (IntKind.wrap .u64 (IntKind.wrap .u64 y.2 - IntKind.wrap .u64 y.1) + 1)) = c + (y.2 - y.1 + 1) := by
      simp only [IntKind.wrap_u64, IntKind.wrap_u32]
      omega
    rw [hd, hw, Int.toNat_natCast, hx, hv] at h
    have ih := rc_LR w o hu hf hn s (i + 1) (c + (y.2 - y.1 + 1)) hdr (by omega)
    exact .more (Tr.run_of h (by simp; omega)) ih
theorem rcF_ok (k : Kept) (e : Exit) (y : Kept) (h : (cnF k).run = some (e, y)) : LR Tryd.prog (E9 (GG m t fr)) 60 (GG m t fr) 36 cnOuts .normal (theLoop 0 Tryd.f11) k e y := by
  unfold cnF at h
  split at h
  · rename_i w n f u
    have hb := br_run h
    clear h
    obtain ⟨hc, h⟩ := hb
    simp only [Bool.and_eq_true, decide_eq_true_eq, Nat.ble_eq] at hc
    obtain ⟨⟨⟨hf, rfl⟩, hn⟩, ho⟩ := hc
    simp only [Tr.run, Option.some.injEq, Prod.mk.injEq] at h
    obtain ⟨rfl, rfl⟩ := h
    have hL := sps_len n f
    have key := rc_LR (m := m) (t := t) (fr := fr) w (spsOf n f) (sps_u32 hf) (okM_le ho) (by omega) (spsOf n f) 0 0 rfl (by omega)
    have hin : KLe ([int w, .lit (.int .u64 0), .gsl 2 n f, int (n : Int), int 0], []) (cnIn w (spsOf n f) 0 0) := by
      refine ⟨PLeL.cons (.refl _) (PLeL.cons (.refl _) (PLeL.cons (PLe.gsl hL.symm (sps_row hf)) (PLeL.cons (PLe.of_eq ?_) (.refl _)))), .refl _⟩
      rw [hL]
    exact .le hin key
  · cases h
noncomputable abbrev rcCut (G : GT) := cutOf G 36 cnOuts 0 cnF

/-! ### Only -/
def onS (most : Int) (l : List Sp) : List Int → List Int → List Int
  | [], r => r
  | x :: s, r => bif hasS most x l then onS most l s (r ++ [x]) else onS most l s r
theorem n_snoc (o : List Int) (a : Int) (i : Nat) (hi : i < o.length + 1) : rowApp o.length (nRow o) (rowOf [.lit (.int .u32 a)] 1) i = nRow (o ++ [a]) i := by
  rcases Nat.lt_or_ge i o.length with h | h
  · rw [app_lo _ _ h]
    unfold nRow
    have : nu (o ++ [a]) i = nu o i := by simp [nu, List.getElem?_append_left h]
    rw [this]
  · have : i = o.length + 0 := by omega
    rw [this, app_hi]
    unfold nRow
    have : nu (o ++ [a]) (o.length + 0) = a := by simp [nu]
    rw [this]
    rfl
def onIn (most : Int) (n0 : Nat) (f0 : Nat → List PV) (ns : List Int) (i : Nat) (r : List Int) : Kept := ([.gsl 2 n0 f0, .lit (.int .u32 most), .own 0, .gsl 1 ns.length (nRow ns), int ns.length, int i], [.row 23 1 r.length (nRow r)])
def onEnd (q : List Int) : Kept := ([.own 0], [.row 23 1 q.length (nRow q)])
def onF : Kept → Tr (Exit × Kept)
  | ([.gsl 2 n0 f0, .lit (.int .u32 most), .own 0, .gsl 1 n f, .lit (.int .i64 u), .lit (.int .i64 0)], [.row e 1 0 g]) => match Nat.beq e 23 with
    | true => .br (areNums n f && decide (u = (n : Int)) && Nat.ble n 4294967280 && areSps n0 f0 && Nat.ble n0 4294967280 && u32N most)
        (.leaf (.exit 0, ([.own 0], [.row 23 1 (onS most (spsOf n0 f0) (numsOf n f) []).length (nRow (onS most (spsOf n0 f0) (numsOf n f) []))]))) .fail
    | false => .fail
  | _ => .fail

theorem on_LR (most : Int) (n0 : Nat) (f0 : Nat → List PV) (hf0 : areSps n0 f0 = true) (hn0 : Nat.ble n0 4294967280 = true) (hm : u32N most = true) (ns : List Int) (hn : ns.length ≤ 4294967280) : ∀ (s : List Int) (i : Nat) (r : List Int), ns.drop i = s → r.length ≤ i →
    LR Tryd.prog (E9 (GG m t fr)) 60 (GG m t fr) 26 onOuts .normal (theLoop 0 Tryd.f17) (onIn most n0 f0 ns i r) (.exit 0) (onEnd (onS most (spsOf n0 f0) s r))
  | [], i, r, hr, hi => by
    have h := on_round m t fr ns r ns.length r.length n0 f0 most ns.length i
    have hlen := List.drop_eq_nil_iff.1 hr
    have hd : decide ((i : Int) < (ns.length : Int)) = false := by simp; omega
    rw [hd] at h
    exact .last (Tr.run_of h (by simp)) (by simp) (by simp [onS, onEnd])
  | x :: s, i, r, hr, hi => by
    have h := on_round m t fr ns r ns.length r.length n0 f0 most ns.length i
    obtain ⟨hlt, hx, hdr⟩ := nu_drop hr
    have hd : decide ((i : Int) < (ns.length : Int)) = true := by simp; omega
    have hw : IntKind.i64.wrap ((i : Int) + 1) = ((i + 1 : Nat) : Int) := wrap_succ (by omega)
    rw [hd, hw, Int.toNat_natCast, hx, hf0, hn0, hm] at h
    cases c : hasS most x (spsOf n0 f0) with
    | true =>
      rw [c] at h
      have e : onS most (spsOf n0 f0) (x :: s) r = onS most (spsOf n0 f0) s (r ++ [x]) := by rw [onS, c]; rfl
      rw [e]
      have ih := on_LR most n0 f0 hf0 hn0 hm ns hn s (i + 1) (r ++ [x]) hdr (by simp; omega)
      have le : KLe ([.gsl 2 n0 f0, .lit (.int .u32 most), .own 0, .gsl 1 ns.length (nRow ns), int ns.length, int ((i + 1 : Nat) : Int)], [.row 23 1 (r.length + 1) (rowApp r.length (nRow r) (rowOf [.lit (.int .u32 x)] 1))]) (onIn most n0 f0 ns (i + 1) (r ++ [x])) :=
        ⟨.refl _, BLeL.cons (.row _ _ (by simp) fun j hj => n_snoc r x j hj) .nil⟩
      exact .more (Tr.run_of h (by simp; omega)) (.le le ih)
    | false =>
      rw [c] at h
      have e : onS most (spsOf n0 f0) (x :: s) r = onS most (spsOf n0 f0) s r := by rw [onS, c]; rfl
      rw [e]
      exact .more (Tr.run_of h (by simp; omega)) (on_LR most n0 f0 hf0 hn0 hm ns hn s (i + 1) r hdr (by omega))
theorem onF_ok (k : Kept) (e : Exit) (y : Kept) (h : (onF k).run = some (e, y)) : LR Tryd.prog (E9 (GG m t fr)) 60 (GG m t fr) 26 onOuts .normal (theLoop 0 Tryd.f17) k e y := by
  unfold onF at h
  split at h
  · rename_i n0 f0 most n f u e0 g
    split at h
    · rename_i he
      obtain rfl := Nat.eq_of_beq_eq_true he
      have hb := br_run h
      clear h
      obtain ⟨hc, h⟩ := hb
      simp only [Bool.and_eq_true, decide_eq_true_eq] at hc
      obtain ⟨⟨⟨⟨⟨hf, rfl⟩, hn⟩, hf0⟩, hn0⟩, hm⟩ := hc
      simp only [Tr.run, Option.some.injEq, Prod.mk.injEq] at h
      obtain ⟨rfl, rfl⟩ := h
      have hL := nums_len n f
      rw [Nat.ble_eq] at hn
      have key := on_LR (m := m) (t := t) (fr := fr) most n0 f0 hf0 hn0 hm (numsOf n f) (by omega) (numsOf n f) 0 [] rfl (Nat.le_refl _)
      have hin : KLe ([.gsl 2 n0 f0, .lit (.int .u32 most), .own 0, .gsl 1 n f, int (n : Int), int 0], [.row 23 1 0 g]) (onIn most n0 f0 (numsOf n f) 0 []) := by
        refine ⟨PLeL.cons (.refl _) (PLeL.cons (.refl _) (PLeL.cons (.refl _) (PLeL.cons (PLe.gsl hL.symm (nums_row hf)) (PLeL.cons (PLe.of_eq ?_) (.refl _))))), BLeL.cons (.row _ _ rfl fun j hj => absurd hj (by simp)) .nil⟩
        rw [hL]
      exact .le hin key
    · cases h
  · cases h
noncomputable abbrev onCut (G : GT) := cutOf G 26 onOuts 0 onF

theorem ro_LR (most : Int) (n0 : Nat) (f0 : Nat → List PV) (hf0 : areSps n0 f0 = true) (hn0 : Nat.ble n0 4294967280 = true) (hm : u32N most = true) (ns : List Int) (hn : ns.length ≤ 4294967280) : ∀ (s : List Int) (i : Nat) (r : List Int), ns.drop i = s → r.length ≤ i →
    LR Tryd.prog (E9 (GG m t fr)) 60 (GG m t fr) 26 onOuts .normal (theLoop 0 Tryd.f18) (onIn most n0 f0 ns i r) (.exit 0) (onEnd (onS most (spsOf n0 f0) s r))
  | [], i, r, hr, hi => by
    have h := ro_round m t fr ns r ns.length r.length n0 f0 most ns.length i
    have hlen := List.drop_eq_nil_iff.1 hr
    have hd : decide ((i : Int) < (ns.length : Int)) = false := by simp; omega
    rw [hd] at h
    exact .last (Tr.run_of h (by simp)) (by simp) (by simp [onS, onEnd])
  | x :: s, i, r, hr, hi => by
    have h := ro_round m t fr ns r ns.length r.length n0 f0 most ns.length i
    obtain ⟨hlt, hx, hdr⟩ := nu_drop hr
    have hd : decide ((i : Int) < (ns.length : Int)) = true := by simp; omega
    have hw : IntKind.i64.wrap ((i : Int) + 1) = ((i + 1 : Nat) : Int) := wrap_succ (by omega)
    rw [hd, hw, Int.toNat_natCast, hx, hf0, hn0] at h
    cases c : hasS most x (spsOf n0 f0) with
    | true =>
      rw [c] at h
      have e : onS most (spsOf n0 f0) (x :: s) r = onS most (spsOf n0 f0) s (r ++ [x]) := by rw [onS, c]; rfl
      rw [e]
      have ih := ro_LR most n0 f0 hf0 hn0 hm ns hn s (i + 1) (r ++ [x]) hdr (by simp; omega)
      have le : KLe ([.gsl 2 n0 f0, .lit (.int .u32 most), .own 0, .gsl 1 ns.length (nRow ns), int ns.length, int ((i + 1 : Nat) : Int)], [.row 23 1 (r.length + 1) (rowApp r.length (nRow r) (rowOf [.lit (.int .u32 x)] 1))]) (onIn most n0 f0 ns (i + 1) (r ++ [x])) :=
        ⟨.refl _, BLeL.cons (.row _ _ (by simp) fun j hj => n_snoc r x j hj) .nil⟩
      exact .more (Tr.run_of h (by simp; omega)) (.le le ih)
    | false =>
      rw [c] at h
      have e : onS most (spsOf n0 f0) (x :: s) r = onS most (spsOf n0 f0) s r := by rw [onS, c]; rfl
      rw [e]
      exact .more (Tr.run_of h (by simp; omega)) (ro_LR most n0 f0 hf0 hn0 hm ns hn s (i + 1) r hdr (by omega))
theorem roF_ok (k : Kept) (e : Exit) (y : Kept) (h : (onF k).run = some (e, y)) : LR Tryd.prog (E9 (GG m t fr)) 60 (GG m t fr) 26 onOuts .normal (theLoop 0 Tryd.f18) k e y := by
  unfold onF at h
  split at h
  · rename_i n0 f0 most n f u e0 g
    split at h
    · rename_i he
      obtain rfl := Nat.eq_of_beq_eq_true he
      have hb := br_run h
      clear h
      obtain ⟨hc, h⟩ := hb
      simp only [Bool.and_eq_true, decide_eq_true_eq] at hc
      obtain ⟨⟨⟨⟨⟨hf, rfl⟩, hn⟩, hf0⟩, hn0⟩, hm⟩ := hc
      simp only [Tr.run, Option.some.injEq, Prod.mk.injEq] at h
      obtain ⟨rfl, rfl⟩ := h
      have hL := nums_len n f
      rw [Nat.ble_eq] at hn
      have key := ro_LR (m := m) (t := t) (fr := fr) most n0 f0 hf0 hn0 hm (numsOf n f) (by omega) (numsOf n f) 0 [] rfl (Nat.le_refl _)
      have hin : KLe ([.gsl 2 n0 f0, .lit (.int .u32 most), .own 0, .gsl 1 n f, int (n : Int), int 0], [.row 23 1 0 g]) (onIn most n0 f0 (numsOf n f) 0 []) := by
        refine ⟨PLeL.cons (.refl _) (PLeL.cons (.refl _) (PLeL.cons (.refl _) (PLeL.cons (PLe.gsl hL.symm (nums_row hf)) (PLeL.cons (PLe.of_eq ?_) (.refl _))))), BLeL.cons (.row _ _ rfl fun j hj => absurd hj (by simp)) .nil⟩
        rw [hL]
      exact .le hin key
    · cases h
  · cases h
noncomputable abbrev roCut (G : GT) := cutOf G 26 onOuts 0 onF

/-! ### numbers compared -/
def s1End (a b : List Int) : Exit × Kept := bif decide (a = b) then (.exit 0, ([], [])) else (.ret, ([bool false], []))
def s1In (a b : List Int) (i : Nat) : Kept := ([.gsl 1 a.length (nRow a), .gsl 1 b.length (nRow b), int a.length, int i], [])
theorem s1_LR (ts us : List Int) (hl : ts.length = us.length) (hn : ts.length ≤ 4294967280) : ∀ (a b : List Int) (i : Nat), ts.drop i = a → us.drop i = b →
    LR Tryd.prog (E9 (GG m t fr)) 60 (GG m t fr) 26 s1Outs .normal (theLoop 0 Tryd.f16) (s1In ts us i) (s1End a b).1 (s1End a b).2
  | [], b, i, ha, hb => by
    have h := s1_round m t fr ts us ts.length us.length ts.length i
    have hi := List.drop_eq_nil_iff.1 ha
    have : b = [] := by rw [← hb]; exact List.drop_eq_nil_of_le (by omega)
    subst this
    have hd : decide ((i : Int) < (ts.length : Int)) = false := by simp; omega
    rw [hd] at h
    exact .last (Tr.run_of h rfl) (by simp [s1End]) (by simp [s1End])
  | x :: a, [], i, ha, hb => by
    have := (nu_drop ha).1
    have := List.drop_eq_nil_iff.1 hb
    omega
  | x :: a, y :: b, i, ha, hb => by
    have h := s1_round m t fr ts us ts.length us.length ts.length i
    obtain ⟨hi, hx, hda⟩ := nu_drop ha
    obtain ⟨hj, hy, hdb⟩ := nu_drop hb
    have hd : decide ((i : Int) < (ts.length : Int)) = true := by simp; omega
    have hw : IntKind.i64.wrap ((i : Int) + 1) = ((i + 1 : Nat) : Int) := wrap_succ (by omega)
    rw [hd, hw, Int.toNat_natCast, hx, hy] at h
    simp only [cond_true] at h
    by_cases he : x = y
    · subst he
      have hbn : bne x x = false := by simp
      rw [hbn] at h
      have ih := s1_LR ts us hl hn a b (i + 1) hda hdb
      have : s1End (x :: a) (x :: b) = s1End a b := by
        unfold s1End
        have : decide (x :: a = x :: b) = decide (a = b) := by simp
        rw [this]
      rw [this]
      exact .more (Tr.run_of h (by simp; omega)) ih
    · have hbn : bne x y = true := by simpa using he
      rw [hbn] at h
      have : s1End (x :: a) (y :: b) = (.ret, ([bool false], [])) := by
        unfold s1End
        rw [decide_eq_false (by simp [he])]
        rfl
      rw [this]
      exact .last (Tr.run_of h (by simp; omega)) (by simp) (by simp)
def s1F : Kept → Tr (Exit × Kept)
  | ([.gsl 1 n f, .gsl 1 n' f', .lit (.int .i64 u), .lit (.int .i64 0)], []) => .br (areNums n f && areNums n' f' && decide (n = n') && decide (u = (n : Int)) && Nat.ble n 4294967280) (.br (decide (numsOf n f = numsOf n' f')) (.leaf (.exit 0, ([], []))) (.leaf (.ret, ([bool false], [])))) .fail
  | _ => .fail
theorem s1F_ok (x : Kept) (e : Exit) (y : Kept) (h : (s1F x).run = some (e, y)) : LR Tryd.prog (E9 (GG m t fr)) 60 (GG m t fr) 26 s1Outs .normal (theLoop 0 Tryd.f16) x e y := by
  unfold s1F at h
  split at h
  · rename_i n f n' f' u
    have hb := br_run h
    clear h
    obtain ⟨hc, h⟩ := hb
    simp only [Bool.and_eq_true, decide_eq_true_eq, Nat.ble_eq] at hc
    obtain ⟨⟨⟨⟨hf, hf'⟩, rfl⟩, rfl⟩, hn⟩ := hc
    have hlen := nums_len n f
    have hlen' := nums_len n f'
    have key := s1_LR (m := m) (t := t) (fr := fr) (numsOf n f) (numsOf n f') (by omega) (by omega) _ _ 0 rfl rfl
    have hin : KLe ([.gsl 1 n f, .gsl 1 n f', int (n : Int), int 0], []) (s1In (numsOf n f) (numsOf n f') 0) := by
      refine ⟨PLeL.cons (PLe.gsl hlen.symm (nums_row hf)) (PLeL.cons (PLe.gsl hlen'.symm (nums_row hf')) (PLeL.cons (PLe.of_eq ?_) (.refl _))), .refl _⟩
      rw [hlen]
    rw [List.drop_zero, List.drop_zero] at key
    unfold s1End at key
    cases hd : decide (numsOf n f = numsOf n f') with
    | true =>
      rw [hd] at key h
      simp only [Tr.run, cond_true, Option.some.injEq, Prod.mk.injEq] at h
      obtain ⟨rfl, rfl⟩ := h
      exact .le hin key
    | false =>
      rw [hd] at key h
      simp only [Tr.run, cond_false, Option.some.injEq, Prod.mk.injEq] at h
      obtain ⟨rfl, rfl⟩ := h
      exact .le hin key
  · cases h
noncomputable abbrev s1Cut (G : GT) := cutOf G 26 s1Outs 0 s1F
end
end Go.Proofs.YtbpmfaghjlmjmaaDoor.Ev
