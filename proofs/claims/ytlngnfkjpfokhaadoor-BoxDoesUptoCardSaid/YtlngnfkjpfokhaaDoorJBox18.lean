/- JBox18: several texts in one. Condition: each part's own. -/
import Derived.Test.YtlngnfkjpfokhaaDoorJBox17
/- Whether two boxes are one; a box changed: contracts. No condition. -/
namespace Go.Proofs.YtlngnfkjpfokhaaDoor.Ev
open Go Go.RowKit Go.Proofs Go.Proofs.YtlngnfkjpfokhaaDoor.Str
set_option linter.unusedVariables false
set_option linter.unusedSimpArgs false
def eqM (x y : Ml) : Bool := (x.u == y.u) && ((x.f == y.f) && (((x.d == y.d) && ((x.s == y.s) && ((x.z == y.z) && true))) && ((x.r == y.r) && true)))
theorem eqM_eq (x y : Ml) : eqM x y = decide (x = y) := by
  unfold eqM
  rw [beq_ba]
  obtain ⟨u, f, d, s, z, r⟩ := x
  obtain ⟨u', f', d', s', z', r'⟩ := y
  rw [Bool.eq_iff_iff]
  simp [and_assoc]
section
variable {m : Int} {t : TypeId} {fr : Nat × Nat}
def bmBad (l l' : List Ml) (i : Nat) : Option (Exit × Kept) := bif !(eqM (ml l i) (ml l' i)) then some (.ret, ([bool false], [])) else none
theorem bm_LR (a b : Bx) (l l' : List Ml) (hn : l.length ≤ 4294967280) (he : l.length = l'.length) (k i : Nat) (hk : i + k = l.length) :
    LR Tryd.prog (E21 (GG m t fr)) 60 (GG m t fr) 59 bmOuts .normal (theLoop 0 Tryd.f14) ([.ptr 0 0, .ptr 1 0, int l.length, int i], [rkB a.v a.nx a.ma a.la (.gsl 6 l.length (mRow l)), rkB b.v b.nx b.ma b.la (.gsl 6 l'.length (mRow l'))])
      (scanR (bmBad l l') (.exit 0, ([], [])) k i).1 (scanR (bmBad l l') (.exit 0, ([], [])) k i).2 := by
  refine LR.scan2 (s := 0) (K := l.length) (st := fun j : Nat => ([.ptr 0 0, .ptr 1 0, int l.length, int j], [rkB a.v a.nx a.ma a.la (.gsl 6 l.length (mRow l)), rkB b.v b.nx b.ma b.la (.gsl 6 l'.length (mRow l'))])) (fun j h1 hlt => ?_) (fun j r hb => ?_) ?_ (by simp) (by simp) k i (by omega) hk
  · have hv := bm_round_v m t fr l l' a.v a.nx a.ma a.la b.v b.nx b.ma b.la l.length j
    have hc := bm_round_c m t fr l l' a.v a.nx a.ma a.la b.v b.nx b.ma b.la l.length j
    rw [lt_cast, decide_eq_true hlt, Int.toNat_natCast, wrap_succ (by omega)] at hv
    rw [lt_cast, decide_eq_true hlt, Int.toNat_natCast, in_rng hlt, in_rng (show j < l'.length by omega)] at hc
    simp only [Bool.cond_self, cond_true] at hc
    have e : ∀ x y : Ml, ((x.u == y.u) && ((x.f == y.f) && (((x.d == y.d) && ((x.s == y.s) && ((x.z == y.z) && true))) && ((x.r == y.r) && true)))) = eqM x y := fun _ _ => rfl
    rw [e] at hv
    unfold bmBad
    cases hd : eqM (ml l j) (ml l' j) <;> (rw [hd] at hv; exact Tr.run_vc hv hc rfl rfl)
  · unfold bmBad at hb
    cases hd : eqM (ml l j) (ml l' j) <;> (rw [hd] at hb; cases hb)
    exact ⟨by simp, by simp⟩
  · have hv := bm_round_v m t fr l l' a.v a.nx a.ma a.la b.v b.nx b.ma b.la l.length l.length
    have hc := bm_round_c m t fr l l' a.v a.nx a.ma a.la b.v b.nx b.ma b.la l.length l.length
    rw [lt_cast, decide_eq_false (by omega)] at hv hc
    exact Tr.run_vc hv hc rfl rfl
theorem bm_scan {l l' : List Ml} (he : l.length = l'.length) (z : Exit × Kept) : scanR (bmBad l l') z l.length 0 = bif decide (l = l') then z else (.ret, ([bool false], [])) := by
  by_cases h : l = l'
  · rw [decide_eq_true h]
    subst h
    refine scanR_all fun j h1 h2 => ?_
    unfold bmBad
    rw [eqM_eq, decide_eq_true rfl]
    rfl
  · rw [decide_eq_false h]
    have : ∃ j, j < l.length ∧ ml l j ≠ ml l' j := by
      refine Classical.byContradiction fun hn => h (List.ext_getElem he fun j h1 h2 => ?_)
      have : ml l j = ml l' j := Classical.byContradiction fun hx => hn ⟨j, h1, hx⟩
      rw [ml_get h1, ml_get h2] at this
      exact this
    obtain ⟨j, h1, h2⟩ := this
    refine scanR_some (fun j => ?_) ⟨j, by omega, by omega, ?_⟩
    · unfold bmBad
      cases eqM (ml l j) (ml l' j)
      · exact .inr rfl
      · exact .inl rfl
    · unfold bmBad
      rw [eqM_eq, decide_eq_false h2]
      rfl
def bmF : Kept → Tr (Exit × Kept)
  | ([.ptr 0 0, .ptr 1 0, .lit (.int .i64 u), .lit (.int .i64 0)], [.cells tB [.lit (.int .u32 v), .lit (.int .u64 nx), .lit (.int .u32 mk), .lit (.int .u32 la), p], .cells tB' [.lit (.int .u32 v'), .lit (.int .u64 nx'), .lit (.int .u32 mk'), .lit (.int .u32 la'), q]]) => match rowP 6 p, rowP 6 q with
    | some (n, f), some (n', f') => .br (Nat.beq tB 26 && (Nat.beq tB' 26 && (areMls n f && (areMls n' f' && (Nat.ble n 4294967280 && (Nat.beq n n' && decide (u = n))))))) (.br (decide (mlsOf n f = mlsOf n' f')) (.leaf (.exit 0, ([], []))) (.leaf (.ret, ([bool false], [])))) .fail
    | _, _ => .fail
  | _ => .fail
theorem bmF_ok (x : Kept) (e : Exit) (y : Kept) (h : (bmF x).run = some (e, y)) : LR Tryd.prog (E21 (GG m t fr)) 60 (GG m t fr) 59 bmOuts .normal (theLoop 0 Tryd.f14) x e y := by
  unfold bmF at h
  split at h
  · rename_i u tB v nx mk la p tB' v' nx' mk' la' q
    split at h
    · rename_i n f n' f' hp hq
      have hb := br_run h
      clear h
      obtain ⟨hc, h⟩ := hb
      simp only [Bool.and_eq_true, Nat.ble_eq, decide_eq_true_eq] at hc
      obtain ⟨hB, hB', hf, hf', hn, he, rfl⟩ := hc
      have hB := Nat.eq_of_beq_eq_true hB
      have hB' := Nat.eq_of_beq_eq_true hB'
      have he := Nat.eq_of_beq_eq_true he
      subst hB hB'
      have hlen := mls_len n f
      have hlen' := mls_len n' f'
      have hle := (rowP_le hp).trans (PLe.gsl rfl (mls_row hf))
      have hle' := (rowP_le hq).trans (PLe.gsl rfl (mls_row hf'))
      generalize hL : mlsOf n f = l at hlen hle h
      generalize hL' : mlsOf n' f' = l' at hlen' hle' h
      subst hlen hlen'
      have key := bm_LR (m := m) (t := t) (fr := fr) ⟨v, nx, mk, la, []⟩ ⟨v', nx', mk', la', []⟩ l l' hn he l.length 0 (by omega)
      rw [bm_scan he] at key
      have hB2 : BLeL [.cells 26 [.lit (.int .u32 v), .lit (.int .u64 nx), .lit (.int .u32 mk), .lit (.int .u32 la), p], .cells 26 [.lit (.int .u32 v'), .lit (.int .u64 nx'), .lit (.int .u32 mk'), .lit (.int .u32 la'), q]] [rkB v nx mk la (.gsl 6 l.length (mRow l)), rkB v' nx' mk' la' (.gsl 6 l'.length (mRow l'))] :=
        BLeL.cons (.cells _ (.cons (.refl _) (.cons (.refl _) (.cons (.refl _) (.cons (.refl _) (.cons hle .nil)))))) (BLeL.cons (.cells _ (.cons (.refl _) (.cons (.refl _) (.cons (.refl _) (.cons (.refl _) (.cons hle' .nil)))))) .nil)
      cases hr : decide (l = l') with
      | true =>
        rw [hr] at key h
        simp only [Tr.run, cond_true, Option.some.injEq, Prod.mk.injEq] at h
        obtain ⟨rfl, rfl⟩ := h
        exact LR.le2 (.refl _) hB2 key
      | false =>
        rw [hr] at key h
        simp only [Tr.run, cond_false, Option.some.injEq, Prod.mk.injEq] at h
        obtain ⟨rfl, rfl⟩ := h
        exact LR.le2 (.refl _) hB2 key
    · cases h
  · cases h
theorem bm_raw_v (m : Int) (t : TypeId) (fr : Nat × Nat) (a b : Bx) : ((fnPure Tryd.prog ((E21 (GG m t fr)).withCuts (cut1 0 (cutOf (GG m t fr) 59 bmOuts 0 bmF))) 60 Tryd.f14 (GG m t fr) [bxP a, bxP b])).val =
 (bif (bne (Bx.v a) (Bx.v b)) then
 (.some (.lit (.bool false)))
 else bif (bne (Bx.nx a) (Bx.nx b)) then
 (.some (.lit (.bool false)))
 else bif (bne (Bx.ma a) (Bx.ma b)) then
 (.some (.lit (.bool false)))
 else bif (bne (Bx.la a) (Bx.la b)) then
 (.some (.lit (.bool false)))
 else bif (bne (((List.length (Bx.l a)) : Nat) : Int) (((List.length (Bx.l b)) : Nat) : Int)) then
 (.some (.lit (.bool false)))
 else bif (decide ((mlsOf (List.length (Bx.l a)) (mRow (Bx.l a))) = (mlsOf (List.length (Bx.l b)) (mRow (Bx.l b))))) then
 (.some (.lit (.bool true)))
 else (.some (.lit (.bool false))) : Option PV) := by
  kernel_rfl
theorem bm_raw_c (m : Int) (t : TypeId) (fr : Nat × Nat) (a b : Bx) : ((fnPure Tryd.prog ((E21 (GG m t fr)).withCuts (cut1 0 (cutOf (GG m t fr) 59 bmOuts 0 bmF))) 60 Tryd.f14 (GG m t fr) [bxP a, bxP b])).conds =
 (bif (bne (Bx.v a) (Bx.v b)) then
 true
 else bif (bne (Bx.nx a) (Bx.nx b)) then
 true
 else bif (bne (Bx.ma a) (Bx.ma b)) then
 true
 else bif (bne (Bx.la a) (Bx.la b)) then
 true
 else bif (bne (((List.length (Bx.l a)) : Nat) : Int) (((List.length (Bx.l b)) : Nat) : Int)) then
 true
 else bif ((areMls (List.length (Bx.l a)) (mRow (Bx.l a))) && ((areMls (List.length (Bx.l b)) (mRow (Bx.l b))) && ((Nat.ble (List.length (Bx.l a)) (4294967280 : Nat)) && ((Nat.beq (List.length (Bx.l a)) (List.length (Bx.l b))) && (decide ((((List.length (Bx.l a)) : Nat) : Int) = (((List.length (Bx.l a)) : Nat) : Int))))))) then
 bif (decide ((mlsOf (List.length (Bx.l a)) (mRow (Bx.l a))) = (mlsOf (List.length (Bx.l b)) (mRow (Bx.l b))))) then
 true
 else true
 else false : Bool) := by
  kernel_rfl
def sameG : List PV → Tr PV
  | [p, q] => match bxOf p, bxOf q with
    | some (v, nx, mk, la, n, f), some (v', nx', mk', la', n', f') => .br (bxGd v nx mk la n f && bxGd v' nx' mk' la' n' f') (.leaf (bool (decide ((⟨v, nx, mk, la, mlsOf n f⟩ : Bx) = ⟨v', nx', mk', la', mlsOf n' f'⟩)))) .fail
    | _, _ => .fail
  | _ => .fail
theorem same_ok : PureOK Tryd.prog (GG m t fr) 14 sameG := by
  intro ps p hp
  unfold sameG at hp
  split at hp
  · split at hp
    · rename_i v nx mk la n f v' nx' mk' la' n' f' hb hb'
      have hbr := br_run hp
      clear hp
      obtain ⟨hc, hq⟩ := hbr
      simp only [Bool.and_eq_true] at hc
      simp only [Tr.run, Option.some.injEq] at hq
      subst hq
      obtain ⟨hle, hR⟩ := bxOf_le hb hc.1
      obtain ⟨hle', hR'⟩ := bxOf_le hb' hc.2
      generalize hB : (⟨v, nx, mk, la, mlsOf n f⟩ : Bx) = a at hle hR
      generalize hB' : (⟨v', nx', mk', la', mlsOf n' f'⟩ : Bx) = b at hle' hR'
      obtain ⟨r1, r2, r3, r4, r5, r6⟩ := bxR_at hR
      obtain ⟨q1, q2, q3, q4, q5, q6⟩ := bxR_at hR'
      have hv := bm_raw_v m t fr a b
      have hcc := bm_raw_c m t fr a b
      simp only [mls_mRow] at hv hcc
      rw [are_mRow r5, are_mRow q5, Nat.ble_eq_true_of_le r6] at hcc
      simp only [decide_true, Bool.true_and, Bool.and_true, Bool.cond_self] at hcc
      refine ((fn_cuts mixed E21_ok (fn := Tryd.f14) (cuts := cut1 0 (cutOf (GG m t fr) 59 bmOuts 0 bmF)) (by kernel_rfl) (CutLaws.one (by omega) (by kernel_rfl) fun st e st' h => cutOf_ok E21_ok mixed (noCuts_ok (envOf_cuts ..) _) bmF_ok h)) _ _ ?_).pre (.cons hle (.cons hle' .nil))
      have no : ∀ {P : Prop}, (a = b → P) → ¬ P → decide (a = b) = false := fun h1 h2 => decide_eq_false fun h => h2 (h1 h)
      by_cases h1 : a.v = b.v
      · by_cases h2 : a.nx = b.nx
        · by_cases h3 : a.ma = b.ma
          · by_cases h4 : a.la = b.la
            · rw [h1, h2, h3, h4] at hv hcc
              simp only [bne_self', cond_false] at hv hcc
              by_cases h5 : a.l = b.l
              · have e : a = b := by
                  obtain ⟨_, _, _, _, _⟩ := a
                  obtain ⟨_, _, _, _, _⟩ := b
                  simp_all
                rw [decide_eq_true e]
                subst e
                rw [decide_eq_true rfl] at hv
                simp only [bne_self', cond_false, Nat.beq_refl, cond_true] at hv hcc
                exact Tr.run_vc hv hcc rfl rfl
              · rw [no (fun h => by rw [h]) h5]
                rw [decide_eq_false h5] at hv
                by_cases h6 : a.l.length = b.l.length
                · have h7 : bne ((a.l.length : Nat) : Int) ((b.l.length : Nat) : Int) = false := by rw [h6]; simp
                  have h8 : Nat.beq a.l.length b.l.length = true := by rw [h6]; exact Nat.beq_refl _
                  rw [h7] at hv hcc
                  rw [h8] at hcc
                  exact Tr.run_vc hv hcc rfl rfl
                · have h7 : bne ((a.l.length : Nat) : Int) ((b.l.length : Nat) : Int) = true := by
                    rw [bne_iff_ne]
                    omega
                  rw [h7] at hv hcc
                  exact Tr.run_vc hv hcc rfl rfl
            · rw [no (fun h => by rw [h]) h4]
              rw [h1, h2, h3, (bne_iff_ne).2 h4] at hv hcc
              simp only [bne_self', cond_false] at hv hcc
              exact Tr.run_vc hv hcc rfl rfl
          · rw [no (fun h => by rw [h]) h3]
            rw [h1, h2, (bne_iff_ne).2 h3] at hv hcc
            simp only [bne_self', cond_false] at hv hcc
            exact Tr.run_vc hv hcc rfl rfl
        · rw [no (fun h => by rw [h]) h2]
          rw [h1, (bne_iff_ne).2 h2] at hv hcc
          simp only [bne_self', cond_false] at hv hcc
          exact Tr.run_vc hv hcc rfl rfl
      · rw [no (fun h => by rw [h]) h1]
        rw [(bne_iff_ne).2 h1] at hv hcc
        exact Tr.run_vc hv hcc rfl rfl
    · cases hp
  · cases hp
end
end Go.Proofs.YtlngnfkjpfokhaaDoor.Ev

/- A box changed: the contract. No condition. -/
namespace Go.Proofs.YtlngnfkjpfokhaaDoor.Ev
open Go Go.RowKit Go.Proofs Go.Proofs.YtlngnfkjpfokhaaDoor.Str
set_option linter.unusedVariables false
set_option linter.unusedSimpArgs false
def bxZ : Bx := ⟨0, 0, 0, 0, []⟩
def nMl (b : Bx) (c : Ch) : Ml := ⟨b.nx, c.f, c.d, c.s, c.z, c.r⟩
def fullB (b : Bx) : Bool := decide (b.nx > 4294967295) || decide (b.l.length = 4096)
/-- a box changed: the box then, the numbers that are told, why not -/
def doB (b : Bx) (c : Ch) : Bx × List Int × Int :=
  bif !(chkE b == 0) then (bxZ, [], 2)
  else bif !(rightE c == 0) then (b, [], 2)
  else bif c.k == 1 then (bif fullB b then (b, [], 8) else (⟨b.v, b.nx + 1, b.ma, b.la, b.l ++ [nMl b c]⟩, [b.nx], 0))
  else bif c.k == 5 then (⟨b.v, b.nx, b.ma, b.la, keepL c.us b.l⟩, goneL c.us b.l, 0)
  else bif c.k == 6 then (⟨b.v, b.nx, b.la, b.nx - 1, b.l⟩, [], 0)
  else bif allIn c.us (usM b.l) then (⟨b.v, b.nx, b.ma, b.la, markL c.k c.f c.us b.l⟩, c.us, 0) else (b, [], 3)
theorem right_or (c : Ch) : rightE c = 0 ∨ rightE c = 2 := by
  unfold rightE
  cases okCh c
  · exact .inr rfl
  · exact .inl rfl
theorem pos_ris {l : List Int} (h : posE l = 0) : risI l = true := by
  unfold posE at h
  cases hr : risI l with
  | true => rfl
  | false => rw [hr] at h; cases h
theorem right_ris {c : Ch} (h : rightE c = 0) (h1 : (c.k == 1) = false) (h6 : (c.k == 6) = false) : risI c.us = true := by
  unfold rightE at h
  cases hk : okCh c with
  | false => rw [hk] at h; cases h
  | true =>
    unfold okCh at hk
    rw [h1, h6] at hk
    have hp : (posE c.us == 0) = true := by
      revert hk
      generalize (posE c.us == 0) = a
      generalize decide (c.f ≤ 31) = a2
      generalize (inZ c && rZ c) = a3
      generalize (!(bne c.f 0)) = a4
      cases c.k == 2 <;> cases c.k == 3 <;> cases c.k == 4 <;> cases c.k == 5 <;> cases a <;> cases a2 <;> cases a3 <;> cases a4 <;> simp
    exact pos_ris (by simpa using hp)
theorem wrap_u64' {a : Int} (h0 : 0 ≤ a) (h1 : a < 18446744073709551616) : IntKind.u64.wrap a = a := by
  simp [IntKind.wrap, IntKind.bits, IntKind.signed]
  omega
theorem wrap_u32' {a : Int} (h0 : 0 ≤ a) (h1 : a < 4294967296) : IntKind.u32.wrap a = a := by
  simp [IntKind.wrap, IntKind.bits, IntKind.signed]
  omega
theorem mrow_push (l : List Ml) (x : Ml) : ∀ i, i < l.length + 1 → rowApp l.length (mRow l) (rowOf (mC x) 6) i = mRow (l ++ [x]) i := by
  intro i hi
  rcases Nat.lt_or_ge i l.length with h | h
  · rw [app_lo _ _ h]
    simp [mRow, ml, List.getElem?_append_left h]
  · obtain rfl : i = l.length + 0 := by omega
    rw [app_hi]
    simp [mRow, ml, rowOf, mC]
theorem exGd_of {l : List Ml} {us : List Int} (h1 : l.all mlR = true) (h2 : us.all u32N = true) (h3 : risI us = true) (h4 : l.length ≤ 1000000000) (h5 : us.length ≤ 4294967280) : exGd 65 47 l.length (mRow l) us.length (nRow us) = true := by
  unfold exGd
  rw [are_mRow h1, are_nRow h2, nums_nRow, h3, Nat.ble_eq_true_of_le h4, Nat.ble_eq_true_of_le h5]
  rfl
section
variable {m : Int} {t : TypeId} {fr : Nat × Nat}
def doP (r : Bx × List Int × Int) : PV := .tup [bxP r.1, numsP r.2.1, int r.2.2]
def doG : List PV → Tr PV
  | [p, q] => match bxOf p, chOf q with
    | some (v, nx, mk, la, n, f), some (c, a, h) => .br (bxGd v nx mk la n f && chGd c a h) (.leaf (doP (doB ⟨v, nx, mk, la, mlsOf n f⟩ c))) .fail
    | _, _ => .fail
  | _ => .fail
theorem ch_eta (c : Ch) : (⟨c.k, c.us, c.f, c.d, c.s, c.z, c.r⟩ : Ch) = c := rfl
theorem do_ok : PureOK Tryd.prog (GG m t fr) 9 doG := by
  intro ps p hp
  unfold doG at hp
  split at hp
  · rename_i p0 q0
    split at hp
    · rename_i v nx mk la n f c a h0 hb hb'
      have hbr := br_run hp
      clear hp
      obtain ⟨hc, hq⟩ := hbr
      simp only [Bool.and_eq_true] at hc
      simp only [Tr.run, Option.some.injEq] at hq
      subst hq
      obtain ⟨hle, hR⟩ := bxOf_le hb hc.1
      obtain ⟨hle', hR'⟩ := chOf_le hb' hc.2
      generalize hB : (⟨v, nx, mk, la, mlsOf n f⟩ : Bx) = b at hle hR
      obtain ⟨r1, r2, r3, r4, r5, r6⟩ := bxR_at hR
      obtain ⟨q1, q2, q3, q4⟩ := chR_at hR'
      have hv := do_raw_v m t fr b c
      have hcc := do_raw_c m t fr b c
      simp only [mls_mRow, nums_nRow, bx_eta, ch_eta] at hv hcc
      have hgb := bxGd_of hR
      have hgc := chGd_of hR'
      rw [hgb, hgc, are_mRow r5] at hcc
      have hok := fn_pure mixed (E21_ok (m := m) (t := t) (fr := fr)) (envOf_cuts ..) (f := 9) (fn := Tryd.f9) (by kernel_rfl)
      have fin : ∀ {x : PV} {y : Bx × List Int × Int}, (fnPure Tryd.prog (E21 (GG m t fr)) 60 Tryd.f9 (GG m t fr) [bxP b, chP c]).run = some x → doB b c = y → PLe x (doP y) → PureAt Tryd.prog (GG m t fr) 9 [p0, q0] (doP (doB b c)) := by
        intro x y h1 h2 h3
        rw [h2]
        exact ((hok _ _ h1).pre (.cons hle (.cons hle' .nil))).post h3
      have nilN : PLe (.lit (.slice none 0 0)) (numsP []) := PLe.nil 1 _
      rcases chk_or b with h | h
      · have hk := chk_at h
        have hlen := hk.len
        have hn1 := hk.n1
        have hn2 := hk.n2
        have hris : risI (usM b.l) = true := decide_eq_true hk.ris
        rw [h] at hv hcc
        rw [Nat.ble_eq_true_of_le (by omega)] at hcc
        rcases right_or c with hr | hr
        · rw [hr] at hv hcc
          cases k1 : c.k == 1 with
          | true =>
            rw [k1] at hv hcc
            have e4 : (((b.l.length : Nat) : Int) == 4096) = decide (b.l.length = 4096) := by
              rw [beqD]
              exact decide_eq_decide.2 (by omega)
            rw [e4] at hv hcc
            cases f1 : decide (b.nx > 4294967295) with
            | true =>
              rw [f1] at hv hcc
              refine fin (y := (b, [], 8)) (Tr.run_vc hv hcc rfl rfl) (by unfold doB fullB; rw [h, hr, k1, f1]; rfl) (PLe.tup (.cons (.refl _) (.cons nilN (.refl _))))
            | false =>
              cases f2 : decide (b.l.length = 4096) with
              | true =>
                rw [f1, f2] at hv hcc
                refine fin (y := (b, [], 8)) (Tr.run_vc hv hcc rfl rfl) (by unfold doB fullB; rw [h, hr, k1, f1, f2]; rfl) (PLe.tup (.cons (.refl _) (.cons nilN (.refl _))))
              | false =>
                have f1' := of_decide_eq_false f1
                rw [f1, f2, wrap_u64' (by omega) (by omega), wrap_u32' (by omega) (by omega)] at hv
                rw [f1, f2, Nat.ble_eq_true_of_le (by omega)] at hcc
                refine fin (y := (⟨b.v, b.nx + 1, b.ma, b.la, b.l ++ [nMl b c]⟩, [b.nx], 0)) (Tr.run_vc hv hcc rfl rfl) (by unfold doB fullB; rw [h, hr, k1, f1, f2]; rfl) (PLe.tup (.cons (PLe.agg (.cons (.refl _) (.cons (.refl _) (.cons (.refl _) (.cons (.refl _) (.cons (PLe.gsl (by simp) fun i hi => ?_) .nil)))))) (.cons (PLe.gsl rfl fun i hi => ?_) (.refl _))))
                · exact mrow_push b.l (nMl b c) i hi
                · have : i = 0 := by omega
                  subst this
                  rfl
          | false =>
            rw [k1] at hv hcc
            cases k5 : c.k == 5 with
            | true =>
              have k6 : (c.k == 6) = false := by
                have := eq_of_beq k5
                rw [this]
                rfl
              rw [k5] at hv hcc
              rw [exGd_of r5 q2 (right_ris hr k1 k6) (by omega) q4] at hcc
              simp only [Bool.cond_self, cond_true] at hcc
              by_cases f1 : fiD c.us b.l < b.l.length
              · rw [decide_eq_true f1] at hv
                refine fin (y := (⟨b.v, b.nx, b.ma, b.la, keepL c.us b.l⟩, goneL c.us b.l, 0)) (Tr.run_vc hv hcc rfl rfl) (by unfold doB; rw [h, hr, k1, k5]; rfl) (.refl _)
              · rw [decide_eq_false f1] at hv
                obtain ⟨e1, e2⟩ := keep_all f1
                refine fin (y := (b, [], 0)) (Tr.run_vc hv hcc rfl rfl) (by unfold doB; rw [h, hr, k1, k5, e1, e2]; rfl) (PLe.tup (.cons (.refl _) (.cons nilN (.refl _))))
            | false =>
              rw [k5] at hv hcc
              cases k6 : c.k == 6 with
              | true =>
                rw [k6, wrap_u64' (a := b.nx - 1) (by omega) (by omega), wrap_u32' (a := b.nx - 1) (by omega) (by omega)] at hv
                rw [k6] at hcc
                refine fin (y := (⟨b.v, b.nx, b.la, b.nx - 1, b.l⟩, [], 0)) (Tr.run_vc hv hcc rfl rfl) (by unfold doB; rw [h, hr, k1, k5, k6]; rfl) (PLe.tup (.cons (.refl _) (.cons nilN (.refl _))))
              | false =>
                rw [k6] at hv hcc
                rw [hris, Nat.ble_eq_true_of_le r6, right_ris hr k1 k6] at hcc
                simp only [Bool.and_self, Bool.cond_self, cond_true, cond_false] at hcc
                cases ha : allIn c.us (usM b.l) with
                | true =>
                  rw [ha] at hv
                  refine fin (y := (⟨b.v, b.nx, b.ma, b.la, markL c.k c.f c.us b.l⟩, c.us, 0)) (Tr.run_vc hv hcc rfl rfl) (by unfold doB; rw [h, hr, k1, k5, k6, ha]; rfl) (PLe.tup (.cons (PLe.agg (.cons (.refl _) (.cons (.refl _) (.cons (.refl _) (.cons (.refl _) (.cons (PLe.gsl (mark_len ..).symm fun i hi => rfl) .nil)))))) (.refl _)))
                | false =>
                  rw [ha] at hv
                  refine fin (y := (b, [], 3)) (Tr.run_vc hv hcc rfl rfl) (by unfold doB; rw [h, hr, k1, k5, k6, ha]; rfl) (PLe.tup (.cons (.refl _) (.cons nilN (.refl _))))
        · rw [hr] at hv hcc
          refine fin (y := (b, [], 2)) (Tr.run_vc hv hcc rfl rfl) (by unfold doB; rw [h, hr]; rfl) (PLe.tup (.cons (.refl _) (.cons nilN (.refl _))))
      · rw [h] at hv hcc
        refine fin (y := (bxZ, [], 2)) (Tr.run_vc hv hcc rfl rfl) (by unfold doB; rw [h]; rfl) (PLe.tup (.cons (PLe.agg (.cons (.refl _) (.cons (.refl _) (.cons (.refl _) (.cons (.refl _) (.cons (PLe.nil 6 _) .nil)))))) (.cons nilN (.refl _))))
    · cases hp
  · cases hp
end
end Go.Proofs.YtlngnfkjpfokhaaDoor.Ev

/- The document's changes: a round each. No condition. -/
namespace Go.Proofs.YtlngnfkjpfokhaaDoor.Ev
open Go Go.RowKit Go.Proofs Go.Proofs.YtlngnfkjpfokhaaDoor.Str
set_option linter.unusedVariables false
set_option linter.unusedSimpArgs false
section
variable {m : Int} {t : TypeId} {fr : Nat × Nat}
def byPure : List (Nat × (List PV → Tr PV)) := (24, placeG) :: (25, placeG) :: (20, findG) :: (21, findG) :: (22, ruiG) :: (26, recG) :: (27, recG) :: (14, sameG) :: (9, doG) :: bxPure
theorem byPure_ok {m : Int} {t : TypeId} {fr : Nat × Nat} : TabOK Tryd.prog (GG m t fr) byPure := (TabOK.cons place_ok (fn := Tryd.f24) (by kernel_rfl) (by kernel_rfl) (TabOK.cons rplace_ok (fn := Tryd.f25) (by kernel_rfl) (by kernel_rfl) (TabOK.cons find_ok (fn := Tryd.f20) (by kernel_rfl) (by kernel_rfl) (TabOK.cons rfind_ok (fn := Tryd.f21) (by kernel_rfl) (by kernel_rfl) (TabOK.cons uids_ok (fn := Tryd.f22) (by kernel_rfl) (by kernel_rfl) (TabOK.cons rec_ok (fn := Tryd.f26) (by kernel_rfl) (by kernel_rfl) (TabOK.cons rrec_ok (fn := Tryd.f27) (by kernel_rfl) (by kernel_rfl) (TabOK.cons same_ok (fn := Tryd.f14) (by kernel_rfl) (by kernel_rfl) (TabOK.cons do_ok (fn := Tryd.f9) (by kernel_rfl) (by kernel_rfl) bxPure_ok)))))))))
noncomputable abbrev E23 (G : GT) : Env := envOf Tryd.prog G byPure bvFull
theorem E23_ok : (E23 (GG m t fr)).ok Tryd.prog (GG m t fr) := envOf_ok mixed byPure_ok bvFull_ok
theorem copy_ok : FnOK Tryd.prog (GG m t fr) 8 (fnEv Tryd.prog (E23 (GG m t fr)) 60 Tryd.f8) := fnEv_ok E23_ok mixed (by kernel_rfl) fun c _ => noCuts_ok (envOf_cuts ..) c
def zBox (q : PV) : Blk := rkB 0 0 0 0 q
def r1Outs : Exit → Outs
  | .normal => { ks := [3, 4, 7, 9, 69, 70, 71], rs := [.slot 3, .slot 4, .slot 7, .slot 9, .cell 2 4], nils := [(9, 22, 1)], nilc := [(7, 4, 47, 6)] }
  | .exit _ => { ks := [4, 7, 9], rs := [.slot 4, .slot 7, .slot 9, .cell 1 4], nils := [(9, 22, 1)], nilc := [(7, 4, 47, 6)] }
  | _ => { ks := [] }
noncomputable abbrev r1Round (G : GT) := roundT Tryd.prog (E23 G) 60 G 182 r1Outs .normal (theLoop 1 Tryd.f10)
theorem r1_round_v (m : Int) (t : TypeId) (fr : Nat × Nat) (b : Bx) (c : Ch) (l ks : List Ml) (go : List Int) (u i : Int) : ((r1Round (GG m t fr) ([.ptr 0 0, .ptr 1 0, .ptr 2 0, .own 3, .gsl 6 l.length (mRow l), int u, int i], [chC c, zBox (.lit (.slice none 0 0)), rkB b.v b.nx b.ma b.la (.own 4), goR go, msR ks]))).val =
 (bif (decide (i < u)) then
 bif (inI (numsOf (List.length (Ch.us c)) (nRow (Ch.us c))) (Ml.u (ml l (Int.toNat i)))) then
 bif (bne (IntKind.wrap .u8 (((BitVec.toNat (HAnd.hAnd (BitVec.ofInt 8 (Ml.f (ml l (Int.toNat i)))) (BitVec.ofInt 8 (8 : Int)))) : Nat) : Int)) (0 : Int)) then
 (.some (.normal, ([(.ptr 0 0), (.ptr 1 0), (.ptr 2 0), (.own 3), (.gsl 6 (List.length l) (mRow l)), (.lit (.int .i64 u)), (.lit (.int .i64 (IntKind.wrap .i64 (i + (1 : Int)))))], [(.cells 33 [(.lit (.int .u8 (Ch.k c))), (.gsl 1 (List.length (Ch.us c)) (nRow (Ch.us c))), (.lit (.int .u8 (Ch.f c))), (.lit (.int .i64 (Ch.d c))), (.lit (.int .i64 (Ch.s c))), (.lit (.int .i64 (Ch.z c))), (.lit (.string (Ch.r c)))]), (.cells 26 [(.lit (.int .u32 (0 : Int))), (.lit (.int .u64 (0 : Int))), (.lit (.int .u32 (0 : Int))), (.lit (.int .u32 (0 : Int))), (.lit (.slice .none 0 0))]), (.cells 26 [(.lit (.int .u32 (Bx.v b))), (.lit (.int .u64 (Bx.nx b))), (.lit (.int .u32 (Bx.ma b))), (.lit (.int .u32 (Bx.la b))), (.own 4)]), (.row 22 1 ((List.length go) + 1) (rowApp (List.length go) (nRow go) (rowOf [(.lit (.int .u32 (Ml.u (ml l (Int.toNat i)))))] 1))), (.row 47 6 (List.length ks) (mRow ks))])))
 else (.some (.normal, ([(.ptr 0 0), (.ptr 1 0), (.ptr 2 0), (.own 3), (.gsl 6 (List.length l) (mRow l)), (.lit (.int .i64 u)), (.lit (.int .i64 (IntKind.wrap .i64 (i + (1 : Int)))))], [(.cells 33 [(.lit (.int .u8 (Ch.k c))), (.gsl 1 (List.length (Ch.us c)) (nRow (Ch.us c))), (.lit (.int .u8 (Ch.f c))), (.lit (.int .i64 (Ch.d c))), (.lit (.int .i64 (Ch.s c))), (.lit (.int .i64 (Ch.z c))), (.lit (.string (Ch.r c)))]), (.cells 26 [(.lit (.int .u32 (0 : Int))), (.lit (.int .u64 (0 : Int))), (.lit (.int .u32 (0 : Int))), (.lit (.int .u32 (0 : Int))), (.lit (.slice .none 0 0))]), (.cells 26 [(.lit (.int .u32 (Bx.v b))), (.lit (.int .u64 (Bx.nx b))), (.lit (.int .u32 (Bx.ma b))), (.lit (.int .u32 (Bx.la b))), (.own 4)]), (.row 22 1 (List.length go) (nRow go)), (.row 47 6 ((List.length ks) + 1) (rowApp (List.length ks) (mRow ks) (rowOf [(.lit (.int .u32 (Ml.u (ml l (Int.toNat i))))), (.lit (.int .u8 (Ml.f (ml l (Int.toNat i))))), (.lit (.int .i64 (Ml.d (ml l (Int.toNat i))))), (.lit (.int .i64 (Ml.s (ml l (Int.toNat i))))), (.lit (.int .i64 (Ml.z (ml l (Int.toNat i))))), (.lit (.string (Ml.r (ml l (Int.toNat i)))))] 6)))])))
 else (.some (.normal, ([(.ptr 0 0), (.ptr 1 0), (.ptr 2 0), (.own 3), (.gsl 6 (List.length l) (mRow l)), (.lit (.int .i64 u)), (.lit (.int .i64 (IntKind.wrap .i64 (i + (1 : Int)))))], [(.cells 33 [(.lit (.int .u8 (Ch.k c))), (.gsl 1 (List.length (Ch.us c)) (nRow (Ch.us c))), (.lit (.int .u8 (Ch.f c))), (.lit (.int .i64 (Ch.d c))), (.lit (.int .i64 (Ch.s c))), (.lit (.int .i64 (Ch.z c))), (.lit (.string (Ch.r c)))]), (.cells 26 [(.lit (.int .u32 (0 : Int))), (.lit (.int .u64 (0 : Int))), (.lit (.int .u32 (0 : Int))), (.lit (.int .u32 (0 : Int))), (.lit (.slice .none 0 0))]), (.cells 26 [(.lit (.int .u32 (Bx.v b))), (.lit (.int .u64 (Bx.nx b))), (.lit (.int .u32 (Bx.ma b))), (.lit (.int .u32 (Bx.la b))), (.own 4)]), (.row 22 1 (List.length go) (nRow go)), (.row 47 6 ((List.length ks) + 1) (rowApp (List.length ks) (mRow ks) (rowOf [(.lit (.int .u32 (Ml.u (ml l (Int.toNat i))))), (.lit (.int .u8 (Ml.f (ml l (Int.toNat i))))), (.lit (.int .i64 (Ml.d (ml l (Int.toNat i))))), (.lit (.int .i64 (Ml.s (ml l (Int.toNat i))))), (.lit (.int .i64 (Ml.z (ml l (Int.toNat i))))), (.lit (.string (Ml.r (ml l (Int.toNat i)))))] 6)))])))
 else (.some ((.exit 1), ([(.ptr 0 0), (.ptr 1 0), (.own 2)], [(.cells 26 [(.lit (.int .u32 (0 : Int))), (.lit (.int .u64 (0 : Int))), (.lit (.int .u32 (0 : Int))), (.lit (.int .u32 (0 : Int))), (.lit (.slice .none 0 0))]), (.cells 26 [(.lit (.int .u32 (Bx.v b))), (.lit (.int .u64 (Bx.nx b))), (.lit (.int .u32 (Bx.ma b))), (.lit (.int .u32 (Bx.la b))), (.own 3)]), (.row 22 1 (List.length go) (nRow go)), (.row 47 6 (List.length ks) (mRow ks))]))) : Option (Exit × Kept)) := by
  kernel_rfl
theorem r1_round_c (m : Int) (t : TypeId) (fr : Nat × Nat) (b : Bx) (c : Ch) (l ks : List Ml) (go : List Int) (u i : Int) : ((r1Round (GG m t fr) ([.ptr 0 0, .ptr 1 0, .ptr 2 0, .own 3, .gsl 6 l.length (mRow l), int u, int i], [chC c, zBox (.lit (.slice none 0 0)), rkB b.v b.nx b.ma b.la (.own 4), goR go, msR ks]))).conds =
 (bif (decide (i < u)) then
 bif ((decide ((0 : Int) ≤ i)) && (Nat.blt (Int.toNat i) (List.length l))) then
 bif ((areNums (List.length (Ch.us c)) (nRow (Ch.us c))) && (Nat.ble (List.length (Ch.us c)) (4294967280 : Nat))) then
 bif (inI (numsOf (List.length (Ch.us c)) (nRow (Ch.us c))) (Ml.u (ml l (Int.toNat i)))) then
 bif (bne (IntKind.wrap .u8 (((BitVec.toNat (HAnd.hAnd (BitVec.ofInt 8 (Ml.f (ml l (Int.toNat i)))) (BitVec.ofInt 8 (8 : Int)))) : Nat) : Int)) (0 : Int)) then
 bif (Nat.ble (((List.length go) + 1) * 4) (140737488355328 : Nat)) then
 true
 else false
 else bif (Nat.ble (((List.length ks) + 1) * 48) (140737488355328 : Nat)) then
 true
 else false
 else bif (Nat.ble (((List.length ks) + 1) * 48) (140737488355328 : Nat)) then
 true
 else false
 else false
 else false
 else true : Bool) := by
  kernel_rfl
def r3Outs : Exit → Outs
  | .normal => { ks := [3, 4, 7, 12, 117, 118, 119], rs := [.slot 3, .slot 4, .slot 7, .cell 2 4] }
  | .exit _ => { ks := [3, 4, 7], rs := [.slot 3, .slot 4, .slot 7, .cell 2 4] }
  | _ => { ks := [4, 5, 6], rs := [.slot 4, .cell 0 4] }
noncomputable abbrev r3Round (G : GT) := roundT Tryd.prog (E23 G) 60 G 182 r3Outs .normal (theLoop 3 Tryd.f10)
theorem r3_round_v (m : Int) (t : TypeId) (fr : Nat × Nat) (b : Bx) (c : Ch) (l : List Ml) (all : List Int) (u i : Int) : ((r3Round (GG m t fr) ([.ptr 0 0, .ptr 1 0, .ptr 2 0, .gsl 1 all.length (nRow all), .gsl 1 c.us.length (nRow c.us), int u, int i], [chC c, zBox (.lit (.slice none 0 0)), rkB b.v b.nx b.ma b.la (.own 3), msR l]))).val =
 (bif (decide (i < u)) then
 bif (!(inI (numsOf (List.length all) (nRow all)) (nu (Ch.us c) (Int.toNat i)))) then
 (.some (.ret, ([(.ptr 0 0), (.lit (.slice .none 0 0)), (.lit (.int .i64 (3 : Int)))], [(.cells 26 [(.lit (.int .u32 (Bx.v b))), (.lit (.int .u64 (Bx.nx b))), (.lit (.int .u32 (Bx.ma b))), (.lit (.int .u32 (Bx.la b))), (.own 1)]), (.row 47 6 (List.length l) (mRow l))])))
 else (.some (.normal, ([(.ptr 0 0), (.ptr 1 0), (.ptr 2 0), (.gsl 1 (List.length all) (nRow all)), (.gsl 1 (List.length (Ch.us c)) (nRow (Ch.us c))), (.lit (.int .i64 u)), (.lit (.int .i64 (IntKind.wrap .i64 (i + (1 : Int)))))], [(.cells 33 [(.lit (.int .u8 (Ch.k c))), (.gsl 1 (List.length (Ch.us c)) (nRow (Ch.us c))), (.lit (.int .u8 (Ch.f c))), (.lit (.int .i64 (Ch.d c))), (.lit (.int .i64 (Ch.s c))), (.lit (.int .i64 (Ch.z c))), (.lit (.string (Ch.r c)))]), (.cells 26 [(.lit (.int .u32 (0 : Int))), (.lit (.int .u64 (0 : Int))), (.lit (.int .u32 (0 : Int))), (.lit (.int .u32 (0 : Int))), (.lit (.slice .none 0 0))]), (.cells 26 [(.lit (.int .u32 (Bx.v b))), (.lit (.int .u64 (Bx.nx b))), (.lit (.int .u32 (Bx.ma b))), (.lit (.int .u32 (Bx.la b))), (.own 3)]), (.row 47 6 (List.length l) (mRow l))])))
 else (.some ((.exit 3), ([(.ptr 0 0), (.ptr 1 0), (.ptr 2 0)], [(.cells 33 [(.lit (.int .u8 (Ch.k c))), (.gsl 1 (List.length (Ch.us c)) (nRow (Ch.us c))), (.lit (.int .u8 (Ch.f c))), (.lit (.int .i64 (Ch.d c))), (.lit (.int .i64 (Ch.s c))), (.lit (.int .i64 (Ch.z c))), (.lit (.string (Ch.r c)))]), (.cells 26 [(.lit (.int .u32 (0 : Int))), (.lit (.int .u64 (0 : Int))), (.lit (.int .u32 (0 : Int))), (.lit (.int .u32 (0 : Int))), (.lit (.slice .none 0 0))]), (.cells 26 [(.lit (.int .u32 (Bx.v b))), (.lit (.int .u64 (Bx.nx b))), (.lit (.int .u32 (Bx.ma b))), (.lit (.int .u32 (Bx.la b))), (.own 3)]), (.row 47 6 (List.length l) (mRow l))]))) : Option (Exit × Kept)) := by
  kernel_rfl
theorem r3_round_c (m : Int) (t : TypeId) (fr : Nat × Nat) (b : Bx) (c : Ch) (l : List Ml) (all : List Int) (u i : Int) : ((r3Round (GG m t fr) ([.ptr 0 0, .ptr 1 0, .ptr 2 0, .gsl 1 all.length (nRow all), .gsl 1 c.us.length (nRow c.us), int u, int i], [chC c, zBox (.lit (.slice none 0 0)), rkB b.v b.nx b.ma b.la (.own 3), msR l]))).conds =
 (bif (decide (i < u)) then
 bif ((decide ((0 : Int) ≤ i)) && (Nat.blt (Int.toNat i) (List.length (Ch.us c)))) then
 bif ((areNums (List.length all) (nRow all)) && (Nat.ble (List.length all) (4294967280 : Nat))) then
 bif (!(inI (numsOf (List.length all) (nRow all)) (nu (Ch.us c) (Int.toNat i)))) then
 true
 else true
 else false
 else false
 else true : Bool) := by
  kernel_rfl
def r5Outs : Exit → Outs
  | .normal => { ks := [3, 4, 7, 130, 131, 132], rs := [.slot 3, .slot 4, .slot 7, .cell 2 4] }
  | .exit _ => { ks := [3, 4, 7], rs := [.slot 3, .slot 4, .slot 7, .cell 2 4] }
  | _ => { ks := [] }
noncomputable abbrev r5Round (G : GT) := roundT Tryd.prog (E23 G) 60 G 182 r5Outs .normal (theLoop 5 Tryd.f10)
theorem r5_round_v (m : Int) (t : TypeId) (fr : Nat × Nat) (b : Bx) (c : Ch) (l : List Ml) (u i : Int) : ((r5Round (GG m t fr) ([.ptr 0 0, .ptr 1 0, .ptr 2 0, .own 3, int u, int i], [chC c, zBox (.lit (.slice none 0 0)), rkB b.v b.nx b.ma b.la (.own 3), msR l]))).val =
 (bif (decide (i < u)) then
 bif (!(inI (numsOf (List.length (Ch.us c)) (nRow (Ch.us c))) (Ml.u (ml l (Int.toNat i))))) then
 (.some (.normal, ([(.ptr 0 0), (.ptr 1 0), (.ptr 2 0), (.own 3), (.lit (.int .i64 u)), (.lit (.int .i64 (IntKind.wrap .i64 (i + (1 : Int)))))], [(.cells 33 [(.lit (.int .u8 (Ch.k c))), (.gsl 1 (List.length (Ch.us c)) (nRow (Ch.us c))), (.lit (.int .u8 (Ch.f c))), (.lit (.int .i64 (Ch.d c))), (.lit (.int .i64 (Ch.s c))), (.lit (.int .i64 (Ch.z c))), (.lit (.string (Ch.r c)))]), (.cells 26 [(.lit (.int .u32 (0 : Int))), (.lit (.int .u64 (0 : Int))), (.lit (.int .u32 (0 : Int))), (.lit (.int .u32 (0 : Int))), (.lit (.slice .none 0 0))]), (.cells 26 [(.lit (.int .u32 (Bx.v b))), (.lit (.int .u64 (Bx.nx b))), (.lit (.int .u32 (Bx.ma b))), (.lit (.int .u32 (Bx.la b))), (.own 3)]), (.row 47 6 (List.length l) (mRow l))])))
 else bif ((Ch.k c) == (2 : Int)) then
 (.some (.normal, ([(.ptr 0 0), (.ptr 1 0), (.ptr 2 0), (.own 3), (.lit (.int .i64 u)), (.lit (.int .i64 (IntKind.wrap .i64 (i + (1 : Int)))))], [(.cells 33 [(.lit (.int .u8 (Ch.k c))), (.gsl 1 (List.length (Ch.us c)) (nRow (Ch.us c))), (.lit (.int .u8 (Ch.f c))), (.lit (.int .i64 (Ch.d c))), (.lit (.int .i64 (Ch.s c))), (.lit (.int .i64 (Ch.z c))), (.lit (.string (Ch.r c)))]), (.cells 26 [(.lit (.int .u32 (0 : Int))), (.lit (.int .u64 (0 : Int))), (.lit (.int .u32 (0 : Int))), (.lit (.int .u32 (0 : Int))), (.lit (.slice .none 0 0))]), (.cells 26 [(.lit (.int .u32 (Bx.v b))), (.lit (.int .u64 (Bx.nx b))), (.lit (.int .u32 (Bx.ma b))), (.lit (.int .u32 (Bx.la b))), (.own 3)]), (.row 47 6 (List.length l) (rowSet (mRow l) (Int.toNat i) 1 [(.lit (.int .u8 (Ch.f c)))]))])))
 else bif ((Ch.k c) == (3 : Int)) then
 (.some (.normal, ([(.ptr 0 0), (.ptr 1 0), (.ptr 2 0), (.own 3), (.lit (.int .i64 u)), (.lit (.int .i64 (IntKind.wrap .i64 (i + (1 : Int)))))], [(.cells 33 [(.lit (.int .u8 (Ch.k c))), (.gsl 1 (List.length (Ch.us c)) (nRow (Ch.us c))), (.lit (.int .u8 (Ch.f c))), (.lit (.int .i64 (Ch.d c))), (.lit (.int .i64 (Ch.s c))), (.lit (.int .i64 (Ch.z c))), (.lit (.string (Ch.r c)))]), (.cells 26 [(.lit (.int .u32 (0 : Int))), (.lit (.int .u64 (0 : Int))), (.lit (.int .u32 (0 : Int))), (.lit (.int .u32 (0 : Int))), (.lit (.slice .none 0 0))]), (.cells 26 [(.lit (.int .u32 (Bx.v b))), (.lit (.int .u64 (Bx.nx b))), (.lit (.int .u32 (Bx.ma b))), (.lit (.int .u32 (Bx.la b))), (.own 3)]), (.row 47 6 (List.length l) (rowSet (mRow l) (Int.toNat i) 1 [(.lit (.int .u8 (IntKind.wrap .u8 (((BitVec.toNat (HOr.hOr (BitVec.ofInt 8 (Ml.f (ml l (Int.toNat i)))) (BitVec.ofInt 8 (Ch.f c)))) : Nat) : Int))))]))])))
 else (.some (.normal, ([(.ptr 0 0), (.ptr 1 0), (.ptr 2 0), (.own 3), (.lit (.int .i64 u)), (.lit (.int .i64 (IntKind.wrap .i64 (i + (1 : Int)))))], [(.cells 33 [(.lit (.int .u8 (Ch.k c))), (.gsl 1 (List.length (Ch.us c)) (nRow (Ch.us c))), (.lit (.int .u8 (Ch.f c))), (.lit (.int .i64 (Ch.d c))), (.lit (.int .i64 (Ch.s c))), (.lit (.int .i64 (Ch.z c))), (.lit (.string (Ch.r c)))]), (.cells 26 [(.lit (.int .u32 (0 : Int))), (.lit (.int .u64 (0 : Int))), (.lit (.int .u32 (0 : Int))), (.lit (.int .u32 (0 : Int))), (.lit (.slice .none 0 0))]), (.cells 26 [(.lit (.int .u32 (Bx.v b))), (.lit (.int .u64 (Bx.nx b))), (.lit (.int .u32 (Bx.ma b))), (.lit (.int .u32 (Bx.la b))), (.own 3)]), (.row 47 6 (List.length l) (rowSet (mRow l) (Int.toNat i) 1 [(.lit (.int .u8 (IntKind.wrap .u8 (((BitVec.toNat (HAnd.hAnd (BitVec.ofInt 8 (Ml.f (ml l (Int.toNat i)))) (Complement.complement (BitVec.ofInt 8 (Ch.f c))))) : Nat) : Int))))]))])))
 else (.some ((.exit 5), ([(.ptr 0 0), (.ptr 1 0), (.ptr 2 0)], [(.cells 33 [(.lit (.int .u8 (Ch.k c))), (.gsl 1 (List.length (Ch.us c)) (nRow (Ch.us c))), (.lit (.int .u8 (Ch.f c))), (.lit (.int .i64 (Ch.d c))), (.lit (.int .i64 (Ch.s c))), (.lit (.int .i64 (Ch.z c))), (.lit (.string (Ch.r c)))]), (.cells 26 [(.lit (.int .u32 (0 : Int))), (.lit (.int .u64 (0 : Int))), (.lit (.int .u32 (0 : Int))), (.lit (.int .u32 (0 : Int))), (.lit (.slice .none 0 0))]), (.cells 26 [(.lit (.int .u32 (Bx.v b))), (.lit (.int .u64 (Bx.nx b))), (.lit (.int .u32 (Bx.ma b))), (.lit (.int .u32 (Bx.la b))), (.own 3)]), (.row 47 6 (List.length l) (mRow l))]))) : Option (Exit × Kept)) := by
  kernel_rfl
theorem r5_round_c (m : Int) (t : TypeId) (fr : Nat × Nat) (b : Bx) (c : Ch) (l : List Ml) (u i : Int) : ((r5Round (GG m t fr) ([.ptr 0 0, .ptr 1 0, .ptr 2 0, .own 3, int u, int i], [chC c, zBox (.lit (.slice none 0 0)), rkB b.v b.nx b.ma b.la (.own 3), msR l]))).conds =
 (bif (decide (i < u)) then
 bif ((decide ((0 : Int) ≤ i)) && (Nat.blt (Int.toNat i) (List.length l))) then
 bif (Nat.blt (Int.toNat i) (List.length l)) then
 bif ((areNums (List.length (Ch.us c)) (nRow (Ch.us c))) && (Nat.ble (List.length (Ch.us c)) (4294967280 : Nat))) then
 bif (!(inI (numsOf (List.length (Ch.us c)) (nRow (Ch.us c))) (Ml.u (ml l (Int.toNat i))))) then
 true
 else bif ((Ch.k c) == (2 : Int)) then
 bif ((decide ((0 : Int) ≤ i)) && (Nat.blt (Int.toNat i) (List.length l))) then
 bif (Nat.blt (Int.toNat i) (List.length l)) then
 true
 else false
 else false
 else bif ((Ch.k c) == (3 : Int)) then
 bif ((decide ((0 : Int) ≤ i)) && (Nat.blt (Int.toNat i) (List.length l))) then
 bif (Nat.blt (Int.toNat i) (List.length l)) then
 true
 else false
 else false
 else bif ((decide ((0 : Int) ≤ i)) && (Nat.blt (Int.toNat i) (List.length l))) then
 bif (Nat.blt (Int.toNat i) (List.length l)) then
 true
 else false
 else false
 else false
 else false
 else false
 else true : Bool) := by
  kernel_rfl
end
end Go.Proofs.YtlngnfkjpfokhaaDoor.Ev

/- The document's changes: the loops. No condition. -/
namespace Go.Proofs.YtlngnfkjpfokhaaDoor.Ev
open Go Go.RowKit Go.Proofs Go.Proofs.YtlngnfkjpfokhaaDoor.Str
set_option linter.unusedVariables false
set_option linter.unusedSimpArgs false
/-- mails, the first j of them marked -/
def mkU (k f : Int) (us : List Int) (l : List Ml) (j : Nat) : List Ml := markL k f us (l.take j) ++ l.drop j
theorem mkU_zero (k f : Int) (us : List Int) (l : List Ml) : mkU k f us l 0 = l := by simp [mkU, markL]
theorem mkU_all (k f : Int) (us : List Int) (l : List Ml) : mkU k f us l l.length = markL k f us l := by simp [mkU]
theorem mkU_len (k f : Int) (us : List Int) (l : List Ml) (j : Nat) : (mkU k f us l j).length = l.length := by
  simp [mkU, mark_len]
  omega
theorem mkU_split {k f : Int} {us : List Int} {l : List Ml} {j : Nat} (h : j < l.length) : mkU k f us l j = markL k f us (l.take j) ++ ml l j :: l.drop (j + 1) := by
  unfold mkU
  rw [List.drop_eq_getElem_cons h, ml_get h]
theorem mkU_at {k f : Int} {us : List Int} {l : List Ml} {j : Nat} (h : j < l.length) : ml (mkU k f us l j) j = ml l j := by
  rw [mkU_split h]
  have : (markL k f us (l.take j)).length = j := by rw [mark_len, List.length_take]; omega
  unfold ml
  rw [List.getD_eq_getElem?_getD, List.getElem?_append_right (by omega), this, Nat.sub_self]
  rfl
theorem mkU_next {k f : Int} {us : List Int} {l : List Ml} {j : Nat} (h : j < l.length) : mkU k f us l (j + 1) = (mkU k f us l j).set j (bif inI us (ml l j).u then mk1 k f (ml l j) else ml l j) := by
  have hL : (markL k f us (l.take j)).length = j := by rw [mark_len, List.length_take]; omega
  rw [mkU_split h, List.set_append_right _ _ (by omega), hL, Nat.sub_self, List.set_cons_zero]
  unfold mkU
  rw [take_ml h]
  unfold markL
  rw [List.map_append, List.append_assoc]
  rfl
theorem set_flag (l : List Ml) (j : Nat) (v : Int) (hj : j < l.length) (p : Nat) (hp : p < l.length) : rowSet (mRow l) j 1 [.lit (.int .u8 v)] p = mRow (l.set j { ml l j with f := v }) p := by
  rw [rowSet_flag]
  cases h : Nat.beq p j with
  | true =>
    have := Nat.eq_of_beq_eq_true h
    subst this
    have e : ml (l.set p { ml l p with f := v }) p = { ml l p with f := v } := by simp [ml, hj]
    show _ = mC (ml (l.set p { ml l p with f := v }) p)
    rw [e]
    rfl
  | false =>
    have hne : ¬ j = p := by
      intro e
      subst e
      simp at h
    show mC (ml l p) = mC (ml (l.set j { ml l j with f := v }) p)
    congr 1
    unfold ml
    rw [List.getD_eq_getElem?_getD (l := l.set j _), List.getElem?_set_ne hne, ← List.getD_eq_getElem?_getD]
section
variable {m : Int} {t : TypeId} {fr : Nat × Nat}
theorem keep_len (us : List Int) (l : List Ml) : (keepL us l).length ≤ l.length := by
  unfold keepL
  exact List.length_filter_le _ _
theorem ms_push {ks : List Ml} {x : Ml} : BLe (.row 47 6 (ks.length + 1) (rowApp ks.length (mRow ks) (rowOf (mC x) 6))) (msR (ks ++ [x])) := .row _ _ (by simp) fun p hp => mrow_push _ _ p hp
theorem r1_LR (b : Bx) (c : Ch) (l : List Ml) (hu : c.us.all u32N = true) (hn : l.length ≤ 1000000000) (hc : c.us.length ≤ 4294967280) (k i : Nat) (hk : i + k = l.length) :
    LR Tryd.prog (E23 (GG m t fr)) 60 (GG m t fr) 182 r1Outs .normal (theLoop 1 Tryd.f10) ([.ptr 0 0, .ptr 1 0, .ptr 2 0, .own 3, .gsl 6 l.length (mRow l), int l.length, int i], [chC c, zBox (.lit (.slice none 0 0)), rkB b.v b.nx b.ma b.la (.own 4), goR (goneL c.us (l.take i)), msR (keepL c.us (l.take i))])
      (.exit 1) ([.ptr 0 0, .ptr 1 0, .own 2], [zBox (.lit (.slice none 0 0)), rkB b.v b.nx b.ma b.la (.own 3), goR (goneL c.us l), msR (keepL c.us l)]) := by
  refine LR.fold (st := fun j : Nat => ([.ptr 0 0, .ptr 1 0, .ptr 2 0, .own 3, .gsl 6 l.length (mRow l), int l.length, int j], [chC c, zBox (.lit (.slice none 0 0)), rkB b.v b.nx b.ma b.la (.own 4), goR (goneL c.us (l.take j)), msR (keepL c.us (l.take j))]))
    (z := (.exit 1, ([.ptr 0 0, .ptr 1 0, .own 2], [zBox (.lit (.slice none 0 0)), rkB b.v b.nx b.ma b.la (.own 3), goR (goneL c.us l), msR (keepL c.us l)]))) (fun j hlt => ?_) ?_ (by simp) (by simp) k i hk
  · have hv := r1_round_v m t fr b c l (keepL c.us (l.take j)) (goneL c.us (l.take j)) l.length j
    have hcc := r1_round_c m t fr b c l (keepL c.us (l.take j)) (goneL c.us (l.take j)) l.length j
    have hg := gone_len c.us (l.take j)
    have hp := keep_len c.us (l.take j)
    rw [List.length_take] at hg hp
    rw [lt_cast, decide_eq_true hlt, Int.toNat_natCast, nums_nRow, wrap_succ (by omega)] at hv
    rw [lt_cast, decide_eq_true hlt, Int.toNat_natCast, in_rng hlt, nums_nRow, are_nRow hu, Nat.ble_eq_true_of_le hc, Nat.ble_eq_true_of_le (show ((goneL c.us (l.take j)).length + 1) * 4 ≤ 140737488355328 by omega), Nat.ble_eq_true_of_le (show ((keepL c.us (l.take j)).length + 1) * 48 ≤ 140737488355328 by omega)] at hcc
    simp only [Bool.and_self, Bool.cond_self, cond_true] at hcc
    rw [take_ml hlt, gone_snoc, keep_snoc]
    unfold delB delF
    cases h1 : inI c.us (ml l j).u with
    | false =>
      rw [h1] at hv
      exact ⟨_, Tr.run_vc hv hcc rfl rfl, .refl _, BLeL.cons (.refl _) (BLeL.cons (.refl _) (BLeL.cons (.refl _) (BLeL.cons (.refl _) (BLeL.cons ms_push .nil))))⟩
    | true =>
      cases h2 : bne (IntKind.wrap .u8 (((BitVec.toNat (HAnd.hAnd (BitVec.ofInt 8 (ml l j).f) (BitVec.ofInt 8 (8 : Int)))) : Nat) : Int)) (0 : Int) with
      | false =>
        rw [h1, h2] at hv
        exact ⟨_, Tr.run_vc hv hcc rfl rfl, .refl _, BLeL.cons (.refl _) (BLeL.cons (.refl _) (BLeL.cons (.refl _) (BLeL.cons (.refl _) (BLeL.cons ms_push .nil))))⟩
      | true =>
        rw [h1, h2] at hv
        exact ⟨_, Tr.run_vc hv hcc rfl rfl, .refl _, BLeL.cons (.refl _) (BLeL.cons (.refl _) (BLeL.cons (.refl _) (BLeL.cons go_push (.refl _))))⟩
  · have hv := r1_round_v m t fr b c l (keepL c.us (l.take l.length)) (goneL c.us (l.take l.length)) l.length l.length
    have hcc := r1_round_c m t fr b c l (keepL c.us (l.take l.length)) (goneL c.us (l.take l.length)) l.length l.length
    rw [lt_cast, decide_eq_false (by omega)] at hv hcc
    rw [List.take_length] at hv hcc ⊢
    exact Tr.run_vc hv hcc rfl rfl
def r3Bad (b : Bx) (c : Ch) (l : List Ml) (all : List Int) (i : Nat) : Option (Exit × Kept) := bif inI all (nu c.us i) then none else some (.ret, ([.ptr 0 0, .lit (.slice none 0 0), int 3], [rkB b.v b.nx b.ma b.la (.own 1), msR l]))
theorem r3_LR (b : Bx) (c : Ch) (l : List Ml) (all : List Int) (ha : all.all u32N = true) (hn : all.length ≤ 4294967280) (hc : c.us.length ≤ 4294967280) (k i : Nat) (hk : i + k = c.us.length) :
    LR Tryd.prog (E23 (GG m t fr)) 60 (GG m t fr) 182 r3Outs .normal (theLoop 3 Tryd.f10) ([.ptr 0 0, .ptr 1 0, .ptr 2 0, .gsl 1 all.length (nRow all), .gsl 1 c.us.length (nRow c.us), int c.us.length, int i], [chC c, zBox (.lit (.slice none 0 0)), rkB b.v b.nx b.ma b.la (.own 3), msR l])
      (scanR (r3Bad b c l all) (.exit 3, ([.ptr 0 0, .ptr 1 0, .ptr 2 0], [chC c, zBox (.lit (.slice none 0 0)), rkB b.v b.nx b.ma b.la (.own 3), msR l])) k i).1 (scanR (r3Bad b c l all) (.exit 3, ([.ptr 0 0, .ptr 1 0, .ptr 2 0], [chC c, zBox (.lit (.slice none 0 0)), rkB b.v b.nx b.ma b.la (.own 3), msR l])) k i).2 := by
  refine LR.scan2 (s := 0) (K := c.us.length) (st := fun j : Nat => ([.ptr 0 0, .ptr 1 0, .ptr 2 0, .gsl 1 all.length (nRow all), .gsl 1 c.us.length (nRow c.us), int c.us.length, int j], [chC c, zBox (.lit (.slice none 0 0)), rkB b.v b.nx b.ma b.la (.own 3), msR l])) (fun j h1 hlt => ?_) (fun j r hb => ?_) ?_ (by simp) (by simp) k i (by omega) hk
  · have hv := r3_round_v m t fr b c l all c.us.length j
    have hcc := r3_round_c m t fr b c l all c.us.length j
    rw [lt_cast, decide_eq_true hlt, Int.toNat_natCast, nums_nRow, wrap_succ (by omega)] at hv
    rw [lt_cast, decide_eq_true hlt, Int.toNat_natCast, in_rng hlt, nums_nRow, are_nRow ha, Nat.ble_eq_true_of_le hn] at hcc
    simp only [Bool.and_self, Bool.cond_self, cond_true] at hcc
    unfold r3Bad
    cases hd : inI all (nu c.us j) <;> (rw [hd] at hv; exact Tr.run_vc hv hcc rfl rfl)
  · unfold r3Bad at hb
    cases hd : inI all (nu c.us j) <;> (rw [hd] at hb; cases hb)
    exact ⟨by simp, by simp⟩
  · have hv := r3_round_v m t fr b c l all c.us.length c.us.length
    have hcc := r3_round_c m t fr b c l all c.us.length c.us.length
    rw [lt_cast, decide_eq_false (by omega)] at hv hcc
    exact Tr.run_vc hv hcc rfl rfl
theorem all_scan {us v : List Int} {r z : Exit × Kept} : scanR (fun i => bif inI v (nu us i) then none else some r) z us.length 0 = bif allIn us v then z else r := by
  cases h : allIn us v with
  | true =>
    unfold allIn at h
    rw [List.all_eq_true] at h
    refine scanR_all fun j h1 h2 => ?_
    have hj : j < us.length := by omega
    rw [nu_get hj, h _ (List.getElem_mem hj)]
    rfl
  | false =>
    unfold allIn at h
    rw [List.all_eq_false] at h
    obtain ⟨x, hx, h2⟩ := h
    obtain ⟨j, hj, rfl⟩ := List.mem_iff_getElem.1 hx
    refine scanR_some (fun j => ?_) ⟨j, by omega, by omega, ?_⟩
    · cases inI v (nu us j)
      · exact .inr rfl
      · exact .inl rfl
    · rw [nu_get hj]
      simp only [Bool.not_eq_true] at h2
      rw [h2]
      rfl
def is234 (k : Int) : Bool := (k == 2) || ((k == 3) || (k == 4))
theorem r5_LR (b : Bx) (c : Ch) (l : List Ml) (h234 : is234 c.k = true) (hu : c.us.all u32N = true) (hn : l.length ≤ 1000000000) (hc : c.us.length ≤ 4294967280) (k i : Nat) (hk : i + k = l.length) :
    LR Tryd.prog (E23 (GG m t fr)) 60 (GG m t fr) 182 r5Outs .normal (theLoop 5 Tryd.f10) ([.ptr 0 0, .ptr 1 0, .ptr 2 0, .own 3, int l.length, int i], [chC c, zBox (.lit (.slice none 0 0)), rkB b.v b.nx b.ma b.la (.own 3), msR (mkU c.k c.f c.us l i)])
      (.exit 5) ([.ptr 0 0, .ptr 1 0, .ptr 2 0], [chC c, zBox (.lit (.slice none 0 0)), rkB b.v b.nx b.ma b.la (.own 3), msR (markL c.k c.f c.us l)]) := by
  refine LR.fold (st := fun j : Nat => ([.ptr 0 0, .ptr 1 0, .ptr 2 0, .own 3, int l.length, int j], [chC c, zBox (.lit (.slice none 0 0)), rkB b.v b.nx b.ma b.la (.own 3), msR (mkU c.k c.f c.us l j)]))
    (z := (.exit 5, ([.ptr 0 0, .ptr 1 0, .ptr 2 0], [chC c, zBox (.lit (.slice none 0 0)), rkB b.v b.nx b.ma b.la (.own 3), msR (markL c.k c.f c.us l)]))) (fun j hlt => ?_) ?_ (by simp) (by simp) k i hk
  · have hL := mkU_len c.k c.f c.us l j
    have hv := r5_round_v m t fr b c (mkU c.k c.f c.us l j) l.length j
    have hcc := r5_round_c m t fr b c (mkU c.k c.f c.us l j) l.length j
    have hlt' : j < (mkU c.k c.f c.us l j).length := by omega
    have hblt : Nat.blt j (mkU c.k c.f c.us l j).length = true := by rw [Nat.blt_eq]; exact hlt'
    rw [lt_cast, decide_eq_true hlt, Int.toNat_natCast, nums_nRow, wrap_succ (by omega), mkU_at hlt] at hv
    rw [lt_cast, decide_eq_true hlt, Int.toNat_natCast, in_rng hlt', hblt, nums_nRow, are_nRow hu, Nat.ble_eq_true_of_le hc] at hcc
    simp only [Bool.and_self, Bool.cond_self, cond_true] at hcc
    have fin : ∀ v : Int, inI c.us (ml l j).u = true → v = turnF c.k (ml l j).f c.f → BLe (.row 47 6 (mkU c.k c.f c.us l j).length (rowSet (mRow (mkU c.k c.f c.us l j)) j 1 [.lit (.int .u8 v)])) (msR (mkU c.k c.f c.us l (j + 1))) := by
      intro v hin hv
      subst hv
      refine .row _ _ (by rw [mkU_len, mkU_len]) fun p hp => ?_
      rw [set_flag _ _ _ hlt' p hp, mkU_at hlt, mkU_next hlt, hin]
      rfl
    cases h1 : inI c.us (ml l j).u with
    | false =>
      rw [h1] at hv
      have e : mkU c.k c.f c.us l (j + 1) = mkU c.k c.f c.us l j := by
        rw [mkU_next hlt, h1, cond_false, ← mkU_at (k := c.k) (f := c.f) (us := c.us) hlt, ml_get hlt', List.set_getElem_self]
      rw [e]
      exact ⟨_, Tr.run_vc hv hcc rfl rfl, .refl _, .refl _⟩
    | true =>
      rw [h1] at hv
      cases k2 : c.k == 2 with
      | true =>
        rw [k2] at hv
        refine ⟨_, Tr.run_vc hv hcc rfl rfl, .refl _, BLeL.cons (.refl _) (BLeL.cons (.refl _) (BLeL.cons (.refl _) (BLeL.cons (fin _ h1 ?_) .nil)))⟩
        have e := eq_of_beq k2
        unfold turnF
        rw [e]
        rfl
      | false =>
        cases k3 : c.k == 3 with
        | true =>
          rw [k2, k3] at hv
          refine ⟨_, Tr.run_vc hv hcc rfl rfl, .refl _, BLeL.cons (.refl _) (BLeL.cons (.refl _) (BLeL.cons (.refl _) (BLeL.cons (fin _ h1 ?_) .nil)))⟩
          unfold turnF
          rw [k3]
          rfl
        | false =>
          have k4 : (c.k == 4) = true := by
            unfold is234 at h234
            rw [k2, k3] at h234
            exact h234
          rw [k2, k3] at hv
          refine ⟨_, Tr.run_vc hv hcc rfl rfl, .refl _, BLeL.cons (.refl _) (BLeL.cons (.refl _) (BLeL.cons (.refl _) (BLeL.cons (fin _ h1 ?_) .nil)))⟩
          unfold turnF
          rw [k3, k4]
          rfl
  · have hv := r5_round_v m t fr b c (mkU c.k c.f c.us l l.length) l.length l.length
    have hcc := r5_round_c m t fr b c (mkU c.k c.f c.us l l.length) l.length l.length
    rw [lt_cast, decide_eq_false (by omega)] at hv hcc
    rw [mkU_all] at hv hcc ⊢
    exact Tr.run_vc hv hcc rfl rfl
end
end Go.Proofs.YtlngnfkjpfokhaaDoor.Ev
