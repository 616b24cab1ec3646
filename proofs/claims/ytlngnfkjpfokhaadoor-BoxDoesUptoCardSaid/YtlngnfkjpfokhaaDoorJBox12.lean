/- JBox12: several texts in one. Condition: each part's own. -/
import Derived.Test.YtlngnfkjpfokhaaDoorJBox11
import Derived.Test.YtlngnfkjpfokhaaDoorJBox09
/- box.Check. No condition. -/
namespace Go.Proofs.YtlngnfkjpfokhaaDoor.Ev
open Go Go.RowKit Go.Proofs Go.Proofs.YtlngnfkjpfokhaaDoor.Str
set_option linter.unusedVariables false
set_option linter.unusedSimpArgs false
/-! ### a box -/
structure Bx where
  v : Int
  nx : Int
  ma : Int
  la : Int
  l : List Ml
deriving DecidableEq
def bxP (b : Bx) : PV := .agg [.lit (.int .u32 b.v), .lit (.int .u64 b.nx), .lit (.int .u32 b.ma), .lit (.int .u32 b.la), .gsl 6 b.l.length (mRow b.l)]
def u64B (a : Int) : Bool := decide (0 ≤ a) && decide (a < 18446744073709551616)
def bxR (b : Bx) : Bool := u32N b.v && u64B b.nx && u32N b.ma && u32N b.la && b.l.all mlR && Nat.ble b.l.length 4294967280
/-- a box, as it may be told -/
def bxOf : PV → Option (Int × Int × Int × Int × Nat × (Nat → List PV))
  | .agg [.lit (.int .u32 v), .lit (.int .u64 nx), .lit (.int .u32 mk), .lit (.int .u32 la), q] => match q with
    | .gsl 6 n f => some (v, nx, mk, la, n, f)
    | .lit (.slice none 0 0) => some (v, nx, mk, la, 0, fun _ => [])
    | _ => none
  | _ => none
def bxGd (v nx mk la : Int) (n : Nat) (f : Nat → List PV) : Bool := u32N v && u64B nx && u32N mk && u32N la && areMls n f && Nat.ble n 4294967280
theorem bxOf_le {p : PV} {v nx mk la : Int} {n : Nat} {f : Nat → List PV} (h : bxOf p = some (v, nx, mk, la, n, f)) (hg : bxGd v nx mk la n f = true) : PLe p (bxP ⟨v, nx, mk, la, mlsOf n f⟩) ∧ bxR ⟨v, nx, mk, la, mlsOf n f⟩ = true := by
  unfold bxGd at hg
  simp only [Bool.and_eq_true] at hg
  obtain ⟨⟨⟨⟨⟨g1, g2⟩, g3⟩, g4⟩, g5⟩, g6⟩ := hg
  refine ⟨?_, ?_⟩
  · unfold bxOf at h
    split at h
    · split at h
      · cases h
        exact PLe.agg (.cons (.refl _) (.cons (.refl _) (.cons (.refl _) (.cons (.refl _) (.cons (PLe.gsl (mls_len ..).symm (mls_row g5)) .nil)))))
      · cases h
        exact PLe.agg (.cons (.refl _) (.cons (.refl _) (.cons (.refl _) (.cons (.refl _) (.cons (PLe.nil 6 _) .nil)))))
      · cases h
    · cases h
  · unfold bxR
    simp only [g1, g2, g3, g4, mls_R g5, mls_len, g6, Bool.and_self]
theorem bxOf_bxP (b : Bx) : bxOf (bxP b) = some (b.v, b.nx, b.ma, b.la, b.l.length, mRow b.l) := rfl
theorem bxGd_of {b : Bx} (h : bxR b = true) : bxGd b.v b.nx b.ma b.la b.l.length (mRow b.l) = true := by
  unfold bxR at h
  simp only [Bool.and_eq_true] at h
  obtain ⟨⟨⟨⟨⟨g1, g2⟩, g3⟩, g4⟩, g5⟩, g6⟩ := h
  unfold bxGd
  simp only [g1, g2, g3, g4, are_mRow g5, g6, Bool.and_self]
theorem ml_drop {l : List Ml} {i : Nat} {x : Ml} {r : List Ml} (h : l.drop i = x :: r) : i < l.length ∧ ml l i = x ∧ l.drop (i + 1) = r := by
  have hlt : i < l.length := by
    rcases Nat.lt_or_ge i l.length with h' | h'
    · exact h'
    · rw [List.drop_eq_nil_of_le h'] at h
      cases h
  rw [List.drop_eq_getElem_cons hlt] at h
  simp only [List.cons.injEq] at h
  refine ⟨hlt, ?_, h.2⟩
  rw [← h.1]
  simp [ml, hlt]
theorem ml_R {l : List Ml} (h : l.all mlR = true) {i : Nat} (hi : i < l.length) : mlR (ml l i) = true := by
  refine List.all_eq_true.1 h _ ?_
  unfold ml
  rw [List.getD_eq_getElem?_getD, List.getElem?_eq_getElem hi]
  exact List.getElem_mem hi
theorem mlR_at {x : Ml} (h : mlR x = true) : 0 ≤ x.u ∧ x.u < 4294967296 ∧ u8B x.f = true := by
  unfold mlR at h
  simp only [Bool.and_eq_true, decide_eq_true_eq] at h
  exact ⟨h.1.1, h.1.2, h.2⟩
/-! ### whether mails are right -/
def mFine (x : Ml) : Bool := fineB x.f x.d x.s x.z x.r
def msB (nx : Int) : Int → List Ml → Bool
  | _, [] => true
  | a, x :: r => decide (a < x.u) && decide (x.u < nx) && mFine x && msB nx x.u r
def bxOk (b : Bx) : Bool := !(b.v == 0) && decide (1 ≤ b.nx) && decide (b.nx ≤ 4294967296) && Nat.ble b.l.length 4096 && decide (b.ma ≤ b.la) && decide (b.la < b.nx) && msB b.nx 0 b.l
def chkE (b : Bx) : Int := bif bxOk b then 0 else 2
section
variable {m : Int} {t : TypeId} {fr : Nat × Nat}
def ckIn (b : Bx) (l : List Ml) (a : Int) (i : Nat) : Kept := ([.ptr 0 0, .lit (.int .u32 a), .gsl 6 l.length (mRow l), int l.length, int i], [.cells 26 [.lit (.int .u32 b.v), .lit (.int .u64 b.nx), .lit (.int .u32 b.ma), .lit (.int .u32 b.la), .junk]])
def ckEnd (nx a : Int) (l : List Ml) : Exit × Kept := bif msB nx a l then (.exit 0, ([], [])) else (.ret, ([int 2], []))
theorem ck_LR (b : Bx) (ts : List Ml) (hR : ts.all mlR = true) (hn : ts.length ≤ 4294967280) : ∀ (l : List Ml) (a : Int) (i : Nat), ts.drop i = l →
    LR Tryd.prog (E6 (GG m t fr)) 60 (GG m t fr) 72 ckOuts .normal (theLoop 0 Tryd.f16) (ckIn b ts a i) (ckEnd b.nx a l).1 (ckEnd b.nx a l).2
  | [], a, i, ha => by
    have h := ck_round m t fr ts ts.length b.v b.nx b.ma b.la a ts.length i
    have hi := List.drop_eq_nil_iff.1 ha
    have hd : decide ((i : Int) < (ts.length : Int)) = false := by simp; omega
    rw [hd] at h
    exact .last (Tr.run_of h rfl) (by simp [ckEnd, msB]) (by simp [ckEnd, msB])
  | x :: r, a, i, ha => by
    have h := ck_round m t fr ts ts.length b.v b.nx b.ma b.la a ts.length i
    obtain ⟨hi, hx, hda⟩ := ml_drop ha
    have hxr := ml_R hR hi
    rw [hx] at hxr
    obtain ⟨r1, r2, r3⟩ := mlR_at hxr
    have hd : decide ((i : Int) < (ts.length : Int)) = true := by simp; omega
    have hw : IntKind.i64.wrap ((i : Int) + 1) = ((i + 1 : Nat) : Int) := wrap_succ (by omega)
    have hw2 : IntKind.u64.wrap x.u = x.u := by
      simp [IntKind.wrap, IntKind.bits, IntKind.signed]
      omega
    have hin : (decide ((0 : Int) ≤ (i : Int)) && Nat.blt i ts.length) = true := by
      rw [Bool.and_eq_true]
      exact ⟨decide_eq_true (by omega), by rw [Nat.blt_eq]; exact hi⟩
    rw [hd, hw, Int.toNat_natCast, hx, hw2, hin, r3] at h
    simp only [cond_true] at h
    by_cases c1 : a < x.u
    · have c1' : decide (x.u ≤ a) = false := by simp; omega
      by_cases c2 : x.u < b.nx
      · have c2' : decide (x.u ≥ b.nx) = false := by simp; omega
        cases c3 : mFine x with
        | true =>
          have ih := ck_LR b ts hR hn r x.u (i + 1) hda
          have e : ckEnd b.nx a (x :: r) = ckEnd b.nx x.u r := by
            unfold ckEnd
            have : msB b.nx a (x :: r) = msB b.nx x.u r := by
              simp [msB, c1, c2, c3]
            rw [this]
          unfold mFine at c3
          rw [c1', c2', c3] at h
          rw [e]
          exact .more (Tr.run_of h (by simp)) ih
        | false =>
          have e : ckEnd b.nx a (x :: r) = (.ret, ([int 2], [])) := by
            unfold ckEnd
            have : msB b.nx a (x :: r) = false := by simp [msB, c3]
            rw [this]
            rfl
          unfold mFine at c3
          rw [c1', c2', c3] at h
          rw [e]
          exact .last (Tr.run_of h (by simp)) (by simp) (by simp)
      · have c2' : decide (x.u ≥ b.nx) = true := by simp; omega
        have e : ckEnd b.nx a (x :: r) = (.ret, ([int 2], [])) := by
          unfold ckEnd
          have : msB b.nx a (x :: r) = false := by simp [msB, c2]
          rw [this]
          rfl
        rw [c1', c2'] at h
        rw [e]
        exact .last (Tr.run_of h (by simp)) (by simp) (by simp)
    · have c1' : decide (x.u ≤ a) = true := by simp; omega
      have e : ckEnd b.nx a (x :: r) = (.ret, ([int 2], [])) := by
        unfold ckEnd
        have : msB b.nx a (x :: r) = false := by simp [msB, c1]
        rw [this]
        rfl
      rw [c1'] at h
      rw [e]
      exact .last (Tr.run_of h (by simp)) (by simp) (by simp)
def ckF : Kept → Tr (Exit × Kept)
  | ([.ptr 0 0, .lit (.int .u32 a), .gsl 6 n f, .lit (.int .i64 u), .lit (.int .i64 0)], [.cells ty [.lit (.int .u32 v), .lit (.int .u64 nx), .lit (.int .u32 mk), .lit (.int .u32 la), q]]) => .br (Nat.beq ty 26 && areMls n f && decide (u = (n : Int)) && Nat.ble n 4294967280) (.br (msB nx a (mlsOf n f)) (.leaf (.exit 0, ([], []))) (.leaf (.ret, ([int 2], [])))) .fail
  | _ => .fail
theorem ckF_ok (x : Kept) (e : Exit) (y : Kept) (h : (ckF x).run = some (e, y)) : LR Tryd.prog (E6 (GG m t fr)) 60 (GG m t fr) 72 ckOuts .normal (theLoop 0 Tryd.f16) x e y := by
  unfold ckF at h
  split at h
  · rename_i a n f u ty v nx mk la q
    have hb := br_run h
    clear h
    obtain ⟨hc, h⟩ := hb
    simp only [Bool.and_eq_true, decide_eq_true_eq, Nat.ble_eq] at hc
    obtain ⟨⟨⟨hty, hf⟩, rfl⟩, hn⟩ := hc
    have hty := Nat.eq_of_beq_eq_true hty
    subst hty
    have hlen := mls_len n f
    have key := ck_LR (m := m) (t := t) (fr := fr) ⟨v, nx, mk, la, []⟩ (mlsOf n f) (mls_R hf) (by omega) _ a 0 rfl
    have hin : KLe ([.ptr 0 0, .lit (.int .u32 a), .gsl 6 n f, int (n : Int), int 0], [.cells 26 [.lit (.int .u32 v), .lit (.int .u64 nx), .lit (.int .u32 mk), .lit (.int .u32 la), q]]) (ckIn ⟨v, nx, mk, la, []⟩ (mlsOf n f) a 0) := by
      refine ⟨.cons (.refl _) (.cons (.refl _) (PLeL.cons (PLe.gsl hlen.symm (mls_row hf)) (PLeL.cons (PLe.of_eq ?_) (.refl _)))), ?_⟩
      · rw [hlen]
      · exact BLeL.cons (BLe.cells _ (.cons (.refl _) (.cons (.refl _) (.cons (.refl _) (.cons (.refl _) (.cons (PLe.junk _) .nil)))))) .nil
    rw [List.drop_zero] at key
    unfold ckEnd at key
    cases hd : msB nx a (mlsOf n f) with
    | true =>
      rw [hd] at key h
      simp only [Tr.run, cond_true, Option.some.injEq, Prod.mk.injEq] at h
      obtain ⟨rfl, rfl⟩ := h
      exact .le hin key
    | false =>
      rw [hd] at key h
      simp only [Tr.run, cond_false, Option.some.injEq, Prod.mk.injEq] at h
      obtain ⟨rfl, rfl⟩ := h
      exact .le hin key
  · cases h
noncomputable abbrev ckCut (G : GT) := cutOf G 72 ckOuts 0 ckF
theorem bck_raw_v (m : Int) (t : TypeId) (fr : Nat × Nat) (b : Bx) : ((fnPure Tryd.prog ((E6 (GG m t fr)).withCuts (cut1 0 (ckCut (GG m t fr)))) 60 Tryd.f16 (GG m t fr) [bxP b])).val =
 (bif ((Bx.v b) == (0 : Int)) then
 (.some (.lit (.int .i64 (2 : Int))))
 else bif (decide ((Bx.nx b) < (1 : Int))) then
 (.some (.lit (.int .i64 (2 : Int))))
 else bif (decide ((Bx.nx b) > (4294967296 : Int))) then
 (.some (.lit (.int .i64 (2 : Int))))
 else bif (decide ((((List.length (Bx.l b)) : Nat) : Int) > (4096 : Int))) then
 (.some (.lit (.int .i64 (2 : Int))))
 else bif (decide ((Bx.ma b) > (Bx.la b))) then
 (.some (.lit (.int .i64 (2 : Int))))
 else bif (decide ((IntKind.wrap .u64 (Bx.la b)) ≥ (Bx.nx b))) then
 (.some (.lit (.int .i64 (2 : Int))))
 else bif (msB (Bx.nx b) (0 : Int) (mlsOf (List.length (Bx.l b)) (mRow (Bx.l b)))) then
 (.some (.lit (.int .i64 (0 : Int))))
 else (.some (.lit (.int .i64 (2 : Int)))) : Option PV) := by
  kernel_rfl
theorem bck_raw_c (m : Int) (t : TypeId) (fr : Nat × Nat) (b : Bx) : ((fnPure Tryd.prog ((E6 (GG m t fr)).withCuts (cut1 0 (ckCut (GG m t fr)))) 60 Tryd.f16 (GG m t fr) [bxP b])).conds =
 (bif ((Bx.v b) == (0 : Int)) then
 true
 else bif (decide ((Bx.nx b) < (1 : Int))) then
 true
 else bif (decide ((Bx.nx b) > (4294967296 : Int))) then
 true
 else bif (decide ((((List.length (Bx.l b)) : Nat) : Int) > (4096 : Int))) then
 true
 else bif (decide ((Bx.ma b) > (Bx.la b))) then
 true
 else bif (decide ((IntKind.wrap .u64 (Bx.la b)) ≥ (Bx.nx b))) then
 true
 else bif (((areMls (List.length (Bx.l b)) (mRow (Bx.l b))) && (decide ((((List.length (Bx.l b)) : Nat) : Int) = (((List.length (Bx.l b)) : Nat) : Int)))) && (Nat.ble (List.length (Bx.l b)) (4294967280 : Nat))) then
 bif (msB (Bx.nx b) (0 : Int) (mlsOf (List.length (Bx.l b)) (mRow (Bx.l b)))) then
 true
 else true
 else false : Bool) := by
  kernel_rfl
def bchkG : List PV → Tr PV
  | [p] => match bxOf p with
    | some (v, nx, mk, la, n, f) => .br (bxGd v nx mk la n f) (.leaf (int (chkE ⟨v, nx, mk, la, mlsOf n f⟩))) .fail
    | none => .fail
  | _ => .fail
theorem bxR_at {b : Bx} (h : bxR b = true) : u32N b.v = true ∧ u64B b.nx = true ∧ u32N b.ma = true ∧ u32N b.la = true ∧ b.l.all mlR = true ∧ b.l.length ≤ 4294967280 := by
  unfold bxR at h
  simp only [Bool.and_eq_true, Nat.ble_eq] at h
  exact ⟨h.1.1.1.1.1, h.1.1.1.1.2, h.1.1.1.2, h.1.1.2, h.1.2, h.2⟩
theorem u32N_at {a : Int} (h : u32N a = true) : 0 ≤ a ∧ a < 4294967296 := by
  unfold u32N at h
  simpa using h
theorem wrap_u64 {a : Int} (h0 : 0 ≤ a) (h1 : a < 4294967296) : IntKind.u64.wrap a = a := by
  simp [IntKind.wrap, IntKind.bits, IntKind.signed]
  omega
theorem bchk_at {b : Bx} (hR : bxR b = true) : ∃ p, (fnPure Tryd.prog ((E6 (GG m t fr)).withCuts (cut1 0 (ckCut (GG m t fr)))) 60 Tryd.f16 (GG m t fr) [bxP b]).run = some p ∧ p = int (chkE b) := by
  obtain ⟨r1, r2, r3, r4, r5, r6⟩ := bxR_at hR
  have hv := bck_raw_v m t fr b
  have hcc := bck_raw_c m t fr b
  have hla := u32N_at r4
  rw [mls_mRow, wrap_u64 hla.1 hla.2] at hv hcc
  have hnn : (areMls b.l.length (mRow b.l) && decide ((((b.l.length) : Nat) : Int) = ((b.l.length : Nat) : Int)) && Nat.ble b.l.length 4294967280) = true := by
    rw [are_mRow r5, decide_eq_true rfl, Nat.ble_eq_true_of_le r6]
    rfl
  rw [hnn] at hcc
  have key : chkE b = bif b.v == 0 then 2 else bif decide (b.nx < 1) then 2 else bif decide (b.nx > 4294967296) then 2 else bif decide (((b.l.length : Nat) : Int) > 4096) then 2 else bif decide (b.ma > b.la) then 2 else bif decide (b.la ≥ b.nx) then 2 else bif msB b.nx 0 b.l then 0 else 2 := by
    unfold chkE bxOk
    have f1 : decide (b.nx < 1) = !decide (1 ≤ b.nx) := by rw [← decide_not]; exact decide_eq_decide.2 (by omega)
    have f2 : decide (b.nx > 4294967296) = !decide (b.nx ≤ 4294967296) := by rw [← decide_not]; exact decide_eq_decide.2 (by omega)
    have f3 : decide (((b.l.length : Nat) : Int) > 4096) = !Nat.ble b.l.length 4096 := by
      cases hb : Nat.ble b.l.length 4096 with
      | true =>
        have := Nat.le_of_ble_eq_true hb
        exact decide_eq_false (by omega)
      | false =>
        have : ¬ b.l.length ≤ 4096 := fun h => by rw [Nat.ble_eq_true_of_le h] at hb; cases hb
        exact decide_eq_true (by omega)
    have f4 : decide (b.ma > b.la) = !decide (b.ma ≤ b.la) := by rw [← decide_not]; exact decide_eq_decide.2 (by omega)
    have f5 : decide (b.la ≥ b.nx) = !decide (b.la < b.nx) := by rw [← decide_not]; exact decide_eq_decide.2 (by omega)
    rw [f1, f2, f3, f4, f5]
    cases b.v == 0 <;> cases decide (1 ≤ b.nx) <;> cases decide (b.nx ≤ 4294967296) <;> cases Nat.ble b.l.length 4096 <;> cases decide (b.ma ≤ b.la) <;> cases decide (b.la < b.nx) <;> cases msB b.nx 0 b.l <;> rfl
  refine ⟨_, ?_, rfl⟩
  rw [key]
  cases c0 : b.v == 0 <;> cases c1 : decide (b.nx < 1) <;> cases c2 : decide (b.nx > 4294967296) <;> cases c3 : decide (((b.l.length : Nat) : Int) > 4096) <;> cases c4 : decide (b.ma > b.la) <;> cases c5 : decide (b.la ≥ b.nx) <;> cases c6 : msB b.nx 0 b.l <;>
    (simp only [c0, c1, c2, c3, c4, c5, c6, cond_true, cond_false] at hv hcc; exact Tr.run_vc hv hcc rfl rfl)
theorem bchk_ok : PureOK Tryd.prog (GG m t fr) 16 bchkG := by
  intro ps p hp
  unfold bchkG at hp
  split at hp
  · split at hp
    · rename_i v nx mk la n f hb
      obtain ⟨hc, hq⟩ := br_run hp
      clear hp
      simp only [Tr.run, Option.some.injEq] at hq
      subst hq
      obtain ⟨hle, hR⟩ := bxOf_le hb hc
      obtain ⟨q, h1, rfl⟩ := bchk_at (m := m) (t := t) (fr := fr) hR
      exact ((fn_cuts mixed E6_ok (fn := Tryd.f16) (cuts := cut1 0 (ckCut (GG m t fr))) (by kernel_rfl) (CutLaws.one (by omega) (by kernel_rfl) fun st e st' h => cutOf_ok E6_ok mixed (noCuts_ok (envOf_cuts ..) _) ckF_ok h)) _ _ h1).pre (.cons hle .nil)
    · cases hp
  · cases hp
def bhPure : List (Nat × (List PV → Tr PV)) := (33, fineG) :: (16, bchkG) :: libPure
theorem bhPure_ok {m : Int} {t : TypeId} {fr : Nat × Nat} : TabOK Tryd.prog (GG m t fr) bhPure := (TabOK.cons fine_ok (fn := Tryd.f33) (by kernel_rfl) (by kernel_rfl) (TabOK.cons bchk_ok (fn := Tryd.f16) (by kernel_rfl) (by kernel_rfl) libPure_ok))
noncomputable abbrev E7 (G : GT) : Env := envOf Tryd.prog G bhPure libFull
theorem E7_ok : (E7 (GG m t fr)).ok Tryd.prog (GG m t fr) := envOf_ok mixed bhPure_ok libFull_ok
end
end Go.Proofs.YtlngnfkjpfokhaaDoor.Ev

/- Rows copied; a number sought in a row that rises. No condition. -/
namespace Go.Proofs.YtlngnfkjpfokhaaDoor.Ev
open Go Go.RowKit Go.Proofs Go.Proofs.YtlngnfkjpfokhaaDoor.Str
set_option linter.unusedVariables false
set_option linter.unusedSimpArgs false
/-! ### rows that rise -/
def risI (l : List Int) : Bool := decide (l.Pairwise (· < ·))
def lbI (l : List Int) (u : Int) : Nat := (l.takeWhile fun x => decide (x < u)).length
def inI (l : List Int) (u : Int) : Bool := decide (u ∈ l)
theorem lb_lt : ∀ {l : List Int}, l.Pairwise (· < ·) → ∀ {u : Int} {k : Nat}, k < l.length → (nu l k < u ↔ k < lbI l u)
  | [], _, u, k, hk => by simp at hk
  | x :: r, h, u, k, hk => by
    rw [List.pairwise_cons] at h
    unfold lbI
    rw [List.takeWhile_cons]
    by_cases hx : x < u
    · rw [decide_eq_true hx, if_pos rfl]
      cases k with
      | zero => simp [nu, hx]
      | succ k =>
        have ih := lb_lt h.2 (u := u) (k := k) (by simpa using hk)
        have e : nu (x :: r) (k + 1) = nu r k := by simp [nu]
        rw [e, ih]
        unfold lbI
        simp
    · rw [decide_eq_false hx, if_neg (by simp)]
      have : ¬ nu (x :: r) k < u := by
        cases k with
        | zero => simpa [nu] using hx
        | succ k =>
          have hk' : k < r.length := by simpa using hk
          have := h.1 r[k] (List.getElem_mem hk')
          have e : nu (x :: r) (k + 1) = r[k] := by simp [nu, hk']
          omega
      simp [this]
theorem lb_le (l : List Int) (u : Int) : lbI l u ≤ l.length := by
  unfold lbI
  exact (List.takeWhile_prefix _).length_le
theorem lb_in {l : List Int} (h : l.Pairwise (· < ·)) (u : Int) : inI l u = (decide (lbI l u < l.length) && decide (nu l (lbI l u) = u)) := by
  unfold inI
  rw [← Bool.decide_and]
  refine decide_eq_decide.2 ⟨fun hm => ?_, fun ⟨h1, h2⟩ => ?_⟩
  · obtain ⟨k, hk, rfl⟩ := List.mem_iff_getElem.1 hm
    have e : nu l k = l[k] := by simp [nu, hk]
    have h1 := lb_lt h (u := l[k]) hk
    rw [e] at h1
    have h2 : lbI l l[k] ≤ k := by
      have := h1.2
      omega
    have h3 : lbI l l[k] < l.length := by omega
    refine ⟨h3, ?_⟩
    have h4 := lb_lt h (u := l[k]) h3
    have h5 : ¬ nu l (lbI l l[k]) < l[k] := by rw [h4]; omega
    rcases Nat.lt_or_ge (lbI l l[k]) k with h6 | h6
    · have := List.pairwise_iff_getElem.1 h _ _ h3 hk h6
      have e2 : nu l (lbI l l[k]) = l[lbI l l[k]] := by simp [nu, h3]
      omega
    · have : lbI l l[k] = k := by omega
      rw [this, e]
  · have e2 : nu l (lbI l u) = l[lbI l u] := by simp [nu, h1]
    rw [← h2, e2]
    exact List.getElem_mem h1
theorem ris_at {l : List Int} (h : risI l = true) : l.Pairwise (· < ·) := of_decide_eq_true h
/-- the middle -/
theorem mid_eq {i j : Nat} (h : j ≤ 4294967296) (hi : i ≤ j) : ∀ {z : Int}, z = (((i + j) / 2 : Nat) : Int) → z.toNat = (i + j) / 2 := by
  intro z hz
  rw [hz, Int.toNat_natCast]
section
variable {m : Int} {t : TypeId} {fr : Nat × Nat}
def bsOuts : Exit → Outs
  | .normal => { ks := [0, 1, 6, 7, 8] }
  | .exit _ => { ks := [0, 1, 6, 7, 8] }
  | _ => { ks := [] }
noncomputable abbrev bsRound (G : GT) := roundT Tryd.prog (E7 G) 60 G 54 bsOuts .normal (theLoop 0 Tryd.f42)
theorem bs_round_v (m : Int) (t : TypeId) (fr : Nat × Nat) (l : List Int) (n : Nat) (u i j : Int) : ((bsRound (GG m t fr) ([.gsl 1 n (nRow l), .lit (.int .u32 u), int n, int i, int j], []))).val =
 (bif (decide (i < j)) then
 bif (bne (nu l (Int.toNat (IntKind.wrap .i64 (Int.fdiv (IntKind.wrap .u64 (IntKind.wrap .i64 (i + j))) (2 : Int))))) (nu l (Int.toNat (IntKind.wrap .i64 (Int.fdiv (IntKind.wrap .u64 (IntKind.wrap .i64 (i + j))) (2 : Int)))))) then
 bif (!(bne u u)) then
 (.some (.normal, ([(.gsl 1 n (fun i => [PV.lit (Value.int IntKind.u32 (nu l i))])), (.lit (.int .u32 u)), (.lit (.int .i64 ((n : Nat) : Int))), (.lit (.int .i64 (IntKind.wrap .i64 ((IntKind.wrap .i64 (Int.fdiv (IntKind.wrap .u64 (IntKind.wrap .i64 (i + j))) (2 : Int))) + (1 : Int))))), (.lit (.int .i64 j))], [])))
 else bif (decide ((nu l (Int.toNat (IntKind.wrap .i64 (Int.fdiv (IntKind.wrap .u64 (IntKind.wrap .i64 (i + j))) (2 : Int))))) < u)) then
 (.some (.normal, ([(.gsl 1 n (fun i => [PV.lit (Value.int IntKind.u32 (nu l i))])), (.lit (.int .u32 u)), (.lit (.int .i64 ((n : Nat) : Int))), (.lit (.int .i64 (IntKind.wrap .i64 ((IntKind.wrap .i64 (Int.fdiv (IntKind.wrap .u64 (IntKind.wrap .i64 (i + j))) (2 : Int))) + (1 : Int))))), (.lit (.int .i64 j))], [])))
 else (.some (.normal, ([(.gsl 1 n (fun i => [PV.lit (Value.int IntKind.u32 (nu l i))])), (.lit (.int .u32 u)), (.lit (.int .i64 ((n : Nat) : Int))), (.lit (.int .i64 i)), (.lit (.int .i64 (IntKind.wrap .i64 (Int.fdiv (IntKind.wrap .u64 (IntKind.wrap .i64 (i + j))) (2 : Int)))))], [])))
 else bif (decide ((nu l (Int.toNat (IntKind.wrap .i64 (Int.fdiv (IntKind.wrap .u64 (IntKind.wrap .i64 (i + j))) (2 : Int))))) < u)) then
 (.some (.normal, ([(.gsl 1 n (fun i => [PV.lit (Value.int IntKind.u32 (nu l i))])), (.lit (.int .u32 u)), (.lit (.int .i64 ((n : Nat) : Int))), (.lit (.int .i64 (IntKind.wrap .i64 ((IntKind.wrap .i64 (Int.fdiv (IntKind.wrap .u64 (IntKind.wrap .i64 (i + j))) (2 : Int))) + (1 : Int))))), (.lit (.int .i64 j))], [])))
 else (.some (.normal, ([(.gsl 1 n (fun i => [PV.lit (Value.int IntKind.u32 (nu l i))])), (.lit (.int .u32 u)), (.lit (.int .i64 ((n : Nat) : Int))), (.lit (.int .i64 i)), (.lit (.int .i64 (IntKind.wrap .i64 (Int.fdiv (IntKind.wrap .u64 (IntKind.wrap .i64 (i + j))) (2 : Int)))))], [])))
 else (.some ((.exit 0), ([(.gsl 1 n (fun i => [PV.lit (Value.int IntKind.u32 (nu l i))])), (.lit (.int .u32 u)), (.lit (.int .i64 ((n : Nat) : Int))), (.lit (.int .i64 i)), (.lit (.int .i64 j))], []))) : Option (Exit × Kept)) := by
  kernel_rfl
theorem bs_round_c (m : Int) (t : TypeId) (fr : Nat × Nat) (l : List Int) (n : Nat) (u i j : Int) : ((bsRound (GG m t fr) ([.gsl 1 n (nRow l), .lit (.int .u32 u), int n, int i, int j], []))).conds =
 (bif (decide (i < j)) then
 bif ((decide ((0 : Int) ≤ (IntKind.wrap .i64 (Int.fdiv (IntKind.wrap .u64 (IntKind.wrap .i64 (i + j))) (2 : Int))))) && (Nat.blt (Int.toNat (IntKind.wrap .i64 (Int.fdiv (IntKind.wrap .u64 (IntKind.wrap .i64 (i + j))) (2 : Int)))) n)) then
 bif (bne (nu l (Int.toNat (IntKind.wrap .i64 (Int.fdiv (IntKind.wrap .u64 (IntKind.wrap .i64 (i + j))) (2 : Int))))) (nu l (Int.toNat (IntKind.wrap .i64 (Int.fdiv (IntKind.wrap .u64 (IntKind.wrap .i64 (i + j))) (2 : Int)))))) then
 bif (!(bne u u)) then
 true
 else bif (decide ((nu l (Int.toNat (IntKind.wrap .i64 (Int.fdiv (IntKind.wrap .u64 (IntKind.wrap .i64 (i + j))) (2 : Int))))) < u)) then
 true
 else true
 else bif (decide ((nu l (Int.toNat (IntKind.wrap .i64 (Int.fdiv (IntKind.wrap .u64 (IntKind.wrap .i64 (i + j))) (2 : Int))))) < u)) then
 true
 else true
 else false
 else true : Bool) := by
  kernel_rfl
def bfOuts : Exit → Outs
  | .normal => { ks := [0, 1, 2, 8, 9, 10] }
  | .exit _ => { ks := [0, 1, 2, 8, 9, 10] }
  | _ => { ks := [] }
noncomputable abbrev bfRound (G : GT) := roundT Tryd.prog (E7 G) 60 G 49 bfOuts .normal (theLoop 0 Tryd.f47)
theorem bf_round_v (m : Int) (t : TypeId) (fr : Nat × Nat) (l : List Ml) (n : Nat) (u i j : Int) : ((bfRound (GG m t fr) ([.gsl 6 n (mRow l), .lit (.int .u32 u), .clo 48 [], int n, int i, int j], []))).val =
 (bif (decide (i < j)) then
 bif (bne (Ml.u (ml l (Int.toNat (IntKind.wrap .i64 (Int.fdiv (IntKind.wrap .u64 (IntKind.wrap .i64 (i + j))) (2 : Int)))))) (Ml.u (ml l (Int.toNat (IntKind.wrap .i64 (Int.fdiv (IntKind.wrap .u64 (IntKind.wrap .i64 (i + j))) (2 : Int))))))) then
 bif (bne u u) then
 (.some (.normal, ([(.gsl 6 n (fun i => mC (ml l i))), (.lit (.int .u32 u)), (.clo 48 []), (.lit (.int .i64 ((n : Nat) : Int))), (.lit (.int .i64 i)), (.lit (.int .i64 (IntKind.wrap .i64 (Int.fdiv (IntKind.wrap .u64 (IntKind.wrap .i64 (i + j))) (2 : Int)))))], [])))
 else (.some (.normal, ([(.gsl 6 n (fun i => mC (ml l i))), (.lit (.int .u32 u)), (.clo 48 []), (.lit (.int .i64 ((n : Nat) : Int))), (.lit (.int .i64 (IntKind.wrap .i64 ((IntKind.wrap .i64 (Int.fdiv (IntKind.wrap .u64 (IntKind.wrap .i64 (i + j))) (2 : Int))) + (1 : Int))))), (.lit (.int .i64 j))], [])))
 else bif (bne u u) then
 (.some (.normal, ([(.gsl 6 n (fun i => mC (ml l i))), (.lit (.int .u32 u)), (.clo 48 []), (.lit (.int .i64 ((n : Nat) : Int))), (.lit (.int .i64 i)), (.lit (.int .i64 (IntKind.wrap .i64 (Int.fdiv (IntKind.wrap .u64 (IntKind.wrap .i64 (i + j))) (2 : Int)))))], [])))
 else bif (decide ((Ml.u (ml l (Int.toNat (IntKind.wrap .i64 (Int.fdiv (IntKind.wrap .u64 (IntKind.wrap .i64 (i + j))) (2 : Int)))))) < u)) then
 (.some (.normal, ([(.gsl 6 n (fun i => mC (ml l i))), (.lit (.int .u32 u)), (.clo 48 []), (.lit (.int .i64 ((n : Nat) : Int))), (.lit (.int .i64 (IntKind.wrap .i64 ((IntKind.wrap .i64 (Int.fdiv (IntKind.wrap .u64 (IntKind.wrap .i64 (i + j))) (2 : Int))) + (1 : Int))))), (.lit (.int .i64 j))], [])))
 else bif (decide ((Ml.u (ml l (Int.toNat (IntKind.wrap .i64 (Int.fdiv (IntKind.wrap .u64 (IntKind.wrap .i64 (i + j))) (2 : Int)))))) > u)) then
 (.some (.normal, ([(.gsl 6 n (fun i => mC (ml l i))), (.lit (.int .u32 u)), (.clo 48 []), (.lit (.int .i64 ((n : Nat) : Int))), (.lit (.int .i64 i)), (.lit (.int .i64 (IntKind.wrap .i64 (Int.fdiv (IntKind.wrap .u64 (IntKind.wrap .i64 (i + j))) (2 : Int)))))], [])))
 else (.some (.normal, ([(.gsl 6 n (fun i => mC (ml l i))), (.lit (.int .u32 u)), (.clo 48 []), (.lit (.int .i64 ((n : Nat) : Int))), (.lit (.int .i64 i)), (.lit (.int .i64 (IntKind.wrap .i64 (Int.fdiv (IntKind.wrap .u64 (IntKind.wrap .i64 (i + j))) (2 : Int)))))], [])))
 else (.some ((.exit 0), ([(.gsl 6 n (fun i => mC (ml l i))), (.lit (.int .u32 u)), (.clo 48 []), (.lit (.int .i64 ((n : Nat) : Int))), (.lit (.int .i64 i)), (.lit (.int .i64 j))], []))) : Option (Exit × Kept)) := by
  kernel_rfl
theorem bf_round_c (m : Int) (t : TypeId) (fr : Nat × Nat) (l : List Ml) (n : Nat) (u i j : Int) : ((bfRound (GG m t fr) ([.gsl 6 n (mRow l), .lit (.int .u32 u), .clo 48 [], int n, int i, int j], []))).conds =
 (bif (decide (i < j)) then
 bif ((decide ((0 : Int) ≤ (IntKind.wrap .i64 (Int.fdiv (IntKind.wrap .u64 (IntKind.wrap .i64 (i + j))) (2 : Int))))) && (Nat.blt (Int.toNat (IntKind.wrap .i64 (Int.fdiv (IntKind.wrap .u64 (IntKind.wrap .i64 (i + j))) (2 : Int)))) n)) then
 bif (bne (Ml.u (ml l (Int.toNat (IntKind.wrap .i64 (Int.fdiv (IntKind.wrap .u64 (IntKind.wrap .i64 (i + j))) (2 : Int)))))) (Ml.u (ml l (Int.toNat (IntKind.wrap .i64 (Int.fdiv (IntKind.wrap .u64 (IntKind.wrap .i64 (i + j))) (2 : Int))))))) then
 bif (bne u u) then
 true
 else true
 else bif (bne u u) then
 true
 else bif (decide ((Ml.u (ml l (Int.toNat (IntKind.wrap .i64 (Int.fdiv (IntKind.wrap .u64 (IntKind.wrap .i64 (i + j))) (2 : Int)))))) < u)) then
 true
 else bif (decide ((Ml.u (ml l (Int.toNat (IntKind.wrap .i64 (Int.fdiv (IntKind.wrap .u64 (IntKind.wrap .i64 (i + j))) (2 : Int)))))) > u)) then
 true
 else true
 else false
 else true : Bool) := by
  kernel_rfl
theorem clm_raw_v (m : Int) (t : TypeId) (fr : Nat × Nat) (n : Nat) (f : Nat → List PV) : ((fnRow Tryd.prog (E7 (GG m t fr)) 60 Tryd.f39 (GG m t fr) [.gsl 6 n f])).val =
 ((.some (47, (6, ((0 + n), (fun i =>
 match i.blt 0 with
 | true => rowOf (List.replicate (0 * 6) PV.junk) 6 i
 | false => f (i - 0)))))) : Option (TypeId × Nat × Nat × (Nat → List PV))) := by
  kernel_rfl
theorem clm_raw_c (m : Int) (t : TypeId) (fr : Nat × Nat) (n : Nat) (f : Nat → List PV) : ((fnRow Tryd.prog (E7 (GG m t fr)) 60 Tryd.f39 (GG m t fr) [.gsl 6 n f])).conds =
 (bif (Nat.blt 0 n) then
 bif (Nat.ble ((0 + n) * 48) (140737488355328 : Nat)) then
 true
 else false
 else false : Bool) := by
  kernel_rfl
theorem clmz_raw_v (m : Int) (t : TypeId) (fr : Nat × Nat) (ad : Addr) (c : Nat) : ((fnRow Tryd.prog (E7 (GG m t fr)) 60 Tryd.f39 (GG m t fr) [.lit (.slice (some ad) 0 c)])).val =
 ((.some (47, (6, (0, (fun i =>
 match i.blt 0 with
 | true => rowOf (List.replicate (0 * 6) PV.junk) 6 i
 | false => (fun x => []) (i - 0)))))) : Option (TypeId × Nat × Nat × (Nat → List PV))) := by
  kernel_rfl
theorem clmz_raw_c (m : Int) (t : TypeId) (fr : Nat × Nat) (ad : Addr) (c : Nat) : ((fnRow Tryd.prog (E7 (GG m t fr)) 60 Tryd.f39 (GG m t fr) [.lit (.slice (some ad) 0 c)])).conds =
 (true : Bool) := by
  kernel_rfl
theorem clmn_raw_v (m : Int) (t : TypeId) (fr : Nat × Nat) : ((fnPure Tryd.prog (E7 (GG m t fr)) 60 Tryd.f39 (GG m t fr) [.lit (.slice none 0 0)])).val =
 ((.some (.lit (.slice .none 0 0))) : Option PV) := by
  kernel_rfl
theorem clmn_raw_c (m : Int) (t : TypeId) (fr : Nat × Nat) : ((fnPure Tryd.prog (E7 (GG m t fr)) 60 Tryd.f39 (GG m t fr) [.lit (.slice none 0 0)])).conds =
 (true : Bool) := by
  kernel_rfl
theorem clu_raw_v (m : Int) (t : TypeId) (fr : Nat × Nat) (n : Nat) (f : Nat → List PV) : ((fnRow Tryd.prog (E7 (GG m t fr)) 60 Tryd.f44 (GG m t fr) [.gsl 1 n f])).val =
 ((.some (22, (1, ((0 + n), (fun i =>
 match i.blt 0 with
 | true => rowOf (List.replicate (0 * 1) PV.junk) 1 i
 | false => f (i - 0)))))) : Option (TypeId × Nat × Nat × (Nat → List PV))) := by
  kernel_rfl
theorem clu_raw_c (m : Int) (t : TypeId) (fr : Nat × Nat) (n : Nat) (f : Nat → List PV) : ((fnRow Tryd.prog (E7 (GG m t fr)) 60 Tryd.f44 (GG m t fr) [.gsl 1 n f])).conds =
 (bif (Nat.blt 0 n) then
 bif (Nat.ble ((0 + n) * 4) (140737488355328 : Nat)) then
 true
 else false
 else false : Bool) := by
  kernel_rfl
theorem cluz_raw_v (m : Int) (t : TypeId) (fr : Nat × Nat) (ad : Addr) (c : Nat) : ((fnRow Tryd.prog (E7 (GG m t fr)) 60 Tryd.f44 (GG m t fr) [.lit (.slice (some ad) 0 c)])).val =
 ((.some (22, (1, (0, (fun i =>
 match i.blt 0 with
 | true => rowOf (List.replicate (0 * 1) PV.junk) 1 i
 | false => (fun x => []) (i - 0)))))) : Option (TypeId × Nat × Nat × (Nat → List PV))) := by
  kernel_rfl
theorem cluz_raw_c (m : Int) (t : TypeId) (fr : Nat × Nat) (ad : Addr) (c : Nat) : ((fnRow Tryd.prog (E7 (GG m t fr)) 60 Tryd.f44 (GG m t fr) [.lit (.slice (some ad) 0 c)])).conds =
 (true : Bool) := by
  kernel_rfl
theorem clun_raw_v (m : Int) (t : TypeId) (fr : Nat × Nat) : ((fnPure Tryd.prog (E7 (GG m t fr)) 60 Tryd.f44 (GG m t fr) [.lit (.slice none 0 0)])).val =
 ((.some (.lit (.slice .none 0 0))) : Option PV) := by
  kernel_rfl
theorem clun_raw_c (m : Int) (t : TypeId) (fr : Nat × Nat) : ((fnPure Tryd.prog (E7 (GG m t fr)) 60 Tryd.f44 (GG m t fr) [.lit (.slice none 0 0)])).conds =
 (true : Bool) := by
  kernel_rfl
end
end Go.Proofs.YtlngnfkjpfokhaaDoor.Ev

/- A number sought in rows that rise: contracts; rows copied: contracts. No condition. -/
namespace Go.Proofs.YtlngnfkjpfokhaaDoor.Ev
open Go Go.RowKit Go.Proofs Go.Proofs.YtlngnfkjpfokhaaDoor.Str
set_option linter.unusedVariables false
set_option linter.unusedSimpArgs false
theorem mid_wrap {i j : Nat} (h : i + j ≤ 8589934592) : IntKind.wrap .i64 (Int.fdiv (IntKind.wrap .u64 (IntKind.wrap .i64 ((i : Int) + (j : Int)))) (2 : Int)) = (((i + j) / 2 : Nat) : Int) := by
  have e : ((i : Int) + (j : Int)) = ((i + j : Nat) : Int) := by omega
  rw [e, wrap_nat (by omega)]
  have e2 : IntKind.wrap .u64 ((i + j : Nat) : Int) = ((i + j : Nat) : Int) := by
    simp only [IntKind.wrap, IntKind.signed, IntKind.bits]
    simp
    omega
  rw [e2, Int.fdiv_eq_ediv_of_nonneg _ (by omega)]
  have e3 : ((i + j : Nat) : Int) / 2 = (((i + j) / 2 : Nat) : Int) := by omega
  rw [e3, wrap_nat (by omega)]
theorem bne_self' {α : Type} [BEq α] [LawfulBEq α] (a : α) : (bne a a) = false := by simp
def usM (l : List Ml) : List Int := l.map (·.u)
theorem us_at {l : List Ml} {i : Nat} (h : i < l.length) : nu (usM l) i = (ml l i).u := by
  simp [usM, nu, ml, h]
theorem us_len (l : List Ml) : (usM l).length = l.length := by simp [usM]
section
variable {m : Int} {t : TypeId} {fr : Nat × Nat}
/-! ### numbers -/
def bsIn (l : List Int) (u : Int) (i j : Nat) : Kept := ([.gsl 1 l.length (nRow l), .lit (.int .u32 u), int l.length, int i, int j], [])
theorem bs_LR (l : List Int) (hl : l.Pairwise (· < ·)) (u : Int) (hn : l.length ≤ 4294967280) : ∀ (k i j : Nat), j - i ≤ k → i ≤ lbI l u → lbI l u ≤ j → j ≤ l.length →
    LR Tryd.prog (E7 (GG m t fr)) 60 (GG m t fr) 54 bsOuts .normal (theLoop 0 Tryd.f42) (bsIn l u i j) (.exit 0) (bsIn l u (lbI l u) (lbI l u))
  | k, i, j, hk, h1, h2, h3 => by
    have hv := bs_round_v m t fr l l.length u i j
    have hc := bs_round_c m t fr l l.length u i j
    rw [mid_wrap (by omega), Int.toNat_natCast] at hv hc
    simp only [bne_self', cond_false] at hv hc
    rcases Nat.lt_or_ge i j with hij | hij
    · have hd : decide ((i : Int) < (j : Int)) = true := decide_eq_true (by omega)
      have hin : (decide ((0 : Int) ≤ (((i + j) / 2 : Nat) : Int)) && Nat.blt ((i + j) / 2) l.length) = true := by
        rw [Bool.and_eq_true]
        exact ⟨decide_eq_true (by omega), by rw [Nat.blt_eq]; omega⟩
      have hb := lb_lt hl (u := u) (k := (i + j) / 2) (by omega)
      rw [hd, wrap_succ (by omega)] at hv
      rw [hd, hin] at hc
      cases k with
      | zero => omega
      | succ k =>
        by_cases hx : nu l ((i + j) / 2) < u
        · rw [decide_eq_true hx] at hv hc
          have hb' := hb.1 hx
          exact .more (Tr.run_vc hv hc rfl rfl) (bs_LR l hl u hn k ((i + j) / 2 + 1) j (by omega) (by omega) h2 h3)
        · rw [decide_eq_false hx] at hv hc
          have hb' : ¬ _ := fun h => hx (hb.2 h)
          exact .more (Tr.run_vc hv hc rfl rfl) (bs_LR l hl u hn k i ((i + j) / 2) (by omega) h1 (by omega) (by omega))
    · have hd : decide ((i : Int) < (j : Int)) = false := decide_eq_false (by omega)
      rw [hd] at hv hc
      have e1 : i = lbI l u := by omega
      have e2 : j = lbI l u := by omega
      rw [← e1]
      rw [show j = i by omega] at hv hc ⊢
      exact .last (Tr.run_vc hv hc rfl rfl) (by simp) (by simp)
def bsF : Kept → Tr (Exit × Kept)
  | ([.gsl 1 n f, .lit (.int .u32 u), .lit (.int .i64 k), .lit (.int .i64 i), .lit (.int .i64 j)], []) => .br (areNums n f && risI (numsOf n f) && decide (k = n) && decide (i = 0) && decide (j = n) && Nat.ble n 4294967280)
      (.leaf (.exit 0, ([.gsl 1 n (nRow (numsOf n f)), .lit (.int .u32 u), int n, int (lbI (numsOf n f) u), int (lbI (numsOf n f) u)], []))) .fail
  | _ => .fail
theorem bsF_ok (x : Kept) (e : Exit) (y : Kept) (h : (bsF x).run = some (e, y)) : LR Tryd.prog (E7 (GG m t fr)) 60 (GG m t fr) 54 bsOuts .normal (theLoop 0 Tryd.f42) x e y := by
  unfold bsF at h
  split at h
  · rename_i n f u k i j
    have hb := br_run h
    clear h
    obtain ⟨hc, h⟩ := hb
    simp only [Bool.and_eq_true, decide_eq_true_eq, Nat.ble_eq] at hc
    obtain ⟨⟨⟨⟨⟨hf, hr⟩, rfl⟩, rfl⟩, rfl⟩, hn⟩ := hc
    have hlen := nums_len n f
    have key := bs_LR (m := m) (t := t) (fr := fr) (numsOf n f) (ris_at hr) u (by omega) n 0 n (by omega) (by omega) (by have := lb_le (numsOf n f) u; omega) (by omega)
    simp only [Tr.run, Option.some.injEq, Prod.mk.injEq] at h
    obtain ⟨rfl, rfl⟩ := h
    unfold bsIn at key
    rw [hlen] at key
    refine .le ⟨?_, .nil⟩ key
    exact .cons (PLe.gsl rfl (nums_row hf)) (.refl _)
  · cases h
noncomputable abbrev bsCut (G : GT) := cutOf G 54 bsOuts 0 bsF
theorem bs_raw_v (m : Int) (t : TypeId) (fr : Nat × Nat) (l : List Int) (n : Nat) (u : Int) : ((fnPure Tryd.prog ((E7 (GG m t fr)).withCuts (cut1 0 (bsCut (GG m t fr)))) 60 Tryd.f42 (GG m t fr) [.gsl 1 n (nRow l), .lit (.int .u32 u)])).val =
 (bif (decide ((((lbI (numsOf n (nRow l)) u) : Nat) : Int) < ((n : Nat) : Int))) then
 bif ((nu (numsOf n (nRow l)) (Int.toNat (((lbI (numsOf n (nRow l)) u) : Nat) : Int))) == u) then
 (.some (.tup [(.lit (.int .i64 (((lbI (numsOf n (nRow l)) u) : Nat) : Int))), (.lit (.bool true))]))
 else bif (bne (nu (numsOf n (nRow l)) (Int.toNat (((lbI (numsOf n (nRow l)) u) : Nat) : Int))) (nu (numsOf n (nRow l)) (Int.toNat (((lbI (numsOf n (nRow l)) u) : Nat) : Int)))) then
 (.some (.tup [(.lit (.int .i64 (((lbI (numsOf n (nRow l)) u) : Nat) : Int))), (.lit (.bool (bne u u)))]))
 else (.some (.tup [(.lit (.int .i64 (((lbI (numsOf n (nRow l)) u) : Nat) : Int))), (.lit (.bool false))]))
 else (.some (.tup [(.lit (.int .i64 (((lbI (numsOf n (nRow l)) u) : Nat) : Int))), (.lit (.bool false))])) : Option PV) := by
  kernel_rfl
theorem bs_raw_c (m : Int) (t : TypeId) (fr : Nat × Nat) (l : List Int) (n : Nat) (u : Int) : ((fnPure Tryd.prog ((E7 (GG m t fr)).withCuts (cut1 0 (bsCut (GG m t fr)))) 60 Tryd.f42 (GG m t fr) [.gsl 1 n (nRow l), .lit (.int .u32 u)])).conds =
 (bif ((((((areNums n (nRow l)) && (risI (numsOf n (nRow l)))) && (decide (((n : Nat) : Int) = ((n : Nat) : Int)))) && true) && (decide (((n : Nat) : Int) = ((n : Nat) : Int)))) && (Nat.ble n (4294967280 : Nat))) then
 bif (decide ((((lbI (numsOf n (nRow l)) u) : Nat) : Int) < ((n : Nat) : Int))) then
 bif ((decide ((0 : Int) ≤ (((lbI (numsOf n (nRow l)) u) : Nat) : Int))) && (Nat.blt (Int.toNat (((lbI (numsOf n (nRow l)) u) : Nat) : Int)) n)) then
 bif ((nu (numsOf n (nRow l)) (Int.toNat (((lbI (numsOf n (nRow l)) u) : Nat) : Int))) == u) then
 true
 else bif ((decide ((0 : Int) ≤ (((lbI (numsOf n (nRow l)) u) : Nat) : Int))) && (Nat.blt (Int.toNat (((lbI (numsOf n (nRow l)) u) : Nat) : Int)) n)) then
 bif (bne (nu (numsOf n (nRow l)) (Int.toNat (((lbI (numsOf n (nRow l)) u) : Nat) : Int))) (nu (numsOf n (nRow l)) (Int.toNat (((lbI (numsOf n (nRow l)) u) : Nat) : Int)))) then
 true
 else true
 else false
 else false
 else true
 else false : Bool) := by
  kernel_rfl
/-! ### mails -/
def bfIn (l : List Ml) (u : Int) (i j : Nat) : Kept := ([.gsl 6 l.length (mRow l), .lit (.int .u32 u), .clo 48 [], int l.length, int i, int j], [])
theorem bf_LR (l : List Ml) (hl : (usM l).Pairwise (· < ·)) (u : Int) (hn : l.length ≤ 4294967280) : ∀ (k i j : Nat), j - i ≤ k → i ≤ lbI (usM l) u → lbI (usM l) u ≤ j → j ≤ l.length →
    LR Tryd.prog (E7 (GG m t fr)) 60 (GG m t fr) 49 bfOuts .normal (theLoop 0 Tryd.f47) (bfIn l u i j) (.exit 0) (bfIn l u (lbI (usM l) u) (lbI (usM l) u))
  | k, i, j, hk, h1, h2, h3 => by
    have hv := bf_round_v m t fr l l.length u i j
    have hc := bf_round_c m t fr l l.length u i j
    rw [mid_wrap (by omega), Int.toNat_natCast] at hv hc
    simp only [bne_self', cond_false] at hv hc
    rcases Nat.lt_or_ge i j with hij | hij
    · have hd : decide ((i : Int) < (j : Int)) = true := decide_eq_true (by omega)
      have hin : (decide ((0 : Int) ≤ (((i + j) / 2 : Nat) : Int)) && Nat.blt ((i + j) / 2) l.length) = true := by
        rw [Bool.and_eq_true]
        exact ⟨decide_eq_true (by omega), by rw [Nat.blt_eq]; omega⟩
      have hb := lb_lt hl (u := u) (k := (i + j) / 2) (by rw [us_len]; omega)
      rw [us_at (by omega)] at hb
      rw [hd, wrap_succ (by omega)] at hv
      rw [hd, hin] at hc
      cases k with
      | zero => omega
      | succ k =>
        by_cases hx : (ml l ((i + j) / 2)).u < u
        · rw [decide_eq_true hx] at hv hc
          have hb' := hb.1 hx
          exact .more (Tr.run_vc hv hc rfl rfl) (bf_LR l hl u hn k ((i + j) / 2 + 1) j (by omega) (by omega) h2 h3)
        · rw [decide_eq_false hx] at hv hc
          have hb' : ¬ _ := fun h => hx (hb.2 h)
          simp only [cond_false, cond_true, Bool.cond_self] at hv hc
          exact .more (Tr.run_vc hv hc rfl rfl) (bf_LR l hl u hn k i ((i + j) / 2) (by omega) h1 (by omega) (by omega))
    · have hd : decide ((i : Int) < (j : Int)) = false := decide_eq_false (by omega)
      rw [hd] at hv hc
      have e1 : i = lbI (usM l) u := by omega
      rw [← e1]
      rw [show j = i by omega] at hv hc ⊢
      exact .last (Tr.run_vc hv hc rfl rfl) (by simp) (by simp)
def bfF : Kept → Tr (Exit × Kept)
  | ([.gsl 6 n f, .lit (.int .u32 u), .clo c [], .lit (.int .i64 k), .lit (.int .i64 i), .lit (.int .i64 j)], []) => .br (areMls n f && risI (usM (mlsOf n f)) && Nat.beq c 48 && decide (k = n) && decide (i = 0) && decide (j = n) && Nat.ble n 4294967280)
      (.leaf (.exit 0, ([.gsl 6 n (mRow (mlsOf n f)), .lit (.int .u32 u), .clo 48 [], int n, int (lbI (usM (mlsOf n f)) u), int (lbI (usM (mlsOf n f)) u)], []))) .fail
  | _ => .fail
theorem bfF_ok (x : Kept) (e : Exit) (y : Kept) (h : (bfF x).run = some (e, y)) : LR Tryd.prog (E7 (GG m t fr)) 60 (GG m t fr) 49 bfOuts .normal (theLoop 0 Tryd.f47) x e y := by
  unfold bfF at h
  split at h
  · rename_i n f u c k i j
    have hb := br_run h
    clear h
    obtain ⟨hc, h⟩ := hb
    simp only [Bool.and_eq_true, decide_eq_true_eq, Nat.ble_eq] at hc
    obtain ⟨⟨⟨⟨⟨⟨hf, hr⟩, hcc⟩, rfl⟩, rfl⟩, rfl⟩, hn⟩ := hc
    have hcc := Nat.eq_of_beq_eq_true hcc
    subst hcc
    have hlen := mls_len n f
    have key := bf_LR (m := m) (t := t) (fr := fr) (mlsOf n f) (ris_at hr) u (by omega) n 0 n (by omega) (by omega) (by have := lb_le (usM (mlsOf n f)) u; rw [us_len] at this; omega) (by omega)
    simp only [Tr.run, Option.some.injEq, Prod.mk.injEq] at h
    obtain ⟨rfl, rfl⟩ := h
    unfold bfIn at key
    rw [hlen] at key
    refine .le ⟨?_, .nil⟩ key
    exact .cons (PLe.gsl rfl (mls_row hf)) (.refl _)
  · cases h
noncomputable abbrev bfCut (G : GT) := cutOf G 49 bfOuts 0 bfF
theorem bf_raw_v (m : Int) (t : TypeId) (fr : Nat × Nat) (l : List Ml) (n : Nat) (u : Int) : ((fnPure Tryd.prog ((E7 (GG m t fr)).withCuts (cut1 0 (bfCut (GG m t fr)))) 60 Tryd.f47 (GG m t fr) [.gsl 6 n (mRow l), .lit (.int .u32 u), .clo 48 []])).val =
 (bif (decide ((((lbI (usM (mlsOf n (mRow l))) u) : Nat) : Int) < ((n : Nat) : Int))) then
 bif (bne (Ml.u (ml (mlsOf n (mRow l)) (Int.toNat (((lbI (usM (mlsOf n (mRow l))) u) : Nat) : Int)))) (Ml.u (ml (mlsOf n (mRow l)) (Int.toNat (((lbI (usM (mlsOf n (mRow l))) u) : Nat) : Int))))) then
 bif (bne u u) then
 (.some (.tup [(.lit (.int .i64 (((lbI (usM (mlsOf n (mRow l))) u) : Nat) : Int))), (.lit (.bool true))]))
 else (.some (.tup [(.lit (.int .i64 (((lbI (usM (mlsOf n (mRow l))) u) : Nat) : Int))), (.lit (.bool false))]))
 else bif (bne u u) then
 (.some (.tup [(.lit (.int .i64 (((lbI (usM (mlsOf n (mRow l))) u) : Nat) : Int))), (.lit (.bool false))]))
 else bif (decide ((Ml.u (ml (mlsOf n (mRow l)) (Int.toNat (((lbI (usM (mlsOf n (mRow l))) u) : Nat) : Int)))) < u)) then
 (.some (.tup [(.lit (.int .i64 (((lbI (usM (mlsOf n (mRow l))) u) : Nat) : Int))), (.lit (.bool false))]))
 else bif (decide ((Ml.u (ml (mlsOf n (mRow l)) (Int.toNat (((lbI (usM (mlsOf n (mRow l))) u) : Nat) : Int)))) > u)) then
 (.some (.tup [(.lit (.int .i64 (((lbI (usM (mlsOf n (mRow l))) u) : Nat) : Int))), (.lit (.bool false))]))
 else (.some (.tup [(.lit (.int .i64 (((lbI (usM (mlsOf n (mRow l))) u) : Nat) : Int))), (.lit (.bool true))]))
 else (.some (.tup [(.lit (.int .i64 (((lbI (usM (mlsOf n (mRow l))) u) : Nat) : Int))), (.lit (.bool false))])) : Option PV) := by
  kernel_rfl
theorem bf_raw_c (m : Int) (t : TypeId) (fr : Nat × Nat) (l : List Ml) (n : Nat) (u : Int) : ((fnPure Tryd.prog ((E7 (GG m t fr)).withCuts (cut1 0 (bfCut (GG m t fr)))) 60 Tryd.f47 (GG m t fr) [.gsl 6 n (mRow l), .lit (.int .u32 u), .clo 48 []])).conds =
 (bif (((((((areMls n (mRow l)) && (risI (usM (mlsOf n (mRow l))))) && true) && (decide (((n : Nat) : Int) = ((n : Nat) : Int)))) && true) && (decide (((n : Nat) : Int) = ((n : Nat) : Int)))) && (Nat.ble n (4294967280 : Nat))) then
 bif (decide ((((lbI (usM (mlsOf n (mRow l))) u) : Nat) : Int) < ((n : Nat) : Int))) then
 bif ((decide ((0 : Int) ≤ (((lbI (usM (mlsOf n (mRow l))) u) : Nat) : Int))) && (Nat.blt (Int.toNat (((lbI (usM (mlsOf n (mRow l))) u) : Nat) : Int)) n)) then
 bif (bne (Ml.u (ml (mlsOf n (mRow l)) (Int.toNat (((lbI (usM (mlsOf n (mRow l))) u) : Nat) : Int)))) (Ml.u (ml (mlsOf n (mRow l)) (Int.toNat (((lbI (usM (mlsOf n (mRow l))) u) : Nat) : Int))))) then
 bif (bne u u) then
 true
 else true
 else bif (bne u u) then
 true
 else bif (decide ((Ml.u (ml (mlsOf n (mRow l)) (Int.toNat (((lbI (usM (mlsOf n (mRow l))) u) : Nat) : Int)))) < u)) then
 true
 else bif (decide ((Ml.u (ml (mlsOf n (mRow l)) (Int.toNat (((lbI (usM (mlsOf n (mRow l))) u) : Nat) : Int)))) > u)) then
 true
 else true
 else false
 else true
 else false : Bool) := by
  kernel_rfl
end
end Go.Proofs.YtlngnfkjpfokhaaDoor.Ev

/- A number sought in rows that rise; rows copied: contracts. No condition. -/
namespace Go.Proofs.YtlngnfkjpfokhaaDoor.Ev
open Go Go.RowKit Go.Proofs Go.Proofs.YtlngnfkjpfokhaaDoor.Str
set_option linter.unusedVariables false
set_option linter.unusedSimpArgs false
/-- a row, as it may be told -/
def rowP (sz : Nat) : PV → Option (Nat × (Nat → List PV))
  | .gsl s n f => match Nat.beq s sz with
    | true => some (n, f)
    | false => none
  | .lit (.slice none 0 0) => some (0, fun _ => [])
  | .emp => some (0, fun _ => [])
  | _ => none
theorem PLe.emp (sz : Nat) (f : Nat → List PV) : PLe .emp (.gsl sz 0 f) := fun C m v h => by
  cases h with
  | emp m v h =>
    rcases h with rfl | ⟨a, rfl⟩
    · exact .gnil _ _ _
    · exact .gspt _ _ _ _
theorem PLe.gptr {cs ds : List PV} (h : PLeL cs ds) : PLe (.gptr cs) (.gptr ds) := fun C m v hr => by
  cases hr with
  | gptr m cs b o g hc hh =>
    refine .gptr _ ds b o g (fun j hj => hc j (by rw [h.1]; exact hj)) fun j p hp => ?_
    have hj : j < cs.length := by
      rw [h.1]
      exact (List.getElem?_eq_some_iff.1 hp).1
    exact h.2 j _ p (List.getElem?_eq_getElem hj) hp _ _ _ (hh j _ (List.getElem?_eq_getElem hj))
theorem rowP_le {sz : Nat} {p : PV} {n : Nat} {f : Nat → List PV} (h : rowP sz p = some (n, f)) : PLe p (.gsl sz n f) := by
  unfold rowP at h
  split at h
  · split at h
    · rename_i hs
      cases h
      rw [Nat.eq_of_beq_eq_true hs]
      exact .refl _
    · cases h
  · cases h
    exact PLe.nil sz _
  · cases h
    exact PLe.emp sz _
  · cases h
section
variable {m : Int} {t : TypeId} {fr : Nat × Nat}
def schG : List PV → Tr PV
  | [p, .lit (.int .u32 u)] => match rowP 1 p with
    | some (n, f) => .br (areNums n f && risI (numsOf n f) && Nat.ble n 4294967280) (.leaf (.tup [int (lbI (numsOf n f) u), bool (inI (numsOf n f) u)])) .fail
    | none => .fail
  | _ => .fail
theorem sch_ok : PureOK Tryd.prog (GG m t fr) 42 schG := by
  intro ps p hp
  unfold schG at hp
  split at hp
  · rename_i u
    split at hp
    · rename_i n f hq
      have hb := br_run hp
      clear hp
      obtain ⟨hc, hp⟩ := hb
      simp only [Bool.and_eq_true, Nat.ble_eq] at hc
      obtain ⟨⟨hf, hr⟩, hn⟩ := hc
      simp only [Tr.run, Option.some.injEq] at hp
      subst hp
      have hlen := nums_len n f
      have hle := (rowP_le hq).trans (PLe.gsl rfl (nums_row hf))
      have hu := nums_u32 hf
      generalize hL : numsOf n f = l at hr hlen hle hu
      subst hlen
      have hv := bs_raw_v m t fr l l.length u
      have hc := bs_raw_c m t fr l l.length u
      rw [nums_nRow, Int.toNat_natCast] at hv hc
      have hin := lb_in (ris_at hr) u
      have hd : decide (((lbI l u : Nat) : Int) < ((l.length : Nat) : Int)) = decide (lbI l u < l.length) := decide_eq_decide.2 (by omega)
      have hp0 : decide ((0 : Int) ≤ ((lbI l u : Nat) : Int)) = true := decide_eq_true (by omega)
      rw [hd] at hv
      rw [hd, are_nRow hu, hr, decide_eq_true rfl, Nat.ble_eq_true_of_le hn, hp0] at hc
      simp only [bne_self', cond_false, Bool.true_and, cond_true, Bool.cond_self] at hv hc
      refine ((fn_cuts mixed E7_ok (fn := Tryd.f42) (cuts := cut1 0 (bsCut (GG m t fr))) (by kernel_rfl) (CutLaws.one (by omega) (by kernel_rfl) fun st e st' h => cutOf_ok E7_ok mixed (noCuts_ok (envOf_cuts ..) _) bsF_ok h)) _ _ ?_).pre (.cons hle (.refl _))
      rw [hin]
      by_cases h1 : lbI l u < l.length
      · rw [decide_eq_true h1] at hv hc ⊢
        have : Nat.blt (lbI l u) l.length = true := by rw [Nat.blt_eq]; exact h1
        rw [this] at hc
        by_cases h2 : nu l (lbI l u) = u
        · have h2' : (nu l (lbI l u) == u) = true := by simpa using h2
          rw [h2'] at hv hc
          rw [decide_eq_true h2]
          exact Tr.run_vc hv hc rfl rfl
        · have h2' : (nu l (lbI l u) == u) = false := by simpa using h2
          rw [h2'] at hv hc
          rw [decide_eq_false h2]
          exact Tr.run_vc hv hc rfl rfl
      · rw [decide_eq_false h1] at hv hc ⊢
        exact Tr.run_vc hv hc rfl rfl
    · cases hp
  · cases hp
def schmG : List PV → Tr PV
  | [p, .lit (.int .u32 u), .clo c []] => match rowP 6 p with
    | some (n, f) => .br (areMls n f && risI (usM (mlsOf n f)) && Nat.beq c 48 && Nat.ble n 4294967280) (.leaf (.tup [int (lbI (usM (mlsOf n f)) u), bool (inI (usM (mlsOf n f)) u)])) .fail
    | none => .fail
  | _ => .fail
theorem schm_ok : PureOK Tryd.prog (GG m t fr) 47 schmG := by
  intro ps p hp
  unfold schmG at hp
  split at hp
  · rename_i u c
    split at hp
    · rename_i n f hq
      have hb := br_run hp
      clear hp
      obtain ⟨hc, hp⟩ := hb
      simp only [Bool.and_eq_true, Nat.ble_eq] at hc
      obtain ⟨⟨⟨hf, hr⟩, hcc⟩, hn⟩ := hc
      have hcc := Nat.eq_of_beq_eq_true hcc
      subst hcc
      simp only [Tr.run, Option.some.injEq] at hp
      subst hp
      have hlen := mls_len n f
      have hle := (rowP_le hq).trans (PLe.gsl rfl (mls_row hf))
      have hu := mls_R hf
      generalize hL : mlsOf n f = l at hr hlen hle hu
      subst hlen
      have hv := bf_raw_v m t fr l l.length u
      have hc := bf_raw_c m t fr l l.length u
      rw [mls_mRow, Int.toNat_natCast] at hv hc
      have hin := lb_in (ris_at hr) u
      rw [us_len] at hin
      have hd : decide (((lbI (usM l) u : Nat) : Int) < ((l.length : Nat) : Int)) = decide (lbI (usM l) u < l.length) := decide_eq_decide.2 (by omega)
      have hp0 : decide ((0 : Int) ≤ ((lbI (usM l) u : Nat) : Int)) = true := decide_eq_true (by omega)
      rw [hd] at hv
      rw [hd, are_mRow hu, hr, decide_eq_true rfl, Nat.ble_eq_true_of_le hn, hp0] at hc
      simp only [bne_self', cond_false, Bool.true_and, Bool.and_true, cond_true, Bool.cond_self] at hv hc
      refine ((fn_cuts mixed E7_ok (fn := Tryd.f47) (cuts := cut1 0 (bfCut (GG m t fr))) (by kernel_rfl) (CutLaws.one (by omega) (by kernel_rfl) fun st e st' h => cutOf_ok E7_ok mixed (noCuts_ok (envOf_cuts ..) _) bfF_ok h)) _ _ ?_).pre (.cons hle (.refl _))
      rw [hin]
      by_cases h1 : lbI (usM l) u < l.length
      · rw [us_at h1]
        have : Nat.blt (lbI (usM l) u) l.length = true := by rw [Nat.blt_eq]; exact h1
        rw [decide_eq_true h1] at hv hc ⊢
        rw [this] at hc
        by_cases h2 : (ml l (lbI (usM l) u)).u < u
        · rw [decide_eq_true h2] at hv
          rw [decide_eq_false (show ¬ (ml l (lbI (usM l) u)).u = u by omega)]
          exact Tr.run_vc hv hc rfl rfl
        · rw [decide_eq_false h2] at hv
          by_cases h3 : (ml l (lbI (usM l) u)).u > u
          · rw [decide_eq_true h3] at hv
            rw [decide_eq_false (show ¬ (ml l (lbI (usM l) u)).u = u by omega)]
            exact Tr.run_vc hv hc rfl rfl
          · rw [decide_eq_false h3] at hv
            rw [decide_eq_true (show (ml l (lbI (usM l) u)).u = u by omega)]
            exact Tr.run_vc hv hc rfl rfl
      · rw [decide_eq_false h1] at hv hc ⊢
        exact Tr.run_vc hv hc rfl rfl
    · cases hp
  · cases hp
/-! ### copies -/
def clmR : List PV → Tr (TypeId × Nat × Nat × (Nat → List PV))
  | [p] => match rowP 6 p with
    | some (n, f) => .br (areMls n f && Nat.ble n 1000000000) (.leaf (47, 6, n, mRow (mlsOf n f))) .fail
    | none => .fail
  | _ => .fail
theorem clm_ok : RowOK Tryd.prog (GG m t fr) 39 clmR := by
  intro ps e sz n h hp
  unfold clmR at hp
  split at hp
  · split at hp
    · rename_i n f hq
      have hb := br_run hp
      clear hp
      obtain ⟨hc, hp⟩ := hb
      simp only [Bool.and_eq_true, Nat.ble_eq] at hc
      obtain ⟨hf, hn⟩ := hc
      simp only [Tr.run, Option.some.injEq, Prod.mk.injEq] at hp
      obtain ⟨rfl, rfl, rfl, rfl⟩ := hp
      refine RowAt.pre ?_ (.cons (rowP_le hq) .nil)
      have hev := row_of_ev (E7_ok (m := m) (t := t) (fr := fr)) mixed (n := 60) (f := 39) (fn := Tryd.f39) (by kernel_rfl) (fun c _ => noCuts_ok (envOf_cuts ..) c)
      rcases Nat.eq_zero_or_pos n with rfl | hpos
      · refine RowAt.empty (RowAt.nil ?_) fun ad c => ?_
        · exact (fn_pure mixed E7_ok (envOf_cuts ..) (fn := Tryd.f39) (by kernel_rfl)) _ _ (Tr.run_vc (clmn_raw_v m t fr) (clmn_raw_c m t fr) rfl rfl)
        · exact (hev _ _ _ _ _ (Tr.run_vc (clmz_raw_v m t fr ad c) (clmz_raw_c m t fr ad c) rfl rfl)).congr fun i hi => by omega
      · have hv := clm_raw_v m t fr n f
        have hc := clm_raw_c m t fr n f
        have h1 : Nat.blt 0 n = true := by rw [Nat.blt_eq]; exact hpos
        rw [h1, Nat.ble_eq_true_of_le (by omega)] at hc
        rw [Nat.zero_add] at hv
        refine (hev _ _ _ _ _ (Tr.run_vc hv hc rfl rfl)).congr fun i hi => ?_
        rw [← mls_row hf i hi]
        rfl
    · cases hp
  · cases hp
def cluR : List PV → Tr (TypeId × Nat × Nat × (Nat → List PV))
  | [p] => match rowP 1 p with
    | some (n, f) => .br (areNums n f && Nat.ble n 4294967280) (.leaf (22, 1, n, nRow (numsOf n f))) .fail
    | none => .fail
  | _ => .fail
theorem clu_ok : RowOK Tryd.prog (GG m t fr) 44 cluR := by
  intro ps e sz n h hp
  unfold cluR at hp
  split at hp
  · split at hp
    · rename_i n f hq
      have hb := br_run hp
      clear hp
      obtain ⟨hc, hp⟩ := hb
      simp only [Bool.and_eq_true, Nat.ble_eq] at hc
      obtain ⟨hf, hn⟩ := hc
      simp only [Tr.run, Option.some.injEq, Prod.mk.injEq] at hp
      obtain ⟨rfl, rfl, rfl, rfl⟩ := hp
      refine RowAt.pre ?_ (.cons (rowP_le hq) .nil)
      have hev := row_of_ev (E7_ok (m := m) (t := t) (fr := fr)) mixed (n := 60) (f := 44) (fn := Tryd.f44) (by kernel_rfl) (fun c _ => noCuts_ok (envOf_cuts ..) c)
      rcases Nat.eq_zero_or_pos n with rfl | hpos
      · refine RowAt.empty (RowAt.nil ?_) fun ad c => ?_
        · exact (fn_pure mixed E7_ok (envOf_cuts ..) (fn := Tryd.f44) (by kernel_rfl)) _ _ (Tr.run_vc (clun_raw_v m t fr) (clun_raw_c m t fr) rfl rfl)
        · exact (hev _ _ _ _ _ (Tr.run_vc (cluz_raw_v m t fr ad c) (cluz_raw_c m t fr ad c) rfl rfl)).congr fun i hi => by omega
      · have hv := clu_raw_v m t fr n f
        have hc := clu_raw_c m t fr n f
        have h1 : Nat.blt 0 n = true := by rw [Nat.blt_eq]; exact hpos
        rw [h1, Nat.ble_eq_true_of_le (by omega)] at hc
        rw [Nat.zero_add] at hv
        refine (hev _ _ _ _ _ (Tr.run_vc hv hc rfl rfl)).congr fun i hi => ?_
        rw [← nums_row hf i hi]
        rfl
    · cases hp
  · cases hp
def biPure : List (Nat × (List PV → Tr PV)) := (42, schG) :: (47, schmG) :: bhPure
theorem biPure_ok {m : Int} {t : TypeId} {fr : Nat × Nat} : TabOK Tryd.prog (GG m t fr) biPure := (TabOK.cons sch_ok (fn := Tryd.f42) (by kernel_rfl) (by kernel_rfl) (TabOK.cons schm_ok (fn := Tryd.f47) (by kernel_rfl) (by kernel_rfl) bhPure_ok))
def biFull : List (Nat × (List PV → Mem → Tr (PV × Mem))) := (39, rowFn clmR) :: (44, rowFn cluR) :: libFull
theorem biFull_ok {m : Int} {t : TypeId} {fr : Nat × Nat} : FullOK Tryd.prog (GG m t fr) biFull := (FullOK.cons (row_fn clm_ok) (fn := Tryd.f39) (by kernel_rfl) (by kernel_rfl) (FullOK.cons (row_fn clu_ok) (fn := Tryd.f44) (by kernel_rfl) (by kernel_rfl) libFull_ok))
noncomputable abbrev E8 (G : GT) : Env := envOf Tryd.prog G biPure biFull
theorem E8_ok : (E8 (GG m t fr)).ok Tryd.prog (GG m t fr) := envOf_ok mixed biPure_ok biFull_ok
theorem at_raw_v (m : Int) (t : TypeId) (fr : Nat × Nat) (l : List Ml) (n : Nat) (u : Int) : ((fnPure Tryd.prog (E8 (GG m t fr)) 60 Tryd.f38 (GG m t fr) [.gptr [.junk, .junk, .junk, .junk, .gsl 6 n (mRow l)], .lit (.int .u32 u)])).val =
 ((.some (.tup [(.lit (.int .i64 (((lbI (usM (mlsOf n (mRow l))) u) : Nat) : Int))), (.lit (.bool (inI (usM (mlsOf n (mRow l))) u)))])) : Option PV) := by
  kernel_rfl
theorem at_raw_c (m : Int) (t : TypeId) (fr : Nat × Nat) (l : List Ml) (n : Nat) (u : Int) : ((fnPure Tryd.prog (E8 (GG m t fr)) 60 Tryd.f38 (GG m t fr) [.gptr [.junk, .junk, .junk, .junk, .gsl 6 n (mRow l)], .lit (.int .u32 u)])).conds =
 (bif ((((areMls n (mRow l)) && (risI (usM (mlsOf n (mRow l))))) && true) && (Nat.ble n (4294967280 : Nat))) then
 true
 else false : Bool) := by
  kernel_rfl
def atG : List PV → Tr PV
  | [.gptr [_, _, _, _, q], .lit (.int .u32 u)] => match rowP 6 q with
    | some (n, f) => .br (areMls n f && risI (usM (mlsOf n f)) && Nat.ble n 4294967280) (.leaf (.tup [int (lbI (usM (mlsOf n f)) u), bool (inI (usM (mlsOf n f)) u)])) .fail
    | none => .fail
  | _ => .fail
theorem at_ok : PureOK Tryd.prog (GG m t fr) 38 atG := by
  intro ps p hp
  unfold atG at hp
  split at hp
  · rename_i u
    split at hp
    · rename_i n f hq
      have hb := br_run hp
      clear hp
      obtain ⟨hc, hp⟩ := hb
      simp only [Bool.and_eq_true, Nat.ble_eq] at hc
      obtain ⟨⟨hf, hr⟩, hn⟩ := hc
      simp only [Tr.run, Option.some.injEq] at hp
      subst hp
      have hlen := mls_len n f
      have hle := (rowP_le hq).trans (PLe.gsl rfl (mls_row hf))
      have hu := mls_R hf
      generalize hL : mlsOf n f = l at hr hlen hle hu
      subst hlen
      have hv := at_raw_v m t fr l l.length u
      have hc := at_raw_c m t fr l l.length u
      rw [mls_mRow] at hv hc
      rw [are_mRow hu, hr, Nat.ble_eq_true_of_le hn] at hc
      exact ((fn_pure mixed E8_ok (envOf_cuts ..) (fn := Tryd.f38) (by kernel_rfl)) _ _ (Tr.run_vc hv hc rfl rfl)).pre (.cons (PLe.gptr (.cons (.junk _) (.cons (.junk _) (.cons (.junk _) (.cons (.junk _) (.cons hle .nil)))))) (.refl _))
    · cases hp
  · cases hp
def bjPure : List (Nat × (List PV → Tr PV)) := (38, atG) :: biPure
theorem bjPure_ok {m : Int} {t : TypeId} {fr : Nat × Nat} : TabOK Tryd.prog (GG m t fr) bjPure := (TabOK.cons at_ok (fn := Tryd.f38) (by kernel_rfl) (by kernel_rfl) biPure_ok)
noncomputable abbrev E9 (G : GT) : Env := envOf Tryd.prog G bjPure biFull
theorem E9_ok : (E9 (GG m t fr)).ok Tryd.prog (GG m t fr) := envOf_ok mixed bjPure_ok biFull_ok
end
end Go.Proofs.YtlngnfkjpfokhaaDoor.Ev

/- The document's digits of a number. No condition. -/
namespace Go.Proofs.YtlngnfkjpfokhaaDoor.Ev
open Go Go.RowKit Go.Proofs Go.Proofs.YtlngnfkjpfokhaaDoor.Str
set_option linter.unusedVariables false
set_option linter.unusedSimpArgs false
theorem ba_app (a b : List UInt8) : bs a ++ bs b = bs (a ++ b) := ls_inj (by rw [ls_app, ls_bs, ls_bs, ls_bs])
theorem dec_len : ∀ (k n : Nat), n < 10 ^ (k + 1) → (Lib.decDigits n).length ≤ k + 1
  | 0, n, h => by
    rw [Lib.decDigits.eq_1, dif_pos (by simpa using h)]
    simp
  | k + 1, n, h => by
    rw [Lib.decDigits.eq_1]
    split
    · simp
    · have := dec_len k (n / 10) (by rw [Nat.pow_succ] at h; omega)
      simp
      omega
section
variable {m : Int} {t : TypeId} {fr : Nat × Nat}
def byB (x : Int) : Bool := (decide (0 ≤ x) && decide (x < 256)) && true
/-- numbers below a bound have their digits -/
def digB (B : Int) : List PV → Tr PV
  | [.lit (.int .u64 n)] => .br (decide (0 ≤ n) && decide (n < B)) (.leaf (str (bs (Lib.decDigits n.toNat)))) .fail
  | _ => .fail
def tdPure (B : Int) : List (Nat × (List PV → Tr PV)) := (65, digB B) :: libPure
noncomputable abbrev Edg (B : Int) (G : GT) : Env := envOf Tryd.prog G (tdPure B) libFull
theorem dig_raw (m : Int) (t : TypeId) (fr : Nat × Nat) (B n : Int) : (fnPure Tryd.prog (Edg B (GG m t fr)) 60 Tryd.f65 (GG m t fr) [.lit (.int .u64 n)]).run2 =
 (bif (decide (n > (9 : Int))) then
 (.some ((.lit (.string ((bs (Lib.decDigits (Int.toNat (IntKind.wrap .u64 (Int.tdiv n (10 : Int)))))) ++ (.mk (List.toArray [(UInt8.ofNat (Int.toNat (IntKind.wrap .u8 (IntKind.wrap .u64 ((48 : Int) + (Int.tmod n (10 : Int)))))))]))))), [(Nat.ble ((List.length (Lib.decDigits (Int.toNat (IntKind.wrap .u64 (Int.tdiv n (10 : Int)))))) + (List.length (ls (.mk (List.toArray [(UInt8.ofNat (Int.toNat (IntKind.wrap .u8 (IntKind.wrap .u64 ((48 : Int) + (Int.tmod n (10 : Int)))))))]))))) (9223372036854775807 : Nat)), ((decide ((0 : Int) ≤ (IntKind.wrap .u64 (Int.tdiv n (10 : Int))))) && (decide ((IntKind.wrap .u64 (Int.tdiv n (10 : Int))) < B))), (byB (IntKind.wrap .u8 (IntKind.wrap .u64 ((48 : Int) + (Int.tmod n (10 : Int))))))]))
 else (.some ((.lit (.string (.mk (List.toArray [(UInt8.ofNat (Int.toNat (IntKind.wrap .u8 (IntKind.wrap .u64 ((48 : Int) + (Int.tmod n (10 : Int)))))))])))), [(byB (IntKind.wrap .u8 (IntKind.wrap .u64 ((48 : Int) + (Int.tmod n (10 : Int))))))])) : Option (PV × List Bool)) := by
  kernel_rfl
theorem dig_step {B C : Int} (hB : C ≤ 10 ∨ C ≤ 10 * B) (hC : C ≤ 18446744073709551616) (h : PureOK Tryd.prog (GG m t fr) 65 (digB B)) : PureOK Tryd.prog (GG m t fr) 65 (digB C) := by
  have hT : TabOK Tryd.prog (GG m t fr) (tdPure B) := TabOK.cons h (fn := Tryd.f65) (by kernel_rfl) (by kernel_rfl) libPure_ok
  have hE : (Edg B (GG m t fr)).ok Tryd.prog (GG m t fr) := envOf_ok mixed hT libFull_ok
  refine PureOK.of (fn_pure mixed hE (envOf_cuts ..) (fn := Tryd.f65) (by kernel_rfl)) fun ps p hp => ?_
  unfold digB at hp
  split at hp
  · rename_i n
    obtain ⟨hc, hp⟩ := br_run hp
    simp only [Bool.and_eq_true, decide_eq_true_eq] at hc
    obtain ⟨h0, h1⟩ := hc
    simp only [Tr.run, Option.some.injEq] at hp
    subst hp
    have h := dig_raw m t fr B n
    obtain ⟨k, rfl⟩ : ∃ k : Nat, n = (k : Int) := ⟨n.toNat, by omega⟩
    have e1 : Int.tmod ((k : Nat) : Int) 10 = ((k % 10 : Nat) : Int) := by
      rw [Int.tmod_eq_emod_of_nonneg (by omega)]; rfl
    have e2 : Int.tdiv ((k : Nat) : Int) 10 = ((k / 10 : Nat) : Int) := by
      rw [Int.tdiv_eq_ediv_of_nonneg (by omega)]; rfl
    have w1 : IntKind.u64.wrap (48 + ((k % 10 : Nat) : Int)) = ((48 + k % 10 : Nat) : Int) := by
      have : (48 + ((k % 10 : Nat) : Int)) = ((48 + k % 10 : Nat) : Int) := by omega
      rw [this]
      simp only [IntKind.wrap, IntKind.signed, IntKind.bits]
      simp
      omega
    have w2 : IntKind.u8.wrap ((48 + k % 10 : Nat) : Int) = ((48 + k % 10 : Nat) : Int) := by
      simp only [IntKind.wrap, IntKind.signed, IntKind.bits]
      simp
      omega
    have w3 : IntKind.u64.wrap ((k / 10 : Nat) : Int) = ((k / 10 : Nat) : Int) := by
      simp only [IntKind.wrap, IntKind.signed, IntKind.bits]
      simp
      omega
    have b1 : byB ((48 + k % 10 : Nat) : Int) = true := by
      unfold byB
      rw [decide_eq_true (by omega), decide_eq_true (by omega)]
      rfl
    rw [e1, e2, w1, w2, w3, b1, Int.toNat_natCast, Int.toNat_natCast] at h
    rw [Int.toNat_natCast]
    by_cases hk : k < 10
    · rw [decide_eq_false (show ¬ ((k : Nat) : Int) > 9 by omega)] at h
      refine ⟨_, Tr.run_of h rfl, PLe.of_eq ?_⟩
      rw [Lib.decDigits_one hk, show k % 10 = k from Nat.mod_eq_of_lt hk]
      rfl
    · have hl : ∀ j : Nat, (j : Int) < 18446744073709551616 → (Lib.decDigits j).length ≤ 1000 := fun j hj => Nat.le_trans (dec_len 20 j (by omega)) (by omega)
      rw [decide_eq_true (show ((k : Nat) : Int) > 9 by omega), decide_eq_true (show (0 : Int) ≤ ((k / 10 : Nat) : Int) by omega), decide_eq_true (show ((k / 10 : Nat) : Int) < B by omega)] at h
      have hb : Nat.ble ((Lib.decDigits (k / 10)).length + (ls ⟨#[UInt8.ofNat (48 + k % 10)]⟩).length) 9223372036854775807 = true := by
        refine Nat.ble_eq_true_of_le ?_
        have := hl (k / 10) (by omega)
        have e : (ls ⟨#[UInt8.ofNat (48 + k % 10)]⟩).length = 1 := rfl
        omega
      rw [hb] at h
      refine ⟨_, Tr.run_of h rfl, PLe.of_eq ?_⟩
      have : Lib.decDigits k = Lib.decDigits (k / 10) ++ [UInt8.ofNat (48 + k % 10)] := by rw [Lib.decDigits, dif_neg hk]
      rw [this]
      exact congrArg (fun z => PV.lit (.string z)) (ba_app _ _)
  · cases hp
theorem dig_all : PureOK Tryd.prog (GG m t fr) 65 (digB 18446744073709551616) := by
  have h0 : PureOK Tryd.prog (GG m t fr) 65 (digB 0) := by
    intro ps p hp
    unfold digB at hp
    split at hp
    · obtain ⟨hc, hp⟩ := br_run hp
      simp only [Bool.and_eq_true, decide_eq_true_eq] at hc
      omega
    · cases hp
  have key : ∀ k : Nat, k ≤ 19 → PureOK Tryd.prog (GG m t fr) 65 (digB (10 ^ k)) := by
    intro k
    induction k with
    | zero => intro _; exact dig_step (.inl (by decide)) (by decide) h0
    | succ k ih =>
      intro hk
      refine dig_step (B := 10 ^ k) (.inr (by rw [Int.pow_succ]; omega)) ?_ (ih (by omega))
      have : (10 : Int) ^ (k + 1) ≤ 10 ^ 19 := by
        have := Nat.pow_le_pow_right (n := 10) (by omega) hk
        exact_mod_cast this
      omega
  exact dig_step (B := 10 ^ 19) (.inr (by omega)) (by omega) (key 19 (by omega))
noncomputable abbrev Ed (G : GT) : Env := envOf Tryd.prog G (tdPure 18446744073709551616) libFull
theorem td_ok : TabOK Tryd.prog (GG m t fr) (tdPure 18446744073709551616) := TabOK.cons dig_all (fn := Tryd.f65) (by kernel_rfl) (by kernel_rfl) libPure_ok
theorem Ed_ok : (Ed (GG m t fr)).ok Tryd.prog (GG m t fr) := envOf_ok mixed td_ok libFull_ok
end
end Go.Proofs.YtlngnfkjpfokhaaDoor.Ev

/- The document's days, as evaluated. No condition. -/
namespace Go.Proofs.YtlngnfkjpfokhaaDoor.Ev
open Go Go.RowKit Go.Proofs Go.Proofs.YtlngnfkjpfokhaaDoor.Str
set_option linter.unusedVariables false
set_option linter.unusedSimpArgs false
section
variable {m : Int} {t : TypeId} {fr : Nat × Nat}
def bkPure : List (Nat × (List PV → Tr PV)) := (65, (digB 18446744073709551616)) :: bjPure
theorem bkPure_ok {m : Int} {t : TypeId} {fr : Nat × Nat} : TabOK Tryd.prog (GG m t fr) bkPure := (TabOK.cons dig_all (fn := Tryd.f65) (by kernel_rfl) (by kernel_rfl) bjPure_ok)
noncomputable abbrev E10 (G : GT) : Env := envOf Tryd.prog G bkPure biFull
theorem E10_ok : (E10 (GG m t fr)).ok Tryd.prog (GG m t fr) := envOf_ok mixed bkPure_ok biFull_ok
def rwOuts : Exit → Outs
  | .normal => { ks := [1, 5] }
  | .exit _ => { ks := [1, 5] }
  | _ => { ks := [] }
noncomputable abbrev rwRound (G : GT) := roundT Tryd.prog (E10 G) 60 G 16 rwOuts .normal (theLoop 0 Tryd.f59)
theorem rw_round_v (m : Int) (t : TypeId) (fr : Nat × Nat) (k : Int) (s : ByteArray) : ((rwRound (GG m t fr) ([int k, str s], []))).val =
 (bif (decide ((((List.length (ls s)) : Nat) : Int) < k)) then
 (.some (.normal, ([(.lit (.int .i64 k)), (.lit (.string ((.mk (List.toArray [(48 : UInt8)])) ++ s)))], [])))
 else (.some ((.exit 0), ([(.lit (.int .i64 k)), (.lit (.string s))], []))) : Option (Exit × Kept)) := by
  kernel_rfl
theorem rw_round_c (m : Int) (t : TypeId) (fr : Nat × Nat) (k : Int) (s : ByteArray) : ((rwRound (GG m t fr) ([int k, str s], []))).conds =
 (bif (decide ((((List.length (ls s)) : Nat) : Int) < k)) then
 bif (Nat.ble (1 + (List.length (ls s))) (9223372036854775807 : Nat)) then
 true
 else false
 else true : Bool) := by
  kernel_rfl
theorem ah_raw_v (m : Int) (t : TypeId) (fr : Nat × Nat) (y : Int) : ((fnPure Tryd.prog (E10 (GG m t fr)) 60 Tryd.f69 (GG m t fr) [int y])).val =
 ((.some (.lit (.int .i64 (IntKind.wrap .i64 ((IntKind.wrap .i64 ((IntKind.wrap .i64 ((IntKind.wrap .i64 ((365 : Int) * (IntKind.wrap .i64 (y - (1 : Int))))) + (IntKind.wrap .i64 (Int.tdiv (IntKind.wrap .i64 (y - (1 : Int))) (4 : Int))))) - (IntKind.wrap .i64 (Int.tdiv (IntKind.wrap .i64 (y - (1 : Int))) (100 : Int))))) + (IntKind.wrap .i64 (Int.tdiv (IntKind.wrap .i64 (y - (1 : Int))) (400 : Int)))))))) : Option PV) := by
  kernel_rfl
theorem ah_raw_c (m : Int) (t : TypeId) (fr : Nat × Nat) (y : Int) : ((fnPure Tryd.prog (E10 (GG m t fr)) 60 Tryd.f69 (GG m t fr) [int y])).conds =
 (true : Bool) := by
  kernel_rfl
theorem lo_raw_v (m : Int) (t : TypeId) (fr : Nat × Nat) (y k : Int) : ((fnPure Tryd.prog (E10 (GG m t fr)) 60 Tryd.f70 (GG m t fr) [int y, int k])).val =
 (bif (k == (2 : Int)) then
 bif ((Int.tmod y (4 : Int)) == (0 : Int)) then
 bif (bne (Int.tmod y (100 : Int)) (0 : Int)) then
 (.some (.lit (.int .i64 (29 : Int))))
 else bif ((Int.tmod y (400 : Int)) == (0 : Int)) then
 (.some (.lit (.int .i64 (29 : Int))))
 else (.some (.lit (.int .i64 (28 : Int))))
 else bif ((Int.tmod y (400 : Int)) == (0 : Int)) then
 (.some (.lit (.int .i64 (29 : Int))))
 else (.some (.lit (.int .i64 (28 : Int))))
 else bif (k == (4 : Int)) then
 (.some (.lit (.int .i64 (30 : Int))))
 else bif (k == (6 : Int)) then
 (.some (.lit (.int .i64 (30 : Int))))
 else bif (k == (9 : Int)) then
 (.some (.lit (.int .i64 (30 : Int))))
 else bif (k == (11 : Int)) then
 (.some (.lit (.int .i64 (30 : Int))))
 else (.some (.lit (.int .i64 (31 : Int)))) : Option PV) := by
  kernel_rfl
theorem lo_raw_c (m : Int) (t : TypeId) (fr : Nat × Nat) (y k : Int) : ((fnPure Tryd.prog (E10 (GG m t fr)) 60 Tryd.f70 (GG m t fr) [int y, int k])).conds =
 (bif (k == (2 : Int)) then
 bif ((Int.tmod y (4 : Int)) == (0 : Int)) then
 bif (bne (Int.tmod y (100 : Int)) (0 : Int)) then
 true
 else bif ((Int.tmod y (400 : Int)) == (0 : Int)) then
 true
 else true
 else bif ((Int.tmod y (400 : Int)) == (0 : Int)) then
 true
 else true
 else bif (k == (4 : Int)) then
 true
 else bif (k == (6 : Int)) then
 true
 else bif (k == (9 : Int)) then
 true
 else bif (k == (11 : Int)) then
 true
 else true : Bool) := by
  kernel_rfl
theorem ri_raw_v (m : Int) (t : TypeId) (fr : Nat × Nat) (d s z : Int) : ((fnPure Tryd.prog (E10 (GG m t fr)) 60 Tryd.f57 (GG m t fr) [.agg [int d, int s, int z]])).val =
 (bif (decide (d ≥ (-719162 : Int))) then
 bif (decide (d ≤ (2932896 : Int))) then
 bif (decide (s ≥ (0 : Int))) then
 bif (decide (s < (86400 : Int))) then
 bif (decide (z ≥ (-5999 : Int))) then
 (.some (.lit (.bool (decide (z ≤ (5999 : Int))))))
 else (.some (.lit (.bool false)))
 else (.some (.lit (.bool false)))
 else (.some (.lit (.bool false)))
 else (.some (.lit (.bool false)))
 else (.some (.lit (.bool false))) : Option PV) := by
  kernel_rfl
theorem ri_raw_c (m : Int) (t : TypeId) (fr : Nat × Nat) (d s z : Int) : ((fnPure Tryd.prog (E10 (GG m t fr)) 60 Tryd.f57 (GG m t fr) [.agg [int d, int s, int z]])).conds =
 (bif (decide (d ≥ (-719162 : Int))) then
 bif (decide (d ≤ (2932896 : Int))) then
 bif (decide (s ≥ (0 : Int))) then
 bif (decide (s < (86400 : Int))) then
 bif (decide (z ≥ (-5999 : Int))) then
 true
 else true
 else true
 else true
 else true
 else true : Bool) := by
  kernel_rfl
end
end Go.Proofs.YtlngnfkjpfokhaaDoor.Ev
