/- JBox13: several texts in one. Condition: each part's own. -/
import Derived.Test.YtlngnfkjpfokhaaDoorJBox12
/- The document's days: contracts of its small functions; its loops, a round each. No condition. -/
namespace Go.Proofs.YtlngnfkjpfokhaaDoor.Ev
open Go Go.RowKit Go.Proofs Go.Proofs.YtlngnfkjpfokhaaDoor.Str
set_option linter.unusedVariables false
set_option linter.unusedSimpArgs false
section
variable {m : Int} {t : TypeId} {fr : Nat × Nat}
def aheadG : List PV → Tr PV
  | [.lit (.int .i64 y)] => .br (decide (1 ≤ y) && decide (y ≤ 20000)) (.leaf (int (Cal.ahead y))) .fail
  | _ => .fail
theorem ahead_ok : PureOK Tryd.prog (GG m t fr) 69 aheadG := by
  refine PureOK.of (fn_pure mixed E10_ok (envOf_cuts ..) (fn := Tryd.f69) (by kernel_rfl)) fun ps p hp => ?_
  unfold aheadG at hp
  split at hp
  · rename_i y
    obtain ⟨hc, hq⟩ := br_run hp
    clear hp
    simp only [Bool.and_eq_true, decide_eq_true_eq] at hc
    obtain ⟨h1, h2⟩ := hc
    simp only [Tr.run, Option.some.injEq] at hq
    subst hq
    have hv := ah_raw_v m t fr y
    have w : ∀ z : Int, -100000000 ≤ z → z ≤ 100000000 → IntKind.i64.wrap z = z := fun z a b => wrap_mid (by omega) (by omega)
    rw [w (y - 1) (by omega) (by omega), td 4 (by omega), td 100 (by omega), td 400 (by omega), w (365 * (y - 1)) (by omega) (by omega), w ((y - 1) / 4) (by omega) (by omega), w ((y - 1) / 100) (by omega) (by omega), w ((y - 1) / 400) (by omega) (by omega),
      w (365 * (y - 1) + (y - 1) / 4) (by omega) (by omega), w (365 * (y - 1) + (y - 1) / 4 - (y - 1) / 100) (by omega) (by omega), w (365 * (y - 1) + (y - 1) / 4 - (y - 1) / 100 + (y - 1) / 400) (by omega) (by omega)] at hv
    exact ⟨_, Tr.run_vc hv (ah_raw_c m t fr y) rfl rfl, PLe.of_eq rfl⟩
  · cases hp
def longG : List PV → Tr PV
  | [.lit (.int .i64 y), .lit (.int .i64 k)] => .br (decide (0 ≤ y)) (.leaf (int (Cal.dim y k))) .fail
  | _ => .fail
theorem long_ok : PureOK Tryd.prog (GG m t fr) 70 longG := by
  refine PureOK.of (fn_pure mixed E10_ok (envOf_cuts ..) (fn := Tryd.f70) (by kernel_rfl)) fun ps p hp => ?_
  unfold longG at hp
  split at hp
  · rename_i y k
    obtain ⟨hc, hq⟩ := br_run hp
    clear hp
    have hy := of_decide_eq_true hc
    simp only [Tr.run, Option.some.injEq] at hq
    subst hq
    have hv := lo_raw_v m t fr y k
    have hcc := lo_raw_c m t fr y k
    simp only [Bool.cond_self] at hcc
    rw [tm 4 hy, tm 100 hy, tm 400 hy] at hv
    refine ⟨_, Tr.run_vc hv hcc rfl ?_, .refl _⟩
    unfold Cal.dim Cal.lp
    have hb : ∀ a b : Int, (a == b) = decide (a = b) := fun a b => beqD a b
    simp only [bne, hb]
    by_cases k2 : k = 2
    · subst k2
      by_cases a1 : y % 4 = 0 <;> by_cases a2 : y % 100 = 0 <;> by_cases a3 : y % 400 = 0 <;> simp [a1, a2, a3]
    · by_cases k4 : k = 4
      · simp [k4]
      · by_cases k6 : k = 6
        · simp [k6]
        · by_cases k9 : k = 9
          · simp [k9]
          · by_cases k11 : k = 11
            · simp [k11]
            · simp [k2, k4, k6, k9, k11]
  · cases hp
def rightG : List PV → Tr PV
  | [.agg [.lit (.int .i64 d), .lit (.int .i64 s), .lit (.int .i64 z)]] => .leaf (bool (rightB d s z))
  | _ => .fail
theorem right_ok : PureOK Tryd.prog (GG m t fr) 57 rightG := by
  refine PureOK.of (fn_pure mixed E10_ok (envOf_cuts ..) (fn := Tryd.f57) (by kernel_rfl)) fun ps p hp => ?_
  unfold rightG at hp
  split at hp
  · rename_i d s z
    simp only [Tr.run, Option.some.injEq] at hp
    subst hp
    have hv := ri_raw_v m t fr d s z
    have hcc := ri_raw_c m t fr d s z
    simp only [Bool.cond_self] at hcc
    refine ⟨_, Tr.run_vc hv hcc rfl ?_, .refl _⟩
    unfold rightB dayB secB zonB
    have e1 : decide (d ≥ -719162) = decide (-719162 ≤ d) := rfl
    have e2 : decide (s ≥ 0) = decide (0 ≤ s) := rfl
    have e3 : decide (z ≥ -5999) = decide (-5999 ≤ z) := rfl
    rw [e1, e2, e3]
    cases decide (-719162 ≤ d) <;> cases decide (d ≤ 2932896) <;> cases decide (0 ≤ s) <;> cases decide (s < 86400) <;> cases decide (-5999 ≤ z) <;> simp
  · cases hp
def blPure : List (Nat × (List PV → Tr PV)) := (69, aheadG) :: (70, longG) :: (57, rightG) :: bkPure
theorem blPure_ok {m : Int} {t : TypeId} {fr : Nat × Nat} : TabOK Tryd.prog (GG m t fr) blPure := (TabOK.cons ahead_ok (fn := Tryd.f69) (by kernel_rfl) (by kernel_rfl) (TabOK.cons long_ok (fn := Tryd.f70) (by kernel_rfl) (by kernel_rfl) (TabOK.cons right_ok (fn := Tryd.f57) (by kernel_rfl) (by kernel_rfl) bkPure_ok)))
noncomputable abbrev E11 (G : GT) : Env := envOf Tryd.prog G blPure biFull
theorem E11_ok : (E11 (GG m t fr)).ok Tryd.prog (GG m t fr) := envOf_ok mixed blPure_ok biFull_ok
def cyOuts : Exit → Outs
  | .normal => { ks := [0, 6, 7] }
  | .exit _ => { ks := [0, 6] }
  | _ => { ks := [] }
noncomputable abbrev cyRound (G : GT) := roundT Tryd.prog (E11 G) 60 G 57 cyOuts .normal (theLoop 0 Tryd.f64)
theorem cy_round_v (m : Int) (t : TypeId) (fr : Nat × Nat) (n y s : Int) : ((cyRound (GG m t fr) ([int n, int y, int s], []))).val =
 (bif (decide (s > (0 : Int))) then
 bif (decide ((IntKind.wrap .i64 (y + s)) ≤ (9999 : Int))) then
 bif (decide ((IntKind.wrap .i64 ((-719162 : Int) + (Cal.ahead (IntKind.wrap .i64 (y + s))))) ≤ n)) then
 (.some (.normal, ([(.lit (.int .i64 n)), (.lit (.int .i64 (IntKind.wrap .i64 (y + s)))), (.lit (.int .i64 (IntKind.wrap .i64 (Int.tdiv s (2 : Int)))))], [])))
 else (.some (.normal, ([(.lit (.int .i64 n)), (.lit (.int .i64 y)), (.lit (.int .i64 (IntKind.wrap .i64 (Int.tdiv s (2 : Int)))))], [])))
 else (.some (.normal, ([(.lit (.int .i64 n)), (.lit (.int .i64 y)), (.lit (.int .i64 (IntKind.wrap .i64 (Int.tdiv s (2 : Int)))))], [])))
 else (.some ((.exit 0), ([(.lit (.int .i64 n)), (.lit (.int .i64 y))], []))) : Option (Exit × Kept)) := by
  kernel_rfl
theorem cy_round_c (m : Int) (t : TypeId) (fr : Nat × Nat) (n y s : Int) : ((cyRound (GG m t fr) ([int n, int y, int s], []))).conds =
 (bif (decide (s > (0 : Int))) then
 bif (decide ((IntKind.wrap .i64 (y + s)) ≤ (9999 : Int))) then
 bif ((decide ((1 : Int) ≤ (IntKind.wrap .i64 (y + s)))) && (decide ((IntKind.wrap .i64 (y + s)) ≤ (20000 : Int)))) then
 bif (decide ((IntKind.wrap .i64 ((-719162 : Int) + (Cal.ahead (IntKind.wrap .i64 (y + s))))) ≤ n)) then
 true
 else true
 else false
 else true
 else true : Bool) := by
  kernel_rfl
def cmOuts : Exit → Outs
  | .normal => { ks := [6, 8, 9] }
  | .exit _ => { ks := [6, 8, 9] }
  | _ => { ks := [] }
noncomputable abbrev cmRound (G : GT) := roundT Tryd.prog (E11 G) 60 G 57 cmOuts .normal (theLoop 2 Tryd.f64)
theorem cm_round_v (m : Int) (t : TypeId) (fr : Nat × Nat) (y l k : Int) : ((cmRound (GG m t fr) ([int y, int l, int k], []))).val =
 (bif (decide (l ≥ (Cal.dim y k))) then
 (.some (.normal, ([(.lit (.int .i64 y)), (.lit (.int .i64 (IntKind.wrap .i64 (l - (Cal.dim y k))))), (.lit (.int .i64 (IntKind.wrap .i64 (k + (1 : Int)))))], [])))
 else (.some ((.exit 2), ([(.lit (.int .i64 y)), (.lit (.int .i64 l)), (.lit (.int .i64 k))], []))) : Option (Exit × Kept)) := by
  kernel_rfl
theorem cm_round_c (m : Int) (t : TypeId) (fr : Nat × Nat) (y l k : Int) : ((cmRound (GG m t fr) ([int y, int l, int k], []))).conds =
 (bif (decide ((0 : Int) ≤ y)) then
 bif (decide (l ≥ (Cal.dim y k))) then
 bif (decide ((0 : Int) ≤ y)) then
 true
 else false
 else true
 else false : Bool) := by
  kernel_rfl
end
end Go.Proofs.YtlngnfkjpfokhaaDoor.Ev

/- The document's days: its loops. No condition. -/
namespace Go.Proofs.YtlngnfkjpfokhaaDoor.Ev
open Go Go.RowKit Go.Proofs Go.Proofs.YtlngnfkjpfokhaaDoor.Str
set_option linter.unusedVariables false
set_option linter.unusedSimpArgs false
/-- the year of a day, in halves -/
def cyGo (n : Int) : Nat → Int → Int
  | 0, y => y
  | k + 1, y => bif decide (y + 2 ^ k ≤ 9999) && decide (-719162 + Cal.ahead (y + 2 ^ k) ≤ n) then cyGo n k (y + 2 ^ k) else cyGo n k y
def stp : Nat → Int
  | 0 => 0
  | k + 1 => 2 ^ k
theorem stp_half (k : Nat) : Int.tdiv (stp (k + 1)) 2 = stp k := by
  cases k with
  | zero => rfl
  | succ k =>
    have h : (0 : Int) ≤ 2 ^ (k + 1) := by
      have := Int.pow_pos (n := 2) (m := k + 1) (by omega)
      omega
    show Int.tdiv (2 ^ (k + 1)) 2 = 2 ^ k
    rw [td 2 h, Int.pow_succ]
    omega
theorem pow_le14 {k : Nat} (h : k ≤ 13) : (1 : Int) ≤ 2 ^ k ∧ (2 : Int) ^ k ≤ 8192 := by
  have h1 := Nat.pow_le_pow_right (n := 2) (by omega) h
  have h2 := Nat.one_le_two_pow (n := k)
  have e : (2 : Int) ^ k = ((2 ^ k : Nat) : Int) := by simp
  rw [e]
  omega
def cyP (n : Int) (k : Nat) (y : Int) : Prop := 1 ≤ y ∧ y ≤ 9999 ∧ -719162 + Cal.ahead y ≤ n ∧ (y + 2 ^ k > 9999 ∨ n < -719162 + Cal.ahead (y + 2 ^ k))
theorem cy_end {n : Int} : ∀ {k : Nat} {y : Int}, k ≤ 14 → cyP n k y → cyP n 0 (cyGo n k y)
  | 0, y, hk, h => h
  | k + 1, y, hk, h => by
    obtain ⟨h1, h2, h3, h4⟩ := h
    have hp := pow_le14 (k := k) (by omega)
    have e2 : (2 : Int) ^ (k + 1) = 2 ^ k + 2 ^ k := by rw [Int.pow_succ]; omega
    unfold cyGo
    by_cases c1 : y + 2 ^ k ≤ 9999
    · by_cases c2 : -719162 + Cal.ahead (y + 2 ^ k) ≤ n
      · rw [decide_eq_true c1, decide_eq_true c2]
        refine cy_end (k := k) (by omega) ⟨by omega, c1, c2, ?_⟩
        rw [e2, ← Int.add_assoc] at h4
        exact h4
      · rw [decide_eq_true c1, decide_eq_false c2]
        exact cy_end (k := k) (by omega) ⟨h1, h2, h3, .inr (by omega)⟩
    · rw [decide_eq_false c1]
      exact cy_end (k := k) (by omega) ⟨h1, h2, h3, .inl (by omega)⟩
def yrN (n : Int) : Int := cyGo n 14 1
theorem yr_at {n : Int} (h : dayB n = true) : 1 ≤ yrN n ∧ yrN n ≤ 9999 ∧ -719162 + Cal.ahead (yrN n) ≤ n ∧ n < -719162 + Cal.ahead (yrN n) + 365 + Cal.lp (yrN n) := by
  unfold dayB at h
  simp only [Bool.and_eq_true, decide_eq_true_eq] at h
  have h0 : cyP n 14 1 := by
    refine ⟨by omega, by omega, ?_, .inl (by decide)⟩
    have : Cal.ahead 1 = 0 := rfl
    omega
  obtain ⟨h1, h2, h3, h4⟩ := cy_end (by omega) h0
  have e : cyGo n 14 1 = yrN n := rfl
  rw [e] at h1 h2 h3 h4
  refine ⟨h1, h2, h3, ?_⟩
  have hs := Cal.ahead_succ (yrN n)
  have e1 : (2 : Int) ^ 0 = 1 := rfl
  rw [e1] at h4
  rcases h4 with h4 | h4
  · have : yrN n = 9999 := by omega
    rw [this] at hs ⊢
    have e2 : Cal.ahead 9999 = 3651694 := rfl
    have e3 : Cal.lp 9999 = 0 := rfl
    omega
  · omega
/-- the month of a day, and what is left -/
def cmGo (y : Int) : Nat → Int → Int → Int × Int
  | 0, l, k => (l, k)
  | f + 1, l, k => bif decide (l ≥ Cal.dim y k) then cmGo y f (l - Cal.dim y k) (k + 1) else (l, k)
def cmP (y l k : Int) : Prop := 0 ≤ l ∧ 1 ≤ k ∧ k ≤ 12 ∧ l + Cal.cum y k < 365 + Cal.lp y
theorem cm_step {y l k : Int} (h : cmP y l k) (hl : l ≥ Cal.dim y k) : k ≤ 11 ∧ cmP y (l - Cal.dim y k) (k + 1) := by
  obtain ⟨h1, h2, h3, h4⟩ := h
  have hk : k ≤ 11 := by
    rcases Int.lt_or_le 11 k with h5 | h5
    · have : k = 12 := by omega
      subst this
      have e1 : Cal.cum y 12 = 334 + Cal.lp y := by simp [Cal.cum]
      have e2 : Cal.dim y 12 = 31 := by simp [Cal.dim]
      omega
    · exact h5
  have hs := Cal.cum_succ y k h2 h3
  exact ⟨hk, by omega, by omega, by omega, by omega⟩
theorem cm_end {y : Int} : ∀ {f : Nat} {l k : Int}, 12 ≤ k + f → cmP y l k → cmP y (cmGo y f l k).1 (cmGo y f l k).2 ∧ (cmGo y f l k).1 < Cal.dim y (cmGo y f l k).2
  | 0, l, k, hf, h => by
    refine ⟨h, ?_⟩
    rcases Int.lt_or_le l (Cal.dim y k) with h5 | h5
    · exact h5
    · have := (cm_step h h5).1
      omega
  | f + 1, l, k, hf, h => by
    unfold cmGo
    by_cases c : l ≥ Cal.dim y k
    · rw [decide_eq_true c]
      exact cm_end (by omega) (cm_step h c).2
    · rw [decide_eq_false c]
      exact ⟨h, by simp only [cond_false]; omega⟩
section
variable {m : Int} {t : TypeId} {fr : Nat × Nat}
theorem w8 {z : Int} (h1 : -100000000 ≤ z) (h2 : z ≤ 100000000) : IntKind.i64.wrap z = z := wrap_mid (by omega) (by omega)
def cyIn (n y s : Int) : Kept := ([int n, int y, int s], [])
theorem cy_LR (n : Int) : ∀ (k : Nat) (y : Int), k ≤ 14 → 1 ≤ y → y ≤ 9999 →
    LR Tryd.prog (E11 (GG m t fr)) 60 (GG m t fr) 57 cyOuts .normal (theLoop 0 Tryd.f64) (cyIn n y (stp k)) (.exit 0) ([int n, int (cyGo n k y)], [])
  | 0, y, hk, h1, h2 => by
    have hv := cy_round_v m t fr n y 0
    have hc := cy_round_c m t fr n y 0
    exact .last (Tr.run_vc hv hc rfl rfl) (by simp) (by simp)
  | k + 1, y, hk, h1, h2 => by
    have hp := pow_le14 (k := k) (by omega)
    have hv := cy_round_v m t fr n y (stp (k + 1))
    have hc := cy_round_c m t fr n y (stp (k + 1))
    rw [stp_half] at hv
    have hs : IntKind.i64.wrap (stp k) = stp k := by
      cases k with
      | zero => rfl
      | succ k =>
        have := pow_le14 (k := k) (by omega)
        exact w8 (by show _ ≤ (2 : Int) ^ k; omega) (by show (2 : Int) ^ k ≤ _; omega)
    have e : stp (k + 1) = 2 ^ k := rfl
    have hx : cyIn n y (2 ^ k) = cyIn n y (stp (k + 1)) := rfl
    rw [hs] at hv
    rw [← hx]
    rw [e] at hv hc
    rw [w8 (show -100000000 ≤ y + 2 ^ k by omega) (by omega)] at hv hc
    rw [decide_eq_true (show (2 : Int) ^ k > 0 by omega)] at hv hc
    unfold cyGo
    by_cases c1 : y + 2 ^ k ≤ 9999
    · have ha := Cal.ahead_le (y + 2 ^ k) (by omega) (by omega)
      rw [w8 (show -100000000 ≤ -719162 + Cal.ahead (y + 2 ^ k) by omega) (by omega)] at hv hc
      rw [decide_eq_true c1] at hv hc ⊢
      rw [decide_eq_true (show 1 ≤ y + 2 ^ k by omega), decide_eq_true (show y + 2 ^ k ≤ 20000 by omega)] at hc
      by_cases c2 : -719162 + Cal.ahead (y + 2 ^ k) ≤ n
      · rw [decide_eq_true c2] at hv hc ⊢
        exact .more (Tr.run_vc hv hc rfl rfl) (cy_LR n k (y + 2 ^ k) (by omega) (by omega) c1)
      · rw [decide_eq_false c2] at hv hc ⊢
        exact .more (Tr.run_vc hv hc rfl rfl) (cy_LR n k y (by omega) h1 h2)
    · rw [decide_eq_false c1] at hv hc ⊢
      exact .more (Tr.run_vc hv hc rfl rfl) (cy_LR n k y (by omega) h1 h2)
def cyF : Kept → Tr (Exit × Kept)
  | ([.lit (.int .i64 n), .lit (.int .i64 y), .lit (.int .i64 s)], []) => .br (decide (y = 1) && decide (s = 8192)) (.leaf (.exit 0, ([int n, int (yrN n)], []))) .fail
  | _ => .fail
theorem cyF_ok (x : Kept) (e : Exit) (y : Kept) (h : (cyF x).run = some (e, y)) : LR Tryd.prog (E11 (GG m t fr)) 60 (GG m t fr) 57 cyOuts .normal (theLoop 0 Tryd.f64) x e y := by
  unfold cyF at h
  split at h
  · rename_i n y s
    have hb := br_run h
    clear h
    obtain ⟨hc, h⟩ := hb
    simp only [Bool.and_eq_true, decide_eq_true_eq] at hc
    obtain ⟨rfl, rfl⟩ := hc
    simp only [Tr.run, Option.some.injEq, Prod.mk.injEq] at h
    obtain ⟨rfl, rfl⟩ := h
    exact cy_LR n 14 1 (by omega) (by omega) (by omega)
  · cases h
theorem cm_LR (y : Int) (hy : 0 ≤ y) : ∀ (f : Nat) (l k : Int), 12 ≤ k + f → l ≤ 400 → cmP y l k →
    LR Tryd.prog (E11 (GG m t fr)) 60 (GG m t fr) 57 cmOuts .normal (theLoop 2 Tryd.f64) ([int y, int l, int k], []) (.exit 2) ([int y, int (cmGo y f l k).1, int (cmGo y f l k).2], [])
  | f, l, k, hf, hl, h => by
    have hv := cm_round_v m t fr y l k
    have hc := cm_round_c m t fr y l k
    rw [decide_eq_true hy] at hc
    by_cases c : l ≥ Cal.dim y k
    · obtain ⟨h1, h2⟩ := cm_step h c
      have hd := Cal.dim_lo y k
      have h3 := h.2.1
      have h4 := h.1
      rw [decide_eq_true c, w8 (show -100000000 ≤ l - Cal.dim y k by omega) (by omega), w8 (show -100000000 ≤ k + 1 by omega) (by omega)] at hv
      rw [decide_eq_true c] at hc
      cases f with
      | zero => omega
      | succ f =>
        unfold cmGo
        rw [decide_eq_true c]
        exact .more (Tr.run_vc hv hc rfl rfl) (cm_LR y hy f (l - Cal.dim y k) (k + 1) (by omega) (by omega) h2)
    · rw [decide_eq_false c] at hv hc
      have e : cmGo y f l k = (l, k) := by
        cases f with
        | zero => rfl
        | succ f => unfold cmGo; rw [decide_eq_false c]; rfl
      rw [e]
      exact .last (Tr.run_vc hv hc rfl rfl) (by simp) (by simp)
def cmB (y l : Int) : Bool := decide (0 ≤ y) && decide (0 ≤ l) && decide (l < 365 + Cal.lp y)
def cmF : Kept → Tr (Exit × Kept)
  | ([.lit (.int .i64 y), .lit (.int .i64 l), .lit (.int .i64 k)], []) => .br (cmB y l && decide (k = 1)) (.leaf (.exit 2, ([int y, int (cmGo y 12 l 1).1, int (cmGo y 12 l 1).2], []))) .fail
  | _ => .fail
theorem cmF_ok (x : Kept) (e : Exit) (y : Kept) (h : (cmF x).run = some (e, y)) : LR Tryd.prog (E11 (GG m t fr)) 60 (GG m t fr) 57 cmOuts .normal (theLoop 2 Tryd.f64) x e y := by
  unfold cmF at h
  split at h
  · rename_i y l k
    have hb := br_run h
    clear h
    obtain ⟨hc, h⟩ := hb
    unfold cmB at hc
    simp only [Bool.and_eq_true, decide_eq_true_eq] at hc
    obtain ⟨⟨⟨h1, h2⟩, h3⟩, rfl⟩ := hc
    simp only [Tr.run, Option.some.injEq, Prod.mk.injEq] at h
    obtain ⟨rfl, rfl⟩ := h
    have := Cal.lp01 y
    exact cm_LR y h1 12 l 1 (by omega) (by omega) ⟨h2, by omega, by omega, by simpa [Cal.cum] using h3⟩
  · cases h
noncomputable abbrev cvCuts (G : GT) := cutAlso 2 (cutOf G 57 cmOuts 2 cmF) (cut1 0 (cutOf G 57 cyOuts 0 cyF))
theorem rcv_raw_v (m : Int) (t : TypeId) (fr : Nat × Nat) (n : Int) : ((fnPure Tryd.prog ((E11 (GG m t fr)).withCuts (cvCuts (GG m t fr))) 60 Tryd.f64 (GG m t fr) [int n])).val =
 (bif (decide (n < (-719162 : Int))) then
 (.some (.tup [(.lit (.int .i64 (0 : Int))), (.lit (.int .i64 (0 : Int))), (.lit (.int .i64 (0 : Int))), (.lit (.int .i64 (1 : Int)))]))
 else bif (decide (n > (2932896 : Int))) then
 (.some (.tup [(.lit (.int .i64 (0 : Int))), (.lit (.int .i64 (0 : Int))), (.lit (.int .i64 (0 : Int))), (.lit (.int .i64 (1 : Int)))]))
 else (.some (.tup [(.lit (.int .i64 (yrN n))), (.lit (.int .i64 (Prod.snd (cmGo (yrN n) 12 (IntKind.wrap .i64 ((IntKind.wrap .i64 (n - (-719162 : Int))) - (Cal.ahead (yrN n)))) (1 : Int))))), (.lit (.int .i64 (IntKind.wrap .i64 ((Prod.fst (cmGo (yrN n) 12 (IntKind.wrap .i64 ((IntKind.wrap .i64 (n - (-719162 : Int))) - (Cal.ahead (yrN n)))) (1 : Int))) + (1 : Int))))), (.lit (.int .i64 (0 : Int)))])) : Option PV) := by
  kernel_rfl
theorem rcv_raw_c (m : Int) (t : TypeId) (fr : Nat × Nat) (n : Int) : ((fnPure Tryd.prog ((E11 (GG m t fr)).withCuts (cvCuts (GG m t fr))) 60 Tryd.f64 (GG m t fr) [int n])).conds =
 (bif (decide (n < (-719162 : Int))) then
 true
 else bif (decide (n > (2932896 : Int))) then
 true
 else bif ((decide ((1 : Int) ≤ (yrN n))) && (decide ((yrN n) ≤ (20000 : Int)))) then
 bif ((cmB (yrN n) (IntKind.wrap .i64 ((IntKind.wrap .i64 (n - (-719162 : Int))) - (Cal.ahead (yrN n))))) && true) then
 true
 else false
 else false : Bool) := by
  kernel_rfl
end
end Go.Proofs.YtlngnfkjpfokhaaDoor.Ev

/- The document's days: contracts; wide. No condition. -/
namespace Go.Proofs.YtlngnfkjpfokhaaDoor.Ev
open Go Go.RowKit Go.Proofs Go.Proofs.YtlngnfkjpfokhaaDoor.Str
set_option linter.unusedVariables false
set_option linter.unusedSimpArgs false
def rvL (n : Int) : Int := n + 719162 - Cal.ahead (yrN n)
def rvM (n : Int) : Int := (cmGo (yrN n) 12 (rvL n) 1).2
def rvD (n : Int) : Int := (cmGo (yrN n) 12 (rvL n) 1).1 + 1
theorem rv_at {n : Int} (h : dayB n = true) : 1 ≤ yrN n ∧ yrN n ≤ 9999 ∧ 1 ≤ rvM n ∧ rvM n ≤ 12 ∧ 1 ≤ rvD n ∧ rvD n ≤ 31 := by
  obtain ⟨h1, h2, h3, h4⟩ := yr_at h
  have hl := Cal.lp01 (yrN n)
  have key := cm_end (y := yrN n) (f := 12) (l := rvL n) (k := 1) (by omega) ⟨by unfold rvL; omega, by omega, by omega, by simp [Cal.cum]; unfold rvL; omega⟩
  obtain ⟨⟨a1, a2, a3, a4⟩, a5⟩ := key
  have hd := Cal.dim_lo (yrN n) (cmGo (yrN n) 12 (rvL n) 1).2
  unfold rvM rvD
  exact ⟨h1, h2, a2, a3, by omega, by omega⟩
/-- so many zeros ahead of it -/
def padL (k : Nat) (l : List UInt8) : List UInt8 := List.replicate (k - l.length) 48 ++ l
theorem pad_len {k : Nat} {l : List UInt8} : (padL k l).length = max k l.length := by
  unfold padL
  simp
  omega
section
variable {m : Int} {t : TypeId} {fr : Nat × Nat}
def rcivG : List PV → Tr PV
  | [.lit (.int .i64 n)] => .br (dayB n) (.leaf (.tup [int (yrN n), int (rvM n), int (rvD n), int 0])) .fail
  | _ => .fail
theorem rciv_ok : PureOK Tryd.prog (GG m t fr) 64 rcivG := by
  refine PureOK.of (fn_cuts mixed E11_ok (fn := Tryd.f64) (cuts := cvCuts (GG m t fr)) (by kernel_rfl) (CutLaws.add (by omega) (by kernel_rfl) (fun st e st' h => cutOf_ok E11_ok mixed (noCuts_ok (envOf_cuts ..) _) cmF_ok h)
    (CutLaws.one (by omega) (by kernel_rfl) fun st e st' h => cutOf_ok E11_ok mixed (noCuts_ok (envOf_cuts ..) _) cyF_ok h))) fun ps p hp => ?_
  unfold rcivG at hp
  split at hp
  · rename_i n
    obtain ⟨hc, hq⟩ := br_run hp
    clear hp
    simp only [Tr.run, Option.some.injEq] at hq
    subst hq
    obtain ⟨h1, h2, h3, h4⟩ := yr_at hc
    obtain ⟨-, -, b1, b2, b3, b4⟩ := rv_at hc
    have hl := Cal.lp01 (yrN n)
    have ha := Cal.ahead_le (yrN n) h1 (by omega)
    have hd := hc
    unfold dayB at hd
    simp only [Bool.and_eq_true, decide_eq_true_eq] at hd
    have hv := rcv_raw_v m t fr n
    have hcc := rcv_raw_c m t fr n
    have e1 : n - (-719162) = n + 719162 := by omega
    rw [e1, w8 (show -100000000 ≤ n + 719162 by omega) (by omega), w8 (show -100000000 ≤ n + 719162 - Cal.ahead (yrN n) by omega) (by omega)] at hv hcc
    have e2 : n + 719162 - Cal.ahead (yrN n) = rvL n := rfl
    have e4 : (cmGo (yrN n) 12 (rvL n) 1).1 + 1 = rvD n := rfl
    have hB : cmB (yrN n) (rvL n) = true := by
      unfold cmB rvL
      simp only [Bool.and_eq_true, decide_eq_true_eq]
      omega
    rw [e2, e4, w8 (show -100000000 ≤ rvD n by omega) (by omega), decide_eq_false (show ¬ n < -719162 by omega), decide_eq_false (show ¬ n > 2932896 by omega)] at hv
    rw [e2, hB, decide_eq_true h1, decide_eq_true (show yrN n ≤ 20000 by omega), decide_eq_false (show ¬ n < -719162 by omega), decide_eq_false (show ¬ n > 2932896 by omega)] at hcc
    exact ⟨_, Tr.run_vc hv hcc rfl rfl, .refl _⟩
  · cases hp
theorem rw_LR (k : Nat) (hk : k ≤ 100) : ∀ (j : Nat) (l : List UInt8), k - l.length ≤ j → l.length ≤ 1000 →
    LR Tryd.prog (E10 (GG m t fr)) 60 (GG m t fr) 16 rwOuts .normal (theLoop 0 Tryd.f59) ([int k, str (bs l)], []) (.exit 0) ([int k, str (bs (padL k l))], [])
  | j, l, hj, hl => by
    have hv := rw_round_v m t fr k (bs l)
    have hc := rw_round_c m t fr k (bs l)
    rw [ls_bs] at hv hc
    rcases Nat.lt_or_ge l.length k with h | h
    · have hd : decide (((l.length : Nat) : Int) < (k : Int)) = true := decide_eq_true (by omega)
      have e : (ByteArray.mk (List.toArray [(48 : UInt8)])) ++ bs l = bs (48 :: l) := ba_app [48] l
      rw [hd, e] at hv
      rw [hd, Nat.ble_eq_true_of_le (by omega)] at hc
      cases j with
      | zero => omega
      | succ j =>
        have e2 : padL k l = padL k (48 :: l) := by
          unfold padL
          have : k - l.length = (k - (48 :: l).length) + 1 := by simp; omega
          rw [this, List.replicate_succ']
          simp
        rw [e2]
        exact .more (Tr.run_vc hv hc rfl rfl) (rw_LR k hk j (48 :: l) (by simp; omega) (by simp; omega))
    · have hd : decide (((l.length : Nat) : Int) < (k : Int)) = false := decide_eq_false (by omega)
      rw [hd] at hv hc
      have e2 : padL k l = l := by
        unfold padL
        rw [show k - l.length = 0 by omega]
        rfl
      rw [e2]
      exact .last (Tr.run_vc hv hc rfl rfl) (by simp) (by simp)
def rwF : Kept → Tr (Exit × Kept)
  | ([.lit (.int .i64 k), .lit (.string s)], []) => .br (decide (0 ≤ k) && decide (k ≤ 100) && Nat.ble (ls s).length 1000) (.leaf (.exit 0, ([int k, str (bs (padL k.toNat (ls s)))], []))) .fail
  | _ => .fail
theorem rwF_ok (x : Kept) (e : Exit) (y : Kept) (h : (rwF x).run = some (e, y)) : LR Tryd.prog (E10 (GG m t fr)) 60 (GG m t fr) 16 rwOuts .normal (theLoop 0 Tryd.f59) x e y := by
  unfold rwF at h
  split at h
  · rename_i k s
    have hb := br_run h
    clear h
    obtain ⟨hc, h⟩ := hb
    simp only [Bool.and_eq_true, decide_eq_true_eq, Nat.ble_eq] at hc
    obtain ⟨⟨h1, h2⟩, h3⟩ := hc
    simp only [Tr.run, Option.some.injEq, Prod.mk.injEq] at h
    obtain ⟨rfl, rfl⟩ := h
    obtain ⟨j, rfl⟩ : ∃ j : Nat, k = j := ⟨k.toNat, by omega⟩
    have key := rw_LR (m := m) (t := t) (fr := fr) j (by omega) j (ls s) (by omega) h3
    rw [bs_ls] at key
    exact key
  · cases h
theorem rwd_raw_v (m : Int) (t : TypeId) (fr : Nat × Nat) (n k : Int) : ((fnPure Tryd.prog ((E10 (GG m t fr)).withCuts (cut1 0 (cutOf (GG m t fr) 16 rwOuts 0 rwF))) 60 Tryd.f59 (GG m t fr) [int n, int k])).val =
 ((.some (.lit (.string (bs (padL (Int.toNat k) (Lib.decDigits (Int.toNat (IntKind.wrap .u64 n)))))))) : Option PV) := by
  kernel_rfl
theorem rwd_raw_c (m : Int) (t : TypeId) (fr : Nat × Nat) (n k : Int) : ((fnPure Tryd.prog ((E10 (GG m t fr)).withCuts (cut1 0 (cutOf (GG m t fr) 16 rwOuts 0 rwF))) 60 Tryd.f59 (GG m t fr) [int n, int k])).conds =
 (bif ((decide ((0 : Int) ≤ (IntKind.wrap .u64 n))) && (decide ((IntKind.wrap .u64 n) < (18446744073709551616 : Int)))) then
 bif (((decide ((0 : Int) ≤ k)) && (decide (k ≤ (100 : Int)))) && (Nat.ble (List.length (Lib.decDigits (Int.toNat (IntKind.wrap .u64 n)))) (1000 : Nat))) then
 true
 else false
 else false : Bool) := by
  kernel_rfl
end
end Go.Proofs.YtlngnfkjpfokhaaDoor.Ev

/- The document's days and times, written. No condition. -/
namespace Go.Proofs.YtlngnfkjpfokhaaDoor.Ev
open Go Go.RowKit Go.Proofs Go.Proofs.YtlngnfkjpfokhaaDoor.Str
set_option linter.unusedVariables false
set_option linter.unusedSimpArgs false
def rwB (n k : Int) : ByteArray := bs (padL k.toNat (Lib.decDigits n.toNat))
theorem rw_len {n k : Int} (h : nB n k = true) : (rwB n k).size ≤ 200 := by
  unfold nB at h
  simp only [Bool.and_eq_true, decide_eq_true_eq] at h
  unfold rwB
  rw [bs_len, pad_len]
  have := dec_len9 n.toNat (by omega)
  omega
def rdB (n : Int) : ByteArray := (((((rwB (rvD n) (1 : Int)) ++ (.mk (List.toArray [(45 : UInt8)]))) ++ (ByteArray.extract (.mk (List.toArray [(74 : UInt8), (97 : UInt8), (110 : UInt8), (70 : UInt8), (101 : UInt8), (98 : UInt8), (77 : UInt8), (97 : UInt8), (114 : UInt8), (65 : UInt8), (112 : UInt8), (114 : UInt8), (77 : UInt8), (97 : UInt8), (121 : UInt8), (74 : UInt8), (117 : UInt8), (110 : UInt8), (74 : UInt8), (117 : UInt8), (108 : UInt8), (65 : UInt8), (117 : UInt8), (103 : UInt8), (83 : UInt8), (101 : UInt8), (112 : UInt8), (79 : UInt8), (99 : UInt8), (116 : UInt8), (78 : UInt8), (111 : UInt8), (118 : UInt8), (68 : UInt8), (101 : UInt8), (99 : UInt8)])) (Int.toNat (IntKind.wrap .i64 ((IntKind.wrap .i64 ((3 : Int) * (rvM n))) - (3 : Int)))) (Int.toNat (IntKind.wrap .i64 ((3 : Int) * (rvM n)))))) ++ (.mk (List.toArray [(45 : UInt8)]))) ++ (rwB (yrN n) (4 : Int)))
section
variable {m : Int} {t : TypeId} {fr : Nat × Nat}
def rwideG : List PV → Tr PV
  | [.lit (.int .i64 n), .lit (.int .i64 k)] => .br (nB n k) (.leaf (str (rwB n k))) .fail
  | _ => .fail
theorem rwide_ok : PureOK Tryd.prog (GG m t fr) 59 rwideG := by
  refine PureOK.of (fn_cuts mixed E10_ok (fn := Tryd.f59) (cuts := cut1 0 (cutOf (GG m t fr) 16 rwOuts 0 rwF)) (by kernel_rfl)
    (CutLaws.one (by omega) (by kernel_rfl) fun st e st' h => cutOf_ok E10_ok mixed (noCuts_ok (envOf_cuts ..) _) rwF_ok h)) fun ps p hp => ?_
  unfold rwideG at hp
  split at hp
  · rename_i n k
    obtain ⟨hc, hq⟩ := br_run hp
    clear hp
    simp only [Tr.run, Option.some.injEq] at hq
    subst hq
    unfold nB at hc
    simp only [Bool.and_eq_true, decide_eq_true_eq] at hc
    have hv := rwd_raw_v m t fr n k
    have hcc := rwd_raw_c m t fr n k
    have e : IntKind.u64.wrap n = n := wrap_u64 (by omega) (by omega)
    have hl := dec_len9 n.toNat (by omega)
    rw [e] at hv hcc
    rw [decide_eq_true (show 0 ≤ n by omega), decide_eq_true (show n < 18446744073709551616 by omega), decide_eq_true hc.1.2, decide_eq_true hc.2, Nat.ble_eq_true_of_le (by omega)] at hcc
    exact ⟨_, Tr.run_vc hv hcc rfl rfl, .refl _⟩
  · cases hp
def bmPure : List (Nat × (List PV → Tr PV)) := (59, rwideG) :: (64, rcivG) :: blPure
theorem bmPure_ok {m : Int} {t : TypeId} {fr : Nat × Nat} : TabOK Tryd.prog (GG m t fr) bmPure := (TabOK.cons rwide_ok (fn := Tryd.f59) (by kernel_rfl) (by kernel_rfl) (TabOK.cons rciv_ok (fn := Tryd.f64) (by kernel_rfl) (by kernel_rfl) blPure_ok))
noncomputable abbrev E12 (G : GT) : Env := envOf Tryd.prog G bmPure biFull
theorem E12_ok : (E12 (GG m t fr)).ok Tryd.prog (GG m t fr) := envOf_ok mixed bmPure_ok biFull_ok
theorem rdw_raw_v (m : Int) (t : TypeId) (fr : Nat × Nat) (n : Int) : ((fnPure Tryd.prog (E12 (GG m t fr)) 60 Tryd.f58 (GG m t fr) [int n])).val =
 ((.some (.tup [(.lit (.string (((((rwB (rvD n) (1 : Int)) ++ (.mk (List.toArray [(45 : UInt8)]))) ++ (ByteArray.extract (.mk (List.toArray [(74 : UInt8), (97 : UInt8), (110 : UInt8), (70 : UInt8), (101 : UInt8), (98 : UInt8), (77 : UInt8), (97 : UInt8), (114 : UInt8), (65 : UInt8), (112 : UInt8), (114 : UInt8), (77 : UInt8), (97 : UInt8), (121 : UInt8), (74 : UInt8), (117 : UInt8), (110 : UInt8), (74 : UInt8), (117 : UInt8), (108 : UInt8), (65 : UInt8), (117 : UInt8), (103 : UInt8), (83 : UInt8), (101 : UInt8), (112 : UInt8), (79 : UInt8), (99 : UInt8), (116 : UInt8), (78 : UInt8), (111 : UInt8), (118 : UInt8), (68 : UInt8), (101 : UInt8), (99 : UInt8)])) (Int.toNat (IntKind.wrap .i64 ((IntKind.wrap .i64 ((3 : Int) * (rvM n))) - (3 : Int)))) (Int.toNat (IntKind.wrap .i64 ((3 : Int) * (rvM n)))))) ++ (.mk (List.toArray [(45 : UInt8)]))) ++ (rwB (yrN n) (4 : Int))))), (.lit (.int .i64 (0 : Int)))])) : Option PV) := by
  kernel_rfl
theorem rdw_raw_c (m : Int) (t : TypeId) (fr : Nat × Nat) (n : Int) : ((fnPure Tryd.prog (E12 (GG m t fr)) 60 Tryd.f58 (GG m t fr) [int n])).conds =
 (bif (dayB n) then
 bif (nB (rvD n) (1 : Int)) then
 bif (Nat.ble ((List.length (ls (rwB (rvD n) (1 : Int)))) + 1) (9223372036854775807 : Nat)) then
 bif (((decide ((0 : Int) ≤ (IntKind.wrap .i64 ((IntKind.wrap .i64 ((3 : Int) * (rvM n))) - (3 : Int))))) && (decide ((IntKind.wrap .i64 ((IntKind.wrap .i64 ((3 : Int) * (rvM n))) - (3 : Int))) ≤ (IntKind.wrap .i64 ((3 : Int) * (rvM n)))))) && (decide ((IntKind.wrap .i64 ((3 : Int) * (rvM n))) ≤ (36 : Int)))) then
 bif (Nat.ble ((List.length (ls ((rwB (rvD n) (1 : Int)) ++ (.mk (List.toArray [(45 : UInt8)]))))) + (List.length (ls (ByteArray.extract (.mk (List.toArray [(74 : UInt8), (97 : UInt8), (110 : UInt8), (70 : UInt8), (101 : UInt8), (98 : UInt8), (77 : UInt8), (97 : UInt8), (114 : UInt8), (65 : UInt8), (112 : UInt8), (114 : UInt8), (77 : UInt8), (97 : UInt8), (121 : UInt8), (74 : UInt8), (117 : UInt8), (110 : UInt8), (74 : UInt8), (117 : UInt8), (108 : UInt8), (65 : UInt8), (117 : UInt8), (103 : UInt8), (83 : UInt8), (101 : UInt8), (112 : UInt8), (79 : UInt8), (99 : UInt8), (116 : UInt8), (78 : UInt8), (111 : UInt8), (118 : UInt8), (68 : UInt8), (101 : UInt8), (99 : UInt8)])) (Int.toNat (IntKind.wrap .i64 ((IntKind.wrap .i64 ((3 : Int) * (rvM n))) - (3 : Int)))) (Int.toNat (IntKind.wrap .i64 ((3 : Int) * (rvM n)))))))) (9223372036854775807 : Nat)) then
 bif (Nat.ble ((List.length (ls (((rwB (rvD n) (1 : Int)) ++ (.mk (List.toArray [(45 : UInt8)]))) ++ (ByteArray.extract (.mk (List.toArray [(74 : UInt8), (97 : UInt8), (110 : UInt8), (70 : UInt8), (101 : UInt8), (98 : UInt8), (77 : UInt8), (97 : UInt8), (114 : UInt8), (65 : UInt8), (112 : UInt8), (114 : UInt8), (77 : UInt8), (97 : UInt8), (121 : UInt8), (74 : UInt8), (117 : UInt8), (110 : UInt8), (74 : UInt8), (117 : UInt8), (108 : UInt8), (65 : UInt8), (117 : UInt8), (103 : UInt8), (83 : UInt8), (101 : UInt8), (112 : UInt8), (79 : UInt8), (99 : UInt8), (116 : UInt8), (78 : UInt8), (111 : UInt8), (118 : UInt8), (68 : UInt8), (101 : UInt8), (99 : UInt8)])) (Int.toNat (IntKind.wrap .i64 ((IntKind.wrap .i64 ((3 : Int) * (rvM n))) - (3 : Int)))) (Int.toNat (IntKind.wrap .i64 ((3 : Int) * (rvM n)))))))) + 1) (9223372036854775807 : Nat)) then
 bif (nB (yrN n) (4 : Int)) then
 bif (Nat.ble ((List.length (ls ((((rwB (rvD n) (1 : Int)) ++ (.mk (List.toArray [(45 : UInt8)]))) ++ (ByteArray.extract (.mk (List.toArray [(74 : UInt8), (97 : UInt8), (110 : UInt8), (70 : UInt8), (101 : UInt8), (98 : UInt8), (77 : UInt8), (97 : UInt8), (114 : UInt8), (65 : UInt8), (112 : UInt8), (114 : UInt8), (77 : UInt8), (97 : UInt8), (121 : UInt8), (74 : UInt8), (117 : UInt8), (110 : UInt8), (74 : UInt8), (117 : UInt8), (108 : UInt8), (65 : UInt8), (117 : UInt8), (103 : UInt8), (83 : UInt8), (101 : UInt8), (112 : UInt8), (79 : UInt8), (99 : UInt8), (116 : UInt8), (78 : UInt8), (111 : UInt8), (118 : UInt8), (68 : UInt8), (101 : UInt8), (99 : UInt8)])) (Int.toNat (IntKind.wrap .i64 ((IntKind.wrap .i64 ((3 : Int) * (rvM n))) - (3 : Int)))) (Int.toNat (IntKind.wrap .i64 ((3 : Int) * (rvM n)))))) ++ (.mk (List.toArray [(45 : UInt8)]))))) + (List.length (ls (rwB (yrN n) (4 : Int))))) (9223372036854775807 : Nat)) then
 true
 else false
 else false
 else false
 else false
 else false
 else false
 else false
 else false : Bool) := by
  kernel_rfl
theorem ls_size (s : ByteArray) : (ls s).length = s.size := ls_len s
theorem rd_len {n : Int} (h : dayB n = true) : (rdB n).size ≤ 500 := by
  obtain ⟨y1, y2, m1, m2, d1, d2⟩ := rv_at h
  have l1 := rw_len (n := rvD n) (k := 1) (by unfold nB; simp; omega)
  have l2 := rw_len (n := yrN n) (k := 4) (by unfold nB; simp; omega)
  have hm := mon_len (Int.toNat (IntKind.wrap .i64 ((IntKind.wrap .i64 ((3 : Int) * (rvM n))) - (3 : Int)))) (Int.toNat (IntKind.wrap .i64 ((3 : Int) * (rvM n))))
  unfold rdB
  simp only [ByteArray.size_append, ByteArray.size_extract, lit1] at hm ⊢
  omega
def rwriteG : List PV → Tr PV
  | [.lit (.int .i64 d)] => .br (dayB d) (.leaf (.tup [str (rdB d), int 0])) .fail
  | _ => .fail
theorem rwrite_ok : PureOK Tryd.prog (GG m t fr) 58 rwriteG := by
  refine PureOK.of (fn_pure mixed E12_ok (envOf_cuts ..) (fn := Tryd.f58) (by kernel_rfl)) fun ps p hp => ?_
  unfold rwriteG at hp
  split at hp
  · rename_i d
    obtain ⟨hc, hq⟩ := br_run hp
    clear hp
    simp only [Tr.run, Option.some.injEq] at hq
    subst hq
    have hv := rdw_raw_v m t fr d
    have hcc := rdw_raw_c m t fr d
    obtain ⟨y1, y2, m1, m2, d1, d2⟩ := rv_at hc
    have n1 : nB (rvD d) 1 = true := by unfold nB; simp; omega
    have n2 : nB (yrN d) 4 = true := by unfold nB; simp; omega
    have l1 := rw_len n1
    have l2 := rw_len n2
    have w1 : IntKind.i64.wrap (3 * rvM d) = 3 * rvM d := wrap_mid (by omega) (by omega)
    have w2 : IntKind.i64.wrap (3 * rvM d - 3) = 3 * rvM d - 3 := wrap_mid (by omega) (by omega)
    have h4 : ((decide ((0 : Int) ≤ 3 * rvM d - 3) && decide (3 * rvM d - 3 ≤ 3 * rvM d)) && decide (3 * rvM d ≤ 36)) = true := by
      rw [Bool.and_eq_true, Bool.and_eq_true]
      exact ⟨⟨decide_eq_true (by omega), decide_eq_true (by omega)⟩, decide_eq_true (by omega)⟩
    have hm := mon_len (Int.toNat (3 * rvM d - 3)) (Int.toNat (3 * rvM d))
    have hble : ∀ k : Nat, k ≤ 9223372036854775807 → Nat.ble k 9223372036854775807 = true := fun k h => Nat.ble_eq_true_of_le h
    simp only [w1, w2, hc, h4, n1, n2, cond_true, cond_false, ls_size, ByteArray.size_append, ByteArray.size_extract, lit1] at hcc hm
    rw [hble _ (by omega), hble _ (by omega), hble _ (by omega), hble _ (by omega)] at hcc
    exact ⟨_, Tr.run_vc hv hcc rfl rfl, PLe.of_eq rfl⟩
  · cases hp
def bnPure : List (Nat × (List PV → Tr PV)) := (58, rwriteG) :: bmPure
theorem bnPure_ok {m : Int} {t : TypeId} {fr : Nat × Nat} : TabOK Tryd.prog (GG m t fr) bnPure := (TabOK.cons rwrite_ok (fn := Tryd.f58) (by kernel_rfl) (by kernel_rfl) bmPure_ok)
noncomputable abbrev E13 (G : GT) : Env := envOf Tryd.prog G bnPure biFull
theorem E13_ok : (E13 (GG m t fr)).ok Tryd.prog (GG m t fr) := envOf_ok mixed bnPure_ok biFull_ok
theorem rwt_raw_v (m : Int) (t : TypeId) (fr : Nat × Nat) (d s z : Int) : ((fnPure Tryd.prog (E13 (GG m t fr)) 60 Tryd.f46 (GG m t fr) [.agg [int d, int s, int z]])).val =
 (bif (!(rightB d s z)) then
 (.some (.tup [(.lit (.string (.mk (List.toArray [])))), (.lit (.int .i64 (2 : Int)))]))
 else bif ((((List.length (ls (rdB d))) : Nat) : Int) == (10 : Int)) then
 bif (decide (z < (0 : Int))) then
 (.some (.tup [(.lit (.string ((((((((((((.mk (List.toArray [(32 : UInt8)])) ++ (rdB d)) ++ (.mk (List.toArray [(32 : UInt8)]))) ++ (rwB (IntKind.wrap .i64 (Int.tdiv s (3600 : Int))) (2 : Int))) ++ (.mk (List.toArray [(58 : UInt8)]))) ++ (rwB (Int.tmod (IntKind.wrap .i64 (Int.tdiv s (60 : Int))) (60 : Int)) (2 : Int))) ++ (.mk (List.toArray [(58 : UInt8)]))) ++ (rwB (Int.tmod s (60 : Int)) (2 : Int))) ++ (.mk (List.toArray [(32 : UInt8)]))) ++ (.mk (List.toArray [(45 : UInt8)]))) ++ (rwB (IntKind.wrap .i64 (Int.tdiv (IntKind.wrap .i64 ((0 : Int) - z)) (60 : Int))) (2 : Int))) ++ (rwB (Int.tmod (IntKind.wrap .i64 ((0 : Int) - z)) (60 : Int)) (2 : Int))))), (.lit (.int .i64 (0 : Int)))]))
 else (.some (.tup [(.lit (.string ((((((((((((.mk (List.toArray [(32 : UInt8)])) ++ (rdB d)) ++ (.mk (List.toArray [(32 : UInt8)]))) ++ (rwB (IntKind.wrap .i64 (Int.tdiv s (3600 : Int))) (2 : Int))) ++ (.mk (List.toArray [(58 : UInt8)]))) ++ (rwB (Int.tmod (IntKind.wrap .i64 (Int.tdiv s (60 : Int))) (60 : Int)) (2 : Int))) ++ (.mk (List.toArray [(58 : UInt8)]))) ++ (rwB (Int.tmod s (60 : Int)) (2 : Int))) ++ (.mk (List.toArray [(32 : UInt8)]))) ++ (.mk (List.toArray [(43 : UInt8)]))) ++ (rwB (IntKind.wrap .i64 (Int.tdiv z (60 : Int))) (2 : Int))) ++ (rwB (Int.tmod z (60 : Int)) (2 : Int))))), (.lit (.int .i64 (0 : Int)))]))
 else bif (decide (z < (0 : Int))) then
 (.some (.tup [(.lit (.string (((((((((((rdB d) ++ (.mk (List.toArray [(32 : UInt8)]))) ++ (rwB (IntKind.wrap .i64 (Int.tdiv s (3600 : Int))) (2 : Int))) ++ (.mk (List.toArray [(58 : UInt8)]))) ++ (rwB (Int.tmod (IntKind.wrap .i64 (Int.tdiv s (60 : Int))) (60 : Int)) (2 : Int))) ++ (.mk (List.toArray [(58 : UInt8)]))) ++ (rwB (Int.tmod s (60 : Int)) (2 : Int))) ++ (.mk (List.toArray [(32 : UInt8)]))) ++ (.mk (List.toArray [(45 : UInt8)]))) ++ (rwB (IntKind.wrap .i64 (Int.tdiv (IntKind.wrap .i64 ((0 : Int) - z)) (60 : Int))) (2 : Int))) ++ (rwB (Int.tmod (IntKind.wrap .i64 ((0 : Int) - z)) (60 : Int)) (2 : Int))))), (.lit (.int .i64 (0 : Int)))]))
 else (.some (.tup [(.lit (.string (((((((((((rdB d) ++ (.mk (List.toArray [(32 : UInt8)]))) ++ (rwB (IntKind.wrap .i64 (Int.tdiv s (3600 : Int))) (2 : Int))) ++ (.mk (List.toArray [(58 : UInt8)]))) ++ (rwB (Int.tmod (IntKind.wrap .i64 (Int.tdiv s (60 : Int))) (60 : Int)) (2 : Int))) ++ (.mk (List.toArray [(58 : UInt8)]))) ++ (rwB (Int.tmod s (60 : Int)) (2 : Int))) ++ (.mk (List.toArray [(32 : UInt8)]))) ++ (.mk (List.toArray [(43 : UInt8)]))) ++ (rwB (IntKind.wrap .i64 (Int.tdiv z (60 : Int))) (2 : Int))) ++ (rwB (Int.tmod z (60 : Int)) (2 : Int))))), (.lit (.int .i64 (0 : Int)))])) : Option PV) := by
  kernel_rfl
theorem rwt_raw_c (m : Int) (t : TypeId) (fr : Nat × Nat) (d s z : Int) : ((fnPure Tryd.prog (E13 (GG m t fr)) 60 Tryd.f46 (GG m t fr) [.agg [int d, int s, int z]])).conds =
 (bif (!(rightB d s z)) then
 true
 else bif (dayB d) then
 bif ((((List.length (ls (rdB d))) : Nat) : Int) == (10 : Int)) then
 bif (Nat.ble (1 + (List.length (ls (rdB d)))) (9223372036854775807 : Nat)) then
 bif (decide (z < (0 : Int))) then
 bif (Nat.ble ((List.length (ls ((.mk (List.toArray [(32 : UInt8)])) ++ (rdB d)))) + 1) (9223372036854775807 : Nat)) then
 bif (nB (IntKind.wrap .i64 (Int.tdiv s (3600 : Int))) (2 : Int)) then
 bif (Nat.ble ((List.length (ls (((.mk (List.toArray [(32 : UInt8)])) ++ (rdB d)) ++ (.mk (List.toArray [(32 : UInt8)]))))) + (List.length (ls (rwB (IntKind.wrap .i64 (Int.tdiv s (3600 : Int))) (2 : Int))))) (9223372036854775807 : Nat)) then
 bif (Nat.ble ((List.length (ls ((((.mk (List.toArray [(32 : UInt8)])) ++ (rdB d)) ++ (.mk (List.toArray [(32 : UInt8)]))) ++ (rwB (IntKind.wrap .i64 (Int.tdiv s (3600 : Int))) (2 : Int))))) + 1) (9223372036854775807 : Nat)) then
 bif (nB (Int.tmod (IntKind.wrap .i64 (Int.tdiv s (60 : Int))) (60 : Int)) (2 : Int)) then
 bif (Nat.ble ((List.length (ls (((((.mk (List.toArray [(32 : UInt8)])) ++ (rdB d)) ++ (.mk (List.toArray [(32 : UInt8)]))) ++ (rwB (IntKind.wrap .i64 (Int.tdiv s (3600 : Int))) (2 : Int))) ++ (.mk (List.toArray [(58 : UInt8)]))))) + (List.length (ls (rwB (Int.tmod (IntKind.wrap .i64 (Int.tdiv s (60 : Int))) (60 : Int)) (2 : Int))))) (9223372036854775807 : Nat)) then
 bif (Nat.ble ((List.length (ls ((((((.mk (List.toArray [(32 : UInt8)])) ++ (rdB d)) ++ (.mk (List.toArray [(32 : UInt8)]))) ++ (rwB (IntKind.wrap .i64 (Int.tdiv s (3600 : Int))) (2 : Int))) ++ (.mk (List.toArray [(58 : UInt8)]))) ++ (rwB (Int.tmod (IntKind.wrap .i64 (Int.tdiv s (60 : Int))) (60 : Int)) (2 : Int))))) + 1) (9223372036854775807 : Nat)) then
 bif (nB (Int.tmod s (60 : Int)) (2 : Int)) then
 bif (Nat.ble ((List.length (ls (((((((.mk (List.toArray [(32 : UInt8)])) ++ (rdB d)) ++ (.mk (List.toArray [(32 : UInt8)]))) ++ (rwB (IntKind.wrap .i64 (Int.tdiv s (3600 : Int))) (2 : Int))) ++ (.mk (List.toArray [(58 : UInt8)]))) ++ (rwB (Int.tmod (IntKind.wrap .i64 (Int.tdiv s (60 : Int))) (60 : Int)) (2 : Int))) ++ (.mk (List.toArray [(58 : UInt8)]))))) + (List.length (ls (rwB (Int.tmod s (60 : Int)) (2 : Int))))) (9223372036854775807 : Nat)) then
 bif (Nat.ble ((List.length (ls ((((((((.mk (List.toArray [(32 : UInt8)])) ++ (rdB d)) ++ (.mk (List.toArray [(32 : UInt8)]))) ++ (rwB (IntKind.wrap .i64 (Int.tdiv s (3600 : Int))) (2 : Int))) ++ (.mk (List.toArray [(58 : UInt8)]))) ++ (rwB (Int.tmod (IntKind.wrap .i64 (Int.tdiv s (60 : Int))) (60 : Int)) (2 : Int))) ++ (.mk (List.toArray [(58 : UInt8)]))) ++ (rwB (Int.tmod s (60 : Int)) (2 : Int))))) + 1) (9223372036854775807 : Nat)) then
 bif (Nat.ble ((List.length (ls (((((((((.mk (List.toArray [(32 : UInt8)])) ++ (rdB d)) ++ (.mk (List.toArray [(32 : UInt8)]))) ++ (rwB (IntKind.wrap .i64 (Int.tdiv s (3600 : Int))) (2 : Int))) ++ (.mk (List.toArray [(58 : UInt8)]))) ++ (rwB (Int.tmod (IntKind.wrap .i64 (Int.tdiv s (60 : Int))) (60 : Int)) (2 : Int))) ++ (.mk (List.toArray [(58 : UInt8)]))) ++ (rwB (Int.tmod s (60 : Int)) (2 : Int))) ++ (.mk (List.toArray [(32 : UInt8)]))))) + 1) (9223372036854775807 : Nat)) then
 bif (nB (IntKind.wrap .i64 (Int.tdiv (IntKind.wrap .i64 ((0 : Int) - z)) (60 : Int))) (2 : Int)) then
 bif (Nat.ble ((List.length (ls ((((((((((.mk (List.toArray [(32 : UInt8)])) ++ (rdB d)) ++ (.mk (List.toArray [(32 : UInt8)]))) ++ (rwB (IntKind.wrap .i64 (Int.tdiv s (3600 : Int))) (2 : Int))) ++ (.mk (List.toArray [(58 : UInt8)]))) ++ (rwB (Int.tmod (IntKind.wrap .i64 (Int.tdiv s (60 : Int))) (60 : Int)) (2 : Int))) ++ (.mk (List.toArray [(58 : UInt8)]))) ++ (rwB (Int.tmod s (60 : Int)) (2 : Int))) ++ (.mk (List.toArray [(32 : UInt8)]))) ++ (.mk (List.toArray [(45 : UInt8)]))))) + (List.length (ls (rwB (IntKind.wrap .i64 (Int.tdiv (IntKind.wrap .i64 ((0 : Int) - z)) (60 : Int))) (2 : Int))))) (9223372036854775807 : Nat)) then
 bif (nB (Int.tmod (IntKind.wrap .i64 ((0 : Int) - z)) (60 : Int)) (2 : Int)) then
 bif (Nat.ble ((List.length (ls (((((((((((.mk (List.toArray [(32 : UInt8)])) ++ (rdB d)) ++ (.mk (List.toArray [(32 : UInt8)]))) ++ (rwB (IntKind.wrap .i64 (Int.tdiv s (3600 : Int))) (2 : Int))) ++ (.mk (List.toArray [(58 : UInt8)]))) ++ (rwB (Int.tmod (IntKind.wrap .i64 (Int.tdiv s (60 : Int))) (60 : Int)) (2 : Int))) ++ (.mk (List.toArray [(58 : UInt8)]))) ++ (rwB (Int.tmod s (60 : Int)) (2 : Int))) ++ (.mk (List.toArray [(32 : UInt8)]))) ++ (.mk (List.toArray [(45 : UInt8)]))) ++ (rwB (IntKind.wrap .i64 (Int.tdiv (IntKind.wrap .i64 ((0 : Int) - z)) (60 : Int))) (2 : Int))))) + (List.length (ls (rwB (Int.tmod (IntKind.wrap .i64 ((0 : Int) - z)) (60 : Int)) (2 : Int))))) (9223372036854775807 : Nat)) then
 true
 else false
 else false
 else false
 else false
 else false
 else false
 else false
 else false
 else false
 else false
 else false
 else false
 else false
 else false
 else false
 else bif (Nat.ble ((List.length (ls ((.mk (List.toArray [(32 : UInt8)])) ++ (rdB d)))) + 1) (9223372036854775807 : Nat)) then
 bif (nB (IntKind.wrap .i64 (Int.tdiv s (3600 : Int))) (2 : Int)) then
 bif (Nat.ble ((List.length (ls (((.mk (List.toArray [(32 : UInt8)])) ++ (rdB d)) ++ (.mk (List.toArray [(32 : UInt8)]))))) + (List.length (ls (rwB (IntKind.wrap .i64 (Int.tdiv s (3600 : Int))) (2 : Int))))) (9223372036854775807 : Nat)) then
 bif (Nat.ble ((List.length (ls ((((.mk (List.toArray [(32 : UInt8)])) ++ (rdB d)) ++ (.mk (List.toArray [(32 : UInt8)]))) ++ (rwB (IntKind.wrap .i64 (Int.tdiv s (3600 : Int))) (2 : Int))))) + 1) (9223372036854775807 : Nat)) then
 bif (nB (Int.tmod (IntKind.wrap .i64 (Int.tdiv s (60 : Int))) (60 : Int)) (2 : Int)) then
 bif (Nat.ble ((List.length (ls (((((.mk (List.toArray [(32 : UInt8)])) ++ (rdB d)) ++ (.mk (List.toArray [(32 : UInt8)]))) ++ (rwB (IntKind.wrap .i64 (Int.tdiv s (3600 : Int))) (2 : Int))) ++ (.mk (List.toArray [(58 : UInt8)]))))) + (List.length (ls (rwB (Int.tmod (IntKind.wrap .i64 (Int.tdiv s (60 : Int))) (60 : Int)) (2 : Int))))) (9223372036854775807 : Nat)) then
 bif (Nat.ble ((List.length (ls ((((((.mk (List.toArray [(32 : UInt8)])) ++ (rdB d)) ++ (.mk (List.toArray [(32 : UInt8)]))) ++ (rwB (IntKind.wrap .i64 (Int.tdiv s (3600 : Int))) (2 : Int))) ++ (.mk (List.toArray [(58 : UInt8)]))) ++ (rwB (Int.tmod (IntKind.wrap .i64 (Int.tdiv s (60 : Int))) (60 : Int)) (2 : Int))))) + 1) (9223372036854775807 : Nat)) then
 bif (nB (Int.tmod s (60 : Int)) (2 : Int)) then
 bif (Nat.ble ((List.length (ls (((((((.mk (List.toArray [(32 : UInt8)])) ++ (rdB d)) ++ (.mk (List.toArray [(32 : UInt8)]))) ++ (rwB (IntKind.wrap .i64 (Int.tdiv s (3600 : Int))) (2 : Int))) ++ (.mk (List.toArray [(58 : UInt8)]))) ++ (rwB (Int.tmod (IntKind.wrap .i64 (Int.tdiv s (60 : Int))) (60 : Int)) (2 : Int))) ++ (.mk (List.toArray [(58 : UInt8)]))))) + (List.length (ls (rwB (Int.tmod s (60 : Int)) (2 : Int))))) (9223372036854775807 : Nat)) then
 bif (Nat.ble ((List.length (ls ((((((((.mk (List.toArray [(32 : UInt8)])) ++ (rdB d)) ++ (.mk (List.toArray [(32 : UInt8)]))) ++ (rwB (IntKind.wrap .i64 (Int.tdiv s (3600 : Int))) (2 : Int))) ++ (.mk (List.toArray [(58 : UInt8)]))) ++ (rwB (Int.tmod (IntKind.wrap .i64 (Int.tdiv s (60 : Int))) (60 : Int)) (2 : Int))) ++ (.mk (List.toArray [(58 : UInt8)]))) ++ (rwB (Int.tmod s (60 : Int)) (2 : Int))))) + 1) (9223372036854775807 : Nat)) then
 bif (Nat.ble ((List.length (ls (((((((((.mk (List.toArray [(32 : UInt8)])) ++ (rdB d)) ++ (.mk (List.toArray [(32 : UInt8)]))) ++ (rwB (IntKind.wrap .i64 (Int.tdiv s (3600 : Int))) (2 : Int))) ++ (.mk (List.toArray [(58 : UInt8)]))) ++ (rwB (Int.tmod (IntKind.wrap .i64 (Int.tdiv s (60 : Int))) (60 : Int)) (2 : Int))) ++ (.mk (List.toArray [(58 : UInt8)]))) ++ (rwB (Int.tmod s (60 : Int)) (2 : Int))) ++ (.mk (List.toArray [(32 : UInt8)]))))) + 1) (9223372036854775807 : Nat)) then
 bif (nB (IntKind.wrap .i64 (Int.tdiv z (60 : Int))) (2 : Int)) then
 bif (Nat.ble ((List.length (ls ((((((((((.mk (List.toArray [(32 : UInt8)])) ++ (rdB d)) ++ (.mk (List.toArray [(32 : UInt8)]))) ++ (rwB (IntKind.wrap .i64 (Int.tdiv s (3600 : Int))) (2 : Int))) ++ (.mk (List.toArray [(58 : UInt8)]))) ++ (rwB (Int.tmod (IntKind.wrap .i64 (Int.tdiv s (60 : Int))) (60 : Int)) (2 : Int))) ++ (.mk (List.toArray [(58 : UInt8)]))) ++ (rwB (Int.tmod s (60 : Int)) (2 : Int))) ++ (.mk (List.toArray [(32 : UInt8)]))) ++ (.mk (List.toArray [(43 : UInt8)]))))) + (List.length (ls (rwB (IntKind.wrap .i64 (Int.tdiv z (60 : Int))) (2 : Int))))) (9223372036854775807 : Nat)) then
 bif (nB (Int.tmod z (60 : Int)) (2 : Int)) then
 bif (Nat.ble ((List.length (ls (((((((((((.mk (List.toArray [(32 : UInt8)])) ++ (rdB d)) ++ (.mk (List.toArray [(32 : UInt8)]))) ++ (rwB (IntKind.wrap .i64 (Int.tdiv s (3600 : Int))) (2 : Int))) ++ (.mk (List.toArray [(58 : UInt8)]))) ++ (rwB (Int.tmod (IntKind.wrap .i64 (Int.tdiv s (60 : Int))) (60 : Int)) (2 : Int))) ++ (.mk (List.toArray [(58 : UInt8)]))) ++ (rwB (Int.tmod s (60 : Int)) (2 : Int))) ++ (.mk (List.toArray [(32 : UInt8)]))) ++ (.mk (List.toArray [(43 : UInt8)]))) ++ (rwB (IntKind.wrap .i64 (Int.tdiv z (60 : Int))) (2 : Int))))) + (List.length (ls (rwB (Int.tmod z (60 : Int)) (2 : Int))))) (9223372036854775807 : Nat)) then
 true
 else false
 else false
 else false
 else false
 else false
 else false
 else false
 else false
 else false
 else false
 else false
 else false
 else false
 else false
 else false
 else false
 else bif (decide (z < (0 : Int))) then
 bif (Nat.ble ((List.length (ls (rdB d))) + 1) (9223372036854775807 : Nat)) then
 bif (nB (IntKind.wrap .i64 (Int.tdiv s (3600 : Int))) (2 : Int)) then
 bif (Nat.ble ((List.length (ls ((rdB d) ++ (.mk (List.toArray [(32 : UInt8)]))))) + (List.length (ls (rwB (IntKind.wrap .i64 (Int.tdiv s (3600 : Int))) (2 : Int))))) (9223372036854775807 : Nat)) then
 bif (Nat.ble ((List.length (ls (((rdB d) ++ (.mk (List.toArray [(32 : UInt8)]))) ++ (rwB (IntKind.wrap .i64 (Int.tdiv s (3600 : Int))) (2 : Int))))) + 1) (9223372036854775807 : Nat)) then
 bif (nB (Int.tmod (IntKind.wrap .i64 (Int.tdiv s (60 : Int))) (60 : Int)) (2 : Int)) then
 bif (Nat.ble ((List.length (ls ((((rdB d) ++ (.mk (List.toArray [(32 : UInt8)]))) ++ (rwB (IntKind.wrap .i64 (Int.tdiv s (3600 : Int))) (2 : Int))) ++ (.mk (List.toArray [(58 : UInt8)]))))) + (List.length (ls (rwB (Int.tmod (IntKind.wrap .i64 (Int.tdiv s (60 : Int))) (60 : Int)) (2 : Int))))) (9223372036854775807 : Nat)) then
 bif (Nat.ble ((List.length (ls (((((rdB d) ++ (.mk (List.toArray [(32 : UInt8)]))) ++ (rwB (IntKind.wrap .i64 (Int.tdiv s (3600 : Int))) (2 : Int))) ++ (.mk (List.toArray [(58 : UInt8)]))) ++ (rwB (Int.tmod (IntKind.wrap .i64 (Int.tdiv s (60 : Int))) (60 : Int)) (2 : Int))))) + 1) (9223372036854775807 : Nat)) then
 bif (nB (Int.tmod s (60 : Int)) (2 : Int)) then
 bif (Nat.ble ((List.length (ls ((((((rdB d) ++ (.mk (List.toArray [(32 : UInt8)]))) ++ (rwB (IntKind.wrap .i64 (Int.tdiv s (3600 : Int))) (2 : Int))) ++ (.mk (List.toArray [(58 : UInt8)]))) ++ (rwB (Int.tmod (IntKind.wrap .i64 (Int.tdiv s (60 : Int))) (60 : Int)) (2 : Int))) ++ (.mk (List.toArray [(58 : UInt8)]))))) + (List.length (ls (rwB (Int.tmod s (60 : Int)) (2 : Int))))) (9223372036854775807 : Nat)) then
 bif (Nat.ble ((List.length (ls (((((((rdB d) ++ (.mk (List.toArray [(32 : UInt8)]))) ++ (rwB (IntKind.wrap .i64 (Int.tdiv s (3600 : Int))) (2 : Int))) ++ (.mk (List.toArray [(58 : UInt8)]))) ++ (rwB (Int.tmod (IntKind.wrap .i64 (Int.tdiv s (60 : Int))) (60 : Int)) (2 : Int))) ++ (.mk (List.toArray [(58 : UInt8)]))) ++ (rwB (Int.tmod s (60 : Int)) (2 : Int))))) + 1) (9223372036854775807 : Nat)) then
 bif (Nat.ble ((List.length (ls ((((((((rdB d) ++ (.mk (List.toArray [(32 : UInt8)]))) ++ (rwB (IntKind.wrap .i64 (Int.tdiv s (3600 : Int))) (2 : Int))) ++ (.mk (List.toArray [(58 : UInt8)]))) ++ (rwB (Int.tmod (IntKind.wrap .i64 (Int.tdiv s (60 : Int))) (60 : Int)) (2 : Int))) ++ (.mk (List.toArray [(58 : UInt8)]))) ++ (rwB (Int.tmod s (60 : Int)) (2 : Int))) ++ (.mk (List.toArray [(32 : UInt8)]))))) + 1) (9223372036854775807 : Nat)) then
 bif (nB (IntKind.wrap .i64 (Int.tdiv (IntKind.wrap .i64 ((0 : Int) - z)) (60 : Int))) (2 : Int)) then
 bif (Nat.ble ((List.length (ls (((((((((rdB d) ++ (.mk (List.toArray [(32 : UInt8)]))) ++ (rwB (IntKind.wrap .i64 (Int.tdiv s (3600 : Int))) (2 : Int))) ++ (.mk (List.toArray [(58 : UInt8)]))) ++ (rwB (Int.tmod (IntKind.wrap .i64 (Int.tdiv s (60 : Int))) (60 : Int)) (2 : Int))) ++ (.mk (List.toArray [(58 : UInt8)]))) ++ (rwB (Int.tmod s (60 : Int)) (2 : Int))) ++ (.mk (List.toArray [(32 : UInt8)]))) ++ (.mk (List.toArray [(45 : UInt8)]))))) + (List.length (ls (rwB (IntKind.wrap .i64 (Int.tdiv (IntKind.wrap .i64 ((0 : Int) - z)) (60 : Int))) (2 : Int))))) (9223372036854775807 : Nat)) then
 bif (nB (Int.tmod (IntKind.wrap .i64 ((0 : Int) - z)) (60 : Int)) (2 : Int)) then
 bif (Nat.ble ((List.length (ls ((((((((((rdB d) ++ (.mk (List.toArray [(32 : UInt8)]))) ++ (rwB (IntKind.wrap .i64 (Int.tdiv s (3600 : Int))) (2 : Int))) ++ (.mk (List.toArray [(58 : UInt8)]))) ++ (rwB (Int.tmod (IntKind.wrap .i64 (Int.tdiv s (60 : Int))) (60 : Int)) (2 : Int))) ++ (.mk (List.toArray [(58 : UInt8)]))) ++ (rwB (Int.tmod s (60 : Int)) (2 : Int))) ++ (.mk (List.toArray [(32 : UInt8)]))) ++ (.mk (List.toArray [(45 : UInt8)]))) ++ (rwB (IntKind.wrap .i64 (Int.tdiv (IntKind.wrap .i64 ((0 : Int) - z)) (60 : Int))) (2 : Int))))) + (List.length (ls (rwB (Int.tmod (IntKind.wrap .i64 ((0 : Int) - z)) (60 : Int)) (2 : Int))))) (9223372036854775807 : Nat)) then
 true
 else false
 else false
 else false
 else false
 else false
 else false
 else false
 else false
 else false
 else false
 else false
 else false
 else false
 else false
 else false
 else bif (Nat.ble ((List.length (ls (rdB d))) + 1) (9223372036854775807 : Nat)) then
 bif (nB (IntKind.wrap .i64 (Int.tdiv s (3600 : Int))) (2 : Int)) then
 bif (Nat.ble ((List.length (ls ((rdB d) ++ (.mk (List.toArray [(32 : UInt8)]))))) + (List.length (ls (rwB (IntKind.wrap .i64 (Int.tdiv s (3600 : Int))) (2 : Int))))) (9223372036854775807 : Nat)) then
 bif (Nat.ble ((List.length (ls (((rdB d) ++ (.mk (List.toArray [(32 : UInt8)]))) ++ (rwB (IntKind.wrap .i64 (Int.tdiv s (3600 : Int))) (2 : Int))))) + 1) (9223372036854775807 : Nat)) then
 bif (nB (Int.tmod (IntKind.wrap .i64 (Int.tdiv s (60 : Int))) (60 : Int)) (2 : Int)) then
 bif (Nat.ble ((List.length (ls ((((rdB d) ++ (.mk (List.toArray [(32 : UInt8)]))) ++ (rwB (IntKind.wrap .i64 (Int.tdiv s (3600 : Int))) (2 : Int))) ++ (.mk (List.toArray [(58 : UInt8)]))))) + (List.length (ls (rwB (Int.tmod (IntKind.wrap .i64 (Int.tdiv s (60 : Int))) (60 : Int)) (2 : Int))))) (9223372036854775807 : Nat)) then
 bif (Nat.ble ((List.length (ls (((((rdB d) ++ (.mk (List.toArray [(32 : UInt8)]))) ++ (rwB (IntKind.wrap .i64 (Int.tdiv s (3600 : Int))) (2 : Int))) ++ (.mk (List.toArray [(58 : UInt8)]))) ++ (rwB (Int.tmod (IntKind.wrap .i64 (Int.tdiv s (60 : Int))) (60 : Int)) (2 : Int))))) + 1) (9223372036854775807 : Nat)) then
 bif (nB (Int.tmod s (60 : Int)) (2 : Int)) then
 bif (Nat.ble ((List.length (ls ((((((rdB d) ++ (.mk (List.toArray [(32 : UInt8)]))) ++ (rwB (IntKind.wrap .i64 (Int.tdiv s (3600 : Int))) (2 : Int))) ++ (.mk (List.toArray [(58 : UInt8)]))) ++ (rwB (Int.tmod (IntKind.wrap .i64 (Int.tdiv s (60 : Int))) (60 : Int)) (2 : Int))) ++ (.mk (List.toArray [(58 : UInt8)]))))) + (List.length (ls (rwB (Int.tmod s (60 : Int)) (2 : Int))))) (9223372036854775807 : Nat)) then
 bif (Nat.ble ((List.length (ls (((((((rdB d) ++ (.mk (List.toArray [(32 : UInt8)]))) ++ (rwB (IntKind.wrap .i64 (Int.tdiv s (3600 : Int))) (2 : Int))) ++ (.mk (List.toArray [(58 : UInt8)]))) ++ (rwB (Int.tmod (IntKind.wrap .i64 (Int.tdiv s (60 : Int))) (60 : Int)) (2 : Int))) ++ (.mk (List.toArray [(58 : UInt8)]))) ++ (rwB (Int.tmod s (60 : Int)) (2 : Int))))) + 1) (9223372036854775807 : Nat)) then
 bif (Nat.ble ((List.length (ls ((((((((rdB d) ++ (.mk (List.toArray [(32 : UInt8)]))) ++ (rwB (IntKind.wrap .i64 (Int.tdiv s (3600 : Int))) (2 : Int))) ++ (.mk (List.toArray [(58 : UInt8)]))) ++ (rwB (Int.tmod (IntKind.wrap .i64 (Int.tdiv s (60 : Int))) (60 : Int)) (2 : Int))) ++ (.mk (List.toArray [(58 : UInt8)]))) ++ (rwB (Int.tmod s (60 : Int)) (2 : Int))) ++ (.mk (List.toArray [(32 : UInt8)]))))) + 1) (9223372036854775807 : Nat)) then
 bif (nB (IntKind.wrap .i64 (Int.tdiv z (60 : Int))) (2 : Int)) then
 bif (Nat.ble ((List.length (ls (((((((((rdB d) ++ (.mk (List.toArray [(32 : UInt8)]))) ++ (rwB (IntKind.wrap .i64 (Int.tdiv s (3600 : Int))) (2 : Int))) ++ (.mk (List.toArray [(58 : UInt8)]))) ++ (rwB (Int.tmod (IntKind.wrap .i64 (Int.tdiv s (60 : Int))) (60 : Int)) (2 : Int))) ++ (.mk (List.toArray [(58 : UInt8)]))) ++ (rwB (Int.tmod s (60 : Int)) (2 : Int))) ++ (.mk (List.toArray [(32 : UInt8)]))) ++ (.mk (List.toArray [(43 : UInt8)]))))) + (List.length (ls (rwB (IntKind.wrap .i64 (Int.tdiv z (60 : Int))) (2 : Int))))) (9223372036854775807 : Nat)) then
 bif (nB (Int.tmod z (60 : Int)) (2 : Int)) then
 bif (Nat.ble ((List.length (ls ((((((((((rdB d) ++ (.mk (List.toArray [(32 : UInt8)]))) ++ (rwB (IntKind.wrap .i64 (Int.tdiv s (3600 : Int))) (2 : Int))) ++ (.mk (List.toArray [(58 : UInt8)]))) ++ (rwB (Int.tmod (IntKind.wrap .i64 (Int.tdiv s (60 : Int))) (60 : Int)) (2 : Int))) ++ (.mk (List.toArray [(58 : UInt8)]))) ++ (rwB (Int.tmod s (60 : Int)) (2 : Int))) ++ (.mk (List.toArray [(32 : UInt8)]))) ++ (.mk (List.toArray [(43 : UInt8)]))) ++ (rwB (IntKind.wrap .i64 (Int.tdiv z (60 : Int))) (2 : Int))))) + (List.length (ls (rwB (Int.tmod z (60 : Int)) (2 : Int))))) (9223372036854775807 : Nat)) then
 true
 else false
 else false
 else false
 else false
 else false
 else false
 else false
 else false
 else false
 else false
 else false
 else false
 else false
 else false
 else false
 else false : Bool) := by
  kernel_rfl
end
end Go.Proofs.YtlngnfkjpfokhaaDoor.Ev

/- The document's times: whether one has a text; what a mail has. No condition. -/
namespace Go.Proofs.YtlngnfkjpfokhaaDoor.Ev
open Go Go.RowKit Go.Proofs Go.Proofs.YtlngnfkjpfokhaaDoor.Str
set_option linter.unusedVariables false
set_option linter.unusedSimpArgs false
section
variable {m : Int} {t : TypeId} {fr : Nat × Nat}
theorem rdtime_ok : PureOK Tryd.prog (GG m t fr) 46 dtimeG := by
  refine PureOK.of (fn_pure mixed E13_ok (envOf_cuts ..) (fn := Tryd.f46) (by kernel_rfl)) fun ps p hp => ?_
  unfold dtimeG at hp
  split at hp
  · rename_i d s z
    simp only [Tr.run, Option.some.injEq] at hp
    subst hp
    have hv := rwt_raw_v m t fr d s z
    have hcc := rwt_raw_c m t fr d s z
    unfold wtE
    cases c : rightB d s z with
    | false =>
      simp only [c, Bool.not_false, cond_true] at hv hcc
      exact ⟨_, Tr.run_vc hv hcc rfl rfl, PLe.tup (.cons (PLe.junk _) (.refl _))⟩
    | true =>
      have c' := c
      unfold rightB at c'
      simp only [Bool.and_eq_true] at c'
      obtain ⟨⟨c1, c2⟩, c3⟩ := c'
      have l1 := rd_len c1
      obtain ⟨n1, n2, n3⟩ := clock_facts c2
      obtain ⟨n4, n5⟩ := off_facts c3
      have r1 := rw_len n1
      have r2 := rw_len n2
      have r3 := rw_len n3
      simp only [c, Bool.not_true, cond_false] at hv
      simp only [c, c1, n1, n2, n3, Bool.not_true, cond_true, cond_false, ls_size, ByteArray.size_append, lit1] at hcc
      cases z0 : decide (z < 0) with
      | true =>
        obtain ⟨n6, n7⟩ := n4 (of_decide_eq_true z0)
        have r6 := rw_len n6
        have r7 := rw_len n7
        simp only [z0, n6, n7, cond_true] at hv hcc
        simp (disch := omega) only [bleM, cond_true, Bool.cond_self] at hcc
        cases c4 : (((ls (rdB d)).length : Nat) : Int) == 10 with
        | true =>
          simp only [c4, cond_true] at hv
          exact ⟨_, Tr.run_vc hv hcc rfl rfl, PLe.tup (.cons (PLe.junk _) (.refl _))⟩
        | false =>
          simp only [c4, cond_false] at hv
          exact ⟨_, Tr.run_vc hv hcc rfl rfl, PLe.tup (.cons (PLe.junk _) (.refl _))⟩
      | false =>
        obtain ⟨n6, n7⟩ := n5 (of_decide_eq_false z0)
        have r6 := rw_len n6
        have r7 := rw_len n7
        simp only [z0, n6, n7, cond_true, cond_false] at hv hcc
        simp (disch := omega) only [bleM, cond_true, Bool.cond_self] at hcc
        cases c4 : (((ls (rdB d)).length : Nat) : Int) == 10 with
        | true =>
          simp only [c4, cond_true] at hv
          exact ⟨_, Tr.run_vc hv hcc rfl rfl, PLe.tup (.cons (PLe.junk _) (.refl _))⟩
        | false =>
          simp only [c4, cond_false] at hv
          exact ⟨_, Tr.run_vc hv hcc rfl rfl, PLe.tup (.cons (PLe.junk _) (.refl _))⟩
  · cases hp
def boPure : List (Nat × (List PV → Tr PV)) := (46, dtimeG) :: bnPure
theorem boPure_ok {m : Int} {t : TypeId} {fr : Nat × Nat} : TabOK Tryd.prog (GG m t fr) boPure := (TabOK.cons rdtime_ok (fn := Tryd.f46) (by kernel_rfl) (by kernel_rfl) bnPure_ok)
noncomputable abbrev E14 (G : GT) : Env := envOf Tryd.prog G boPure biFull
theorem E14_ok : (E14 (GG m t fr)).ok Tryd.prog (GG m t fr) := envOf_ok mixed boPure_ok biFull_ok
theorem rfi_raw_v (m : Int) (t : TypeId) (fr : Nat × Nat) (f d s z : Int) (raw : ByteArray) : ((fnPure Tryd.prog (E14 (GG m t fr)) 60 Tryd.f34 (GG m t fr) [.lit (.int .u8 f), .agg [int d, int s, int z], str raw])).val =
 (bif (decide (f ≤ (31 : Int))) then
 bif ((wtE d s z) == (0 : Int)) then
 (.some (.lit (.bool (decide ((((ByteArray.size raw) : Nat) : Int) ≤ (65536 : Int))))))
 else (.some (.lit (.bool false)))
 else (.some (.lit (.bool false))) : Option PV) := by
  kernel_rfl
theorem rfi_raw_c (m : Int) (t : TypeId) (fr : Nat × Nat) (f d s z : Int) (raw : ByteArray) : ((fnPure Tryd.prog (E14 (GG m t fr)) 60 Tryd.f34 (GG m t fr) [.lit (.int .u8 f), .agg [int d, int s, int z], str raw])).conds =
 (bif (decide (f ≤ (31 : Int))) then
 bif ((wtE d s z) == (0 : Int)) then
 true
 else true
 else true : Bool) := by
  kernel_rfl
theorem rfine_ok : PureOK Tryd.prog (GG m t fr) 34 fineG := by
  refine PureOK.of (fn_pure mixed E14_ok (envOf_cuts ..) (fn := Tryd.f34) (by kernel_rfl)) fun ps p hp => ?_
  unfold fineG at hp
  split at hp
  · rename_i f d s z raw
    obtain ⟨hc, hq⟩ := br_run hp
    clear hp
    simp only [Tr.run, Option.some.injEq] at hq
    subst hq
    have hv := rfi_raw_v m t fr f d s z raw
    have hcc := rfi_raw_c m t fr f d s z raw
    have hw : (wtE d s z == 0) = rightB d s z := by
      unfold wtE
      cases rightB d s z <;> rfl
    have hr : decide ((((raw.size : Nat) : Int)) ≤ 65536) = decide (raw.size ≤ 65536) := decide_eq_decide.2 (by omega)
    rw [hw] at hv hcc
    rw [hr] at hv
    unfold fineB
    cases c1 : decide (f ≤ 31) <;> cases c2 : rightB d s z <;>
      (simp only [c1, c2, cond_true, cond_false] at hv hcc; exact ⟨_, Tr.run_vc hv hcc rfl rfl, PLe.of_eq (by simp)⟩)
  · cases hp
def bpPure : List (Nat × (List PV → Tr PV)) := (34, fineG) :: boPure
theorem bpPure_ok {m : Int} {t : TypeId} {fr : Nat × Nat} : TabOK Tryd.prog (GG m t fr) bpPure := (TabOK.cons rfine_ok (fn := Tryd.f34) (by kernel_rfl) (by kernel_rfl) boPure_ok)
noncomputable abbrev E15 (G : GT) : Env := envOf Tryd.prog G bpPure biFull
theorem E15_ok : (E15 (GG m t fr)).ok Tryd.prog (GG m t fr) := envOf_ok mixed bpPure_ok biFull_ok
end
end Go.Proofs.YtlngnfkjpfokhaaDoor.Ev
