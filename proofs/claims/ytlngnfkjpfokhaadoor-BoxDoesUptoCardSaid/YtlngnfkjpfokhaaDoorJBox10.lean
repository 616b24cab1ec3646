/- JBox10: several texts in one. Condition: each part's own. -/
import Derived.Test.YtlngnfkjpfokhaaDoorJBox09
/- The calendar, and the date layer's day as evaluated. No condition. -/
namespace Go.Proofs.YtlngnfkjpfokhaaDoor.Ev
open Go Go.RowKit Go.Proofs Go.Proofs.YtlngnfkjpfokhaaDoor.Str
set_option linter.unusedVariables false
set_option linter.unusedSimpArgs false
/-- leap, as 0 | 1 -/
def Cal.lp (y : Int) : Int := if y % 4 = 0 ∧ y % 100 ≠ 0 ∨ y % 400 = 0 then 1 else 0
def Cal.dim (y m : Int) : Int := if m = 2 then 28 + Cal.lp y else if m = 4 ∨ m = 6 ∨ m = 9 ∨ m = 11 then 30 else 31
def Cal.ahead (y : Int) : Int := 365 * (y - 1) + (y - 1) / 4 - (y - 1) / 100 + (y - 1) / 400
def Cal.cum (y m : Int) : Int :=
  if m ≤ 1 then 0 else if m = 2 then 31 else
  (if m = 3 then 59 else if m = 4 then 90 else if m = 5 then 120 else if m = 6 then 151 else if m = 7 then 181 else if m = 8 then 212 else if m = 9 then 243 else if m = 10 then 273 else if m = 11 then 304 else if m = 12 then 334 else 365) + Cal.lp y
def Cal.num (y m d : Int) : Int := Cal.ahead y + Cal.cum y m + d - 719163
def Cal.Vld (y m d : Int) : Prop := 1 ≤ m ∧ m ≤ 12 ∧ 1 ≤ d ∧ d ≤ Cal.dim y m

theorem Cal.lp01 (y : Int) : 0 ≤ Cal.lp y ∧ Cal.lp y ≤ 1 := by unfold Cal.lp; split <;> omega
theorem Cal.ahead_succ (y : Int) : Cal.ahead (y + 1) = Cal.ahead y + 365 + Cal.lp y := by
  unfold Cal.ahead Cal.lp; split <;> omega
theorem Cal.ahead_mono {a b : Int} (h : a ≤ b) : Cal.ahead a ≤ Cal.ahead b := by unfold Cal.ahead; omega
theorem Cal.cum_succ (y m : Int) (h1 : 1 ≤ m) (h2 : m ≤ 12) : Cal.cum y (m + 1) = Cal.cum y m + Cal.dim y m := by
  have := Cal.lp01 y
  obtain rfl | rfl | rfl | rfl | rfl | rfl | rfl | rfl | rfl | rfl | rfl | rfl : m = 1 ∨ m = 2 ∨ m = 3 ∨ m = 4 ∨ m = 5 ∨ m = 6 ∨ m = 7 ∨ m = 8 ∨ m = 9 ∨ m = 10 ∨ m = 11 ∨ m = 12 := by omega
  all_goals (simp [Cal.cum, Cal.dim]; try omega)
theorem Cal.dim_lo (y m : Int) : 28 ≤ Cal.dim y m ∧ Cal.dim y m ≤ 31 := by
  have := Cal.lp01 y; unfold Cal.dim; split <;> (try split) <;> omega
theorem Cal.cum_le (y m : Int) (h1 : 1 ≤ m) (h2 : m ≤ 12) : 0 ≤ Cal.cum y m ∧ Cal.cum y m + Cal.dim y m ≤ 365 + Cal.lp y := by
  have := Cal.lp01 y
  obtain rfl | rfl | rfl | rfl | rfl | rfl | rfl | rfl | rfl | rfl | rfl | rfl : m = 1 ∨ m = 2 ∨ m = 3 ∨ m = 4 ∨ m = 5 ∨ m = 6 ∨ m = 7 ∨ m = 8 ∨ m = 9 ∨ m = 10 ∨ m = 11 ∨ m = 12 := by omega
  all_goals (simp [Cal.cum, Cal.dim]; try omega)
theorem Cal.cum_lt (y m m' : Int) (h1 : 1 ≤ m) (h3 : m < m') (h2 : m' ≤ 12) : Cal.cum y m + Cal.dim y m ≤ Cal.cum y m' := by
  have := Cal.lp01 y
  obtain rfl | rfl | rfl | rfl | rfl | rfl | rfl | rfl | rfl | rfl | rfl : m = 1 ∨ m = 2 ∨ m = 3 ∨ m = 4 ∨ m = 5 ∨ m = 6 ∨ m = 7 ∨ m = 8 ∨ m = 9 ∨ m = 10 ∨ m = 11 := by omega
  all_goals
    obtain rfl | rfl | rfl | rfl | rfl | rfl | rfl | rfl | rfl | rfl | rfl : m' = 2 ∨ m' = 3 ∨ m' = 4 ∨ m' = 5 ∨ m' = 6 ∨ m' = 7 ∨ m' = 8 ∨ m' = 9 ∨ m' = 10 ∨ m' = 11 ∨ m' = 12 := by omega
    all_goals first | (exfalso; omega) | (simp [Cal.cum, Cal.dim]; try omega)
/-- two right days of one number are one -/
theorem Cal.inj {y m d y' m' d' : Int} (v : Cal.Vld y m d) (v' : Cal.Vld y' m' d') (h : Cal.num y m d = Cal.num y' m' d') : y = y' ∧ m = m' ∧ d = d' := by
  obtain ⟨a1, a2, a3, a4⟩ := v
  obtain ⟨b1, b2, b3, b4⟩ := v'
  have c1 := Cal.cum_le y m a1 a2
  have c2 := Cal.cum_le y' m' b1 b2
  unfold Cal.num at h
  have hy : y = y' := by
    have s1 := Cal.ahead_succ y
    have s2 := Cal.ahead_succ y'
    by_cases e : y = y'
    · exact e
    · exfalso
      rcases Int.lt_or_gt_of_ne e with g | g
      · have := Cal.ahead_mono (show y + 1 ≤ y' by omega); omega
      · have := Cal.ahead_mono (show y' + 1 ≤ y by omega); omega
  subst hy
  have hm : m = m' := by
    by_cases e : m = m'
    · exact e
    · exfalso
      rcases Int.lt_or_gt_of_ne e with g | g
      · have := Cal.cum_lt y m m' a1 g b2; omega
      · have := Cal.cum_lt y m' m b1 g a2; omega
  subst hm
  exact ⟨rfl, rfl, by omega⟩
theorem Cal.ahead_le (y : Int) (h1 : 1 ≤ y) (h2 : y ≤ 10000) : 0 ≤ Cal.ahead y ∧ Cal.ahead y ≤ 3652059 := by
  unfold Cal.ahead; omega

/-- the code's own way to a number: years that begin in March -/
def Cal.march (y m d : Int) : Int :=
  (y / 400) * 146097 + (y - y / 400 * 400) * 365 + (y - y / 400 * 400) / 4 - (y - y / 400 * 400) / 100 + ((153 * ((m + 9) % 12) + 2) / 5 + d - 1) - 719468
theorem Cal.march_num (y m d : Int) (h1 : 1 ≤ m) (h2 : m ≤ 12) : Cal.march (if m ≤ 2 then y - 1 else y) m d = Cal.num y m d := by
  obtain rfl | rfl | rfl | rfl | rfl | rfl | rfl | rfl | rfl | rfl | rfl | rfl : m = 1 ∨ m = 2 ∨ m = 3 ∨ m = 4 ∨ m = 5 ∨ m = 6 ∨ m = 7 ∨ m = 8 ∨ m = 9 ∨ m = 10 ∨ m = 11 ∨ m = 12 := by omega
  all_goals (simp [Cal.march, Cal.num, Cal.cum, Cal.ahead, Cal.lp]; try split) <;> omega

/-- the code's own way back -/
theorem Cal.civ_year (day year : Int) (h0 : 0 ≤ day) (h1 : day ≤ 146096)
    (hyear : year = (day - day / 1460 + day / 36524 - day / 146096) / 365) :
    0 ≤ year ∧ year ≤ 399 ∧ 365 * year + year / 4 - year / 100 ≤ day ∧ day ≤ 365 * year + year / 4 - year / 100 + 364 + (if (year + 1) % 4 = 0 ∧ ((year + 1) % 100 ≠ 0 ∨ (year + 1) % 400 = 0) then 1 else 0) := by
  have hd : day / 146096 = if day = 146096 then 1 else 0 := by split <;> omega
  by_cases hl : day = 146096
  · subst hl; simp at hyear; subst hyear; decide
  · rw [if_neg hl] at hd
    have hc : day / 36524 = 0 ∨ day / 36524 = 1 ∨ day / 36524 = 2 ∨ day / 36524 = 3 := by omega
    rw [hd] at hyear
    have e4 : year / 100 = day / 36524 := by
      rcases hc with hc | hc | hc | hc <;> (rw [hc] at hyear ⊢; omega)
    rw [e4]
    have hb : 0 ≤ year ∧ year ≤ 399 := by omega
    refine ⟨hb.1, hb.2, ?_, ?_⟩
    · rcases hc with hc | hc | hc | hc <;> (rw [hc] at hyear ⊢; omega)
    · have h4 : year % 4 = 0 ∨ year % 4 = 1 ∨ year % 4 = 2 ∨ year % 4 = 3 := by omega
      rcases hc with hc | hc | hc | hc <;> (rw [hc] at hyear e4 ⊢; rcases h4 with h4 | h4 | h4 | h4 <;> (have : day / 1460 ≤ year / 4 ∨ year / 4 + 1 ≤ day / 1460 := by omega) <;> rcases this with g | g <;> split <;> omega)
theorem Cal.lp_400 (y e : Int) : Cal.lp (y + e * 400) = Cal.lp y := by
  unfold Cal.lp
  have h1 : (y + e * 400) % 4 = y % 4 := by omega
  have h2 : (y + e * 400) % 100 = y % 100 := by omega
  have h3 : (y + e * 400) % 400 = y % 400 := by omega
  rw [h1, h2, h3]
/-- what the code comes to is a right day, whose number is this one -/
theorem Cal.civ (n N e day year inYear mp : Int) (hN : N = n + 719468) (_h0 : 0 ≤ N) (he : e = N / 146097) (hday : day = N - e * 146097)
    (hyear : year = (day - day / 1460 + day / 36524 - day / 146096) / 365) (hin : inYear = day - (365 * year + year / 4 - year / 100)) (hmp : mp = (5 * inYear + 2) / 153) :
    0 ≤ mp ∧ mp ≤ 11 ∧ 0 ≤ inYear ∧ inYear ≤ 365 ∧ 0 ≤ year ∧ year ≤ 399 ∧
    (mp + 3 > 12 → Cal.Vld (year + e * 400 + 1) (mp + 3 - 12) (inYear - (153 * mp + 2) / 5 + 1) ∧ Cal.num (year + e * 400 + 1) (mp + 3 - 12) (inYear - (153 * mp + 2) / 5 + 1) = n) ∧
    (¬ mp + 3 > 12 → Cal.Vld (year + e * 400) (mp + 3) (inYear - (153 * mp + 2) / 5 + 1) ∧ Cal.num (year + e * 400) (mp + 3) (inYear - (153 * mp + 2) / 5 + 1) = n) := by
  have hd0 : 0 ≤ day ∧ day ≤ 146096 := by omega
  obtain ⟨y0, y1, lo, hi⟩ := Cal.civ_year day year hd0.1 hd0.2 hyear
  have hi0 : 0 ≤ inYear := by omega
  have hi1 : inYear ≤ 365 := by rw [hin]; revert hi; split <;> omega
  have hmp0 : 0 ≤ mp ∧ mp ≤ 11 := by omega
  have num_of : ∀ y m, 1 ≤ m → m ≤ 12 → (if m ≤ 2 then y - 1 else y) = year + e * 400 → (m + 9) % 12 = mp → Cal.num y m (inYear - (153 * mp + 2) / 5 + 1) = n := by
    intro y m a b c d
    rw [← Cal.march_num y m _ a b, c]
    unfold Cal.march
    rw [d]
    have k1 : (year + e * 400) / 400 = e := by omega
    rw [k1]
    have k2 : year + e * 400 - e * 400 = year := by omega
    rw [k2]
    omega
  refine ⟨hmp0.1, hmp0.2, hi0, hi1, y0, y1, fun g => ?_, fun g => ?_⟩
  · refine ⟨⟨by omega, by omega, by omega, ?_⟩, num_of _ _ (by omega) (by omega) (by rw [if_pos (by omega)]; omega) (by omega)⟩
    have hc : mp = 10 ∨ mp = 11 := by omega
    rcases hc with rfl | rfl
    · simp [Cal.dim]; omega
    · have e1 : Cal.lp (year + e * 400 + 1) = Cal.lp (year + 1) := by rw [show year + e * 400 + 1 = (year + 1) + e * 400 by omega, Cal.lp_400]
      simp only [Cal.dim, e1]
      unfold Cal.lp
      revert hi
      split <;> split <;> simp <;> omega
  · refine ⟨⟨by omega, by omega, by omega, ?_⟩, num_of _ _ (by omega) (by omega) (by rw [if_neg (by omega)]) (by omega)⟩
    have hc : mp = 0 ∨ mp = 1 ∨ mp = 2 ∨ mp = 3 ∨ mp = 4 ∨ mp = 5 ∨ mp = 6 ∨ mp = 7 ∨ mp = 8 ∨ mp = 9 := by omega
    rcases hc with rfl | rfl | rfl | rfl | rfl | rfl | rfl | rfl | rfl | rfl <;> (simp [Cal.dim]; omega)

theorem td {a : Int} (b : Int) (h : 0 ≤ a) : Int.tdiv a b = a / b := Int.tdiv_eq_ediv_of_nonneg h
theorem tm {a : Int} (b : Int) (h : 0 ≤ a) : Int.tmod a b = a % b := Int.tmod_eq_emod_of_nonneg h
noncomputable abbrev E1 (G : GT) : Env := envOf Tryd.prog G libPure libFull
def cvE (d : Int) : Int := (d + 719468) / 146097
def cvDay (d : Int) : Int := (d + 719468) - cvE d * 146097
def cvYr (d : Int) : Int := (cvDay d - cvDay d / 1460 + cvDay d / 36524 - cvDay d / 146096) / 365
def cvIn (d : Int) : Int := cvDay d - (365 * cvYr d + cvYr d / 4 - cvYr d / 100)
def cvMp (d : Int) : Int := (5 * cvIn d + 2) / 153
def cvY (d : Int) : Int := bif decide (cvMp d + 3 > 12) then cvYr d + cvE d * 400 + 1 else cvYr d + cvE d * 400
def cvM (d : Int) : Int := bif decide (cvMp d + 3 > 12) then cvMp d + 3 - 12 else cvMp d + 3
def cvD (d : Int) : Int := cvIn d - (153 * cvMp d + 2) / 5 + 1
def dayB (d : Int) : Bool := decide (-719162 ≤ d) && decide (d ≤ 2932896)
theorem cv_at {d : Int} (h : dayB d = true) : 0 ≤ cvY d ∧ cvY d ≤ 20000 ∧ 1 ≤ cvM d ∧ cvM d ≤ 12 ∧ 1 ≤ cvD d ∧ cvD d ≤ 31 := by
  unfold dayB at h
  simp only [Bool.and_eq_true, decide_eq_true_eq] at h
  obtain ⟨k1, k2, k3, k4, k5, k6, kg, kl⟩ := Cal.civ d (d + 719468) (cvE d) (cvDay d) (cvYr d) (cvIn d) (cvMp d) rfl (by omega) rfl rfl rfl rfl rfl
  have he : 0 ≤ cvE d ∧ cvE d ≤ 25 := by unfold cvE; omega
  have hd : ∀ y m, Cal.Vld y m (cvD d) → 1 ≤ cvD d ∧ cvD d ≤ 31 := fun y m hv => ⟨hv.2.2.1, Int.le_trans hv.2.2.2 (Cal.dim_lo y m).2⟩
  unfold cvY cvM
  by_cases g : cvMp d + 3 > 12
  · rw [decide_eq_true g]
    simp only [cond_true]
    obtain ⟨a, b⟩ := hd _ _ (kg g).1
    omega
  · rw [decide_eq_false g]
    simp only [cond_false]
    obtain ⟨a, b⟩ := hd _ _ (kl g).1
    omega
section
variable {m : Int} {t : TypeId} {fr : Nat × Nat}
theorem E1_ok : (E1 (GG m t fr)).ok Tryd.prog (GG m t fr) := envOf_ok mixed libPure_ok libFull_ok
theorem cv_raw_v (m : Int) (t : TypeId) (fr : Nat × Nat) (d : Int) : ((fnPure Tryd.prog (E1 (GG m t fr)) 60 Tryd.f66 (GG m t fr) [int d])).val =
 (bif (decide ((IntKind.wrap .i64 ((IntKind.wrap .i64 (Int.tdiv (IntKind.wrap .i64 ((IntKind.wrap .i64 ((5 : Int) * (IntKind.wrap .i64 ((IntKind.wrap .i64 ((IntKind.wrap .i64 (d + (719468 : Int))) - (IntKind.wrap .i64 ((IntKind.wrap .i64 (Int.tdiv (IntKind.wrap .i64 (d + (719468 : Int))) (146097 : Int))) * (146097 : Int))))) - (IntKind.wrap .i64 ((IntKind.wrap .i64 ((IntKind.wrap .i64 ((365 : Int) * (IntKind.wrap .i64 (Int.tdiv (IntKind.wrap .i64 ((IntKind.wrap .i64 ((IntKind.wrap .i64 ((IntKind.wrap .i64 ((IntKind.wrap .i64 (d + (719468 : Int))) - (IntKind.wrap .i64 ((IntKind.wrap .i64 (Int.tdiv (IntKind.wrap .i64 (d + (719468 : Int))) (146097 : Int))) * (146097 : Int))))) - (IntKind.wrap .i64 (Int.tdiv (IntKind.wrap .i64 ((IntKind.wrap .i64 (d + (719468 : Int))) - (IntKind.wrap .i64 ((IntKind.wrap .i64 (Int.tdiv (IntKind.wrap .i64 (d + (719468 : Int))) (146097 : Int))) * (146097 : Int))))) (1460 : Int))))) + (IntKind.wrap .i64 (Int.tdiv (IntKind.wrap .i64 ((IntKind.wrap .i64 (d + (719468 : Int))) - (IntKind.wrap .i64 ((IntKind.wrap .i64 (Int.tdiv (IntKind.wrap .i64 (d + (719468 : Int))) (146097 : Int))) * (146097 : Int))))) (36524 : Int))))) - (IntKind.wrap .i64 (Int.tdiv (IntKind.wrap .i64 ((IntKind.wrap .i64 (d + (719468 : Int))) - (IntKind.wrap .i64 ((IntKind.wrap .i64 (Int.tdiv (IntKind.wrap .i64 (d + (719468 : Int))) (146097 : Int))) * (146097 : Int))))) (146096 : Int))))) (365 : Int))))) + (IntKind.wrap .i64 (Int.tdiv (IntKind.wrap .i64 (Int.tdiv (IntKind.wrap .i64 ((IntKind.wrap .i64 ((IntKind.wrap .i64 ((IntKind.wrap .i64 ((IntKind.wrap .i64 (d + (719468 : Int))) - (IntKind.wrap .i64 ((IntKind.wrap .i64 (Int.tdiv (IntKind.wrap .i64 (d + (719468 : Int))) (146097 : Int))) * (146097 : Int))))) - (IntKind.wrap .i64 (Int.tdiv (IntKind.wrap .i64 ((IntKind.wrap .i64 (d + (719468 : Int))) - (IntKind.wrap .i64 ((IntKind.wrap .i64 (Int.tdiv (IntKind.wrap .i64 (d + (719468 : Int))) (146097 : Int))) * (146097 : Int))))) (1460 : Int))))) + (IntKind.wrap .i64 (Int.tdiv (IntKind.wrap .i64 ((IntKind.wrap .i64 (d + (719468 : Int))) - (IntKind.wrap .i64 ((IntKind.wrap .i64 (Int.tdiv (IntKind.wrap .i64 (d + (719468 : Int))) (146097 : Int))) * (146097 : Int))))) (36524 : Int))))) - (IntKind.wrap .i64 (Int.tdiv (IntKind.wrap .i64 ((IntKind.wrap .i64 (d + (719468 : Int))) - (IntKind.wrap .i64 ((IntKind.wrap .i64 (Int.tdiv (IntKind.wrap .i64 (d + (719468 : Int))) (146097 : Int))) * (146097 : Int))))) (146096 : Int))))) (365 : Int))) (4 : Int))))) - (IntKind.wrap .i64 (Int.tdiv (IntKind.wrap .i64 (Int.tdiv (IntKind.wrap .i64 ((IntKind.wrap .i64 ((IntKind.wrap .i64 ((IntKind.wrap .i64 ((IntKind.wrap .i64 (d + (719468 : Int))) - (IntKind.wrap .i64 ((IntKind.wrap .i64 (Int.tdiv (IntKind.wrap .i64 (d + (719468 : Int))) (146097 : Int))) * (146097 : Int))))) - (IntKind.wrap .i64 (Int.tdiv (IntKind.wrap .i64 ((IntKind.wrap .i64 (d + (719468 : Int))) - (IntKind.wrap .i64 ((IntKind.wrap .i64 (Int.tdiv (IntKind.wrap .i64 (d + (719468 : Int))) (146097 : Int))) * (146097 : Int))))) (1460 : Int))))) + (IntKind.wrap .i64 (Int.tdiv (IntKind.wrap .i64 ((IntKind.wrap .i64 (d + (719468 : Int))) - (IntKind.wrap .i64 ((IntKind.wrap .i64 (Int.tdiv (IntKind.wrap .i64 (d + (719468 : Int))) (146097 : Int))) * (146097 : Int))))) (36524 : Int))))) - (IntKind.wrap .i64 (Int.tdiv (IntKind.wrap .i64 ((IntKind.wrap .i64 (d + (719468 : Int))) - (IntKind.wrap .i64 ((IntKind.wrap .i64 (Int.tdiv (IntKind.wrap .i64 (d + (719468 : Int))) (146097 : Int))) * (146097 : Int))))) (146096 : Int))))) (365 : Int))) (100 : Int))))))))) + (2 : Int))) (153 : Int))) + (3 : Int))) > (12 : Int))) then
 (.some (.tup [(.lit (.int .i64 (IntKind.wrap .i64 ((IntKind.wrap .i64 ((IntKind.wrap .i64 (Int.tdiv (IntKind.wrap .i64 ((IntKind.wrap .i64 ((IntKind.wrap .i64 ((IntKind.wrap .i64 ((IntKind.wrap .i64 (d + (719468 : Int))) - (IntKind.wrap .i64 ((IntKind.wrap .i64 (Int.tdiv (IntKind.wrap .i64 (d + (719468 : Int))) (146097 : Int))) * (146097 : Int))))) - (IntKind.wrap .i64 (Int.tdiv (IntKind.wrap .i64 ((IntKind.wrap .i64 (d + (719468 : Int))) - (IntKind.wrap .i64 ((IntKind.wrap .i64 (Int.tdiv (IntKind.wrap .i64 (d + (719468 : Int))) (146097 : Int))) * (146097 : Int))))) (1460 : Int))))) + (IntKind.wrap .i64 (Int.tdiv (IntKind.wrap .i64 ((IntKind.wrap .i64 (d + (719468 : Int))) - (IntKind.wrap .i64 ((IntKind.wrap .i64 (Int.tdiv (IntKind.wrap .i64 (d + (719468 : Int))) (146097 : Int))) * (146097 : Int))))) (36524 : Int))))) - (IntKind.wrap .i64 (Int.tdiv (IntKind.wrap .i64 ((IntKind.wrap .i64 (d + (719468 : Int))) - (IntKind.wrap .i64 ((IntKind.wrap .i64 (Int.tdiv (IntKind.wrap .i64 (d + (719468 : Int))) (146097 : Int))) * (146097 : Int))))) (146096 : Int))))) (365 : Int))) + (IntKind.wrap .i64 ((IntKind.wrap .i64 (Int.tdiv (IntKind.wrap .i64 (d + (719468 : Int))) (146097 : Int))) * (400 : Int))))) + (1 : Int))))), (.lit (.int .i64 (IntKind.wrap .i64 ((IntKind.wrap .i64 ((IntKind.wrap .i64 (Int.tdiv (IntKind.wrap .i64 ((IntKind.wrap .i64 ((5 : Int) * (IntKind.wrap .i64 ((IntKind.wrap .i64 ((IntKind.wrap .i64 (d + (719468 : Int))) - (IntKind.wrap .i64 ((IntKind.wrap .i64 (Int.tdiv (IntKind.wrap .i64 (d + (719468 : Int))) (146097 : Int))) * (146097 : Int))))) - (IntKind.wrap .i64 ((IntKind.wrap .i64 ((IntKind.wrap .i64 ((365 : Int) * (IntKind.wrap .i64 (Int.tdiv (IntKind.wrap .i64 ((IntKind.wrap .i64 ((IntKind.wrap .i64 ((IntKind.wrap .i64 ((IntKind.wrap .i64 (d + (719468 : Int))) - (IntKind.wrap .i64 ((IntKind.wrap .i64 (Int.tdiv (IntKind.wrap .i64 (d + (719468 : Int))) (146097 : Int))) * (146097 : Int))))) - (IntKind.wrap .i64 (Int.tdiv (IntKind.wrap .i64 ((IntKind.wrap .i64 (d + (719468 : Int))) - (IntKind.wrap .i64 ((IntKind.wrap .i64 (Int.tdiv (IntKind.wrap .i64 (d + (719468 : Int))) (146097 : Int))) * (146097 : Int))))) (1460 : Int))))) + (IntKind.wrap .i64 (Int.tdiv (IntKind.wrap .i64 ((IntKind.wrap .i64 (d + (719468 : Int))) - (IntKind.wrap .i64 ((IntKind.wrap .i64 (Int.tdiv (IntKind.wrap .i64 (d + (719468 : Int))) (146097 : Int))) * (146097 : Int))))) (36524 : Int))))) - (IntKind.wrap .i64 (Int.tdiv (IntKind.wrap .i64 ((IntKind.wrap .i64 (d + (719468 : Int))) - (IntKind.wrap .i64 ((IntKind.wrap .i64 (Int.tdiv (IntKind.wrap .i64 (d + (719468 : Int))) (146097 : Int))) * (146097 : Int))))) (146096 : Int))))) (365 : Int))))) + (IntKind.wrap .i64 (Int.tdiv (IntKind.wrap .i64 (Int.tdiv (IntKind.wrap .i64 ((IntKind.wrap .i64 ((IntKind.wrap .i64 ((IntKind.wrap .i64 ((IntKind.wrap .i64 (d + (719468 : Int))) - (IntKind.wrap .i64 ((IntKind.wrap .i64 (Int.tdiv (IntKind.wrap .i64 (d + (719468 : Int))) (146097 : Int))) * (146097 : Int))))) - (IntKind.wrap .i64 (Int.tdiv (IntKind.wrap .i64 ((IntKind.wrap .i64 (d + (719468 : Int))) - (IntKind.wrap .i64 ((IntKind.wrap .i64 (Int.tdiv (IntKind.wrap .i64 (d + (719468 : Int))) (146097 : Int))) * (146097 : Int))))) (1460 : Int))))) + (IntKind.wrap .i64 (Int.tdiv (IntKind.wrap .i64 ((IntKind.wrap .i64 (d + (719468 : Int))) - (IntKind.wrap .i64 ((IntKind.wrap .i64 (Int.tdiv (IntKind.wrap .i64 (d + (719468 : Int))) (146097 : Int))) * (146097 : Int))))) (36524 : Int))))) - (IntKind.wrap .i64 (Int.tdiv (IntKind.wrap .i64 ((IntKind.wrap .i64 (d + (719468 : Int))) - (IntKind.wrap .i64 ((IntKind.wrap .i64 (Int.tdiv (IntKind.wrap .i64 (d + (719468 : Int))) (146097 : Int))) * (146097 : Int))))) (146096 : Int))))) (365 : Int))) (4 : Int))))) - (IntKind.wrap .i64 (Int.tdiv (IntKind.wrap .i64 (Int.tdiv (IntKind.wrap .i64 ((IntKind.wrap .i64 ((IntKind.wrap .i64 ((IntKind.wrap .i64 ((IntKind.wrap .i64 (d + (719468 : Int))) - (IntKind.wrap .i64 ((IntKind.wrap .i64 (Int.tdiv (IntKind.wrap .i64 (d + (719468 : Int))) (146097 : Int))) * (146097 : Int))))) - (IntKind.wrap .i64 (Int.tdiv (IntKind.wrap .i64 ((IntKind.wrap .i64 (d + (719468 : Int))) - (IntKind.wrap .i64 ((IntKind.wrap .i64 (Int.tdiv (IntKind.wrap .i64 (d + (719468 : Int))) (146097 : Int))) * (146097 : Int))))) (1460 : Int))))) + (IntKind.wrap .i64 (Int.tdiv (IntKind.wrap .i64 ((IntKind.wrap .i64 (d + (719468 : Int))) - (IntKind.wrap .i64 ((IntKind.wrap .i64 (Int.tdiv (IntKind.wrap .i64 (d + (719468 : Int))) (146097 : Int))) * (146097 : Int))))) (36524 : Int))))) - (IntKind.wrap .i64 (Int.tdiv (IntKind.wrap .i64 ((IntKind.wrap .i64 (d + (719468 : Int))) - (IntKind.wrap .i64 ((IntKind.wrap .i64 (Int.tdiv (IntKind.wrap .i64 (d + (719468 : Int))) (146097 : Int))) * (146097 : Int))))) (146096 : Int))))) (365 : Int))) (100 : Int))))))))) + (2 : Int))) (153 : Int))) + (3 : Int))) - (12 : Int))))), (.lit (.int .i64 (IntKind.wrap .i64 ((IntKind.wrap .i64 ((IntKind.wrap .i64 ((IntKind.wrap .i64 ((IntKind.wrap .i64 (d + (719468 : Int))) - (IntKind.wrap .i64 ((IntKind.wrap .i64 (Int.tdiv (IntKind.wrap .i64 (d + (719468 : Int))) (146097 : Int))) * (146097 : Int))))) - (IntKind.wrap .i64 ((IntKind.wrap .i64 ((IntKind.wrap .i64 ((365 : Int) * (IntKind.wrap .i64 (Int.tdiv (IntKind.wrap .i64 ((IntKind.wrap .i64 ((IntKind.wrap .i64 ((IntKind.wrap .i64 ((IntKind.wrap .i64 (d + (719468 : Int))) - (IntKind.wrap .i64 ((IntKind.wrap .i64 (Int.tdiv (IntKind.wrap .i64 (d + (719468 : Int))) (146097 : Int))) * (146097 : Int))))) - (IntKind.wrap .i64 (Int.tdiv (IntKind.wrap .i64 ((IntKind.wrap .i64 (d + (719468 : Int))) - (IntKind.wrap .i64 ((IntKind.wrap .i64 (Int.tdiv (IntKind.wrap .i64 (d + (719468 : Int))) (146097 : Int))) * (146097 : Int))))) (1460 : Int))))) + (IntKind.wrap .i64 (Int.tdiv (IntKind.wrap .i64 ((IntKind.wrap .i64 (d + (719468 : Int))) - (IntKind.wrap .i64 ((IntKind.wrap .i64 (Int.tdiv (IntKind.wrap .i64 (d + (719468 : Int))) (146097 : Int))) * (146097 : Int))))) (36524 : Int))))) - (IntKind.wrap .i64 (Int.tdiv (IntKind.wrap .i64 ((IntKind.wrap .i64 (d + (719468 : Int))) - (IntKind.wrap .i64 ((IntKind.wrap .i64 (Int.tdiv (IntKind.wrap .i64 (d + (719468 : Int))) (146097 : Int))) * (146097 : Int))))) (146096 : Int))))) (365 : Int))))) + (IntKind.wrap .i64 (Int.tdiv (IntKind.wrap .i64 (Int.tdiv (IntKind.wrap .i64 ((IntKind.wrap .i64 ((IntKind.wrap .i64 ((IntKind.wrap .i64 ((IntKind.wrap .i64 (d + (719468 : Int))) - (IntKind.wrap .i64 ((IntKind.wrap .i64 (Int.tdiv (IntKind.wrap .i64 (d + (719468 : Int))) (146097 : Int))) * (146097 : Int))))) - (IntKind.wrap .i64 (Int.tdiv (IntKind.wrap .i64 ((IntKind.wrap .i64 (d + (719468 : Int))) - (IntKind.wrap .i64 ((IntKind.wrap .i64 (Int.tdiv (IntKind.wrap .i64 (d + (719468 : Int))) (146097 : Int))) * (146097 : Int))))) (1460 : Int))))) + (IntKind.wrap .i64 (Int.tdiv (IntKind.wrap .i64 ((IntKind.wrap .i64 (d + (719468 : Int))) - (IntKind.wrap .i64 ((IntKind.wrap .i64 (Int.tdiv (IntKind.wrap .i64 (d + (719468 : Int))) (146097 : Int))) * (146097 : Int))))) (36524 : Int))))) - (IntKind.wrap .i64 (Int.tdiv (IntKind.wrap .i64 ((IntKind.wrap .i64 (d + (719468 : Int))) - (IntKind.wrap .i64 ((IntKind.wrap .i64 (Int.tdiv (IntKind.wrap .i64 (d + (719468 : Int))) (146097 : Int))) * (146097 : Int))))) (146096 : Int))))) (365 : Int))) (4 : Int))))) - (IntKind.wrap .i64 (Int.tdiv (IntKind.wrap .i64 (Int.tdiv (IntKind.wrap .i64 ((IntKind.wrap .i64 ((IntKind.wrap .i64 ((IntKind.wrap .i64 ((IntKind.wrap .i64 (d + (719468 : Int))) - (IntKind.wrap .i64 ((IntKind.wrap .i64 (Int.tdiv (IntKind.wrap .i64 (d + (719468 : Int))) (146097 : Int))) * (146097 : Int))))) - (IntKind.wrap .i64 (Int.tdiv (IntKind.wrap .i64 ((IntKind.wrap .i64 (d + (719468 : Int))) - (IntKind.wrap .i64 ((IntKind.wrap .i64 (Int.tdiv (IntKind.wrap .i64 (d + (719468 : Int))) (146097 : Int))) * (146097 : Int))))) (1460 : Int))))) + (IntKind.wrap .i64 (Int.tdiv (IntKind.wrap .i64 ((IntKind.wrap .i64 (d + (719468 : Int))) - (IntKind.wrap .i64 ((IntKind.wrap .i64 (Int.tdiv (IntKind.wrap .i64 (d + (719468 : Int))) (146097 : Int))) * (146097 : Int))))) (36524 : Int))))) - (IntKind.wrap .i64 (Int.tdiv (IntKind.wrap .i64 ((IntKind.wrap .i64 (d + (719468 : Int))) - (IntKind.wrap .i64 ((IntKind.wrap .i64 (Int.tdiv (IntKind.wrap .i64 (d + (719468 : Int))) (146097 : Int))) * (146097 : Int))))) (146096 : Int))))) (365 : Int))) (100 : Int))))))) - (IntKind.wrap .i64 (Int.tdiv (IntKind.wrap .i64 ((IntKind.wrap .i64 ((153 : Int) * (IntKind.wrap .i64 (Int.tdiv (IntKind.wrap .i64 ((IntKind.wrap .i64 ((5 : Int) * (IntKind.wrap .i64 ((IntKind.wrap .i64 ((IntKind.wrap .i64 (d + (719468 : Int))) - (IntKind.wrap .i64 ((IntKind.wrap .i64 (Int.tdiv (IntKind.wrap .i64 (d + (719468 : Int))) (146097 : Int))) * (146097 : Int))))) - (IntKind.wrap .i64 ((IntKind.wrap .i64 ((IntKind.wrap .i64 ((365 : Int) * (IntKind.wrap .i64 (Int.tdiv (IntKind.wrap .i64 ((IntKind.wrap .i64 ((IntKind.wrap .i64 ((IntKind.wrap .i64 ((IntKind.wrap .i64 (d + (719468 : Int))) - (IntKind.wrap .i64 ((IntKind.wrap .i64 (Int.tdiv (IntKind.wrap .i64 (d + (719468 : Int))) (146097 : Int))) * (146097 : Int))))) - (IntKind.wrap .i64 (Int.tdiv (IntKind.wrap .i64 ((IntKind.wrap .i64 (d + (719468 : Int))) - (IntKind.wrap .i64 ((IntKind.wrap .i64 (Int.tdiv (IntKind.wrap .i64 (d + (719468 : Int))) (146097 : Int))) * (146097 : Int))))) (1460 : Int))))) + (IntKind.wrap .i64 (Int.tdiv (IntKind.wrap .i64 ((IntKind.wrap .i64 (d + (719468 : Int))) - (IntKind.wrap .i64 ((IntKind.wrap .i64 (Int.tdiv (IntKind.wrap .i64 (d + (719468 : Int))) (146097 : Int))) * (146097 : Int))))) (36524 : Int))))) - (IntKind.wrap .i64 (Int.tdiv (IntKind.wrap .i64 ((IntKind.wrap .i64 (d + (719468 : Int))) - (IntKind.wrap .i64 ((IntKind.wrap .i64 (Int.tdiv (IntKind.wrap .i64 (d + (719468 : Int))) (146097 : Int))) * (146097 : Int))))) (146096 : Int))))) (365 : Int))))) + (IntKind.wrap .i64 (Int.tdiv (IntKind.wrap .i64 (Int.tdiv (IntKind.wrap .i64 ((IntKind.wrap .i64 ((IntKind.wrap .i64 ((IntKind.wrap .i64 ((IntKind.wrap .i64 (d + (719468 : Int))) - (IntKind.wrap .i64 ((IntKind.wrap .i64 (Int.tdiv (IntKind.wrap .i64 (d + (719468 : Int))) (146097 : Int))) * (146097 : Int))))) - (IntKind.wrap .i64 (Int.tdiv (IntKind.wrap .i64 ((IntKind.wrap .i64 (d + (719468 : Int))) - (IntKind.wrap .i64 ((IntKind.wrap .i64 (Int.tdiv (IntKind.wrap .i64 (d + (719468 : Int))) (146097 : Int))) * (146097 : Int))))) (1460 : Int))))) + (IntKind.wrap .i64 (Int.tdiv (IntKind.wrap .i64 ((IntKind.wrap .i64 (d + (719468 : Int))) - (IntKind.wrap .i64 ((IntKind.wrap .i64 (Int.tdiv (IntKind.wrap .i64 (d + (719468 : Int))) (146097 : Int))) * (146097 : Int))))) (36524 : Int))))) - (IntKind.wrap .i64 (Int.tdiv (IntKind.wrap .i64 ((IntKind.wrap .i64 (d + (719468 : Int))) - (IntKind.wrap .i64 ((IntKind.wrap .i64 (Int.tdiv (IntKind.wrap .i64 (d + (719468 : Int))) (146097 : Int))) * (146097 : Int))))) (146096 : Int))))) (365 : Int))) (4 : Int))))) - (IntKind.wrap .i64 (Int.tdiv (IntKind.wrap .i64 (Int.tdiv (IntKind.wrap .i64 ((IntKind.wrap .i64 ((IntKind.wrap .i64 ((IntKind.wrap .i64 ((IntKind.wrap .i64 (d + (719468 : Int))) - (IntKind.wrap .i64 ((IntKind.wrap .i64 (Int.tdiv (IntKind.wrap .i64 (d + (719468 : Int))) (146097 : Int))) * (146097 : Int))))) - (IntKind.wrap .i64 (Int.tdiv (IntKind.wrap .i64 ((IntKind.wrap .i64 (d + (719468 : Int))) - (IntKind.wrap .i64 ((IntKind.wrap .i64 (Int.tdiv (IntKind.wrap .i64 (d + (719468 : Int))) (146097 : Int))) * (146097 : Int))))) (1460 : Int))))) + (IntKind.wrap .i64 (Int.tdiv (IntKind.wrap .i64 ((IntKind.wrap .i64 (d + (719468 : Int))) - (IntKind.wrap .i64 ((IntKind.wrap .i64 (Int.tdiv (IntKind.wrap .i64 (d + (719468 : Int))) (146097 : Int))) * (146097 : Int))))) (36524 : Int))))) - (IntKind.wrap .i64 (Int.tdiv (IntKind.wrap .i64 ((IntKind.wrap .i64 (d + (719468 : Int))) - (IntKind.wrap .i64 ((IntKind.wrap .i64 (Int.tdiv (IntKind.wrap .i64 (d + (719468 : Int))) (146097 : Int))) * (146097 : Int))))) (146096 : Int))))) (365 : Int))) (100 : Int))))))))) + (2 : Int))) (153 : Int))))) + (2 : Int))) (5 : Int))))) + (1 : Int)))))]))
 else (.some (.tup [(.lit (.int .i64 (IntKind.wrap .i64 ((IntKind.wrap .i64 (Int.tdiv (IntKind.wrap .i64 ((IntKind.wrap .i64 ((IntKind.wrap .i64 ((IntKind.wrap .i64 ((IntKind.wrap .i64 (d + (719468 : Int))) - (IntKind.wrap .i64 ((IntKind.wrap .i64 (Int.tdiv (IntKind.wrap .i64 (d + (719468 : Int))) (146097 : Int))) * (146097 : Int))))) - (IntKind.wrap .i64 (Int.tdiv (IntKind.wrap .i64 ((IntKind.wrap .i64 (d + (719468 : Int))) - (IntKind.wrap .i64 ((IntKind.wrap .i64 (Int.tdiv (IntKind.wrap .i64 (d + (719468 : Int))) (146097 : Int))) * (146097 : Int))))) (1460 : Int))))) + (IntKind.wrap .i64 (Int.tdiv (IntKind.wrap .i64 ((IntKind.wrap .i64 (d + (719468 : Int))) - (IntKind.wrap .i64 ((IntKind.wrap .i64 (Int.tdiv (IntKind.wrap .i64 (d + (719468 : Int))) (146097 : Int))) * (146097 : Int))))) (36524 : Int))))) - (IntKind.wrap .i64 (Int.tdiv (IntKind.wrap .i64 ((IntKind.wrap .i64 (d + (719468 : Int))) - (IntKind.wrap .i64 ((IntKind.wrap .i64 (Int.tdiv (IntKind.wrap .i64 (d + (719468 : Int))) (146097 : Int))) * (146097 : Int))))) (146096 : Int))))) (365 : Int))) + (IntKind.wrap .i64 ((IntKind.wrap .i64 (Int.tdiv (IntKind.wrap .i64 (d + (719468 : Int))) (146097 : Int))) * (400 : Int))))))), (.lit (.int .i64 (IntKind.wrap .i64 ((IntKind.wrap .i64 (Int.tdiv (IntKind.wrap .i64 ((IntKind.wrap .i64 ((5 : Int) * (IntKind.wrap .i64 ((IntKind.wrap .i64 ((IntKind.wrap .i64 (d + (719468 : Int))) - (IntKind.wrap .i64 ((IntKind.wrap .i64 (Int.tdiv (IntKind.wrap .i64 (d + (719468 : Int))) (146097 : Int))) * (146097 : Int))))) - (IntKind.wrap .i64 ((IntKind.wrap .i64 ((IntKind.wrap .i64 ((365 : Int) * (IntKind.wrap .i64 (Int.tdiv (IntKind.wrap .i64 ((IntKind.wrap .i64 ((IntKind.wrap .i64 ((IntKind.wrap .i64 ((IntKind.wrap .i64 (d + (719468 : Int))) - (IntKind.wrap .i64 ((IntKind.wrap .i64 (Int.tdiv (IntKind.wrap .i64 (d + (719468 : Int))) (146097 : Int))) * (146097 : Int))))) - (IntKind.wrap .i64 (Int.tdiv (IntKind.wrap .i64 ((IntKind.wrap .i64 (d + (719468 : Int))) - (IntKind.wrap .i64 ((IntKind.wrap .i64 (Int.tdiv (IntKind.wrap .i64 (d + (719468 : Int))) (146097 : Int))) * (146097 : Int))))) (1460 : Int))))) + (IntKind.wrap .i64 (Int.tdiv (IntKind.wrap .i64 ((IntKind.wrap .i64 (d + (719468 : Int))) - (IntKind.wrap .i64 ((IntKind.wrap .i64 (Int.tdiv (IntKind.wrap .i64 (d + (719468 : Int))) (146097 : Int))) * (146097 : Int))))) (36524 : Int))))) - (IntKind.wrap .i64 (Int.tdiv (IntKind.wrap .i64 ((IntKind.wrap .i64 (d + (719468 : Int))) - (IntKind.wrap .i64 ((IntKind.wrap .i64 (Int.tdiv (IntKind.wrap .i64 (d + (719468 : Int))) (146097 : Int))) * (146097 : Int))))) (146096 : Int))))) (365 : Int))))) + (IntKind.wrap .i64 (Int.tdiv (IntKind.wrap .i64 (Int.tdiv (IntKind.wrap .i64 ((IntKind.wrap .i64 ((IntKind.wrap .i64 ((IntKind.wrap .i64 ((IntKind.wrap .i64 (d + (719468 : Int))) - (IntKind.wrap .i64 ((IntKind.wrap .i64 (Int.tdiv (IntKind.wrap .i64 (d + (719468 : Int))) (146097 : Int))) * (146097 : Int))))) - (IntKind.wrap .i64 (Int.tdiv (IntKind.wrap .i64 ((IntKind.wrap .i64 (d + (719468 : Int))) - (IntKind.wrap .i64 ((IntKind.wrap .i64 (Int.tdiv (IntKind.wrap .i64 (d + (719468 : Int))) (146097 : Int))) * (146097 : Int))))) (1460 : Int))))) + (IntKind.wrap .i64 (Int.tdiv (IntKind.wrap .i64 ((IntKind.wrap .i64 (d + (719468 : Int))) - (IntKind.wrap .i64 ((IntKind.wrap .i64 (Int.tdiv (IntKind.wrap .i64 (d + (719468 : Int))) (146097 : Int))) * (146097 : Int))))) (36524 : Int))))) - (IntKind.wrap .i64 (Int.tdiv (IntKind.wrap .i64 ((IntKind.wrap .i64 (d + (719468 : Int))) - (IntKind.wrap .i64 ((IntKind.wrap .i64 (Int.tdiv (IntKind.wrap .i64 (d + (719468 : Int))) (146097 : Int))) * (146097 : Int))))) (146096 : Int))))) (365 : Int))) (4 : Int))))) - (IntKind.wrap .i64 (Int.tdiv (IntKind.wrap .i64 (Int.tdiv (IntKind.wrap .i64 ((IntKind.wrap .i64 ((IntKind.wrap .i64 ((IntKind.wrap .i64 ((IntKind.wrap .i64 (d + (719468 : Int))) - (IntKind.wrap .i64 ((IntKind.wrap .i64 (Int.tdiv (IntKind.wrap .i64 (d + (719468 : Int))) (146097 : Int))) * (146097 : Int))))) - (IntKind.wrap .i64 (Int.tdiv (IntKind.wrap .i64 ((IntKind.wrap .i64 (d + (719468 : Int))) - (IntKind.wrap .i64 ((IntKind.wrap .i64 (Int.tdiv (IntKind.wrap .i64 (d + (719468 : Int))) (146097 : Int))) * (146097 : Int))))) (1460 : Int))))) + (IntKind.wrap .i64 (Int.tdiv (IntKind.wrap .i64 ((IntKind.wrap .i64 (d + (719468 : Int))) - (IntKind.wrap .i64 ((IntKind.wrap .i64 (Int.tdiv (IntKind.wrap .i64 (d + (719468 : Int))) (146097 : Int))) * (146097 : Int))))) (36524 : Int))))) - (IntKind.wrap .i64 (Int.tdiv (IntKind.wrap .i64 ((IntKind.wrap .i64 (d + (719468 : Int))) - (IntKind.wrap .i64 ((IntKind.wrap .i64 (Int.tdiv (IntKind.wrap .i64 (d + (719468 : Int))) (146097 : Int))) * (146097 : Int))))) (146096 : Int))))) (365 : Int))) (100 : Int))))))))) + (2 : Int))) (153 : Int))) + (3 : Int))))), (.lit (.int .i64 (IntKind.wrap .i64 ((IntKind.wrap .i64 ((IntKind.wrap .i64 ((IntKind.wrap .i64 ((IntKind.wrap .i64 (d + (719468 : Int))) - (IntKind.wrap .i64 ((IntKind.wrap .i64 (Int.tdiv (IntKind.wrap .i64 (d + (719468 : Int))) (146097 : Int))) * (146097 : Int))))) - (IntKind.wrap .i64 ((IntKind.wrap .i64 ((IntKind.wrap .i64 ((365 : Int) * (IntKind.wrap .i64 (Int.tdiv (IntKind.wrap .i64 ((IntKind.wrap .i64 ((IntKind.wrap .i64 ((IntKind.wrap .i64 ((IntKind.wrap .i64 (d + (719468 : Int))) - (IntKind.wrap .i64 ((IntKind.wrap .i64 (Int.tdiv (IntKind.wrap .i64 (d + (719468 : Int))) (146097 : Int))) * (146097 : Int))))) - (IntKind.wrap .i64 (Int.tdiv (IntKind.wrap .i64 ((IntKind.wrap .i64 (d + (719468 : Int))) - (IntKind.wrap .i64 ((IntKind.wrap .i64 (Int.tdiv (IntKind.wrap .i64 (d + (719468 : Int))) (146097 : Int))) * (146097 : Int))))) (1460 : Int))))) + (IntKind.wrap .i64 (Int.tdiv (IntKind.wrap .i64 ((IntKind.wrap .i64 (d + (719468 : Int))) - (IntKind.wrap .i64 ((IntKind.wrap .i64 (Int.tdiv (IntKind.wrap .i64 (d + (719468 : Int))) (146097 : Int))) * (146097 : Int))))) (36524 : Int))))) - (IntKind.wrap .i64 (Int.tdiv (IntKind.wrap .i64 ((IntKind.wrap .i64 (d + (719468 : Int))) - (IntKind.wrap .i64 ((IntKind.wrap .i64 (Int.tdiv (IntKind.wrap .i64 (d + (719468 : Int))) (146097 : Int))) * (146097 : Int))))) (146096 : Int))))) (365 : Int))))) + (IntKind.wrap .i64 (Int.tdiv (IntKind.wrap .i64 (Int.tdiv (IntKind.wrap .i64 ((IntKind.wrap .i64 ((IntKind.wrap .i64 ((IntKind.wrap .i64 ((IntKind.wrap .i64 (d + (719468 : Int))) - (IntKind.wrap .i64 ((IntKind.wrap .i64 (Int.tdiv (IntKind.wrap .i64 (d + (719468 : Int))) (146097 : Int))) * (146097 : Int))))) - (IntKind.wrap .i64 (Int.tdiv (IntKind.wrap .i64 ((IntKind.wrap .i64 (d + (719468 : Int))) - (IntKind.wrap .i64 ((IntKind.wrap .i64 (Int.tdiv (IntKind.wrap .i64 (d + (719468 : Int))) (146097 : Int))) * (146097 : Int))))) (1460 : Int))))) + (IntKind.wrap .i64 (Int.tdiv (IntKind.wrap .i64 ((IntKind.wrap .i64 (d + (719468 : Int))) - (IntKind.wrap .i64 ((IntKind.wrap .i64 (Int.tdiv (IntKind.wrap .i64 (d + (719468 : Int))) (146097 : Int))) * (146097 : Int))))) (36524 : Int))))) - (IntKind.wrap .i64 (Int.tdiv (IntKind.wrap .i64 ((IntKind.wrap .i64 (d + (719468 : Int))) - (IntKind.wrap .i64 ((IntKind.wrap .i64 (Int.tdiv (IntKind.wrap .i64 (d + (719468 : Int))) (146097 : Int))) * (146097 : Int))))) (146096 : Int))))) (365 : Int))) (4 : Int))))) - (IntKind.wrap .i64 (Int.tdiv (IntKind.wrap .i64 (Int.tdiv (IntKind.wrap .i64 ((IntKind.wrap .i64 ((IntKind.wrap .i64 ((IntKind.wrap .i64 ((IntKind.wrap .i64 (d + (719468 : Int))) - (IntKind.wrap .i64 ((IntKind.wrap .i64 (Int.tdiv (IntKind.wrap .i64 (d + (719468 : Int))) (146097 : Int))) * (146097 : Int))))) - (IntKind.wrap .i64 (Int.tdiv (IntKind.wrap .i64 ((IntKind.wrap .i64 (d + (719468 : Int))) - (IntKind.wrap .i64 ((IntKind.wrap .i64 (Int.tdiv (IntKind.wrap .i64 (d + (719468 : Int))) (146097 : Int))) * (146097 : Int))))) (1460 : Int))))) + (IntKind.wrap .i64 (Int.tdiv (IntKind.wrap .i64 ((IntKind.wrap .i64 (d + (719468 : Int))) - (IntKind.wrap .i64 ((IntKind.wrap .i64 (Int.tdiv (IntKind.wrap .i64 (d + (719468 : Int))) (146097 : Int))) * (146097 : Int))))) (36524 : Int))))) - (IntKind.wrap .i64 (Int.tdiv (IntKind.wrap .i64 ((IntKind.wrap .i64 (d + (719468 : Int))) - (IntKind.wrap .i64 ((IntKind.wrap .i64 (Int.tdiv (IntKind.wrap .i64 (d + (719468 : Int))) (146097 : Int))) * (146097 : Int))))) (146096 : Int))))) (365 : Int))) (100 : Int))))))) - (IntKind.wrap .i64 (Int.tdiv (IntKind.wrap .i64 ((IntKind.wrap .i64 ((153 : Int) * (IntKind.wrap .i64 (Int.tdiv (IntKind.wrap .i64 ((IntKind.wrap .i64 ((5 : Int) * (IntKind.wrap .i64 ((IntKind.wrap .i64 ((IntKind.wrap .i64 (d + (719468 : Int))) - (IntKind.wrap .i64 ((IntKind.wrap .i64 (Int.tdiv (IntKind.wrap .i64 (d + (719468 : Int))) (146097 : Int))) * (146097 : Int))))) - (IntKind.wrap .i64 ((IntKind.wrap .i64 ((IntKind.wrap .i64 ((365 : Int) * (IntKind.wrap .i64 (Int.tdiv (IntKind.wrap .i64 ((IntKind.wrap .i64 ((IntKind.wrap .i64 ((IntKind.wrap .i64 ((IntKind.wrap .i64 (d + (719468 : Int))) - (IntKind.wrap .i64 ((IntKind.wrap .i64 (Int.tdiv (IntKind.wrap .i64 (d + (719468 : Int))) (146097 : Int))) * (146097 : Int))))) - (IntKind.wrap .i64 (Int.tdiv (IntKind.wrap .i64 ((IntKind.wrap .i64 (d + (719468 : Int))) - (IntKind.wrap .i64 ((IntKind.wrap .i64 (Int.tdiv (IntKind.wrap .i64 (d + (719468 : Int))) (146097 : Int))) * (146097 : Int))))) (1460 : Int))))) + (IntKind.wrap .i64 (Int.tdiv (IntKind.wrap .i64 ((IntKind.wrap .i64 (d + (719468 : Int))) - (IntKind.wrap .i64 ((IntKind.wrap .i64 (Int.tdiv (IntKind.wrap .i64 (d + (719468 : Int))) (146097 : Int))) * (146097 : Int))))) (36524 : Int))))) - (IntKind.wrap .i64 (Int.tdiv (IntKind.wrap .i64 ((IntKind.wrap .i64 (d + (719468 : Int))) - (IntKind.wrap .i64 ((IntKind.wrap .i64 (Int.tdiv (IntKind.wrap .i64 (d + (719468 : Int))) (146097 : Int))) * (146097 : Int))))) (146096 : Int))))) (365 : Int))))) + (IntKind.wrap .i64 (Int.tdiv (IntKind.wrap .i64 (Int.tdiv (IntKind.wrap .i64 ((IntKind.wrap .i64 ((IntKind.wrap .i64 ((IntKind.wrap .i64 ((IntKind.wrap .i64 (d + (719468 : Int))) - (IntKind.wrap .i64 ((IntKind.wrap .i64 (Int.tdiv (IntKind.wrap .i64 (d + (719468 : Int))) (146097 : Int))) * (146097 : Int))))) - (IntKind.wrap .i64 (Int.tdiv (IntKind.wrap .i64 ((IntKind.wrap .i64 (d + (719468 : Int))) - (IntKind.wrap .i64 ((IntKind.wrap .i64 (Int.tdiv (IntKind.wrap .i64 (d + (719468 : Int))) (146097 : Int))) * (146097 : Int))))) (1460 : Int))))) + (IntKind.wrap .i64 (Int.tdiv (IntKind.wrap .i64 ((IntKind.wrap .i64 (d + (719468 : Int))) - (IntKind.wrap .i64 ((IntKind.wrap .i64 (Int.tdiv (IntKind.wrap .i64 (d + (719468 : Int))) (146097 : Int))) * (146097 : Int))))) (36524 : Int))))) - (IntKind.wrap .i64 (Int.tdiv (IntKind.wrap .i64 ((IntKind.wrap .i64 (d + (719468 : Int))) - (IntKind.wrap .i64 ((IntKind.wrap .i64 (Int.tdiv (IntKind.wrap .i64 (d + (719468 : Int))) (146097 : Int))) * (146097 : Int))))) (146096 : Int))))) (365 : Int))) (4 : Int))))) - (IntKind.wrap .i64 (Int.tdiv (IntKind.wrap .i64 (Int.tdiv (IntKind.wrap .i64 ((IntKind.wrap .i64 ((IntKind.wrap .i64 ((IntKind.wrap .i64 ((IntKind.wrap .i64 (d + (719468 : Int))) - (IntKind.wrap .i64 ((IntKind.wrap .i64 (Int.tdiv (IntKind.wrap .i64 (d + (719468 : Int))) (146097 : Int))) * (146097 : Int))))) - (IntKind.wrap .i64 (Int.tdiv (IntKind.wrap .i64 ((IntKind.wrap .i64 (d + (719468 : Int))) - (IntKind.wrap .i64 ((IntKind.wrap .i64 (Int.tdiv (IntKind.wrap .i64 (d + (719468 : Int))) (146097 : Int))) * (146097 : Int))))) (1460 : Int))))) + (IntKind.wrap .i64 (Int.tdiv (IntKind.wrap .i64 ((IntKind.wrap .i64 (d + (719468 : Int))) - (IntKind.wrap .i64 ((IntKind.wrap .i64 (Int.tdiv (IntKind.wrap .i64 (d + (719468 : Int))) (146097 : Int))) * (146097 : Int))))) (36524 : Int))))) - (IntKind.wrap .i64 (Int.tdiv (IntKind.wrap .i64 ((IntKind.wrap .i64 (d + (719468 : Int))) - (IntKind.wrap .i64 ((IntKind.wrap .i64 (Int.tdiv (IntKind.wrap .i64 (d + (719468 : Int))) (146097 : Int))) * (146097 : Int))))) (146096 : Int))))) (365 : Int))) (100 : Int))))))))) + (2 : Int))) (153 : Int))))) + (2 : Int))) (5 : Int))))) + (1 : Int)))))])) : Option PV) := by
  kernel_rfl
theorem cv_raw_c (m : Int) (t : TypeId) (fr : Nat × Nat) (d : Int) : ((fnPure Tryd.prog (E1 (GG m t fr)) 60 Tryd.f66 (GG m t fr) [int d])).conds =
 (bif (decide ((IntKind.wrap .i64 ((IntKind.wrap .i64 (Int.tdiv (IntKind.wrap .i64 ((IntKind.wrap .i64 ((5 : Int) * (IntKind.wrap .i64 ((IntKind.wrap .i64 ((IntKind.wrap .i64 (d + (719468 : Int))) - (IntKind.wrap .i64 ((IntKind.wrap .i64 (Int.tdiv (IntKind.wrap .i64 (d + (719468 : Int))) (146097 : Int))) * (146097 : Int))))) - (IntKind.wrap .i64 ((IntKind.wrap .i64 ((IntKind.wrap .i64 ((365 : Int) * (IntKind.wrap .i64 (Int.tdiv (IntKind.wrap .i64 ((IntKind.wrap .i64 ((IntKind.wrap .i64 ((IntKind.wrap .i64 ((IntKind.wrap .i64 (d + (719468 : Int))) - (IntKind.wrap .i64 ((IntKind.wrap .i64 (Int.tdiv (IntKind.wrap .i64 (d + (719468 : Int))) (146097 : Int))) * (146097 : Int))))) - (IntKind.wrap .i64 (Int.tdiv (IntKind.wrap .i64 ((IntKind.wrap .i64 (d + (719468 : Int))) - (IntKind.wrap .i64 ((IntKind.wrap .i64 (Int.tdiv (IntKind.wrap .i64 (d + (719468 : Int))) (146097 : Int))) * (146097 : Int))))) (1460 : Int))))) + (IntKind.wrap .i64 (Int.tdiv (IntKind.wrap .i64 ((IntKind.wrap .i64 (d + (719468 : Int))) - (IntKind.wrap .i64 ((IntKind.wrap .i64 (Int.tdiv (IntKind.wrap .i64 (d + (719468 : Int))) (146097 : Int))) * (146097 : Int))))) (36524 : Int))))) - (IntKind.wrap .i64 (Int.tdiv (IntKind.wrap .i64 ((IntKind.wrap .i64 (d + (719468 : Int))) - (IntKind.wrap .i64 ((IntKind.wrap .i64 (Int.tdiv (IntKind.wrap .i64 (d + (719468 : Int))) (146097 : Int))) * (146097 : Int))))) (146096 : Int))))) (365 : Int))))) + (IntKind.wrap .i64 (Int.tdiv (IntKind.wrap .i64 (Int.tdiv (IntKind.wrap .i64 ((IntKind.wrap .i64 ((IntKind.wrap .i64 ((IntKind.wrap .i64 ((IntKind.wrap .i64 (d + (719468 : Int))) - (IntKind.wrap .i64 ((IntKind.wrap .i64 (Int.tdiv (IntKind.wrap .i64 (d + (719468 : Int))) (146097 : Int))) * (146097 : Int))))) - (IntKind.wrap .i64 (Int.tdiv (IntKind.wrap .i64 ((IntKind.wrap .i64 (d + (719468 : Int))) - (IntKind.wrap .i64 ((IntKind.wrap .i64 (Int.tdiv (IntKind.wrap .i64 (d + (719468 : Int))) (146097 : Int))) * (146097 : Int))))) (1460 : Int))))) + (IntKind.wrap .i64 (Int.tdiv (IntKind.wrap .i64 ((IntKind.wrap .i64 (d + (719468 : Int))) - (IntKind.wrap .i64 ((IntKind.wrap .i64 (Int.tdiv (IntKind.wrap .i64 (d + (719468 : Int))) (146097 : Int))) * (146097 : Int))))) (36524 : Int))))) - (IntKind.wrap .i64 (Int.tdiv (IntKind.wrap .i64 ((IntKind.wrap .i64 (d + (719468 : Int))) - (IntKind.wrap .i64 ((IntKind.wrap .i64 (Int.tdiv (IntKind.wrap .i64 (d + (719468 : Int))) (146097 : Int))) * (146097 : Int))))) (146096 : Int))))) (365 : Int))) (4 : Int))))) - (IntKind.wrap .i64 (Int.tdiv (IntKind.wrap .i64 (Int.tdiv (IntKind.wrap .i64 ((IntKind.wrap .i64 ((IntKind.wrap .i64 ((IntKind.wrap .i64 ((IntKind.wrap .i64 (d + (719468 : Int))) - (IntKind.wrap .i64 ((IntKind.wrap .i64 (Int.tdiv (IntKind.wrap .i64 (d + (719468 : Int))) (146097 : Int))) * (146097 : Int))))) - (IntKind.wrap .i64 (Int.tdiv (IntKind.wrap .i64 ((IntKind.wrap .i64 (d + (719468 : Int))) - (IntKind.wrap .i64 ((IntKind.wrap .i64 (Int.tdiv (IntKind.wrap .i64 (d + (719468 : Int))) (146097 : Int))) * (146097 : Int))))) (1460 : Int))))) + (IntKind.wrap .i64 (Int.tdiv (IntKind.wrap .i64 ((IntKind.wrap .i64 (d + (719468 : Int))) - (IntKind.wrap .i64 ((IntKind.wrap .i64 (Int.tdiv (IntKind.wrap .i64 (d + (719468 : Int))) (146097 : Int))) * (146097 : Int))))) (36524 : Int))))) - (IntKind.wrap .i64 (Int.tdiv (IntKind.wrap .i64 ((IntKind.wrap .i64 (d + (719468 : Int))) - (IntKind.wrap .i64 ((IntKind.wrap .i64 (Int.tdiv (IntKind.wrap .i64 (d + (719468 : Int))) (146097 : Int))) * (146097 : Int))))) (146096 : Int))))) (365 : Int))) (100 : Int))))))))) + (2 : Int))) (153 : Int))) + (3 : Int))) > (12 : Int))) then
 true
 else true : Bool) := by
  kernel_rfl
def civG : List PV → Tr PV
  | [.lit (.int .i64 d)] => .br (dayB d) (.leaf (.tup [int (cvY d), int (cvM d), int (cvD d)])) .fail
  | _ => .fail
theorem civ_ok : PureOK Tryd.prog (GG m t fr) 66 civG := by
  refine PureOK.of (fn_pure mixed E1_ok (envOf_cuts ..) (fn := Tryd.f66) (by kernel_rfl)) fun ps p hp => ?_
  unfold civG at hp
  split at hp
  · rename_i d
    obtain ⟨hc, hq⟩ := br_run hp
    clear hp
    simp only [Tr.run, Option.some.injEq] at hq
    subst hq
    have hv := cv_raw_v m t fr d
    have hcc := cv_raw_c m t fr d
    have hat := cv_at hc
    unfold dayB at hc
    simp only [Bool.and_eq_true, decide_eq_true_eq] at hc
    have w64 : ∀ {x : Int}, -4611686018427387904 ≤ x → x ≤ 4611686018427387904 → IntKind.i64.wrap x = x := fun a b => wrap_mid a b
    obtain ⟨k1, k2, k3, k4, k5, k6, kg, kl⟩ := Cal.civ d (d + 719468) (cvE d) (cvDay d) (cvYr d) (cvIn d) (cvMp d) rfl (by omega) rfl rfl rfl rfl rfl
    have he : 0 ≤ cvE d ∧ cvE d ≤ 25 := by unfold cvE; omega
    have hd : 0 ≤ cvDay d ∧ cvDay d ≤ 146096 := by unfold cvDay cvE; omega
    have e1 : IntKind.i64.wrap (d + 719468) = d + 719468 := w64 (by omega) (by omega)
    have e2 : IntKind.i64.wrap (Int.tdiv (d + 719468) 146097) = cvE d := by rw [td _ (by omega)]; exact w64 (by omega) (by omega)
    have e3 : IntKind.i64.wrap ((d + 719468) - IntKind.i64.wrap (cvE d * 146097)) = cvDay d := by rw [w64 (x := cvE d * 146097) (by omega) (by omega)]; exact w64 (by unfold cvDay at hd; omega) (by unfold cvDay at hd; omega)
    have e4 : IntKind.i64.wrap (Int.tdiv (IntKind.i64.wrap (IntKind.i64.wrap (IntKind.i64.wrap (cvDay d - IntKind.i64.wrap (Int.tdiv (cvDay d) 1460)) + IntKind.i64.wrap (Int.tdiv (cvDay d) 36524)) - IntKind.i64.wrap (Int.tdiv (cvDay d) 146096))) 365) = cvYr d := by
      unfold cvYr
      generalize cvDay d = day at hd
      simp (disch := omega) only [td, w64]
    have e5 : IntKind.i64.wrap (cvDay d - IntKind.i64.wrap (IntKind.i64.wrap (IntKind.i64.wrap (365 * cvYr d) + IntKind.i64.wrap (Int.tdiv (cvYr d) 4)) - IntKind.i64.wrap (Int.tdiv (cvYr d) 100))) = cvIn d := by
      unfold cvIn
      generalize cvYr d = year at k5 k6
      generalize cvDay d = day at hd
      simp (disch := omega) only [td, w64]
    have e6 : IntKind.i64.wrap (Int.tdiv (IntKind.i64.wrap (IntKind.i64.wrap (5 * cvIn d) + 2)) 153) = cvMp d := by
      unfold cvMp
      generalize cvIn d = inYear at k3 k4
      simp (disch := omega) only [td, w64]
    have e7 : IntKind.i64.wrap (IntKind.i64.wrap (cvIn d - IntKind.i64.wrap (Int.tdiv (IntKind.i64.wrap (IntKind.i64.wrap (153 * cvMp d) + 2)) 5)) + 1) = cvD d := by
      unfold cvD
      generalize cvMp d = mp at k1 k2
      generalize cvIn d = inYear at k3 k4
      simp (disch := omega) only [td, w64]
    have e8 : IntKind.i64.wrap (cvMp d + 3) = cvMp d + 3 := w64 (by omega) (by omega)
    have e9 : IntKind.i64.wrap (cvYr d + IntKind.i64.wrap (cvE d * 400)) = cvYr d + cvE d * 400 := by rw [w64 (x := cvE d * 400) (by omega) (by omega)]; exact w64 (by omega) (by omega)
    simp only [e1, e2, e3, e4, e5, e6, e7, e8, e9] at hv hcc
    unfold cvY cvM at hat ⊢
    by_cases g : cvMp d + 3 > 12
    · have e10 : IntKind.i64.wrap (cvYr d + cvE d * 400 + 1) = cvYr d + cvE d * 400 + 1 := w64 (by omega) (by omega)
      have e11 : IntKind.i64.wrap (cvMp d + 3 - 12) = cvMp d + 3 - 12 := w64 (by omega) (by omega)
      have g' := decide_eq_true g
      simp only [g', cond_true, e10, e11] at hv hcc ⊢
      exact ⟨_, Tr.run_vc hv hcc rfl rfl, PLe.of_eq rfl⟩
    · have g' := decide_eq_false g
      simp only [g', cond_false] at hv hcc ⊢
      exact ⟨_, Tr.run_vc hv hcc rfl rfl, PLe.of_eq rfl⟩
  · cases hp
def bcPure : List (Nat × (List PV → Tr PV)) := (66, civG) :: libPure
theorem bcPure_ok {m : Int} {t : TypeId} {fr : Nat × Nat} : TabOK Tryd.prog (GG m t fr) bcPure := (TabOK.cons civ_ok (fn := Tryd.f66) (by kernel_rfl) (by kernel_rfl) libPure_ok)
noncomputable abbrev E2 (G : GT) : Env := envOf Tryd.prog G bcPure libFull
theorem E2_ok : (E2 (GG m t fr)).ok Tryd.prog (GG m t fr) := envOf_ok mixed bcPure_ok libFull_ok
end
end Go.Proofs.YtlngnfkjpfokhaaDoor.Ev

/- The date layer's text of a time, as evaluated. No condition. -/
namespace Go.Proofs.YtlngnfkjpfokhaaDoor.Ev
open Go Go.RowKit Go.Proofs Go.Proofs.YtlngnfkjpfokhaaDoor.Str
set_option linter.unusedVariables false
set_option linter.unusedSimpArgs false
def zero1 : ByteArray := ⟨#[48]⟩
def wideB (n k : Int) : ByteArray := bif decide (((itoaB n).size : Int) < k) then repB zero1 (k - (itoaB n).size) ++ itoaB n else itoaB n
def nB (n k : Int) : Bool := decide (0 ≤ n) && decide (n ≤ 99999) && decide (0 ≤ k) && decide (k ≤ 100)
def dateB (d : Int) : ByteArray := ((((wideB (cvD d) (1 : Int)) ++ (.mk (List.toArray [(45 : UInt8)]))) ++ (ByteArray.extract (.mk (List.toArray [(74 : UInt8), (97 : UInt8), (110 : UInt8), (70 : UInt8), (101 : UInt8), (98 : UInt8), (77 : UInt8), (97 : UInt8), (114 : UInt8), (65 : UInt8), (112 : UInt8), (114 : UInt8), (77 : UInt8), (97 : UInt8), (121 : UInt8), (74 : UInt8), (117 : UInt8), (110 : UInt8), (74 : UInt8), (117 : UInt8), (108 : UInt8), (65 : UInt8), (117 : UInt8), (103 : UInt8), (83 : UInt8), (101 : UInt8), (112 : UInt8), (79 : UInt8), (99 : UInt8), (116 : UInt8), (78 : UInt8), (111 : UInt8), (118 : UInt8), (68 : UInt8), (101 : UInt8), (99 : UInt8)])) (Int.toNat (IntKind.wrap .i64 ((IntKind.wrap .i64 ((3 : Int) * (cvM d))) - (3 : Int)))) (Int.toNat (IntKind.wrap .i64 ((3 : Int) * (cvM d)))))) ++ (.mk (List.toArray [(45 : UInt8)]))) ++ (wideB (cvY d) (4 : Int))
def clockB (s : Int) : ByteArray := ((((wideB (IntKind.wrap .i64 (Int.tdiv s (3600 : Int))) (2 : Int)) ++ (.mk (List.toArray [(58 : UInt8)]))) ++ (wideB (Int.tmod (IntKind.wrap .i64 (Int.tdiv s (60 : Int))) (60 : Int)) (2 : Int))) ++ (.mk (List.toArray [(58 : UInt8)]))) ++ (wideB (Int.tmod s (60 : Int)) (2 : Int))
def offB (z : Int) : ByteArray := bif decide (z < 0) then ((.mk (List.toArray [(45 : UInt8)])) ++ (wideB (IntKind.wrap .i64 (Int.tdiv (IntKind.wrap .i64 ((0 : Int) - z)) (60 : Int))) (2 : Int))) ++ (wideB (Int.tmod (IntKind.wrap .i64 ((0 : Int) - z)) (60 : Int)) (2 : Int)) else ((.mk (List.toArray [(43 : UInt8)])) ++ (wideB (IntKind.wrap .i64 (Int.tdiv z (60 : Int))) (2 : Int))) ++ (wideB (Int.tmod z (60 : Int)) (2 : Int))
theorem dec_lenK : ∀ (k n : Nat), n < 10 ^ (k + 1) → (Lib.decDigits n).length ≤ k + 1
  | 0, n, h => by
    rw [Lib.decDigits.eq_1, dif_pos (by simpa using h)]
    simp
  | k + 1, n, h => by
    rw [Lib.decDigits.eq_1]
    split
    · simp
    · have := dec_lenK k (n / 10) (by rw [Nat.pow_succ] at h; omega)
      simp
      omega
theorem dec_len9 (n : Nat) (h : n ≤ 99999) : (Lib.decDigits n).length ≤ 10 := dec_lenK 9 n (by omega)
theorem itoa_len {n : Int} (h : 0 ≤ n) (h1 : n ≤ 99999) : (itoaB n).size ≤ 10 := by
  unfold itoaB
  rw [bs_len]
  unfold Lib.itoa
  rw [if_neg (by omega)]
  exact dec_len9 n.toNat (by omega)
theorem wide_len {n k : Int} (h : nB n k = true) : (wideB n k).size ≤ 200 := by
  unfold nB at h
  simp only [Bool.and_eq_true, decide_eq_true_eq] at h
  have hi := itoa_len h.1.1.1 h.1.1.2
  unfold wideB
  by_cases c : ((itoaB n).size : Int) < k
  · rw [decide_eq_true c, cond_true, ByteArray.size_append]
    have : (repB zero1 (k - (itoaB n).size)).size ≤ 100 := by
      unfold repB
      rw [bs_len, Lib.repeatL_length]
      have : zero1.data.toList.length = 1 := rfl
      rw [this]
      omega
    omega
  · rw [decide_eq_false c, cond_false]
    omega
theorem mon_len (i j : Nat) : (ByteArray.extract (.mk (List.toArray [(74 : UInt8), (97 : UInt8), (110 : UInt8), (70 : UInt8), (101 : UInt8), (98 : UInt8), (77 : UInt8), (97 : UInt8), (114 : UInt8), (65 : UInt8), (112 : UInt8), (114 : UInt8), (77 : UInt8), (97 : UInt8), (121 : UInt8), (74 : UInt8), (117 : UInt8), (110 : UInt8), (74 : UInt8), (117 : UInt8), (108 : UInt8), (65 : UInt8), (117 : UInt8), (103 : UInt8), (83 : UInt8), (101 : UInt8), (112 : UInt8), (79 : UInt8), (99 : UInt8), (116 : UInt8), (78 : UInt8), (111 : UInt8), (118 : UInt8), (68 : UInt8), (101 : UInt8), (99 : UInt8)])) i j).size ≤ 36 := by
  rw [ByteArray.size_extract]
  refine Nat.le_trans (Nat.sub_le ..) (Nat.min_le_right ..)
section
variable {m : Int} {t : TypeId} {fr : Nat × Nat}
theorem wd_raw_v (m : Int) (t : TypeId) (fr : Nat × Nat) (n k : Int) : ((fnPure Tryd.prog (E2 (GG m t fr)) 60 Tryd.f63 (GG m t fr) [int n, int k])).val =
 (bif (decide ((((ByteArray.size (itoaB n)) : Nat) : Int) < k)) then
 (.some (.lit (.string ((repB (.mk (List.toArray [(48 : UInt8)])) (IntKind.wrap .i64 (k - (((ByteArray.size (itoaB n)) : Nat) : Int)))) ++ (itoaB n)))))
 else (.some (.lit (.string (itoaB n)))) : Option PV) := by
  kernel_rfl
theorem wd_raw_c (m : Int) (t : TypeId) (fr : Nat × Nat) (n k : Int) : ((fnPure Tryd.prog (E2 (GG m t fr)) 60 Tryd.f63 (GG m t fr) [int n, int k])).conds =
 (bif ((decide ((-9223372036854775808 : Int) ≤ n)) && (decide (n ≤ (9223372036854775807 : Int)))) then
 bif (decide ((((ByteArray.size (itoaB n)) : Nat) : Int) < k)) then
 bif ((decide ((0 : Int) ≤ (IntKind.wrap .i64 (k - (((ByteArray.size (itoaB n)) : Nat) : Int))))) && (decide ((IntKind.wrap .i64 (k - (((ByteArray.size (itoaB n)) : Nat) : Int))) ≤ (1000 : Int)))) then
 bif (Nat.ble ((ByteArray.size (repB (.mk (List.toArray [(48 : UInt8)])) (IntKind.wrap .i64 (k - (((ByteArray.size (itoaB n)) : Nat) : Int))))) + (ByteArray.size (itoaB n))) (9223372036854775807 : Nat)) then
 true
 else false
 else false
 else true
 else false : Bool) := by
  kernel_rfl
def wideG : List PV → Tr PV
  | [.lit (.int .i64 n), .lit (.int .i64 k)] => .br (nB n k) (.leaf (str (wideB n k))) .fail
  | _ => .fail
theorem wide_ok : PureOK Tryd.prog (GG m t fr) 63 wideG := by
  refine PureOK.of (fn_pure mixed E2_ok (envOf_cuts ..) (fn := Tryd.f63) (by kernel_rfl)) fun ps p hp => ?_
  unfold wideG at hp
  split at hp
  · rename_i n k
    obtain ⟨hc, hq⟩ := br_run hp
    clear hp
    simp only [Tr.run, Option.some.injEq] at hq
    subst hq
    have hv := wd_raw_v m t fr n k
    have hcc := wd_raw_c m t fr n k
    have hl := wide_len hc
    unfold nB at hc
    simp only [Bool.and_eq_true, decide_eq_true_eq] at hc
    have hi := itoa_len hc.1.1.1 hc.1.1.2
    have hw : IntKind.i64.wrap (k - (itoaB n).size) = k - (itoaB n).size := wrap_mid (by omega) (by omega)
    have h1 : (decide ((-9223372036854775808 : Int) ≤ n) && decide (n ≤ 9223372036854775807)) = true := by
      rw [Bool.and_eq_true]
      exact ⟨decide_eq_true (by omega), decide_eq_true (by omega)⟩
    rw [hw] at hv hcc
    unfold wideB at hl ⊢
    by_cases c : ((itoaB n).size : Int) < k
    · have c' := decide_eq_true c
      have h2 : (decide ((0 : Int) ≤ k - (itoaB n).size) && decide (k - (itoaB n).size ≤ 1000)) = true := by
        rw [Bool.and_eq_true]
        exact ⟨decide_eq_true (by omega), decide_eq_true (by omega)⟩
      rw [c', cond_true, ByteArray.size_append] at hl
      have h3 : Nat.ble ((repB (.mk (List.toArray [(48 : UInt8)])) (k - (itoaB n).size)).size + (itoaB n).size) 9223372036854775807 = true := Nat.ble_eq_true_of_le (by
        have : (repB (.mk (List.toArray [(48 : UInt8)])) (k - (itoaB n).size)) = repB zero1 (k - (itoaB n).size) := rfl
        rw [this]
        omega)
      simp only [c', cond_true] at hv ⊢
      simp only [h1, c', h2, h3, cond_true] at hcc
      exact ⟨_, Tr.run_vc hv hcc rfl rfl, PLe.of_eq rfl⟩
    · have c' := decide_eq_false c
      simp only [c', cond_false] at hv ⊢
      simp only [h1, c', cond_true, cond_false] at hcc
      exact ⟨_, Tr.run_vc hv hcc rfl rfl, PLe.of_eq rfl⟩
  · cases hp
def bwPure : List (Nat × (List PV → Tr PV)) := (63, wideG) :: bcPure
theorem bwPure_ok {m : Int} {t : TypeId} {fr : Nat × Nat} : TabOK Tryd.prog (GG m t fr) bwPure := (TabOK.cons wide_ok (fn := Tryd.f63) (by kernel_rfl) (by kernel_rfl) bcPure_ok)
noncomputable abbrev E3 (G : GT) : Env := envOf Tryd.prog G bwPure libFull
theorem E3_ok : (E3 (GG m t fr)).ok Tryd.prog (GG m t fr) := envOf_ok mixed bwPure_ok libFull_ok
theorem wr_raw_v (m : Int) (t : TypeId) (fr : Nat × Nat) (d : Int) : ((fnPure Tryd.prog (E3 (GG m t fr)) 60 Tryd.f54 (GG m t fr) [int d])).val =
 (bif (decide (d ≥ (-719162 : Int))) then
 bif (!(decide (d ≤ (2932896 : Int)))) then
 (.some (.tup [(.lit (.string (.mk (List.toArray [])))), (.lit (.int .i64 (1 : Int)))]))
 else (.some (.tup [(.lit (.string (((((wideB (cvD d) (1 : Int)) ++ (.mk (List.toArray [(45 : UInt8)]))) ++ (ByteArray.extract (.mk (List.toArray [(74 : UInt8), (97 : UInt8), (110 : UInt8), (70 : UInt8), (101 : UInt8), (98 : UInt8), (77 : UInt8), (97 : UInt8), (114 : UInt8), (65 : UInt8), (112 : UInt8), (114 : UInt8), (77 : UInt8), (97 : UInt8), (121 : UInt8), (74 : UInt8), (117 : UInt8), (110 : UInt8), (74 : UInt8), (117 : UInt8), (108 : UInt8), (65 : UInt8), (117 : UInt8), (103 : UInt8), (83 : UInt8), (101 : UInt8), (112 : UInt8), (79 : UInt8), (99 : UInt8), (116 : UInt8), (78 : UInt8), (111 : UInt8), (118 : UInt8), (68 : UInt8), (101 : UInt8), (99 : UInt8)])) (Int.toNat (IntKind.wrap .i64 ((IntKind.wrap .i64 ((3 : Int) * (cvM d))) - (3 : Int)))) (Int.toNat (IntKind.wrap .i64 ((3 : Int) * (cvM d)))))) ++ (.mk (List.toArray [(45 : UInt8)]))) ++ (wideB (cvY d) (4 : Int))))), (.lit (.int .i64 (0 : Int)))]))
 else (.some (.tup [(.lit (.string (.mk (List.toArray [])))), (.lit (.int .i64 (1 : Int)))])) : Option PV) := by
  kernel_rfl
theorem wr_raw_c (m : Int) (t : TypeId) (fr : Nat × Nat) (d : Int) : ((fnPure Tryd.prog (E3 (GG m t fr)) 60 Tryd.f54 (GG m t fr) [int d])).conds =
 (bif (decide (d ≥ (-719162 : Int))) then
 bif (!(decide (d ≤ (2932896 : Int)))) then
 true
 else bif ((decide ((-719162 : Int) ≤ d)) && (decide (d ≤ (2932896 : Int)))) then
 bif (nB (cvD d) (1 : Int)) then
 bif (Nat.ble ((ByteArray.size (wideB (cvD d) (1 : Int))) + 1) (9223372036854775807 : Nat)) then
 bif (((decide ((0 : Int) ≤ (IntKind.wrap .i64 ((IntKind.wrap .i64 ((3 : Int) * (cvM d))) - (3 : Int))))) && (decide ((IntKind.wrap .i64 ((IntKind.wrap .i64 ((3 : Int) * (cvM d))) - (3 : Int))) ≤ (IntKind.wrap .i64 ((3 : Int) * (cvM d)))))) && (decide ((IntKind.wrap .i64 ((3 : Int) * (cvM d))) ≤ (36 : Int)))) then
 bif (Nat.ble ((ByteArray.size ((wideB (cvD d) (1 : Int)) ++ (.mk (List.toArray [(45 : UInt8)])))) + (ByteArray.size (ByteArray.extract (.mk (List.toArray [(74 : UInt8), (97 : UInt8), (110 : UInt8), (70 : UInt8), (101 : UInt8), (98 : UInt8), (77 : UInt8), (97 : UInt8), (114 : UInt8), (65 : UInt8), (112 : UInt8), (114 : UInt8), (77 : UInt8), (97 : UInt8), (121 : UInt8), (74 : UInt8), (117 : UInt8), (110 : UInt8), (74 : UInt8), (117 : UInt8), (108 : UInt8), (65 : UInt8), (117 : UInt8), (103 : UInt8), (83 : UInt8), (101 : UInt8), (112 : UInt8), (79 : UInt8), (99 : UInt8), (116 : UInt8), (78 : UInt8), (111 : UInt8), (118 : UInt8), (68 : UInt8), (101 : UInt8), (99 : UInt8)])) (Int.toNat (IntKind.wrap .i64 ((IntKind.wrap .i64 ((3 : Int) * (cvM d))) - (3 : Int)))) (Int.toNat (IntKind.wrap .i64 ((3 : Int) * (cvM d))))))) (9223372036854775807 : Nat)) then
 bif (Nat.ble ((ByteArray.size (((wideB (cvD d) (1 : Int)) ++ (.mk (List.toArray [(45 : UInt8)]))) ++ (ByteArray.extract (.mk (List.toArray [(74 : UInt8), (97 : UInt8), (110 : UInt8), (70 : UInt8), (101 : UInt8), (98 : UInt8), (77 : UInt8), (97 : UInt8), (114 : UInt8), (65 : UInt8), (112 : UInt8), (114 : UInt8), (77 : UInt8), (97 : UInt8), (121 : UInt8), (74 : UInt8), (117 : UInt8), (110 : UInt8), (74 : UInt8), (117 : UInt8), (108 : UInt8), (65 : UInt8), (117 : UInt8), (103 : UInt8), (83 : UInt8), (101 : UInt8), (112 : UInt8), (79 : UInt8), (99 : UInt8), (116 : UInt8), (78 : UInt8), (111 : UInt8), (118 : UInt8), (68 : UInt8), (101 : UInt8), (99 : UInt8)])) (Int.toNat (IntKind.wrap .i64 ((IntKind.wrap .i64 ((3 : Int) * (cvM d))) - (3 : Int)))) (Int.toNat (IntKind.wrap .i64 ((3 : Int) * (cvM d))))))) + 1) (9223372036854775807 : Nat)) then
 bif (nB (cvY d) (4 : Int)) then
 bif (Nat.ble ((ByteArray.size ((((wideB (cvD d) (1 : Int)) ++ (.mk (List.toArray [(45 : UInt8)]))) ++ (ByteArray.extract (.mk (List.toArray [(74 : UInt8), (97 : UInt8), (110 : UInt8), (70 : UInt8), (101 : UInt8), (98 : UInt8), (77 : UInt8), (97 : UInt8), (114 : UInt8), (65 : UInt8), (112 : UInt8), (114 : UInt8), (77 : UInt8), (97 : UInt8), (121 : UInt8), (74 : UInt8), (117 : UInt8), (110 : UInt8), (74 : UInt8), (117 : UInt8), (108 : UInt8), (65 : UInt8), (117 : UInt8), (103 : UInt8), (83 : UInt8), (101 : UInt8), (112 : UInt8), (79 : UInt8), (99 : UInt8), (116 : UInt8), (78 : UInt8), (111 : UInt8), (118 : UInt8), (68 : UInt8), (101 : UInt8), (99 : UInt8)])) (Int.toNat (IntKind.wrap .i64 ((IntKind.wrap .i64 ((3 : Int) * (cvM d))) - (3 : Int)))) (Int.toNat (IntKind.wrap .i64 ((3 : Int) * (cvM d)))))) ++ (.mk (List.toArray [(45 : UInt8)])))) + (ByteArray.size (wideB (cvY d) (4 : Int)))) (9223372036854775807 : Nat)) then
 true
 else false
 else false
 else false
 else false
 else false
 else false
 else false
 else false
 else true : Bool) := by
  kernel_rfl
theorem ck_raw_v (m : Int) (t : TypeId) (fr : Nat × Nat) (d s z : Int) : ((fnPure Tryd.prog (E3 (GG m t fr)) 60 Tryd.f55 (GG m t fr) [.agg [int d, int s, int z]])).val =
 ((.some (.lit (.string (((((wideB (IntKind.wrap .i64 (Int.tdiv s (3600 : Int))) (2 : Int)) ++ (.mk (List.toArray [(58 : UInt8)]))) ++ (wideB (Int.tmod (IntKind.wrap .i64 (Int.tdiv s (60 : Int))) (60 : Int)) (2 : Int))) ++ (.mk (List.toArray [(58 : UInt8)]))) ++ (wideB (Int.tmod s (60 : Int)) (2 : Int)))))) : Option PV) := by
  kernel_rfl
theorem ck_raw_c (m : Int) (t : TypeId) (fr : Nat × Nat) (d s z : Int) : ((fnPure Tryd.prog (E3 (GG m t fr)) 60 Tryd.f55 (GG m t fr) [.agg [int d, int s, int z]])).conds =
 (bif (nB (IntKind.wrap .i64 (Int.tdiv s (3600 : Int))) (2 : Int)) then
 bif (Nat.ble ((ByteArray.size (wideB (IntKind.wrap .i64 (Int.tdiv s (3600 : Int))) (2 : Int))) + 1) (9223372036854775807 : Nat)) then
 bif (nB (Int.tmod (IntKind.wrap .i64 (Int.tdiv s (60 : Int))) (60 : Int)) (2 : Int)) then
 bif (Nat.ble ((ByteArray.size ((wideB (IntKind.wrap .i64 (Int.tdiv s (3600 : Int))) (2 : Int)) ++ (.mk (List.toArray [(58 : UInt8)])))) + (ByteArray.size (wideB (Int.tmod (IntKind.wrap .i64 (Int.tdiv s (60 : Int))) (60 : Int)) (2 : Int)))) (9223372036854775807 : Nat)) then
 bif (Nat.ble ((ByteArray.size (((wideB (IntKind.wrap .i64 (Int.tdiv s (3600 : Int))) (2 : Int)) ++ (.mk (List.toArray [(58 : UInt8)]))) ++ (wideB (Int.tmod (IntKind.wrap .i64 (Int.tdiv s (60 : Int))) (60 : Int)) (2 : Int)))) + 1) (9223372036854775807 : Nat)) then
 bif (nB (Int.tmod s (60 : Int)) (2 : Int)) then
 bif (Nat.ble ((ByteArray.size ((((wideB (IntKind.wrap .i64 (Int.tdiv s (3600 : Int))) (2 : Int)) ++ (.mk (List.toArray [(58 : UInt8)]))) ++ (wideB (Int.tmod (IntKind.wrap .i64 (Int.tdiv s (60 : Int))) (60 : Int)) (2 : Int))) ++ (.mk (List.toArray [(58 : UInt8)])))) + (ByteArray.size (wideB (Int.tmod s (60 : Int)) (2 : Int)))) (9223372036854775807 : Nat)) then
 true
 else false
 else false
 else false
 else false
 else false
 else false
 else false : Bool) := by
  kernel_rfl
theorem of_raw_v (m : Int) (t : TypeId) (fr : Nat × Nat) (d s z : Int) : ((fnPure Tryd.prog (E3 (GG m t fr)) 60 Tryd.f56 (GG m t fr) [.agg [int d, int s, int z]])).val =
 (bif (decide (z < (0 : Int))) then
 (.some (.lit (.string (((.mk (List.toArray [(45 : UInt8)])) ++ (wideB (IntKind.wrap .i64 (Int.tdiv (IntKind.wrap .i64 ((0 : Int) - z)) (60 : Int))) (2 : Int))) ++ (wideB (Int.tmod (IntKind.wrap .i64 ((0 : Int) - z)) (60 : Int)) (2 : Int))))))
 else (.some (.lit (.string (((.mk (List.toArray [(43 : UInt8)])) ++ (wideB (IntKind.wrap .i64 (Int.tdiv z (60 : Int))) (2 : Int))) ++ (wideB (Int.tmod z (60 : Int)) (2 : Int)))))) : Option PV) := by
  kernel_rfl
theorem of_raw_c (m : Int) (t : TypeId) (fr : Nat × Nat) (d s z : Int) : ((fnPure Tryd.prog (E3 (GG m t fr)) 60 Tryd.f56 (GG m t fr) [.agg [int d, int s, int z]])).conds =
 (bif (decide (z < (0 : Int))) then
 bif (nB (IntKind.wrap .i64 (Int.tdiv (IntKind.wrap .i64 ((0 : Int) - z)) (60 : Int))) (2 : Int)) then
 bif (Nat.ble (1 + (ByteArray.size (wideB (IntKind.wrap .i64 (Int.tdiv (IntKind.wrap .i64 ((0 : Int) - z)) (60 : Int))) (2 : Int)))) (9223372036854775807 : Nat)) then
 bif (nB (Int.tmod (IntKind.wrap .i64 ((0 : Int) - z)) (60 : Int)) (2 : Int)) then
 bif (Nat.ble ((ByteArray.size ((.mk (List.toArray [(45 : UInt8)])) ++ (wideB (IntKind.wrap .i64 (Int.tdiv (IntKind.wrap .i64 ((0 : Int) - z)) (60 : Int))) (2 : Int)))) + (ByteArray.size (wideB (Int.tmod (IntKind.wrap .i64 ((0 : Int) - z)) (60 : Int)) (2 : Int)))) (9223372036854775807 : Nat)) then
 true
 else false
 else false
 else false
 else false
 else bif (nB (IntKind.wrap .i64 (Int.tdiv z (60 : Int))) (2 : Int)) then
 bif (Nat.ble (1 + (ByteArray.size (wideB (IntKind.wrap .i64 (Int.tdiv z (60 : Int))) (2 : Int)))) (9223372036854775807 : Nat)) then
 bif (nB (Int.tmod z (60 : Int)) (2 : Int)) then
 bif (Nat.ble ((ByteArray.size ((.mk (List.toArray [(43 : UInt8)])) ++ (wideB (IntKind.wrap .i64 (Int.tdiv z (60 : Int))) (2 : Int)))) + (ByteArray.size (wideB (Int.tmod z (60 : Int)) (2 : Int)))) (9223372036854775807 : Nat)) then
 true
 else false
 else false
 else false
 else false : Bool) := by
  kernel_rfl
def inDay (d : Int) : Bool := dayB d
def dwriteG : List PV → Tr PV
  | [.lit (.int .i64 d)] => .br (dayB d) (.leaf (.tup [str (dateB d), int 0])) .fail
  | _ => .fail
theorem lit1 (c : UInt8) : (ByteArray.mk (List.toArray [c])).size = 1 := rfl
theorem dwrite_ok : PureOK Tryd.prog (GG m t fr) 54 dwriteG := by
  refine PureOK.of (fn_pure mixed E3_ok (envOf_cuts ..) (fn := Tryd.f54) (by kernel_rfl)) fun ps p hp => ?_
  unfold dwriteG at hp
  split at hp
  · rename_i d
    obtain ⟨hc, hq⟩ := br_run hp
    clear hp
    simp only [Tr.run, Option.some.injEq] at hq
    subst hq
    have hv := wr_raw_v m t fr d
    have hcc := wr_raw_c m t fr d
    obtain ⟨y1, y2, m1, m2, d1, d2⟩ := cv_at hc
    unfold dayB at hc
    simp only [Bool.and_eq_true, decide_eq_true_eq] at hc
    have h1 : decide (d ≥ (-719162 : Int)) = true := decide_eq_true hc.1
    have h2 : decide (d ≤ (2932896 : Int)) = true := decide_eq_true hc.2
    have h3 : (decide ((-719162 : Int) ≤ d) && decide (d ≤ (2932896 : Int))) = true := by rw [h2]; exact h1.symm ▸ rfl
    have n1 : nB (cvD d) 1 = true := by unfold nB; simp; omega
    have n2 : nB (cvY d) 4 = true := by unfold nB; simp; omega
    have l1 := wide_len n1
    have l2 := wide_len n2
    have w1 : IntKind.i64.wrap (3 * cvM d) = 3 * cvM d := wrap_mid (by omega) (by omega)
    have w2 : IntKind.i64.wrap (3 * cvM d - 3) = 3 * cvM d - 3 := wrap_mid (by omega) (by omega)
    have h4 : ((decide ((0 : Int) ≤ 3 * cvM d - 3) && decide (3 * cvM d - 3 ≤ 3 * cvM d)) && decide (3 * cvM d ≤ 36)) = true := by
      rw [Bool.and_eq_true, Bool.and_eq_true]
      exact ⟨⟨decide_eq_true (by omega), decide_eq_true (by omega)⟩, decide_eq_true (by omega)⟩
    have hm := mon_len (Int.toNat (3 * cvM d - 3)) (Int.toNat (3 * cvM d))
    unfold dateB
    simp only [w1, w2, h1, h2, Bool.not_true, cond_true, cond_false] at hv ⊢
    have hble : ∀ k : Nat, k ≤ 9223372036854775807 → Nat.ble k 9223372036854775807 = true := fun k h => Nat.ble_eq_true_of_le h
    simp only [w1, w2, h1, h2, h3, h4, n1, n2, Bool.not_true, cond_true, cond_false, ByteArray.size_append, ByteArray.size_extract, lit1] at hcc
    rw [hble _ (by omega), hble _ (by omega), hble _ (by omega), hble _ (by omega)] at hcc
    exact ⟨_, Tr.run_vc hv hcc rfl rfl, PLe.of_eq rfl⟩
  · cases hp
end
end Go.Proofs.YtlngnfkjpfokhaaDoor.Ev
