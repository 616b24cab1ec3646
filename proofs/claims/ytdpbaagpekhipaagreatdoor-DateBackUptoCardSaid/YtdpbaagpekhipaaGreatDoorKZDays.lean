/- The calendar's mathematics, and what the days' functions of the program and of the reference come to, told of their printed functions: the same day, or none. No condition. -/
import Derived.Test.YtdpbaagpekhipaaGreatDoorKZPAllx2
import Derived.Test.YtdpbaagpekhipaaGreatDoorKZPAllx6
import Derived.Test.YtdpbaagpekhipaaGreatDoorKZPAllx9
import Derived.IntWalk
namespace Go.Proofs.YtdpbaagpekhipaaGreatDoor
/-- leap, as 0 | 1 -/
def Cal.lp (y : Int) : Int := if y % 4 = 0 ∧ y % 100 ≠ 0 ∨ y % 400 = 0 then 1 else 0
def Cal.dim (y m : Int) : Int := if m = 2 then 28 + Cal.lp y else if m = 4 ∨ m = 6 ∨ m = 9 ∨ m = 11 then 30 else 31
def Cal.ahead (y : Int) : Int := 365 * (y - 1) + (y - 1) / 4 - (y - 1) / 100 + (y - 1) / 400
def Cal.cum (y m : Int) : Int :=
  if m ≤ 1 then 0 else if m = 2 then 31 else
  (if m = 3 then 59 else if m = 4 then 90 else if m = 5 then 120 else if m = 6 then 151 else if m = 7 then 181 else if m = 8 then 212 else if m = 9 then 243 else if m = 10 then 273 else if m = 11 then 304 else if m = 12 then 334 else 365) + Cal.lp y
def Cal.num (y m d : Int) : Int := Cal.ahead y + Cal.cum y m + d - 719163
def Cal.Vld (y m d : Int) : Prop := 1 ≤ m ∧ m ≤ 12 ∧ 1 ≤ d ∧ d ≤ Cal.dim y m

theorem Cal.lp01 (y : Int) : 0 ≤ Cal.lp y ∧ Cal.lp y ≤ 1 := by unfold Cal.lp; split <;> omega
theorem Cal.ahead_succ (y : Int) : Cal.ahead (y + 1) = Cal.ahead y + 365 + Cal.lp y := by
  unfold Cal.ahead Cal.lp; split <;> omega
theorem Cal.ahead_mono {a b : Int} (h : a ≤ b) : Cal.ahead a ≤ Cal.ahead b := by unfold Cal.ahead; omega
theorem Cal.cum_succ (y m : Int) (h1 : 1 ≤ m) (h2 : m ≤ 12) : Cal.cum y (m + 1) = Cal.cum y m + Cal.dim y m := by
  have := Cal.lp01 y
  obtain rfl | rfl | rfl | rfl | rfl | rfl | rfl | rfl | rfl | rfl | rfl | rfl : m = 1 ∨ m = 2 ∨ m = 3 ∨ m = 4 ∨ m = 5 ∨ m = 6 ∨ m = 7 ∨ m = 8 ∨ m = 9 ∨ m = 10 ∨ m = 11 ∨ m = 12 := by omega
  all_goals (simp [Cal.cum, Cal.dim]; try omega)
theorem Cal.dim_lo (y m : Int) : 28 ≤ Cal.dim y m ∧ Cal.dim y m ≤ 31 := by
  have := Cal.lp01 y; unfold Cal.dim; split <;> (try split) <;> omega
theorem Cal.cum_le (y m : Int) (h1 : 1 ≤ m) (h2 : m ≤ 12) : 0 ≤ Cal.cum y m ∧ Cal.cum y m + Cal.dim y m ≤ 365 + Cal.lp y := by
  have := Cal.lp01 y
  obtain rfl | rfl | rfl | rfl | rfl | rfl | rfl | rfl | rfl | rfl | rfl | rfl : m = 1 ∨ m = 2 ∨ m = 3 ∨ m = 4 ∨ m = 5 ∨ m = 6 ∨ m = 7 ∨ m = 8 ∨ m = 9 ∨ m = 10 ∨ m = 11 ∨ m = 12 := by omega
  all_goals (simp [Cal.cum, Cal.dim]; try omega)
theorem Cal.cum_lt (y m m' : Int) (h1 : 1 ≤ m) (h3 : m < m') (h2 : m' ≤ 12) : Cal.cum y m + Cal.dim y m ≤ Cal.cum y m' := by
  have := Cal.lp01 y
  obtain rfl | rfl | rfl | rfl | rfl | rfl | rfl | rfl | rfl | rfl | rfl : m = 1 ∨ m = 2 ∨ m = 3 ∨ m = 4 ∨ m = 5 ∨ m = 6 ∨ m = 7 ∨ m = 8 ∨ m = 9 ∨ m = 10 ∨ m = 11 := by omega
  all_goals
    obtain rfl | rfl | rfl | rfl | rfl | rfl | rfl | rfl | rfl | rfl | rfl : m' = 2 ∨ m' = 3 ∨ m' = 4 ∨ m' = 5 ∨ m' = 6 ∨ m' = 7 ∨ m' = 8 ∨ m' = 9 ∨ m' = 10 ∨ m' = 11 ∨ m' = 12 := by omega
    all_goals first | (exfalso; omega) | (simp [Cal.cum, Cal.dim]; try omega)
/-- two right days of one number are one -/
theorem Cal.inj {y m d y' m' d' : Int} (v : Cal.Vld y m d) (v' : Cal.Vld y' m' d') (h : Cal.num y m d = Cal.num y' m' d') : y = y' ∧ m = m' ∧ d = d' := by
  obtain ⟨a1, a2, a3, a4⟩ := v
  obtain ⟨b1, b2, b3, b4⟩ := v'
  have c1 := Cal.cum_le y m a1 a2
  have c2 := Cal.cum_le y' m' b1 b2
  unfold Cal.num at h
  have hy : y = y' := by
    have s1 := Cal.ahead_succ y
    have s2 := Cal.ahead_succ y'
    by_cases e : y = y'
    · exact e
    · exfalso
      rcases Int.lt_or_gt_of_ne e with g | g
      · have := Cal.ahead_mono (show y + 1 ≤ y' by omega); omega
      · have := Cal.ahead_mono (show y' + 1 ≤ y by omega); omega
  subst hy
  have hm : m = m' := by
    by_cases e : m = m'
    · exact e
    · exfalso
      rcases Int.lt_or_gt_of_ne e with g | g
      · have := Cal.cum_lt y m m' a1 g b2; omega
      · have := Cal.cum_lt y m' m b1 g a2; omega
  subst hm
  exact ⟨rfl, rfl, by omega⟩
theorem Cal.ahead_le (y : Int) (h1 : 1 ≤ y) (h2 : y ≤ 10000) : 0 ≤ Cal.ahead y ∧ Cal.ahead y ≤ 3652059 := by
  unfold Cal.ahead; omega

/-- the code's own way to a number: years that begin in March -/
def Cal.march (y m d : Int) : Int :=
  (y / 400) * 146097 + (y - y / 400 * 400) * 365 + (y - y / 400 * 400) / 4 - (y - y / 400 * 400) / 100 + ((153 * ((m + 9) % 12) + 2) / 5 + d - 1) - 719468
theorem Cal.march_num (y m d : Int) (h1 : 1 ≤ m) (h2 : m ≤ 12) : Cal.march (if m ≤ 2 then y - 1 else y) m d = Cal.num y m d := by
  obtain rfl | rfl | rfl | rfl | rfl | rfl | rfl | rfl | rfl | rfl | rfl | rfl : m = 1 ∨ m = 2 ∨ m = 3 ∨ m = 4 ∨ m = 5 ∨ m = 6 ∨ m = 7 ∨ m = 8 ∨ m = 9 ∨ m = 10 ∨ m = 11 ∨ m = 12 := by omega
  all_goals (simp [Cal.march, Cal.num, Cal.cum, Cal.ahead, Cal.lp]; try split) <;> omega

/-- the code's own way back -/
theorem Cal.civ_year (day year : Int) (h0 : 0 ≤ day) (h1 : day ≤ 146096)
    (hyear : year = (day - day / 1460 + day / 36524 - day / 146096) / 365) :
    0 ≤ year ∧ year ≤ 399 ∧ 365 * year + year / 4 - year / 100 ≤ day ∧ day ≤ 365 * year + year / 4 - year / 100 + 364 + (if (year + 1) % 4 = 0 ∧ ((year + 1) % 100 ≠ 0 ∨ (year + 1) % 400 = 0) then 1 else 0) := by
  have hd : day / 146096 = if day = 146096 then 1 else 0 := by split <;> omega
  by_cases hl : day = 146096
  · subst hl; simp at hyear; subst hyear; decide
  · rw [if_neg hl] at hd
    have hc : day / 36524 = 0 ∨ day / 36524 = 1 ∨ day / 36524 = 2 ∨ day / 36524 = 3 := by omega
    rw [hd] at hyear
    have e4 : year / 100 = day / 36524 := by
      rcases hc with hc | hc | hc | hc <;> (rw [hc] at hyear ⊢; omega)
    rw [e4]
    have hb : 0 ≤ year ∧ year ≤ 399 := by omega
    refine ⟨hb.1, hb.2, ?_, ?_⟩
    · rcases hc with hc | hc | hc | hc <;> (rw [hc] at hyear ⊢; omega)
    · have h4 : year % 4 = 0 ∨ year % 4 = 1 ∨ year % 4 = 2 ∨ year % 4 = 3 := by omega
      rcases hc with hc | hc | hc | hc <;> (rw [hc] at hyear e4 ⊢; rcases h4 with h4 | h4 | h4 | h4 <;> (have : day / 1460 ≤ year / 4 ∨ year / 4 + 1 ≤ day / 1460 := by omega) <;> rcases this with g | g <;> split <;> omega)
theorem Cal.lp_400 (y e : Int) : Cal.lp (y + e * 400) = Cal.lp y := by
  unfold Cal.lp
  have h1 : (y + e * 400) % 4 = y % 4 := by omega
  have h2 : (y + e * 400) % 100 = y % 100 := by omega
  have h3 : (y + e * 400) % 400 = y % 400 := by omega
  rw [h1, h2, h3]
/-- what the code comes to is a right day, whose number is this one -/
theorem Cal.civ (n N e day year inYear mp : Int) (hN : N = n + 719468) (_h0 : 0 ≤ N) (he : e = N / 146097) (hday : day = N - e * 146097)
    (hyear : year = (day - day / 1460 + day / 36524 - day / 146096) / 365) (hin : inYear = day - (365 * year + year / 4 - year / 100)) (hmp : mp = (5 * inYear + 2) / 153) :
    0 ≤ mp ∧ mp ≤ 11 ∧ 0 ≤ inYear ∧ inYear ≤ 365 ∧ 0 ≤ year ∧ year ≤ 399 ∧
    (mp + 3 > 12 → Cal.Vld (year + e * 400 + 1) (mp + 3 - 12) (inYear - (153 * mp + 2) / 5 + 1) ∧ Cal.num (year + e * 400 + 1) (mp + 3 - 12) (inYear - (153 * mp + 2) / 5 + 1) = n) ∧
    (¬ mp + 3 > 12 → Cal.Vld (year + e * 400) (mp + 3) (inYear - (153 * mp + 2) / 5 + 1) ∧ Cal.num (year + e * 400) (mp + 3) (inYear - (153 * mp + 2) / 5 + 1) = n) := by
  have hd0 : 0 ≤ day ∧ day ≤ 146096 := by omega
  obtain ⟨y0, y1, lo, hi⟩ := Cal.civ_year day year hd0.1 hd0.2 hyear
  have hi0 : 0 ≤ inYear := by omega
  have hi1 : inYear ≤ 365 := by rw [hin]; revert hi; split <;> omega
  have hmp0 : 0 ≤ mp ∧ mp ≤ 11 := by omega
  have num_of : ∀ y m, 1 ≤ m → m ≤ 12 → (if m ≤ 2 then y - 1 else y) = year + e * 400 → (m + 9) % 12 = mp → Cal.num y m (inYear - (153 * mp + 2) / 5 + 1) = n := by
    intro y m a b c d
    rw [← Cal.march_num y m _ a b, c]
    unfold Cal.march
    rw [d]
    have k1 : (year + e * 400) / 400 = e := by omega
    rw [k1]
    have k2 : year + e * 400 - e * 400 = year := by omega
    rw [k2]
    omega
  refine ⟨hmp0.1, hmp0.2, hi0, hi1, y0, y1, fun g => ?_, fun g => ?_⟩
  · refine ⟨⟨by omega, by omega, by omega, ?_⟩, num_of _ _ (by omega) (by omega) (by rw [if_pos (by omega)]; omega) (by omega)⟩
    have hc : mp = 10 ∨ mp = 11 := by omega
    rcases hc with rfl | rfl
    · simp [Cal.dim]; omega
    · have e1 : Cal.lp (year + e * 400 + 1) = Cal.lp (year + 1) := by rw [show year + e * 400 + 1 = (year + 1) + e * 400 by omega, Cal.lp_400]
      simp only [Cal.dim, e1]
      unfold Cal.lp
      revert hi
      split <;> split <;> simp <;> omega
  · refine ⟨⟨by omega, by omega, by omega, ?_⟩, num_of _ _ (by omega) (by omega) (by rw [if_neg (by omega)]) (by omega)⟩
    have hc : mp = 0 ∨ mp = 1 ∨ mp = 2 ∨ mp = 3 ∨ mp = 4 ∨ mp = 5 ∨ mp = 6 ∨ mp = 7 ∨ mp = 8 ∨ mp = 9 := by omega
    rcases hc with rfl | rfl | rfl | rfl | rfl | rfl | rfl | rfl | rfl | rfl <;> (simp [Cal.dim]; omega)
end Go.Proofs.YtdpbaagpekhipaaGreatDoor
open Go Go.RowKit Go.Proofs.YtdpbaagpekhipaaGreatDoorW.PrintWords Go.Proofs.YtdpbaagpekhipaaGreatDoorW.PrintLast
namespace Go.Proofs.YtdpbaagpekhipaaGreatDoor.PAll
theorem w64 {n : Int} (h : -9223372036854775808 ≤ n) (h' : n ≤ 9223372036854775807) : wrap64 n = n := IntWalk.wrap64_in n ⟨h, h'⟩
theorem td {a : Int} (b : Int) (h : 0 ≤ a) : Int.tdiv a b = a / b := Int.tdiv_eq_ediv_of_nonneg h
theorem tm {a : Int} (b : Int) (h : 0 ≤ a) : Int.tmod a b = a % b := Int.tmod_eq_emod_of_nonneg h
def cF (e year inYear mp : Int) : Option (Int × Int × Int) :=
  if wrap64 (mp + 3) > 12 then some (wrap64 (wrap64 (year + wrap64 (e * 400)) + 1), wrap64 (wrap64 (mp + 3) - 12), wrap64 (wrap64 (inYear - wrap64 (Int.tdiv (wrap64 (wrap64 (153 * mp) + 2)) 5)) + 1))
  else some (wrap64 (year + wrap64 (e * 400)), wrap64 (mp + 3), wrap64 (wrap64 (inYear - wrap64 (Int.tdiv (wrap64 (wrap64 (153 * mp) + 2)) 5)) + 1))
def cE (e year inYear : Int) : Option (Int × Int × Int) := cF e year inYear (wrap64 (Int.tdiv (wrap64 (wrap64 (5 * inYear) + 2)) 153))
def cD (e day year : Int) : Option (Int × Int × Int) := cE e year (wrap64 (day - wrap64 (wrap64 (wrap64 (365 * year) + wrap64 (Int.tdiv year 4)) - wrap64 (Int.tdiv year 100))))
def cC (e day : Int) : Option (Int × Int × Int) := cD e day (wrap64 (Int.tdiv (wrap64 (wrap64 (wrap64 (day - wrap64 (Int.tdiv day 1460)) + wrap64 (Int.tdiv day 36524)) - wrap64 (Int.tdiv day 146096))) 365))
def cB (n e : Int) : Option (Int × Int × Int) := cC e (wrap64 (n - wrap64 (e * 146097)))
def cA (n : Int) : Option (Int × Int × Int) := cB n (wrap64 (Int.tdiv n 146097))
theorem civil_eq (a : Int) : date_civil.f a = cA (wrap64 (a + 719468)) := rfl
theorem civil_right (n : Int) (h1 : -719162 ≤ n) (h2 : n ≤ 2932896) : ∃ y m d, date_civil.f n = some (y, m, d) ∧ Cal.Vld y m d ∧ Cal.num y m d = n := by
  rw [civil_eq]
  have e1 : wrap64 (n + 719468) = n + 719468 := w64 (by omega) (by omega)
  rw [e1]
  generalize hN : n + 719468 = N
  have e2 : wrap64 (Int.tdiv N 146097) = N / 146097 := by rw [td _ (by omega)]; exact w64 (by omega) (by omega)
  unfold cA
  rw [e2]
  generalize he : N / 146097 = e
  have e3 : wrap64 (N - wrap64 (e * 146097)) = N - e * 146097 := by rw [w64 (n := e * 146097) (by omega) (by omega)]; exact w64 (by omega) (by omega)
  unfold cB
  rw [e3]
  generalize hd : N - e * 146097 = day
  have e4 : wrap64 (Int.tdiv (wrap64 (wrap64 (wrap64 (day - wrap64 (Int.tdiv day 1460)) + wrap64 (Int.tdiv day 36524)) - wrap64 (Int.tdiv day 146096))) 365) = (day - day / 1460 + day / 36524 - day / 146096) / 365 := by
    simp (disch := omega) only [td, w64]
  unfold cC
  rw [e4]
  generalize hy : (day - day / 1460 + day / 36524 - day / 146096) / 365 = year
  have hy0 : 0 ≤ year ∧ year ≤ 400 := by omega
  have e5 : wrap64 (day - wrap64 (wrap64 (wrap64 (365 * year) + wrap64 (Int.tdiv year 4)) - wrap64 (Int.tdiv year 100))) = day - (365 * year + year / 4 - year / 100) := by
    simp (disch := omega) only [td, w64]
  unfold cD
  rw [e5]
  generalize hi : day - (365 * year + year / 4 - year / 100) = inYear
  have key := Cal.civ n N e day year inYear _ hN.symm (by omega) he.symm hd.symm hy.symm hi.symm rfl
  obtain ⟨k1, k2, k3, k4, k5, k6, kg, kl⟩ := key
  have e6 : wrap64 (Int.tdiv (wrap64 (wrap64 (5 * inYear) + 2)) 153) = (5 * inYear + 2) / 153 := by
    simp (disch := omega) only [td, w64]
  unfold cE
  rw [e6]
  generalize hm : (5 * inYear + 2) / 153 = mp at *
  have e7 : wrap64 (wrap64 (inYear - wrap64 (Int.tdiv (wrap64 (wrap64 (153 * mp) + 2)) 5)) + 1) = inYear - (153 * mp + 2) / 5 + 1 := by
    simp (disch := omega) only [td, w64]
  have e8 : wrap64 (mp + 3) = mp + 3 := w64 (by omega) (by omega)
  have e9 : wrap64 (year + wrap64 (e * 400)) = year + e * 400 := by rw [w64 (n := e * 400) (by omega) (by omega)]; exact w64 (by omega) (by omega)
  unfold cF
  rw [e7, e8, e9]
  by_cases g : mp + 3 > 12
  · rw [if_pos g, w64 (n := year + e * 400 + 1) (by omega) (by omega), w64 (n := mp + 3 - 12) (by omega) (by omega)]
    exact ⟨_, _, _, rfl, (kg g).1, (kg g).2⟩
  · rw [if_neg g]
    exact ⟨_, _, _, rfl, (kl g).1, (kl g).2⟩
theorem number_right (y m d : Int) (hy : 1 ≤ y) (hy2 : y ≤ 9999) (hm : 1 ≤ m) (hm2 : m ≤ 12) (hd : 1 ≤ d) (hd2 : d ≤ 31) : date_number.f y m d = some (Cal.num y m d) := by
  rw [← Cal.march_num y m d hm hm2]
  unfold date_number.f Cal.march
  by_cases g : m ≤ 2
  · rw [if_pos g, if_pos g]
    rw [w64 (n := y - 1) (by omega) (by omega)]
    generalize hY : y - 1 = Y
    simp (disch := omega) only [td, tm, w64]
  · rw [if_neg g, if_neg g]
    simp (disch := omega) only [td, tm, w64]
theorem num_range (y m d : Int) (hy : 1 ≤ y) (hy2 : y ≤ 9999) (hm : 1 ≤ m) (hm2 : m ≤ 12) (hd : 1 ≤ d) (hd2 : d ≤ 31) : -719162 ≤ Cal.num y m d ∧ Cal.num y m d ≤ 2932896 := by
  have a := Cal.ahead_le y hy (by omega)
  have s := Cal.ahead_succ y
  have b := Cal.ahead_le (y + 1) (by omega) (by omega)
  have c := Cal.cum_le y m hm hm2
  have l := Cal.lp01 y
  unfold Cal.num
  refine ⟨by omega, ?_⟩
  by_cases g : d ≤ Cal.dim y m
  · omega
  · have hm' : m ≤ 11 := by
      rcases (by omega : m ≤ 11 ∨ m = 12) with h | h
      · exact h
      · subst h; simp [Cal.dim] at g; omega
    have c' := Cal.cum_le y (m + 1) (by omega) (by omega)
    have cs := Cal.cum_succ y m hm hm2
    have d1 := Cal.dim_lo y (m + 1)
    have d2 := Cal.dim_lo y m
    omega
theorem year_of_num {y m d : Int} (v : Cal.Vld y m d) (h1 : -719162 ≤ Cal.num y m d) (h2 : Cal.num y m d ≤ 2932896) : 1 ≤ y ∧ y ≤ 9999 := by
  obtain ⟨a1, a2, a3, a4⟩ := v
  have c := Cal.cum_le y m a1 a2
  have s := Cal.ahead_succ y
  unfold Cal.num at h1 h2
  constructor
  · rcases (by omega : 1 ≤ y ∨ y + 1 ≤ 1) with h | h
    · exact h
    · have := Cal.ahead_mono h; have : Cal.ahead 1 = 0 := rfl; omega
  · rcases (by omega : y ≤ 9999 ∨ 10000 ≤ y) with h | h
    · exact h
    · have := Cal.ahead_mono h; have : Cal.ahead 10000 = 3652059 := rfl; omega
/-- the code's day: there is one where the reference has one -/
def DayIs (y m d : Int) (r : Int × Int) : Prop :=
  (1 ≤ y ∧ y ≤ 9999 ∧ Cal.Vld y m d → r = (Cal.num y m d, 0)) ∧ (¬ (1 ≤ y ∧ y ≤ 9999 ∧ Cal.Vld y m d) → r = (0, 1))
theorem day_right (y m d : Int) (k : Nat) : ∃ r, date_Day.f (k + 1) y m d = some r ∧ DayIs y m d r := by
  have out : ∀ (h : ¬ (1 ≤ y ∧ y ≤ 9999 ∧ 1 ≤ m ∧ m ≤ 12 ∧ 1 ≤ d ∧ d ≤ 31)), date_Day.f (k + 1) y m d = some (0, 1) := by
    intro h
    unfold date_Day.f
    simp only [date_Day.j0, if_true]
    repeat' split
    all_goals first | rfl | (exfalso; simp at *; omega)
  by_cases g : 1 ≤ y ∧ y ≤ 9999 ∧ 1 ≤ m ∧ m ≤ 12 ∧ 1 ≤ d ∧ d ≤ 31
  · obtain ⟨hy, hy2, hm, hm2, hd, hd2⟩ := g
    have r := num_range y m d hy hy2 hm hm2 hd hd2
    obtain ⟨y', m', d', hc, hv, hn⟩ := civil_right _ r.1 r.2
    have hf : date_Day.f (k + 1) y m d = if m' = m then some (Cal.num y m d, 0) else some (0, 1) := by
      unfold date_Day.f
      rw [if_neg (by omega), if_neg (by omega), if_neg (by omega), if_neg (by omega), if_neg (by omega)]
      have : decide (d > 31) = false := by simp; omega
      rw [this]
      simp only [date_Day.j0]
      rw [if_neg (by simp), number_right y m d hy hy2 hm hm2 hd hd2]
      simp only [Option.bind_some]
      rw [hc]
      simp only [Option.bind_some]
    by_cases gd : d ≤ Cal.dim y m
    · have v : Cal.Vld y m d := ⟨hm, hm2, hd, gd⟩
      obtain ⟨_, e, _⟩ := Cal.inj hv v hn
      rw [hf, if_pos e]
      exact ⟨_, rfl, fun _ => rfl, fun h => absurd ⟨hy, hy2, v⟩ h⟩
    · have hm' : m ≤ 11 := by
        rcases (by omega : m ≤ 11 ∨ m = 12) with h | h
        · exact h
        · subst h; simp [Cal.dim] at gd; omega
      have v : Cal.Vld y (m + 1) (d - Cal.dim y m) := by
        have d1 := Cal.dim_lo y (m + 1)
        have d2 := Cal.dim_lo y m
        exact ⟨by omega, by omega, by omega, by omega⟩
      have en : Cal.num y (m + 1) (d - Cal.dim y m) = Cal.num y m d := by unfold Cal.num; rw [Cal.cum_succ y m hm hm2]; omega
      obtain ⟨_, e, _⟩ := Cal.inj hv v (hn.trans en.symm)
      rw [hf, if_neg (by omega)]
      exact ⟨_, rfl, fun h => absurd h.2.2.2.2.2 gd, fun _ => rfl⟩
  · rw [out g]
    refine ⟨_, rfl, fun h => absurd ?_ g, fun _ => rfl⟩
    obtain ⟨a, b, c1, c2, c3, c4⟩ := h
    have := Cal.dim_lo y m
    exact ⟨a, b, c1, c2, c3, by omega⟩
theorem leap_right (y : Int) (h : 0 ≤ y) : missiveref10_leap.f y = some (decide (Cal.lp y = 1)) := by
  unfold missiveref10_leap.f Cal.lp
  rw [tm _ h, tm _ h, tm _ h]
  by_cases g4 : y % 4 = 0 <;> by_cases g100 : y % 100 = 0 <;> by_cases g400 : y % 400 = 0 <;> simp [g4, g100, g400] <;> omega
theorem long_right (y m : Int) (h : 0 ≤ y) : missiveref10_long.f y m = some (Cal.dim y m) := by
  unfold missiveref10_long.f Cal.dim
  rw [leap_right y h]
  have := Cal.lp01 y
  by_cases e : m = 2
  · rw [if_pos e, if_pos e]
    simp only [Option.bind_some, decide_eq_true_eq]
    split <;> (congr 1; omega)
  · rw [if_neg e, if_neg e]
    repeat' split
    all_goals first | rfl | (exfalso; omega)
theorem ahead_right (y : Int) (h : 1 ≤ y) (h2 : y ≤ 100000) : missiveref10_ahead.f y = some (Cal.ahead y) := by
  unfold missiveref10_ahead.f Cal.ahead
  rw [w64 (n := y - 1) (by omega) (by omega)]
  generalize hY : y - 1 = Y
  simp (disch := omega) only [td, w64]
theorem refday_loop (y m s : Int) (hy : 1 ≤ y) (hy2 : y ≤ 9999) (hm2 : m ≤ 12) (hs : -1000000 ≤ s ∧ s ≤ 4000000) (j : Nat) : ∀ (i : Int) (k : Nat), 1 ≤ i → i ≤ m → m - i = j → j < k →
    missiveref10_Day.l0 k y m (s + Cal.cum y i) i = some (s + Cal.cum y m, 0) := by
  induction j with
  | zero =>
    intro i k h1 h2 h3 hk
    obtain ⟨k, rfl⟩ : ∃ q, k = q + 1 := ⟨k - 1, by omega⟩
    obtain rfl : i = m := by omega
    simp only [missiveref10_Day.l0]; rw [if_neg (by omega)]
  | succ j ih =>
    intro i k h1 h2 h3 hk
    obtain ⟨k, rfl⟩ : ∃ q, k = q + 1 := ⟨k - 1, by omega⟩
    have c := Cal.cum_le y i h1 (by omega)
    have l := Cal.lp01 y
    have dl := Cal.dim_lo y i
    simp only [missiveref10_Day.l0]; rw [if_pos (by omega), long_right y i (by omega)]
    simp only [Option.bind_some]
    rw [w64 (n := i + 1) (by omega) (by omega), w64 (by omega) (by omega)]
    rw [show s + Cal.cum y i + Cal.dim y i = s + Cal.cum y (i + 1) by rw [Cal.cum_succ y i h1 (by omega)]; omega]
    exact ih (i + 1) k (by omega) (by omega) (by omega) (by omega)
theorem refday_right (y m d : Int) : ∃ r, missiveref10_Day.f 20 y m d = some r ∧ DayIs y m d r := by
  have out : ∀ (h : ¬ (1 ≤ y ∧ y ≤ 9999 ∧ 1 ≤ m ∧ m ≤ 12 ∧ 1 ≤ d ∧ d ≤ Cal.dim y m)), missiveref10_Day.f 20 y m d = some (0, 1) := by
    intro h
    unfold missiveref10_Day.f
    simp only [missiveref10_Day.j0, if_true]
    by_cases e : y < 1
    · rw [if_pos e]
    · rw [if_neg e, long_right y m (by omega)]
      simp only [Option.bind_some]
      repeat' split
      all_goals first | rfl | (exfalso; simp at *; omega)
  by_cases g : 1 ≤ y ∧ y ≤ 9999 ∧ 1 ≤ m ∧ m ≤ 12 ∧ 1 ≤ d ∧ d ≤ Cal.dim y m
  · obtain ⟨hy, hy2, hm, hm2, hd, hd2⟩ := g
    refine ⟨(Cal.num y m d, 0), ?_, fun _ => rfl, fun h => absurd ⟨hy, hy2, hm, hm2, hd, hd2⟩ h⟩
    have a := Cal.ahead_le y hy (by omega)
    have dl := Cal.dim_lo y m
    unfold missiveref10_Day.f
    rw [if_neg (by omega), if_neg (by omega), if_neg (by omega), if_neg (by omega), if_neg (by omega), long_right y m (by omega)]
    simp only [Option.bind_some]
    have : decide (d > Cal.dim y m) = false := by simp; omega
    rw [this]
    simp only [missiveref10_Day.j0]
    rw [if_neg (by simp), ahead_right y hy (by omega)]
    simp only [Option.bind_some]
    have e : wrap64 (wrap64 (wrap64 (-719162 + Cal.ahead y) + d) - 1) = (-719162 + Cal.ahead y + d - 1) + Cal.cum y 1 := by
      have : Cal.cum y 1 = 0 := by simp [Cal.cum]
      simp (disch := omega) only [w64]; omega
    rw [e, refday_loop y m _ hy hy2 hm2 (by omega) (m - 1).toNat 1 19 (by omega) hm (by omega) (by omega)]
    unfold Cal.num
    congr 2; omega
  · rw [out g]
    refine ⟨_, rfl, fun h => absurd ?_ g, fun _ => rfl⟩
    exact h
def CivIs (n : Int) (r : Int × Int × Int × Int) : Prop :=
  (-719162 ≤ n ∧ n ≤ 2932896 → ∃ y m d, r = (y, m, d, 0) ∧ Cal.Vld y m d ∧ Cal.num y m d = n) ∧ (¬ (-719162 ≤ n ∧ n ≤ 2932896) → r = (0, 0, 0, 1))
theorem civ_one {n : Int} {r r' : Int × Int × Int × Int} (h : CivIs n r) (h' : CivIs n r') : r = r' := by
  by_cases g : -719162 ≤ n ∧ n ≤ 2932896
  · obtain ⟨y, m, d, rfl, v, e⟩ := h.1 g
    obtain ⟨y', m', d', rfl, v', e'⟩ := h'.1 g
    obtain ⟨rfl, rfl, rfl⟩ := Cal.inj v v' (e.trans e'.symm)
    rfl
  · rw [h.2 g, h'.2 g]
theorem there_right (n : Int) : date_there.f n = some (decide (-719162 ≤ n ∧ n ≤ 2932896)) := by
  unfold date_there.f
  split <;> (congr 1; simp; omega)
theorem Civil_right (n : Int) : ∃ r, date_Civil.f n = some r ∧ CivIs n r := by
  unfold date_Civil.f
  rw [there_right]
  simp only [Option.bind_some, decide_eq_true_eq]
  by_cases g : -719162 ≤ n ∧ n ≤ 2932896
  · obtain ⟨y, m, d, e, v, hn⟩ := civil_right n g.1 g.2
    rw [if_pos g, e]
    exact ⟨_, rfl, fun _ => ⟨y, m, d, rfl, v, hn⟩, fun h => absurd g h⟩
  · rw [if_neg g]
    exact ⟨_, rfl, fun h => absurd h g, fun _ => rfl⟩
theorem refciv_l1 (y t : Int) (hy : 1 ≤ y) (_ht0 : 0 ≤ t) (ht : t < 365 + Cal.lp y) (j : Nat) : ∀ (m : Int) (k : Nat), 1 ≤ m → 12 - m = j → Cal.cum y m ≤ t → j < k →
    ∃ m' d', missiveref10_Civil.l1 k y (t - Cal.cum y m) m = some (y, m', d', 0) ∧ Cal.Vld y m' d' ∧ Cal.cum y m' + d' - 1 = t := by
  have lp := Cal.lp01 y
  induction j with
  | zero =>
    intro m k h1 h2 h3 hk
    obtain ⟨k, rfl⟩ : ∃ q, k = q + 1 := ⟨k - 1, by omega⟩
    obtain rfl : m = 12 := by omega
    have hc : Cal.cum y 12 = 334 + Cal.lp y := by simp [Cal.cum]
    have hd : Cal.dim y 12 = 31 := by simp [Cal.dim]
    simp only [missiveref10_Civil.l1]; rw [long_right y 12 (by omega)]
    simp only [Option.bind_some]
    rw [if_neg (by omega), w64 (by omega) (by omega)]
    exact ⟨12, t - Cal.cum y 12 + 1, rfl, ⟨by omega, by omega, by omega, by omega⟩, by omega⟩
  | succ j ih =>
    intro m k h1 h2 h3 hk
    obtain ⟨k, rfl⟩ : ∃ q, k = q + 1 := ⟨k - 1, by omega⟩
    have dl := Cal.dim_lo y m
    have cs := Cal.cum_succ y m h1 (by omega)
    have cl := Cal.cum_le y m h1 (by omega)
    simp only [missiveref10_Civil.l1]; rw [long_right y m (by omega)]
    simp only [Option.bind_some]
    by_cases g : t - Cal.cum y m ≥ Cal.dim y m
    · rw [if_pos g, w64 (n := m + 1) (by omega) (by omega), w64 (by omega) (by omega)]
      rw [show t - Cal.cum y m - Cal.dim y m = t - Cal.cum y (m + 1) by omega]
      exact ih (m + 1) k (by omega) (by omega) (by omega) (by omega)
    · rw [if_neg g, w64 (by omega) (by omega)]
      exact ⟨m, _, rfl, ⟨by omega, by omega, by omega, by omega⟩, by omega⟩
theorem refciv_end (n y : Int) (h1 : -719162 ≤ n) (h2 : n ≤ 2932896) (hy : 1 ≤ y) (hy2 : y ≤ 9999) (hlo : -719162 + Cal.ahead y ≤ n) (hhi : y + 1 > 9999 ∨ n < -719162 + Cal.ahead (y + 1)) (k : Nat) (hk : 13 < k) :
    ∃ m d, missiveref10_Civil.l0 k n y 0 = some (y, m, d, 0) ∧ Cal.Vld y m d ∧ Cal.num y m d = n := by
  obtain ⟨k, rfl⟩ : ∃ q, k = q + 1 := ⟨k - 1, by omega⟩
  have s := Cal.ahead_succ y
  have b := Cal.ahead_le (y + 1) (by omega) (by omega)
  have a := Cal.ahead_le y (by omega) (by omega)
  have lp := Cal.lp01 y
  have ht : n + 719162 - Cal.ahead y < 365 + Cal.lp y := by
    rcases hhi with h | h
    · have : y = 9999 := by omega
      subst this
      have : Cal.ahead (9999 + 1) = 3652059 := rfl
      omega
    · omega
  have hc1 : Cal.cum y 1 = 0 := by simp [Cal.cum]
  obtain ⟨m', d', e, v, hs⟩ := refciv_l1 y (n + 719162 - Cal.ahead y) hy (by omega) ht 11 1 k (by omega) (by omega) (by omega) (by omega)
  refine ⟨m', d', ?_, v, by unfold Cal.num; omega⟩
  simp only [missiveref10_Civil.l0]; rw [if_neg (by omega), ahead_right y hy (by omega)]
  simp only [Option.bind_some]
  rw [w64 (n := n - -719162) (by omega) (by omega), w64 (by omega) (by omega), ← e]
  congr 1; omega
theorem refciv_l0 (n : Int) (h1 : -719162 ≤ n) (h2 : n ≤ 2932896) (j : Nat) : j ≤ 13 → ∀ (y : Int) (k : Nat), 1 ≤ y → y ≤ 9999 → -719162 + Cal.ahead y ≤ n → (y + 2 ^ (j + 1) > 9999 ∨ n < -719162 + Cal.ahead (y + 2 ^ (j + 1))) → j + 14 < k →
    ∃ y' m d, missiveref10_Civil.l0 k n y (2 ^ j) = some (y', m, d, 0) ∧ Cal.Vld y' m d ∧ Cal.num y' m d = n := by
  induction j with
  | zero =>
    intro hj y k hy hy2 hlo hhi hk
    obtain ⟨k, rfl⟩ : ∃ q, k = q + 1 := ⟨k - 1, by omega⟩
    simp only [missiveref10_Civil.l0]
    have hhi' : y + 2 > 9999 ∨ n < -719162 + Cal.ahead (y + 2) := hhi
    rw [if_pos (by decide), show ((2 : Int) ^ 0) = 1 from rfl, w64 (n := y + 1) (by omega) (by omega), show wrap64 (Int.tdiv 1 2) = 0 by decide +kernel]
    by_cases g : y + 1 ≤ 9999
    · rw [if_pos g, ahead_right (y + 1) (by omega) (by omega)]
      simp only [Option.bind_some]
      have b := Cal.ahead_le (y + 1) (by omega) (by omega)
      rw [w64 (n := -719162 + Cal.ahead (y + 1)) (by omega) (by omega)]
      by_cases g2 : -719162 + Cal.ahead (y + 1) ≤ n
      · rw [if_pos g2]
        obtain ⟨m, d, e⟩ := refciv_end n (y + 1) h1 h2 (by omega) (by omega) g2 (by rw [show y + 1 + 1 = y + 2 by omega]; exact hhi') k (by omega)
        exact ⟨_, m, d, e⟩
      · rw [if_neg g2]
        obtain ⟨m, d, e⟩ := refciv_end n y h1 h2 (by omega) (by omega) hlo (by omega) k (by omega)
        exact ⟨_, m, d, e⟩
    · rw [if_neg g]
      obtain ⟨m, d, e⟩ := refciv_end n y h1 h2 (by omega) (by omega) hlo (by omega) k (by omega)
      exact ⟨_, m, d, e⟩
  | succ j ih =>
    intro hj y k hy hy2 hlo hhi hk
    obtain ⟨k, rfl⟩ : ∃ q, k = q + 1 := ⟨k - 1, by omega⟩
    simp only [missiveref10_Civil.l0]
    have hp : (0 : Int) < 2 ^ j := Int.pow_pos (by decide)
    have hp2 : (2 : Int) ^ j ≤ 8192 := by
      have : 2 ^ j ≤ 2 ^ 13 := Nat.pow_le_pow_right (by decide) (by omega)
      have h := Int.ofNat_le.mpr this
      simpa using h
    have e1 : (2 : Int) ^ (j + 1) = 2 * 2 ^ j := by rw [Int.pow_succ]; omega
    have e2 : (2 : Int) ^ (j + 1 + 1) = 4 * 2 ^ j := by rw [Int.pow_succ, e1]; omega
    rw [e2] at hhi
    have ih' := ih (by omega)
    rw [e1] at ih'
    rw [e1]
    generalize (2 : Int) ^ j = p at *
    rw [if_pos (by omega), w64 (n := y + 2 * p) (by omega) (by omega)]
    have e3 : wrap64 (Int.tdiv (2 * p) 2) = p := by rw [td _ (by omega), w64 (by omega) (by omega)]; omega
    rw [e3]
    by_cases g : y + 2 * p ≤ 9999
    · rw [if_pos g, ahead_right (y + 2 * p) (by omega) (by omega)]
      simp only [Option.bind_some]
      have b := Cal.ahead_le (y + 2 * p) (by omega) (by omega)
      rw [w64 (n := -719162 + Cal.ahead (y + 2 * p)) (by omega) (by omega)]
      by_cases g2 : -719162 + Cal.ahead (y + 2 * p) ≤ n
      · rw [if_pos g2]
        exact ih' (y + 2 * p) k (by omega) (by omega) g2 (by rw [show y + 2 * p + 2 * p = y + 4 * p by omega]; exact hhi) (by omega)
      · rw [if_neg g2]
        exact ih' y k (by omega) (by omega) hlo (by omega) (by omega)
    · rw [if_neg g]
      exact ih' y k (by omega) (by omega) hlo (by omega) (by omega)
theorem refCivil_right (n : Int) : ∃ r, missiveref10_Civil.f 40 n = some r ∧ CivIs n r := by
  unfold missiveref10_Civil.f
  simp only [missiveref10_Civil.j0]
  by_cases g : -719162 ≤ n ∧ n ≤ 2932896
  · rw [if_neg (by omega), if_neg (by simp; omega)]
    have h0 : Cal.ahead 1 = 0 := rfl
    obtain ⟨y, m, d, e, v, hn⟩ := refciv_l0 n g.1 g.2 13 (by decide) 1 39 (by decide) (by decide) (by omega) (Or.inl (by decide)) (by decide)
    exact ⟨_, e, fun _ => ⟨y, m, d, rfl, v, hn⟩, fun h => absurd g h⟩
  · refine ⟨(0, 0, 0, 1), ?_, fun h => absurd h g, fun _ => rfl⟩
    by_cases g1 : n < -719162
    · rw [if_pos g1]; rfl
    · rw [if_neg g1, if_pos (by simp; omega)]
end Go.Proofs.YtdpbaagpekhipaaGreatDoor.PAll

