/- The calendar's mathematics: the number of a day, that two right days of one number are one, and that the code's two ways (years that begin in March) are that number's. No condition. -/
namespace Go.Proofs.Ytdpbaagpekhipaa
/-- leap, as 0 | 1 -/
def Cal.lp (y : Int) : Int := if y % 4 = 0 ∧ y % 100 ≠ 0 ∨ y % 400 = 0 then 1 else 0
def Cal.dim (y m : Int) : Int := if m = 2 then 28 + Cal.lp y else if m = 4 ∨ m = 6 ∨ m = 9 ∨ m = 11 then 30 else 31
def Cal.ahead (y : Int) : Int := 365 * (y - 1) + (y - 1) / 4 - (y - 1) / 100 + (y - 1) / 400
def Cal.cum (y m : Int) : Int :=
  if m ≤ 1 then 0 else if m = 2 then 31 else
  (if m = 3 then 59 else if m = 4 then 90 else if m = 5 then 120 else if m = 6 then 151 else if m = 7 then 181 else if m = 8 then 212 else if m = 9 then 243 else if m = 10 then 273 else if m = 11 then 304 else if m = 12 then 334 else 365) + Cal.lp y
def Cal.num (y m d : Int) : Int := Cal.ahead y + Cal.cum y m + d - 719163
def Cal.Vld (y m d : Int) : Prop := 1 ≤ m ∧ m ≤ 12 ∧ 1 ≤ d ∧ d ≤ Cal.dim y m

theorem Cal.lp01 (y : Int) : 0 ≤ Cal.lp y ∧ Cal.lp y ≤ 1 := by unfold Cal.lp; split <;> omega
theorem Cal.ahead_succ (y : Int) : Cal.ahead (y + 1) = Cal.ahead y + 365 + Cal.lp y := by
  unfold Cal.ahead Cal.lp; split <;> omega
theorem Cal.ahead_mono {a b : Int} (h : a ≤ b) : Cal.ahead a ≤ Cal.ahead b := by unfold Cal.ahead; omega
theorem Cal.cum_succ (y m : Int) (h1 : 1 ≤ m) (h2 : m ≤ 12) : Cal.cum y (m + 1) = Cal.cum y m + Cal.dim y m := by
  have := Cal.lp01 y
  obtain rfl | rfl | rfl | rfl | rfl | rfl | rfl | rfl | rfl | rfl | rfl | rfl : m = 1 ∨ m = 2 ∨ m = 3 ∨ m = 4 ∨ m = 5 ∨ m = 6 ∨ m = 7 ∨ m = 8 ∨ m = 9 ∨ m = 10 ∨ m = 11 ∨ m = 12 := by omega
  all_goals (simp [Cal.cum, Cal.dim]; try omega)
theorem Cal.dim_lo (y m : Int) : 28 ≤ Cal.dim y m ∧ Cal.dim y m ≤ 31 := by
  have := Cal.lp01 y; unfold Cal.dim; split <;> (try split) <;> omega
theorem Cal.cum_le (y m : Int) (h1 : 1 ≤ m) (h2 : m ≤ 12) : 0 ≤ Cal.cum y m ∧ Cal.cum y m + Cal.dim y m ≤ 365 + Cal.lp y := by
  have := Cal.lp01 y
  obtain rfl | rfl | rfl | rfl | rfl | rfl | rfl | rfl | rfl | rfl | rfl | rfl : m = 1 ∨ m = 2 ∨ m = 3 ∨ m = 4 ∨ m = 5 ∨ m = 6 ∨ m = 7 ∨ m = 8 ∨ m = 9 ∨ m = 10 ∨ m = 11 ∨ m = 12 := by omega
  all_goals (simp [Cal.cum, Cal.dim]; try omega)
theorem Cal.cum_lt (y m m' : Int) (h1 : 1 ≤ m) (h3 : m < m') (h2 : m' ≤ 12) : Cal.cum y m + Cal.dim y m ≤ Cal.cum y m' := by
  have := Cal.lp01 y
  obtain rfl | rfl | rfl | rfl | rfl | rfl | rfl | rfl | rfl | rfl | rfl : m = 1 ∨ m = 2 ∨ m = 3 ∨ m = 4 ∨ m = 5 ∨ m = 6 ∨ m = 7 ∨ m = 8 ∨ m = 9 ∨ m = 10 ∨ m = 11 := by omega
  all_goals
    obtain rfl | rfl | rfl | rfl | rfl | rfl | rfl | rfl | rfl | rfl | rfl : m' = 2 ∨ m' = 3 ∨ m' = 4 ∨ m' = 5 ∨ m' = 6 ∨ m' = 7 ∨ m' = 8 ∨ m' = 9 ∨ m' = 10 ∨ m' = 11 ∨ m' = 12 := by omega
    all_goals first | (exfalso; omega) | (simp [Cal.cum, Cal.dim]; try omega)
/-- two right days of one number are one -/
theorem Cal.inj {y m d y' m' d' : Int} (v : Cal.Vld y m d) (v' : Cal.Vld y' m' d') (h : Cal.num y m d = Cal.num y' m' d') : y = y' ∧ m = m' ∧ d = d' := by
  obtain ⟨a1, a2, a3, a4⟩ := v
  obtain ⟨b1, b2, b3, b4⟩ := v'
  have c1 := Cal.cum_le y m a1 a2
  have c2 := Cal.cum_le y' m' b1 b2
  unfold Cal.num at h
  have hy : y = y' := by
    have s1 := Cal.ahead_succ y
    have s2 := Cal.ahead_succ y'
    by_cases e : y = y'
    · exact e
    · exfalso
      rcases Int.lt_or_gt_of_ne e with g | g
      · have := Cal.ahead_mono (show y + 1 ≤ y' by omega); omega
      · have := Cal.ahead_mono (show y' + 1 ≤ y by omega); omega
  subst hy
  have hm : m = m' := by
    by_cases e : m = m'
    · exact e
    · exfalso
      rcases Int.lt_or_gt_of_ne e with g | g
      · have := Cal.cum_lt y m m' a1 g b2; omega
      · have := Cal.cum_lt y m' m b1 g a2; omega
  subst hm
  exact ⟨rfl, rfl, by omega⟩
theorem Cal.ahead_le (y : Int) (h1 : 1 ≤ y) (h2 : y ≤ 10000) : 0 ≤ Cal.ahead y ∧ Cal.ahead y ≤ 3652059 := by
  unfold Cal.ahead; omega

/-- the code's own way to a number: years that begin in March -/
def Cal.march (y m d : Int) : Int :=
  (y / 400) * 146097 + (y - y / 400 * 400) * 365 + (y - y / 400 * 400) / 4 - (y - y / 400 * 400) / 100 + ((153 * ((m + 9) % 12) + 2) / 5 + d - 1) - 719468
theorem Cal.march_num (y m d : Int) (h1 : 1 ≤ m) (h2 : m ≤ 12) : Cal.march (if m ≤ 2 then y - 1 else y) m d = Cal.num y m d := by
  obtain rfl | rfl | rfl | rfl | rfl | rfl | rfl | rfl | rfl | rfl | rfl | rfl : m = 1 ∨ m = 2 ∨ m = 3 ∨ m = 4 ∨ m = 5 ∨ m = 6 ∨ m = 7 ∨ m = 8 ∨ m = 9 ∨ m = 10 ∨ m = 11 ∨ m = 12 := by omega
  all_goals (simp [Cal.march, Cal.num, Cal.cum, Cal.ahead, Cal.lp]; try split) <;> omega

/-- the code's own way back -/
theorem Cal.civ_year (day year : Int) (h0 : 0 ≤ day) (h1 : day ≤ 146096)
    (hyear : year = (day - day / 1460 + day / 36524 - day / 146096) / 365) :
    0 ≤ year ∧ year ≤ 399 ∧ 365 * year + year / 4 - year / 100 ≤ day ∧ day ≤ 365 * year + year / 4 - year / 100 + 364 + (if (year + 1) % 4 = 0 ∧ ((year + 1) % 100 ≠ 0 ∨ (year + 1) % 400 = 0) then 1 else 0) := by
  have hd : day / 146096 = if day = 146096 then 1 else 0 := by split <;> omega
  by_cases hl : day = 146096
  · subst hl; simp at hyear; subst hyear; decide
  · rw [if_neg hl] at hd
    have hc : day / 36524 = 0 ∨ day / 36524 = 1 ∨ day / 36524 = 2 ∨ day / 36524 = 3 := by omega
    rw [hd] at hyear
    have e4 : year / 100 = day / 36524 := by
      rcases hc with hc | hc | hc | hc <;> (rw [hc] at hyear ⊢; omega)
    rw [e4]
    have hb : 0 ≤ year ∧ year ≤ 399 := by omega
    refine ⟨hb.1, hb.2, ?_, ?_⟩
    · rcases hc with hc | hc | hc | hc <;> (rw [hc] at hyear ⊢; omega)
    · have h4 : year % 4 = 0 ∨ year % 4 = 1 ∨ year % 4 = 2 ∨ year % 4 = 3 := by omega
      rcases hc with hc | hc | hc | hc <;> (rw [hc] at hyear e4 ⊢; rcases h4 with h4 | h4 | h4 | h4 <;> (have : day / 1460 ≤ year / 4 ∨ year / 4 + 1 ≤ day / 1460 := by omega) <;> rcases this with g | g <;> split <;> omega)
theorem Cal.lp_400 (y e : Int) : Cal.lp (y + e * 400) = Cal.lp y := by
  unfold Cal.lp
  have h1 : (y + e * 400) % 4 = y % 4 := by omega
  have h2 : (y + e * 400) % 100 = y % 100 := by omega
  have h3 : (y + e * 400) % 400 = y % 400 := by omega
  rw [h1, h2, h3]
/-- what the code comes to is a right day, whose number is this one -/
theorem Cal.civ (n N e day year inYear mp : Int) (hN : N = n + 719468) (_h0 : 0 ≤ N) (he : e = N / 146097) (hday : day = N - e * 146097)
    (hyear : year = (day - day / 1460 + day / 36524 - day / 146096) / 365) (hin : inYear = day - (365 * year + year / 4 - year / 100)) (hmp : mp = (5 * inYear + 2) / 153) :
    0 ≤ mp ∧ mp ≤ 11 ∧ 0 ≤ inYear ∧ inYear ≤ 365 ∧ 0 ≤ year ∧ year ≤ 399 ∧
    (mp + 3 > 12 → Cal.Vld (year + e * 400 + 1) (mp + 3 - 12) (inYear - (153 * mp + 2) / 5 + 1) ∧ Cal.num (year + e * 400 + 1) (mp + 3 - 12) (inYear - (153 * mp + 2) / 5 + 1) = n) ∧
    (¬ mp + 3 > 12 → Cal.Vld (year + e * 400) (mp + 3) (inYear - (153 * mp + 2) / 5 + 1) ∧ Cal.num (year + e * 400) (mp + 3) (inYear - (153 * mp + 2) / 5 + 1) = n) := by
  have hd0 : 0 ≤ day ∧ day ≤ 146096 := by omega
  obtain ⟨y0, y1, lo, hi⟩ := Cal.civ_year day year hd0.1 hd0.2 hyear
  have hi0 : 0 ≤ inYear := by omega
  have hi1 : inYear ≤ 365 := by rw [hin]; revert hi; split <;> omega
  have hmp0 : 0 ≤ mp ∧ mp ≤ 11 := by omega
  have num_of : ∀ y m, 1 ≤ m → m ≤ 12 → (if m ≤ 2 then y - 1 else y) = year + e * 400 → (m + 9) % 12 = mp → Cal.num y m (inYear - (153 * mp + 2) / 5 + 1) = n := by
    intro y m a b c d
    rw [← Cal.march_num y m _ a b, c]
    unfold Cal.march
    rw [d]
    have k1 : (year + e * 400) / 400 = e := by omega
    rw [k1]
    have k2 : year + e * 400 - e * 400 = year := by omega
    rw [k2]
    omega
  refine ⟨hmp0.1, hmp0.2, hi0, hi1, y0, y1, fun g => ?_, fun g => ?_⟩
  · refine ⟨⟨by omega, by omega, by omega, ?_⟩, num_of _ _ (by omega) (by omega) (by rw [if_pos (by omega)]; omega) (by omega)⟩
    have hc : mp = 10 ∨ mp = 11 := by omega
    rcases hc with rfl | rfl
    · simp [Cal.dim]; omega
    · have e1 : Cal.lp (year + e * 400 + 1) = Cal.lp (year + 1) := by rw [show year + e * 400 + 1 = (year + 1) + e * 400 by omega, Cal.lp_400]
      simp only [Cal.dim, e1]
      unfold Cal.lp
      revert hi
      split <;> split <;> simp <;> omega
  · refine ⟨⟨by omega, by omega, by omega, ?_⟩, num_of _ _ (by omega) (by omega) (by rw [if_neg (by omega)]) (by omega)⟩
    have hc : mp = 0 ∨ mp = 1 ∨ mp = 2 ∨ mp = 3 ∨ mp = 4 ∨ mp = 5 ∨ mp = 6 ∨ mp = 7 ∨ mp = 8 ∨ mp = 9 := by omega
    rcases hc with rfl | rfl | rfl | rfl | rfl | rfl | rfl | rfl | rfl | rfl <;> (simp [Cal.dim]; omega)
end Go.Proofs.Ytdpbaagpekhipaa
