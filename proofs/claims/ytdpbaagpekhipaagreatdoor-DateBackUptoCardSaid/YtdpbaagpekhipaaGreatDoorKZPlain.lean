/- Plain laws of the date texts' printed functions: months, digits, days, times, a mail's day. No condition. -/
import Derived.Test.YtdpbaagpekhipaaGreatDoorKZPAllx3
import Derived.Test.YtdpbaagpekhipaaGreatDoorKZPAllx4
import Derived.Test.YtdpbaagpekhipaaGreatDoorKZPAllx9
import Derived.Test.YtdpbaagpekhipaaGreatDoorKZPAllx10
import Derived.Test.YtdpbaagpekhipaaGreatDoorKZPAllx11
import Derived.Test.YtdpbaagpekhipaaGreatDoorKZPAllx12
import Derived.Test.YtdpbaagpekhipaaGreatDoorKZPAllx14
import Derived.Test.YtdpbaagpekhipaaGreatDoorKZDays
import Derived.Test.YtdpbaagpekhipaaGreatDoorKZText
import Derived.Test.YtdpbaagpekhipaaGreatDoorKZWide
import Derived.Test.YtdpbaagpekhipaaGreatDoorKZSmall
import Derived.Test.YtdpbaagpekhipaaGreatDoorKZSplit
import Derived.Test.YtdpbaagpekhipaaGreatDoorKZCut
import Derived.Test.YtdpbaagpekhipaaGreatDoorKZFields
import Derived.Test.YtdpbaagpekhipaaGreatDoorKZDigits
import Derived.Test.YtdpbaagpekhipaaGreatDoorKZStr
import Derived.Lib.Split
import Derived.Lib.SplitLaws
import Derived.Lib.CutLaws
import Derived.Lib.CountLaws
import Derived.Lib.IndexLaws
import Derived.Lib.FieldsP
open Go Go.RowKit Go.Proofs.YtdpbaagpekhipaaGreatDoorW.PrintWords Go.Proofs.YtdpbaagpekhipaaGreatDoorW.PrintLast Go.Proofs.YtdpbaagpekhipaaGreatDoor.Str
set_option linter.unusedVariables false
set_option linter.unusedSimpArgs false
namespace Go.Proofs.YtdpbaagpekhipaaGreatDoor.PAll
theorem bt_ls (s : ByteArray) (i : Nat) (h : i < (ls s).length) : bt s (i : Int) = (((ls s)[i]).toNat : Int) := by
  have h' : (i : Int).toNat < s.size := by rw [← ls_len]; simpa using h
  rw [← bt_at s i h']
  simp [ls]
  rfl
def lowL (l : List UInt8) : List UInt8 := l.map lowB
theorem small_eq (c : UInt8) : head_small.f (c.toNat : Int) = some ((lowB c).toNat : Int) := by
  have h : ∀ n : Fin 256, head_small.f ((UInt8.ofNat n.val).toNat : Int) = some ((lowB (UInt8.ofNat n.val)).toNat : Int) := by decide +kernel
  have := h ⟨c.toNat, c.toNat_lt⟩
  simpa using this
theorem like_loop (a b : ByteArray) (hs : a.size = b.size) (hm : a.size ≤ 2000000) (j : Nat) : ∀ (i k : Nat), i + j = a.size → j < k →
    head_Like.l0 k a b (a.size : Int) (i : Int) = some (decide ((lowL (ls a)).drop i = (lowL (ls b)).drop i)) := by
  induction j with
  | zero =>
    intro i k hi hk
    obtain ⟨k, rfl⟩ : ∃ m, k = m + 1 := ⟨k - 1, by omega⟩
    unfold head_Like.l0
    rw [if_neg (by omega)]
    have e1 : (lowL (ls a)).drop i = [] := List.drop_eq_nil_of_le (by simp [lowL, ls_len]; omega)
    have e2 : (lowL (ls b)).drop i = [] := List.drop_eq_nil_of_le (by simp [lowL, ls_len]; omega)
    rw [e1, e2]
    rfl
  | succ j ih =>
    intro i k hi hk
    obtain ⟨k, rfl⟩ : ∃ m, k = m + 1 := ⟨k - 1, by omega⟩
    have ha : i < (ls a).length := by rw [ls_len]; omega
    have hb : i < (ls b).length := by rw [ls_len]; omega
    unfold head_Like.l0
    rw [if_pos (by omega), if_pos (by omega), if_pos (by omega), bt_ls a i ha, bt_ls b i hb, small_eq, Option.bind_some, if_pos (by omega), small_eq, Option.bind_some, w64 (by omega) (by omega)]
    have e1 : (lowL (ls a)).drop i = lowB (ls a)[i] :: (lowL (ls a)).drop (i + 1) := by
      rw [List.drop_eq_getElem_cons (by simpa [lowL] using ha)]
      simp [lowL]
    have e2 : (lowL (ls b)).drop i = lowB (ls b)[i] :: (lowL (ls b)).drop (i + 1) := by
      rw [List.drop_eq_getElem_cons (by simpa [lowL] using hb)]
      simp [lowL]
    rw [e1, e2]
    by_cases g : lowB (ls a)[i] = lowB (ls b)[i]
    · rw [if_pos (by rw [g]), show ((i : Int) + 1) = ((i + 1 : Nat) : Int) from rfl, ih (i + 1) k (by omega) (by omega)]
      simp [g]
    · rw [if_neg (by intro h; exact g (UInt8.toNat_inj.1 (by exact_mod_cast h)))]
      simp [g]
theorem like_eq (a b : ByteArray) (k : Nat) (hb : b.size < k) (hm : b.size ≤ 2000000) : head_Like.f k a b = some (decide (lowL (ls a) = lowL (ls b))) := by
  unfold head_Like.f
  by_cases g : a.size = b.size
  · rw [if_pos (by omega), show (0 : Int) = ((0 : Nat) : Int) from rfl, like_loop a b g (by omega) a.size 0 k (by omega) (by omega)]
    simp
  · rw [if_neg (by omega)]
    congr 1
    symm
    rw [decide_eq_false_iff_not]
    intro h
    have := congrArg List.length h
    simp [lowL, ls_len] at this
    omega
theorem rlike_eq (a b : ByteArray) (ha : a.size ≤ 2000000) (hb : b.size ≤ 2000000) : missiveref08_Like.f a b = some (decide (lowL (ls a) = lowL (ls b))) := by
  unfold missiveref08_Like.f missiveref08_small.f
  rw [if_pos (by omega), if_pos (by omega)]
  simp only [Option.bind_some]
  congr 1
  rw [Lib.toList_data, Lib.toList_data]
  simp only [lowL, ls]
  by_cases g : List.map lowB a.data.toList = List.map lowB b.data.toList
  · simp [g]
  · simp [g]
def MON : List UInt8 := [74, 97, 110, 70, 101, 98, 77, 97, 114, 65, 112, 114, 77, 97, 121, 74, 117, 110, 74, 117, 108, 65, 117, 103, 83, 101, 112, 79, 99, 116, 78, 111, 118, 68, 101, 99]
/-- the name of the month i (0 to 11) -/
def mname (i : Nat) : List UInt8 := (MON.take (3 * i + 3)).drop (3 * i)
def monFrom (l : List UInt8) : Nat → Nat → Int
  | 0, _ => 0
  | j + 1, i => if lowL l = lowL (mname i) then (i : Int) + 1 else monFrom l j (i + 1)
def mon (l : List UInt8) : Int := monFrom l 12 0
theorem month_loop (s : ByteArray) (j : Nat) : ∀ (i k : Nat), i + j = 12 → j + 4 < k → date_month.l0 k s (3 * (i : Int)) = some (monFrom (ls s) j i) := by
  induction j with
  | zero =>
    intro i k hi hk
    obtain ⟨k, rfl⟩ : ∃ m, k = m + 1 := ⟨k - 1, by omega⟩
    unfold date_month.l0
    rw [if_neg (by omega)]
    rfl
  | succ j ih =>
    intro i k hi hk
    obtain ⟨k, rfl⟩ : ∃ m, k = m + 1 := ⟨k - 1, by omega⟩
    unfold date_month.l0
    have e : ls ((⟨#[74, 97, 110, 70, 101, 98, 77, 97, 114, 65, 112, 114, 77, 97, 121, 74, 117, 110, 74, 117, 108, 65, 117, 103, 83, 101, 112, 79, 99, 116, 78, 111, 118, 68, 101, 99]⟩ : ByteArray).extract (3 * (i : Int)).toNat (3 * (i : Int) + 3).toNat) = mname i := by
      rw [ls_ext]
      have h1 : (3 * (i : Int)).toNat = 3 * i := by omega
      have h2 : (3 * (i : Int) + 3).toNat = 3 * i + 3 := by omega
      rw [h1, h2]
      rfl
    rw [w64 (n := 3 * (i : Int) + 3) (by omega) (by omega), if_pos (by omega), if_pos (by omega), if_pos (by omega), if_pos (by omega)]
    have hz : ((⟨#[74, 97, 110, 70, 101, 98, 77, 97, 114, 65, 112, 114, 77, 97, 121, 74, 117, 110, 74, 117, 108, 65, 117, 103, 83, 101, 112, 79, 99, 116, 78, 111, 118, 68, 101, 99]⟩ : ByteArray).extract (3 * (i : Int)).toNat (3 * (i : Int) + 3).toNat).size ≤ 3 := by
      rw [ByteArray.size_extract]; omega
    rw [like_eq _ _ _ (by omega) (by omega), e, Option.bind_some]
    unfold monFrom
    by_cases g : lowL (ls s) = lowL (mname i)
    · rw [if_pos (by simp [g]), if_pos g, td 3 (by omega), show 3 * (i : Int) / 3 = i by omega, w64 (n := (i : Int)) (by omega) (by omega), w64 (by omega) (by omega)]
    · rw [if_neg (by simp [g]), if_neg g]
      have := ih (i + 1) k (by omega) (by omega)
      rw [← this]
      congr 1
theorem month_eq (s : ByteArray) (k : Nat) (hk : 16 < k) : date_month.f k s = some (mon (ls s)) := by
  have := month_loop s 12 0 k rfl (by omega)
  exact this
theorem rmonth_loop (s : ByteArray) (hs : s.size ≤ 2000000) (j : Nat) : ∀ (i k : Nat), i + j = 12 → j < k → missiveref10_month.l0 k s (i : Int) = some (monFrom (ls s) j i) := by
  induction j with
  | zero =>
    intro i k hi hk
    obtain ⟨k, rfl⟩ : ∃ m, k = m + 1 := ⟨k - 1, by omega⟩
    unfold missiveref10_month.l0
    rw [if_neg (by omega)]
    rfl
  | succ j ih =>
    intro i k hi hk
    obtain ⟨k, rfl⟩ : ∃ m, k = m + 1 := ⟨k - 1, by omega⟩
    unfold missiveref10_month.l0
    have e : ls ((⟨#[74, 97, 110, 70, 101, 98, 77, 97, 114, 65, 112, 114, 77, 97, 121, 74, 117, 110, 74, 117, 108, 65, 117, 103, 83, 101, 112, 79, 99, 116, 78, 111, 118, 68, 101, 99]⟩ : ByteArray).extract (3 * (i : Int)).toNat (3 * (i : Int) + 3).toNat) = mname i := by
      rw [ls_ext]
      have h1 : (3 * (i : Int)).toNat = 3 * i := by omega
      have h2 : (3 * (i : Int) + 3).toNat = 3 * i + 3 := by omega
      rw [h1, h2]
      rfl
    rw [w64 (n := 3 * (i : Int)) (by omega) (by omega), w64 (n := 3 * (i : Int) + 3) (by omega) (by omega), if_pos (by omega), if_pos (by omega), if_pos (by omega), if_pos (by omega)]
    have hz : ((⟨#[74, 97, 110, 70, 101, 98, 77, 97, 114, 65, 112, 114, 77, 97, 121, 74, 117, 110, 74, 117, 108, 65, 117, 103, 83, 101, 112, 79, 99, 116, 78, 111, 118, 68, 101, 99]⟩ : ByteArray).extract (3 * (i : Int)).toNat (3 * (i : Int) + 3).toNat).size ≤ 3 := by
      rw [ByteArray.size_extract]; omega
    rw [rlike_eq _ _ hs (by omega), e, Option.bind_some]
    unfold monFrom
    by_cases g : lowL (ls s) = lowL (mname i)
    · rw [if_pos (by simp [g]), if_pos g, w64 (by omega) (by omega)]
    · rw [if_neg (by simp [g]), if_neg g, w64 (by omega) (by omega)]
      exact ih (i + 1) k (by omega) (by omega)
theorem rmonth_eq (s : ByteArray) (k : Nat) (hs : s.size ≤ 2000000) (hk : 12 < k) : missiveref10_month.f k s = some (mon (ls s)) := rmonth_loop s hs 12 0 k rfl hk
theorem digits_eq (s : ByteArray) (lo hi : Int) (h1 : 1 ≤ lo) (h2 : lo ≤ 18) (h3 : 0 ≤ hi) (h4 : hi ≤ 18) (hs : s.size ≤ 2000000) : date_digits.f s lo hi = some (Text.digS (ls s) lo.toNat hi.toNat) := by
  unfold date_digits.f
  rw [if_pos ⟨h1, h2, h3, h4, by omega⟩]
  rfl
theorem rdigits_loop (s : ByteArray) (hs : s.size ≤ 18) (j : Nat) : ∀ (i k acc : Nat), i + j = s.size → j < k → acc < 10 ^ i →
    missiveref10_digits.l0 k s (acc : Int) (i : Int) = some (if ((ls s).drop i).all Text.isDig = true then (Text.dval acc ((ls s).drop i) : Int) else -1) := by
  induction j with
  | zero =>
    intro i k acc hi hk ha
    obtain ⟨k, rfl⟩ : ∃ m, k = m + 1 := ⟨k - 1, by omega⟩
    unfold missiveref10_digits.l0
    rw [if_neg (by omega), List.drop_eq_nil_of_le (by rw [ls_len]; omega)]
    rfl
  | succ j ih =>
    intro i k acc hi hk ha
    obtain ⟨k, rfl⟩ : ∃ m, k = m + 1 := ⟨k - 1, by omega⟩
    have hl : i < (ls s).length := by rw [ls_len]; omega
    have hp : 10 ^ i ≤ 10 ^ 17 := Nat.pow_le_pow_right (by decide) (by omega)
    have hq : (10 : Nat) ^ 17 = 100000000000000000 := rfl
    unfold missiveref10_digits.l0
    rw [if_pos (by omega), if_pos (by omega), bt_ls s i hl, List.drop_eq_getElem_cons hl]
    generalize (ls s)[i] = c
    by_cases g1 : 48 ≤ c.toNat ∧ c.toNat ≤ 57
    · rw [if_neg (by omega), if_neg (by omega)]
      have hd : Text.isDig c = true := by simp [Text.isDig]; omega
      have e1 : wrap64 (10 * (acc : Int)) = 10 * (acc : Int) := w64 (by omega) (by omega)
      have e2 : ((c.toNat : Int) - 48) % 256 = (Text.dv c : Int) := by unfold Text.dv; omega
      have hdv : Text.dv c ≤ 9 := by unfold Text.dv; omega
      rw [e1, e2, w64 (by omega) (by omega), w64 (by omega) (by omega)]
      have := ih (i + 1) k (acc * 10 + Text.dv c) (by omega) (by omega) (by rw [Nat.pow_succ]; omega)
      rw [show (10 * (acc : Int) + (Text.dv c : Int)) = ((acc * 10 + Text.dv c : Nat) : Int) by omega, show ((i : Int) + 1) = ((i + 1 : Nat) : Int) from rfl, this]
      simp [List.all_cons, hd, Text.dval_cons]
    · have hd : Text.isDig c = false := by simp [Text.isDig]; omega
      by_cases g2 : c.toNat < 48
      · rw [if_pos (by omega)]
        simp [List.all_cons, hd]
      · rw [if_neg (by omega), if_pos (by omega)]
        simp [List.all_cons, hd]
theorem rdigits_eq (s : ByteArray) (lo hi : Int) (k : Nat) (h0 : 0 ≤ lo) (h3 : 0 ≤ hi) (h4 : hi ≤ 18) (hk : 20 < k) : missiveref10_digits.f k s lo hi = some (Text.digS (ls s) lo.toNat hi.toNat) := by
  obtain ⟨k, rfl⟩ : ∃ m, k = m + 1 := ⟨k - 1, by omega⟩
  unfold missiveref10_digits.f Text.digS
  simp only [missiveref10_digits.j0]
  by_cases g1 : (s.size : Int) < lo
  · rw [if_pos g1, if_pos trivial, if_pos (Or.inl (by rw [ls_len]; omega))]
  · rw [if_neg g1]
    by_cases g2 : (s.size : Int) > hi
    · rw [if_pos (by simpa using g2), if_pos (Or.inr (Or.inl (by rw [ls_len]; omega)))]
    · rw [if_neg (by simpa using g2)]
      have := rdigits_loop s (by omega) s.size 0 k 0 (by omega) (by omega) (by decide)
      rw [show (0 : Int) = ((0 : Nat) : Int) from rfl, this, List.drop_zero]
      by_cases g3 : (ls s).all Text.isDig = true
      · rw [if_pos g3, if_neg (by rw [ls_len]; simp [g3]; omega)]
      · rw [if_neg g3, if_pos (Or.inr (Or.inr (by simpa using g3)))]
instance instVld (y m d : Int) : Decidable (Cal.Vld y m d) := by unfold Cal.Vld; infer_instance
def DayOK (y m d : Int) : Prop := 1 ≤ y ∧ y ≤ 9999 ∧ Cal.Vld y m d
instance instDayOK (y m d : Int) : Decidable (DayOK y m d) := by unfold DayOK; infer_instance
/-- a day's number as an answer of what is read -/
def dayR (y m d : Int) : Int × Int := if DayOK y m d then (Cal.num y m d, 0) else (0, 7)
theorem dayR_no {y m d : Int} (h : y < 1 ∨ m < 1 ∨ d < 1) : dayR y m d = (0, 7) := if_neg (fun g => by unfold DayOK Cal.Vld at g; omega)
theorem dday_eq (y m d : Int) (k : Nat) : date_day.f (k + 1) y m d = some (dayR y m d) := by
  obtain ⟨r, e, h⟩ := day_right y m d k
  unfold date_day.f
  rw [e, Option.bind_some]
  by_cases g : DayOK y m d
  · rw [h.1 g, dayR, if_pos g]; rfl
  · rw [h.2 g, dayR, if_neg g]; rfl
theorem rday_eq (y m d : Int) (k : Nat) (hk : 20 ≤ k) : (missiveref10_Day.f k y m d).bind (fun r => if r.2 = 0 then some (r.1, (0 : Int)) else some ((0 : Int), (7 : Int))) = some (dayR y m d) := by
  obtain ⟨r, e, h⟩ := refday_right y m d
  rw [at_rounds (missiveref10_Day.mono y m d) hk e, Option.bind_some]
  by_cases g : DayOK y m d
  · rw [h.1 g, dayR, if_pos g]; rfl
  · rw [h.2 g, dayR, if_neg g]; rfl
def parseL (l : List UInt8) : Int × Int :=
  match splitC 45 l with
  | [a, b, c] => if a.length = 2 ∧ a.head? = some 48 then (0, 7) else dayR (Text.digS c 4 4) (mon b) (Text.digS a 1 2)
  | _ => (0, 7)
theorem digS_len {l : List UInt8} {lo hi : Nat} (h : 0 ≤ Text.digS l lo hi) : lo ≤ l.length ∧ l.length ≤ hi ∧ l.all Text.isDig = true := by
  unfold Text.digS at h
  split at h
  · omega
  · rename_i g
    refine ⟨by omega, by omega, ?_⟩
    cases hc : l.all Text.isDig with
    | true => rfl
    | false => exact absurd (Or.inr (Or.inr hc)) g
theorem dig_ne {l : List UInt8} (h : l.all Text.isDig = true) (c : UInt8) (hc : Text.isDig c = false) : c ∉ l := by
  intro g
  have := List.all_eq_true.1 h c g
  rw [hc] at this
  cases this
theorem monFrom_pos (l : List UInt8) (j : Nat) : ∀ i, monFrom l j i ≠ 0 → ∃ k, i ≤ k ∧ k < i + j ∧ lowL l = lowL (mname k) ∧ monFrom l j i = (k : Int) + 1 := by
  induction j with
  | zero => intro i h; exact absurd rfl h
  | succ j ih =>
    intro i h
    unfold monFrom at h ⊢
    by_cases g : lowL l = lowL (mname i)
    · rw [if_pos g]; exact ⟨i, Nat.le_refl _, by omega, g, rfl⟩
    · rw [if_neg g] at h ⊢
      obtain ⟨k, h1, h2, h3, h4⟩ := ih (i + 1) h
      exact ⟨k, by omega, by omega, h3, h4⟩
theorem mon_ok {l : List UInt8} (h : mon l ≠ 0) : ∃ k, k < 12 ∧ lowL l = lowL (mname k) ∧ mon l = (k : Int) + 1 := by
  obtain ⟨k, _, h2, h3, h4⟩ := monFrom_pos l 12 0 h
  exact ⟨k, by omega, h3, h4⟩
theorem mname_len : ∀ k, k < 12 → (mname k).length = 3 := by decide
theorem mname_low : ∀ k, k < 12 → ∀ c ∈ lowL (mname k), 97 ≤ c.toNat ∧ c.toNat ≤ 122 := by decide
theorem mname_letters : ∀ k, k < 12 → ∀ c ∈ mname k, 65 ≤ c.toNat ∧ c.toNat ≤ 122 := by decide
theorem mname_mon : ∀ k, k < 12 → mon (mname k) = (k : Int) + 1 := by decide
theorem mon_len {l : List UInt8} (h : mon l ≠ 0) : l.length = 3 ∧ ∀ c : UInt8, (c.toNat < 65 → c ∉ l) := by
  obtain ⟨k, hk, he, _⟩ := mon_ok h
  have e : l.length = 3 := by
    have := congrArg List.length he
    simp [lowL] at this
    rw [this]; exact mname_len k hk
  refine ⟨e, fun c hc hm => ?_⟩
  have h1 : lowB c ∈ lowL l := List.mem_map.2 ⟨c, hm, rfl⟩
  rw [he] at h1
  have h2 := mname_low k hk _ h1
  have h3 : lowB c = c := if_neg (by omega)
  rw [h3] at h2
  omega
theorem mon_bd (l : List UInt8) : 0 ≤ mon l ∧ mon l ≤ 12 := by
  by_cases h : mon l = 0
  · omega
  · obtain ⟨k, hk, _, e⟩ := mon_ok h
    omega
theorem parseL_app {a b c : List UInt8} (h1 : 0 ≤ Text.digS a 1 2) (h2 : mon b ≠ 0) (h3 : 0 ≤ Text.digS c 4 4) :
    parseL (a ++ 45 :: (b ++ 45 :: c)) = if a.length = 2 ∧ a.head? = some 48 then (0, 7) else dayR (Text.digS c 4 4) (mon b) (Text.digS a 1 2) := by
  unfold parseL
  rw [splitC_app 45 a _ (dig_ne (digS_len h1).2.2 45 rfl), splitC_app 45 b _ ((mon_len h2).2 45 (by decide)), splitC_free 45 c (dig_ne (digS_len h3).2.2 45 rfl)]
theorem parseL_valid {l : List UInt8} (h : parseL l ≠ (0, 7)) : ∃ a b c, l = a ++ 45 :: (b ++ 45 :: c) ∧ 0 ≤ Text.digS a 1 2 ∧ mon b ≠ 0 ∧ 0 ≤ Text.digS c 4 4 ∧ ¬ (a.length = 2 ∧ a.head? = some 48) := by
  have hj := joinC_splitC 45 l
  unfold parseL at h
  split at h
  · rename_i a b c he
    rw [he] at hj
    split at h
    · exact absurd rfl h
    · rename_i g
      refine ⟨a, b, c, hj.symm, ?_, ?_, ?_, g⟩
      · exact Classical.byContradiction fun q => h (dayR_no (by omega))
      · have := mon_bd b
        exact Classical.byContradiction fun q => h (dayR_no (by omega))
      · exact Classical.byContradiction fun q => h (dayR_no (by omega))
  · exact absurd rfl h
theorem bt_head (s : ByteArray) (h : 0 < s.size) : (bt s 0 = 48) ↔ (ls s).head? = some 48 := by
  have hl : 0 < (ls s).length := by rw [ls_len]; exact h
  have e := bt_ls s 0 hl
  rw [show ((0 : Nat) : Int) = 0 from rfl] at e
  rw [e, List.head?_eq_getElem?, List.getElem?_eq_getElem hl]
  generalize (ls s)[0] = c
  constructor
  · intro g
    congr 1
    apply UInt8.toNat_inj.1
    exact_mod_cast g
  · intro g
    injection g with g
    rw [g]; rfl
theorem parse_eq (s : ByteArray) (k : Nat) (hs : s.size ≤ 2000000) (hk : 40 ≤ k) : date_Parse.f k s = some (parseL (ls s)) := by
  unfold date_Parse.f strings_Split.f
  rw [if_pos ⟨hs, by decide⟩, Option.bind_some]
  have hm := splitB_ls 45 s
  generalize Lib.splitB ⟨#[45]⟩ 0 (Lib.countB s ⟨#[45]⟩) s = t at *
  obtain ⟨k, rfl⟩ : ∃ m, k = m + 2 := ⟨k - 2, by omega⟩
  have hz : ∀ x ∈ t, x.size ≤ 2000000 := by
    intro x hx
    have h1 : ls x ∈ splitC 45 (ls s) := by rw [← hm]; exact List.mem_map.2 ⟨x, hx, rfl⟩
    have h2 : (ls x).length ≤ (ls s).length := by
      have : ∀ l : List UInt8, ∀ y ∈ splitC 45 l, y.length ≤ l.length := by
        intro l
        induction l with
        | nil => simp [splitC]
        | cons b l ih =>
          unfold splitC
          intro y hy
          by_cases g : b = 45
          · rw [if_pos g] at hy
            rcases List.mem_cons.1 hy with rfl | hy
            · simp
            · have := ih y hy; simp; omega
          · rw [if_neg g] at hy
            cases hc : splitC 45 l with
            | nil => exact absurd hc (splitC_ne _ _)
            | cons z r =>
              rw [hc] at hy ih
              rcases List.mem_cons.1 hy with rfl | hy
              · have := ih z (by simp); simp; omega
              · have := ih y (by simp [hy]); simp; omega
      exact this _ _ h1
    rw [ls_len, ls_len] at h2
    omega
  unfold parseL
  rw [← hm]
  match t, hz with
  | [], _ => rfl
  | [_], _ => rfl
  | [_, _], _ => rfl
  | _ :: _ :: _ :: _ :: _, _ =>
    rw [if_neg (by simp only [List.length_cons]; omega)]
    rfl
  | [a, b, c], hz =>
    have za := hz a (by simp)
    have zb := hz b (by simp)
    have zc := hz c (by simp)
    have ra : rdOf ByteArray.empty [a, b, c] 0 = a := rfl
    have rb : rdOf ByteArray.empty [a, b, c] 1 = b := rfl
    have rc : rdOf ByteArray.empty [a, b, c] 2 = c := rfl
    have go : date_Parse.j0 (k + 2) [a, b, c] false = some (dayR (Text.digS (ls c) 4 4) (mon (ls b)) (Text.digS (ls a) 1 2)) := by
      rw [show k + 2 = (k + 1) + 1 from rfl, date_Parse.j0]
      simp only [ra, rb, rc]
      rw [if_neg (by decide), if_pos (by simp), digits_eq c 4 4 (by omega) (by omega) (by omega) (by omega) zc, Option.bind_some, if_pos (by simp), month_eq b (k + 1) (by omega), Option.bind_some, if_pos (by simp),
        digits_eq a 1 2 (by omega) (by omega) (by omega) (by omega) za, Option.bind_some, dday_eq, Option.bind_some]
      rfl
    simp only [List.map_cons, List.map_nil, ra]
    rw [if_pos (by simp), if_pos (by simp)]
    by_cases g : (a.size : Int) = 2
    · rw [if_pos g, if_pos (by omega)]
      by_cases g2 : bt a 0 = 48
      · rw [if_pos ⟨by rw [ls_len]; omega, (bt_head a (by omega)).1 g2⟩, g2]
        rfl
      · rw [if_neg (fun q => g2 ((bt_head a (by omega)).2 q.2)), show (bt a 0 == 48) = false by simpa using g2]
        exact go
    · rw [if_neg g, if_neg (fun q => g (by rw [ls_len] at q; omega))]
      exact go
def rparseL (l : List UInt8) (k : Nat) : Int × Int :=
  if l[k]? = some 45 ∧ l[k + 4]? = some 45 ∧ ¬ (k = 2 ∧ l.head? = some 48) then dayR (Text.digS (l.drop (k + 5)) 4 4) (mon ((l.take (k + 4)).drop (k + 1))) (Text.digS (l.take k) 1 2) else (0, 7)
theorem l_shape (l : List UInt8) (k : Nat) (h : k + 9 = l.length) (h1 : l[k]? = some 45) (h2 : l[k + 4]? = some 45) : l = l.take k ++ 45 :: ((l.take (k + 4)).drop (k + 1) ++ 45 :: l.drop (k + 5)) := by
  conv => lhs; rw [← List.take_append_drop k l, drop_at l k 45 h1]
  congr 2
  have e : (l.take (k + 4)).drop (k + 1) = (l.drop (k + 1)).take 3 := by rw [List.drop_take]; congr 1; omega
  rw [e]
  conv => lhs; rw [← List.take_append_drop 3 (l.drop (k + 1)), List.drop_drop, show k + 1 + 3 = k + 4 by omega, drop_at l (k + 4) 45 h2]
theorem rparseL_eq (l : List UInt8) (k : Nat) (h : k + 9 = l.length) (hk : k = 1 ∨ k = 2) : rparseL l k = parseL l := by
  by_cases g : l[k]? = some 45 ∧ l[k + 4]? = some 45 ∧ 0 ≤ Text.digS (l.take k) 1 2 ∧ mon ((l.take (k + 4)).drop (k + 1)) ≠ 0 ∧ 0 ≤ Text.digS (l.drop (k + 5)) 4 4
  · obtain ⟨g1, g2, g3, g4, g5⟩ := g
    have e := parseL_app g3 g4 g5
    rw [← l_shape l k h g1 g2] at e
    rw [e]
    have lt : (l.take k).length = k := by simp; omega
    have hh : (l.take k).head? = l.head? := by
      cases l with
      | nil => simp
      | cons b l => rcases hk with rfl | rfl <;> simp
    unfold rparseL
    rw [lt, hh]
    by_cases q : k = 2 ∧ l.head? = some 48
    · rw [if_pos q, if_neg (fun x => x.2.2 q)]
    · rw [if_neg q, if_pos ⟨g1, g2, q⟩]
  · have r : rparseL l k = (0, 7) := by
      unfold rparseL
      split
      · rename_i q
        have := mon_bd ((l.take (k + 4)).drop (k + 1))
        apply dayR_no
        exact Classical.byContradiction fun z => g ⟨q.1, q.2.1, by omega, by omega, by omega⟩
      · rfl
    rw [r]
    refine (Classical.byContradiction fun hne => ?_)
    obtain ⟨a, b, c, rfl, h1, h2, h3, h4⟩ := parseL_valid (fun z => hne z.symm)
    have la := digS_len h1
    have lb := (mon_len h2).1
    have lc := digS_len h3
    simp at h
    obtain rfl : k = a.length := by omega
    have e5 : a.length + 5 = a.length + (b.length + 2) := by omega
    have t1 : (a ++ 45 :: (b ++ 45 :: c)).take a.length = a := by simp
    have t2 : ((a ++ 45 :: (b ++ 45 :: c)).take (a.length + 4)).drop (a.length + 1) = b := by
      rw [List.drop_take, List.drop_append, show a.length + 4 - (a.length + 1) = b.length by omega, List.drop_eq_nil_of_le (by omega), show a.length + 1 - a.length = 1 by omega]
      simp
    have t3 : (a ++ 45 :: (b ++ 45 :: c)).drop (a.length + 5) = c := by
      rw [List.drop_append, List.drop_eq_nil_of_le (by omega), show a.length + 5 - a.length = b.length + 2 by omega]
      simp [List.drop_append]
    refine g ⟨by simp, ?_, by rw [t1]; exact h1, by rw [t2]; exact h2, by rw [t3]; exact h3⟩
    rw [List.getElem?_append_right (by omega), show a.length + 4 - a.length = b.length + 1 by omega]
    simp
theorem parseL_len {l : List UInt8} (h : l.length < 10 ∨ 11 < l.length) : parseL l = (0, 7) := by
  refine Classical.byContradiction fun hne => ?_
  obtain ⟨a, b, c, rfl, h1, h2, h3, h4⟩ := parseL_valid hne
  have la := digS_len h1
  have lb := (mon_len h2).1
  have lc := digS_len h3
  simp at h
  omega
theorem bt_is (s : ByteArray) (i : Nat) (c : UInt8) (h : i < s.size) : (bt s (i : Int) = (c.toNat : Int)) ↔ (ls s)[i]? = some c := by
  have hl : i < (ls s).length := by rw [ls_len]; exact h
  rw [bt_ls s i hl, List.getElem?_eq_getElem hl]
  constructor
  · intro g
    congr 1
    apply UInt8.toNat_inj.1
    exact_mod_cast g
  · intro g
    injection g with g
    rw [g]
theorem rparse_eq (s : ByteArray) (k : Nat) (hs : s.size ≤ 2000000) (hk : 40 ≤ k) : missiveref10_Parse.f k s = some (parseL (ls s)) := by
  obtain ⟨k, rfl⟩ : ∃ m, k = m + 2 := ⟨k - 2, by omega⟩
  unfold missiveref10_Parse.f
  by_cases g : (s.size : Int) < 10
  · rw [if_pos g, parseL_len (by rw [ls_len]; omega)]
    rfl
  · rw [if_neg g]
    by_cases g2 : (s.size : Int) > 11
    · rw [show decide ((s.size : Int) > 11) = true by simpa using g2, parseL_len (by rw [ls_len]; omega)]
      rfl
    · rw [show decide ((s.size : Int) > 11) = false by simpa using g2]
      have hn : ∃ q : Nat, s.size = q + 9 ∧ (q = 1 ∨ q = 2) := ⟨s.size - 9, by omega, by omega⟩
      obtain ⟨q, hq, hq2⟩ := hn
      rw [← rparseL_eq (ls s) q (by rw [ls_len]; omega) hq2]
      rw [show k + 2 = (k + 1) + 1 from rfl, missiveref10_Parse.j0]
      have w0 : wrap64 ((s.size : Int) - 9) = (q : Int) := by rw [w64 (by omega) (by omega)]; omega
      have w1 : wrap64 ((q : Int) + 1) = ((q + 1 : Nat) : Int) := by rw [w64 (by omega) (by omega)]; rfl
      have w4 : wrap64 ((q : Int) + 4) = ((q + 4 : Nat) : Int) := by rw [w64 (by omega) (by omega)]; rfl
      have w5 : wrap64 ((q : Int) + 5) = ((q + 5 : Nat) : Int) := by rw [w64 (by omega) (by omega)]; rfl
      rw [w0, w1, w4, w5]
      simp only [Bool.false_eq_true, if_false, Int.toNat_natCast]
      have zt : (s.extract (q + 1) (q + 4)).size ≤ 2000000 := by rw [ByteArray.size_extract]; omega
      rw [if_pos (by omega), if_pos (by omega), rdigits_eq _ _ _ _ (by omega) (by omega) (by omega) (by omega), Option.bind_some, if_pos (by omega), if_pos (by omega), if_pos (by omega), rmonth_eq _ _ zt (by omega), Option.bind_some,
        if_pos (by omega), if_pos (by omega), rdigits_eq _ _ _ _ (by omega) (by omega) (by omega) (by omega), Option.bind_some, if_pos (by omega)]
      rw [ls_ext, ls_ext, ls_ext, List.drop_zero, List.take_of_length_le (i := s.size) (by rw [ls_len]; exact Nat.le_refl _)]
      have b1 := bt_is s q 45 (by omega)
      have b2 := bt_is s (q + 4) 45 (by omega)
      have b3 := bt_head s (by omega)
      have e45 : ((45 : UInt8).toNat : Int) = 45 := rfl
      rw [e45] at b1 b2
      have dn : ∀ r : Int × Int, dayR (Text.digS (List.drop (q + 5) (ls s)) 4 4) (mon (List.drop (q + 1) (List.take (q + 4) (ls s)))) (Text.digS (List.take q (ls s)) 1 2) = r → 
          missiveref10_Parse.j1 (k + 1) (Text.digS (List.take q (ls s)) 1 2) (mon (List.drop (q + 1) (List.take (q + 4) (ls s)))) (Text.digS (List.drop (q + 5) (ls s)) 4 4) false = some r := by
        intro r hr
        rw [missiveref10_Parse.j1, if_neg (by decide), ← hr]
        exact rday_eq _ _ _ k (by omega)
      unfold rparseL
      by_cases c1 : bt s (q : Int) = 45
      · rw [if_pos c1, if_pos (by omega), if_pos (by omega)]
        by_cases c2 : bt s ((q + 4 : Nat) : Int) = 45
        · rw [if_pos c2]
          by_cases c3 : (q : Int) = 2
          · rw [if_pos c3, if_pos (by omega)]
            by_cases c4 : bt s 0 = 48
            · rw [c4, if_neg (fun x => x.2.2 ⟨by omega, b3.1 c4⟩)]
              rfl
            · rw [show (bt s 0 == 48) = false by simpa using c4, if_pos ⟨b1.1 c1, b2.1 c2, fun x => c4 (b3.2 x.2)⟩]
              exact dn _ rfl
          · rw [if_neg c3, if_pos ⟨b1.1 c1, b2.1 c2, fun x => c3 (by omega)⟩]
            exact dn _ rfl
        · rw [if_neg c2, if_neg (fun x => c2 (b2.2 x.2.1))]
          rfl
      · rw [if_neg c1, if_neg (fun x => c1 (b1.2 x.1))]
        rfl
def B (l : List UInt8) : ByteArray := ⟨l.toArray⟩
theorem ls_B (l : List UInt8) : ls (B l) = l := ls_mk l
theorem B_app (a b : List UInt8) : B a ++ B b = B (a ++ b) := ls_inj (by rw [ls_app, ls_B, ls_B, ls_B])
theorem B_size (l : List UInt8) : (B l).size = l.length := by rw [← ls_len, ls_B]
def c10 (u : Nat) : UInt8 := UInt8.ofNat (48 + u % 10)
def tw (u : Nat) : List UInt8 := [c10 (u / 10), c10 u]
def fo (u : Nat) : List UInt8 := [c10 (u / 1000), c10 (u / 100), c10 (u / 10), c10 u]
def on (u : Nat) : List UInt8 := if u < 10 then [c10 u] else tw u
theorem dec1 (u : Nat) (h : u < 10) : Lib.decDigits u = [c10 u] := by
  rw [Lib.decDigits, dif_pos h, c10, Nat.mod_eq_of_lt h]
theorem decS (u : Nat) (h : 10 ≤ u) : Lib.decDigits u = Lib.decDigits (u / 10) ++ [c10 u] := by
  rw [Lib.decDigits, dif_neg (by omega), c10]
theorem dec2 (u : Nat) (h : 10 ≤ u) (h2 : u < 100) : Lib.decDigits u = [c10 (u / 10), c10 u] := by
  rw [decS u h, dec1 (u / 10) (by omega)]; rfl
theorem dec3 (u : Nat) (h : 100 ≤ u) (h2 : u < 1000) : Lib.decDigits u = [c10 (u / 100), c10 (u / 10), c10 u] := by
  rw [decS u (by omega), dec2 (u / 10) (by omega) (by omega), show u / 10 / 10 = u / 100 by omega]; rfl
theorem dec4 (u : Nat) (h : 1000 ≤ u) (h2 : u < 10000) : Lib.decDigits u = [c10 (u / 1000), c10 (u / 100), c10 (u / 10), c10 u] := by
  rw [decS u (by omega), dec3 (u / 10) (by omega) (by omega), show u / 10 / 10 = u / 100 by omega, show u / 10 / 100 = u / 1000 by omega]; rfl
theorem c10_0 {u : Nat} (h : u = 0) : c10 u = 48 := by subst h; rfl
theorem pad2 (u : Nat) (h : u < 100) : padL 2 (Lib.decDigits u) = tw u := by
  by_cases g : u < 10
  · rw [dec1 u g, tw, c10_0 (u := u / 10) (by omega)]; rfl
  · rw [dec2 u (by omega) h]; rfl
theorem pad1 (u : Nat) (h : u < 100) : padL 1 (Lib.decDigits u) = on u := by
  by_cases g : u < 10
  · rw [dec1 u g, on, if_pos g]; rfl
  · rw [dec2 u (by omega) h, on, if_neg g]; rfl
theorem pad4 (u : Nat) (h : u < 10000) : padL 4 (Lib.decDigits u) = fo u := by
  by_cases g : u < 10
  · rw [dec1 u g, fo, c10_0 (u := u / 10) (by omega), c10_0 (u := u / 100) (by omega), c10_0 (u := u / 1000) (by omega)]; rfl
  · by_cases g2 : u < 100
    · rw [dec2 u (by omega) g2, fo, c10_0 (u := u / 100) (by omega), c10_0 (u := u / 1000) (by omega)]; rfl
    · by_cases g3 : u < 1000
      · rw [dec3 u (by omega) g3, fo, c10_0 (u := u / 1000) (by omega)]; rfl
      · rw [dec4 u (by omega) h]; rfl
theorem wide_eq (u k : Nat) (h : u < 1000000) (hk : k ≤ 100) : date_wide.f (u : Int) (k : Int) = some (B (padL k (Lib.decDigits u))) := by
  unfold date_wide.f
  rw [if_pos ⟨by omega, by omega, by omega, by omega⟩, Lib.itoa_nonneg, Int.toNat_natCast]
  rfl
theorem rDigits_eq (k : Nat) : ∀ u : Nat, k < 30 → u < 10 ^ k → u < 18446744073709551616 → missiveref03_Digits.f (k + 1) (u : Int) = some (B (Lib.decDigits u)) ∧ (Lib.decDigits u).length ≤ k + 1 := by
  induction k with
  | zero =>
    intro u _ h _
    obtain rfl : u = 0 := by simpa using h
    rw [dec1 0 (by omega)]
    exact ⟨rfl, by simp⟩
  | succ k ih =>
    intro u hk h h2
    rw [missiveref03_Digits.f]
    simp only [Option.bind_some]
    have e0 : Int.tmod (u : Int) 10 = ((u % 10 : Nat) : Int) := IntWalk.up_tmod rfl rfl
    have e1 : (IntKind.u64.wrap (48 + Int.tmod (u : Int) 10)) % 256 = ((48 + u % 10 : Nat) : Int) := by
      rw [e0, IntWalk.u64_in _ (by omega)]; omega
    have e2 : strOfNums [(IntKind.u64.wrap (48 + Int.tmod (u : Int) 10)) % 256] = B [c10 u] := by
      rw [e1]
      unfold strOfNums B c10
      simp only [List.map_cons, List.map_nil, Int.toNat_natCast]
    rw [e2]
    by_cases g : (u : Int) > 9
    · have e3 : IntKind.u64.wrap (Int.tdiv (u : Int) 10) = ((u / 10 : Nat) : Int) := by
        have e4 : Int.tdiv (u : Int) 10 = ((u / 10 : Nat) : Int) := IntWalk.up_tdiv rfl rfl
        rw [e4, IntWalk.u64_in _ (by omega)]
      obtain ⟨i1, i2⟩ := ih (u / 10) (by omega) (by rw [Nat.pow_succ] at h; omega) (by omega)
      rw [if_pos g, e3, i1, Option.bind_some, if_pos (by rw [B_size, B_size]; simp; omega), B_app, ← decS u (by omega)]
      refine ⟨rfl, ?_⟩
      rw [decS u (by omega), List.length_append]
      simp; omega
    · rw [if_neg g, dec1 u (by omega)]
      exact ⟨rfl, by simp⟩
theorem rwide_loop (w : Nat) (hw : w ≤ 100) (j : Nat) : ∀ (l : List UInt8) (k : Nat), w - l.length = j → j < k → l.length ≤ 1000 → missiveref10_wide.l0 k (w : Int) (B l) = some (B (padL w l)) := by
  induction j with
  | zero =>
    intro l k h hk hl
    obtain ⟨k, rfl⟩ : ∃ m, k = m + 1 := ⟨k - 1, by omega⟩
    rw [missiveref10_wide.l0, B_size, if_neg (by omega), padL, if_neg (by omega)]
  | succ j ih =>
    intro l k h hk hl
    obtain ⟨k, rfl⟩ : ∃ m, k = m + 1 := ⟨k - 1, by omega⟩
    have e : (⟨#[48]⟩ : ByteArray) = B [48] := rfl
    rw [missiveref10_wide.l0, B_size, if_pos (by omega), if_pos (by omega), e, B_app, ih _ k (by simp; omega) (by omega) (by simp; omega)]
    congr 2
    unfold padL
    rw [if_pos (by omega : l.length < w)]
    by_cases g : ([48] ++ l).length < w
    · rw [if_pos g, ← List.append_assoc]
      congr 1
      have : w - l.length = (w - ([48] ++ l).length) + 1 := by simp at g ⊢; omega
      rw [this, List.replicate_succ']
    · rw [if_neg g]
      have : w - l.length = 1 := by simp at g; omega
      rw [this]; rfl
theorem rwide_eq (u w k : Nat) (h : u < 1000000) (hw : w ≤ 20) (hk : 40 ≤ k) : missiveref10_wide.f k (u : Int) (w : Int) = some (B (padL w (Lib.decDigits u))) := by
  unfold missiveref10_wide.f
  obtain ⟨i1, i2⟩ := rDigits_eq 7 u (by omega) (by omega) (by omega)
  rw [IntWalk.u64_in _ (by omega), at_rounds (missiveref03_Digits.mono (u : Int)) (k' := k) (by omega) i1, Option.bind_some, rwide_loop w (by omega) (w - (Lib.decDigits u).length) _ k rfl (by omega) (by omega)]
def wr (y m d : Nat) : List UInt8 := on d ++ 45 :: (mname (m - 1) ++ 45 :: fo y)
theorem on_len (u : Nat) : 1 ≤ (on u).length ∧ (on u).length ≤ 2 := by unfold on; split <;> simp [tw]
theorem civ_ex (n : Int) (h : -719162 ≤ n ∧ n ≤ 2932896) : ∃ y m d : Nat, 1 ≤ y ∧ y ≤ 9999 ∧ 1 ≤ m ∧ m ≤ 12 ∧ 1 ≤ d ∧ d ≤ 31 ∧ Cal.Vld y m d ∧ Cal.num y m d = n ∧ date_Civil.f n = some ((y : Int), (m : Int), (d : Int), 0) ∧ ∀ k, 40 ≤ k → missiveref10_Civil.f k n = some ((y : Int), (m : Int), (d : Int), 0) := by
  obtain ⟨r, e, hr⟩ := Civil_right n
  obtain ⟨r', e', hr'⟩ := refCivil_right n
  obtain ⟨y, m, d, e2, v, e3⟩ := hr.1 h
  obtain ⟨y1, y2⟩ := year_of_num v (by rw [e3]; exact h.1) (by rw [e3]; exact h.2)
  have v' := v
  obtain ⟨a1, a2, a3, a4⟩ := v'
  have a5 : Cal.dim y m ≤ 31 := by
    have := Cal.lp01 y
    unfold Cal.dim
    split
    · omega
    · split <;> omega
  obtain ⟨y, rfl⟩ := Int.eq_ofNat_of_zero_le (by omega : 0 ≤ y)
  obtain ⟨m, rfl⟩ := Int.eq_ofNat_of_zero_le (by omega : 0 ≤ m)
  obtain ⟨d, rfl⟩ := Int.eq_ofNat_of_zero_le (by omega : 0 ≤ d)
  refine ⟨y, m, d, by omega, by omega, by omega, by omega, by omega, by omega, v, e3, by rw [e, e2], fun k hk => ?_⟩
  rw [at_rounds (missiveref10_Civil.mono n) hk e', civ_one hr' hr, e2]
theorem civ_no (n : Int) (h : ¬ (-719162 ≤ n ∧ n ≤ 2932896)) : date_Civil.f n = some (0, 0, 0, 1) ∧ ∀ k, 40 ≤ k → missiveref10_Civil.f k n = some (0, 0, 0, 1) := by
  obtain ⟨r, e, hr⟩ := Civil_right n
  obtain ⟨r', e', hr'⟩ := refCivil_right n
  exact ⟨by rw [e, hr.2 h], fun k hk => by rw [at_rounds (missiveref10_Civil.mono n) hk e', hr'.2 h]⟩
theorem mon_ext (m : Nat) (h : 1 ≤ m) (h2 : m ≤ 12) : (⟨#[74, 97, 110, 70, 101, 98, 77, 97, 114, 65, 112, 114, 77, 97, 121, 74, 117, 110, 74, 117, 108, 65, 117, 103, 83, 101, 112, 79, 99, 116, 78, 111, 118, 68, 101, 99]⟩ : ByteArray).extract ((3 * (m : Int) - 3).toNat) ((3 * (m : Int)).toNat) = B (mname (m - 1)) := by
  apply ls_inj
  rw [ls_ext, ls_B]
  have h1 : (3 * (m : Int) - 3).toNat = 3 * (m - 1) := by omega
  have h3 : (3 * (m : Int)).toNat = 3 * (m - 1) + 3 := by omega
  rw [h1, h3]
  rfl
theorem wr_len (y m d : Nat) (h : 1 ≤ m) (h2 : m ≤ 12) : (wr y m d).length = (on d).length + 9 := by
  have := mname_len (m - 1) (by omega)
  simp [wr, fo, this]
theorem write_yes (n : Int) (y m d : Nat) (hy : y ≤ 9999) (hm : 1 ≤ m) (hm2 : m ≤ 12) (hd : d ≤ 31) (e : date_Civil.f n = some ((y : Int), (m : Int), (d : Int), 0)) : date_Write.f n = some (B (wr y m d), 0) := by
  unfold date_Write.f
  have w1 : wrap64 (3 * (m : Int)) = 3 * (m : Int) := w64 (by omega) (by omega)
  have w2 : wrap64 (3 * (m : Int) - 3) = 3 * (m : Int) - 3 := w64 (by omega) (by omega)
  have e45 : (⟨#[45]⟩ : ByteArray) = B [45] := rfl
  have hl := mname_len (m - 1) (by omega)
  have ho := on_len d
  have hw := wide_eq d 1 (by omega) (by omega)
  have hw2 := wide_eq y 4 (by omega) (by omega)
  rw [pad1 d (by omega)] at hw
  rw [pad4 y (by omega)] at hw2
  have hw' : date_wide.f (d : Int) 1 = some (B (on d)) := hw
  have hw2' : date_wide.f (y : Int) 4 = some (B (fo y)) := hw2
  rw [e, Option.bind_some]
  simp only [if_true]
  rw [hw', Option.bind_some]
  simp only [w1, w2, mon_ext m hm hm2, e45, B_app, B_size]
  rw [if_pos (by omega), if_pos (by omega), if_pos (by omega), if_pos (by omega), if_pos (by simp; omega), if_pos (by simp; omega), hw2', Option.bind_some]
  simp only [B_app, B_size]
  rw [if_pos (by simp [fo]; omega)]
  simp [wr]
theorem rwrite_yes (n : Int) (y m d k : Nat) (hk : 40 ≤ k) (hy : y ≤ 9999) (hm : 1 ≤ m) (hm2 : m ≤ 12) (hd : d ≤ 31) (e : missiveref10_Civil.f k n = some ((y : Int), (m : Int), (d : Int), 0)) : missiveref10_Write.f k n = some (B (wr y m d), 0) := by
  unfold missiveref10_Write.f
  have w1 : wrap64 (3 * (m : Int)) = 3 * (m : Int) := w64 (by omega) (by omega)
  have w2 : wrap64 (3 * (m : Int) - 3) = 3 * (m : Int) - 3 := w64 (by omega) (by omega)
  have e45 : (⟨#[45]⟩ : ByteArray) = B [45] := rfl
  have hl := mname_len (m - 1) (by omega)
  have ho := on_len d
  have hw := rwide_eq d 1 k (by omega) (by omega) hk
  have hw2 := rwide_eq y 4 k (by omega) (by omega) hk
  rw [pad1 d (by omega)] at hw
  rw [pad4 y (by omega)] at hw2
  have hw' : missiveref10_wide.f k (d : Int) 1 = some (B (on d)) := hw
  have hw2' : missiveref10_wide.f k (y : Int) 4 = some (B (fo y)) := hw2
  rw [e, Option.bind_some]
  simp only [if_true]
  rw [hw', Option.bind_some]
  simp only [w1, w2, mon_ext m hm hm2, e45, B_app, B_size]
  rw [if_pos (by omega), if_pos (by omega), if_pos (by omega), if_pos (by omega), if_pos (by simp; omega), if_pos (by simp; omega), hw2', Option.bind_some]
  simp only [B_app, B_size]
  rw [if_pos (by simp [fo]; omega)]
  simp [wr]
theorem write_no (n : Int) (h : ¬ (-719162 ≤ n ∧ n ≤ 2932896)) : date_Write.f n = some (B [], 1) := by
  unfold date_Write.f
  rw [(civ_no n h).1]
  rfl
theorem dig_c10 (u : Nat) : Text.isDig (c10 u) = true ∧ Text.dv (c10 u) = u % 10 := by
  have h : ∀ a, a < 10 → Text.isDig (UInt8.ofNat (48 + a)) = true ∧ Text.dv (UInt8.ofNat (48 + a)) = a := by decide
  exact h (u % 10) (Nat.mod_lt _ (by omega))
theorem digS_tw (u lo : Nat) (h : u < 100) (hlo : lo ≤ 2) : Text.digS (tw u) lo 2 = (u : Int) := by
  have a := dig_c10 (u / 10)
  have b := dig_c10 u
  unfold Text.digS
  rw [if_neg (by simp [tw, a.1, b.1]; omega)]
  simp only [tw, Text.dval, List.foldl_cons, List.foldl_nil, a.2, b.2]
  omega
theorem digS_on (u : Nat) (h : u < 100) : Text.digS (on u) 1 2 = (u : Int) := by
  unfold on
  split
  · have b := dig_c10 u
    unfold Text.digS
    rw [if_neg (by simp [b.1])]
    simp only [Text.dval, List.foldl_cons, List.foldl_nil, b.2]
    omega
  · exact digS_tw u 1 h (by omega)
theorem digS_fo (u lo : Nat) (h : u < 10000) (hlo : lo ≤ 4) : Text.digS (fo u) lo 4 = (u : Int) := by
  have a := dig_c10 (u / 1000)
  have b := dig_c10 (u / 100)
  have c := dig_c10 (u / 10)
  have d := dig_c10 u
  unfold Text.digS
  rw [if_neg (by simp [fo, a.1, b.1, c.1, d.1]; omega)]
  simp only [fo, Text.dval, List.foldl_cons, List.foldl_nil, a.2, b.2, c.2, d.2]
  omega
theorem c10_zero {u : Nat} (h : c10 u = 48) : u % 10 = 0 := by
  have := (dig_c10 u).2
  rw [h] at this
  have e : Text.dv 48 = 0 := rfl
  omega
theorem parse_wr (y m d : Nat) (y1 : 1 ≤ y) (y2 : y ≤ 9999) (m1 : 1 ≤ m) (m2 : m ≤ 12) (d1 : 1 ≤ d) (d2 : d ≤ 31) (v : Cal.Vld y m d) : parseL (wr y m d) = (Cal.num y m d, 0) := by
  have em : mon (mname (m - 1)) = (m : Int) := by rw [mname_mon (m - 1) (by omega)]; omega
  have e1 := digS_on d (by omega)
  have e3 := digS_fo y 4 (by omega) (by omega)
  unfold wr
  rw [parseL_app (by rw [e1]; omega) (by rw [em]; omega) (by rw [e3]; omega), if_neg, e1, em, e3, dayR, if_pos ⟨by omega, by omega, v⟩]
  intro h
  unfold on at h
  split at h
  · exact absurd h.1 (by simp)
  · have := h.2
    simp [tw] at this
    have := c10_zero this
    omega
def rightP (n x z : Int) : Prop := -719162 ≤ n ∧ n ≤ 2932896 ∧ 0 ≤ x ∧ x < 86400 ∧ -5999 ≤ z ∧ z ≤ 5999
instance instRightP (n x z : Int) : Decidable (rightP n x z) := by unfold rightP; infer_instance
theorem dec_false {p : Prop} [Decidable p] (h : ¬ p) : some false = some (decide p) := by rw [decide_eq_false h]
theorem dec_iff {p q : Prop} [Decidable p] [Decidable q] (h : p ↔ q) : some (decide p) = some (decide q) := by rw [decide_eq_decide.2 h]
theorem right_eq (n x z : Int) : date_moment_right.f n x z = some (decide (rightP n x z)) := by
  unfold date_moment_right.f
  rw [there_right, Option.bind_some]
  by_cases h1 : -719162 ≤ n ∧ n ≤ 2932896
  · rw [if_pos (by simpa using h1)]
    obtain ⟨a, b⟩ := h1
    by_cases h2 : x ≥ 0
    · rw [if_pos h2]
      by_cases h3 : x < 86400
      · rw [if_pos h3]
        by_cases h4 : z ≥ -5999
        · rw [if_pos h4]; exact dec_iff (by unfold rightP; omega)
        · rw [if_neg h4]; exact dec_false (by unfold rightP; omega)
      · rw [if_neg h3]; exact dec_false (by unfold rightP; omega)
    · rw [if_neg h2]; exact dec_false (by unfold rightP; omega)
  · rw [if_neg (by simpa using h1)]; exact dec_false (by unfold rightP; omega)
theorem rright_eq (n x z : Int) : missiveref10_right.f n x z = some (decide (rightP n x z)) := by
  unfold missiveref10_right.f
  by_cases h0 : n ≥ -719162
  · rw [if_pos h0]
    by_cases h1 : n ≤ 2932896
    · rw [if_pos h1]
      by_cases h2 : x ≥ 0
      · rw [if_pos h2]
        by_cases h3 : x < 86400
        · rw [if_pos h3]
          by_cases h4 : z ≥ -5999
          · rw [if_pos h4]; exact dec_iff (by unfold rightP; omega)
          · rw [if_neg h4]; exact dec_false (by unfold rightP; omega)
        · rw [if_neg h3]; exact dec_false (by unfold rightP; omega)
      · rw [if_neg h2]; exact dec_false (by unfold rightP; omega)
    · rw [if_neg h1]; exact dec_false (by unfold rightP; omega)
  · rw [if_neg h0]; exact dec_false (by unfold rightP; omega)
def clk (x : Nat) : List UInt8 := tw (x / 3600) ++ 58 :: (tw (x / 60 % 60) ++ 58 :: tw (x % 60))
def off (z : Int) : List UInt8 := (if z < 0 then 45 else 43) :: (tw (z.natAbs / 60) ++ tw (z.natAbs % 60))
def dayT (l : List UInt8) : List UInt8 := if l.length = 10 then 32 :: l else l
def tmL (l : List UInt8) (x : Nat) (z : Int) : List UInt8 := dayT l ++ 32 :: (clk x ++ 32 :: off z)
theorem wide2 (e : Int) (u : Nat) (h : e = (u : Int)) (hu : u < 100) : date_wide.f e 2 = some (B (tw u)) := by
  have := wide_eq u 2 (by omega) (by omega)
  rw [pad2 u hu] at this
  rw [h]; exact this
theorem rwide2 (e : Int) (u k : Nat) (hk : 40 ≤ k) (h : e = (u : Int)) (hu : u < 100) : missiveref10_wide.f k e 2 = some (B (tw u)) := by
  have := rwide_eq u 2 k (by omega) (by omega) hk
  rw [pad2 u hu] at this
  rw [h]; exact this
theorem tw_len (u : Nat) : (tw u).length = 2 := rfl
theorem clock_eq (n z : Int) (x : Nat) (h : x < 86400) : date_moment_clock.f n (x : Int) z = some (B (clk x)) := by
  unfold date_moment_clock.f
  have e58 : (⟨#[58]⟩ : ByteArray) = B [58] := rfl
  have t1 : wrap64 (Int.tdiv (x : Int) 3600) = ((x / 3600 : Nat) : Int) := by rw [td _ (by omega), w64 (by omega) (by omega)]; rfl
  have t2 : Int.tmod (wrap64 (Int.tdiv (x : Int) 60)) 60 = ((x / 60 % 60 : Nat) : Int) := by rw [td _ (by omega), w64 (by omega) (by omega), tm _ (by omega)]; rfl
  have t3 : Int.tmod (x : Int) 60 = ((x % 60 : Nat) : Int) := by rw [tm _ (by omega)]; rfl
  rw [wide2 _ _ t1 (by omega), Option.bind_some, e58]
  simp only [B_app, B_size]
  rw [if_pos (by simp [tw_len]), wide2 _ _ t2 (by omega), Option.bind_some]
  simp only [B_app, B_size]
  rw [if_pos (by simp [tw_len]), if_pos (by simp [tw_len]), wide2 _ _ t3 (by omega), Option.bind_some]
  simp only [B_app, B_size]
  rw [if_pos (by simp [tw_len])]
  simp [clk]
theorem offset_eq (n x z : Int) (h : -5999 ≤ z) (h2 : z ≤ 5999) : date_moment_offset.f n x z = some (B (off z)) := by
  unfold date_moment_offset.f
  have e45 : (⟨#[45]⟩ : ByteArray) = B [45] := rfl
  have e43 : (⟨#[43]⟩ : ByteArray) = B [43] := rfl
  by_cases g : z < 0
  · have t0 : wrap64 (-z) = -z := w64 (by omega) (by omega)
    have t1 : wrap64 (Int.tdiv (wrap64 (-z)) 60) = ((z.natAbs / 60 : Nat) : Int) := by rw [t0, td _ (by omega), w64 (by omega) (by omega)]; omega
    have t2 : Int.tmod (wrap64 (-z)) 60 = ((z.natAbs % 60 : Nat) : Int) := by rw [t0, tm _ (by omega)]; omega
    rw [if_pos g, wide2 _ _ t1 (by omega), Option.bind_some, e45]
    simp only [B_app, B_size]
    rw [if_pos (by simp [tw_len]), wide2 _ _ t2 (by omega), Option.bind_some]
    simp only [B_app, B_size]
    rw [if_pos (by simp [tw_len])]
    simp [off, g]
  · have t1 : wrap64 (Int.tdiv z 60) = ((z.natAbs / 60 : Nat) : Int) := by rw [td _ (by omega), w64 (by omega) (by omega)]; omega
    have t2 : Int.tmod z 60 = ((z.natAbs % 60 : Nat) : Int) := by rw [tm _ (by omega)]; omega
    rw [if_neg g, wide2 _ _ t1 (by omega), Option.bind_some, e43]
    simp only [B_app, B_size]
    rw [if_pos (by simp [tw_len]), wide2 _ _ t2 (by omega), Option.bind_some]
    simp only [B_app, B_size]
    rw [if_pos (by simp [tw_len])]
    simp [off, g]
theorem clk_len (x : Nat) : (clk x).length = 8 := rfl
theorem off_len (z : Int) : (off z).length = 5 := rfl
theorem dayT_len (y m d : Nat) (h : 1 ≤ m) (h2 : m ≤ 12) : (dayT (wr y m d)).length = 11 := by
  have := wr_len y m d h h2
  have := on_len d
  unfold dayT
  split
  · simp; omega
  · omega
theorem writeTime_yes (n z : Int) (x y m d : Nat) (hr : rightP n x z) (hm : 1 ≤ m) (hm2 : m ≤ 12) (e : date_Write.f n = some (B (wr y m d), 0)) : date_WriteTime.f n (x : Int) z = some (B (tmL (wr y m d) x z), 0) := by
  have hr' := hr
  obtain ⟨_, _, r3, r4, r5, r6⟩ := hr'
  have e32 : (⟨#[32]⟩ : ByteArray) = B [32] := rfl
  have hl := dayT_len y m d hm hm2
  unfold date_WriteTime.f
  rw [right_eq, Option.bind_some, if_pos (by simpa using hr), e, Option.bind_some]
  unfold tmL
  by_cases g : (wr y m d).length = 10
  · have hd : dayT (wr y m d) = 32 :: wr y m d := if_pos g
    simp only [e32, B_app, B_size]
    rw [if_pos (by omega), if_pos (by omega), if_pos (by simp; omega), clock_eq _ _ _ (by omega), Option.bind_some]
    simp only [B_app, B_size]
    rw [if_pos (by simp [clk_len]; omega), if_pos (by simp [clk_len]; omega), offset_eq _ _ _ r5 r6, Option.bind_some]
    simp only [B_app, B_size]
    rw [if_pos (by simp [clk_len, off_len]; omega), hd]
    simp
  · have hd : dayT (wr y m d) = wr y m d := if_neg g
    rw [hd] at hl
    simp only [e32, B_app, B_size]
    rw [if_neg (by omega), if_pos (by omega), clock_eq _ _ _ (by omega), Option.bind_some]
    simp only [B_app, B_size]
    rw [if_pos (by simp [clk_len]; omega), if_pos (by simp [clk_len]; omega), offset_eq _ _ _ r5 r6, Option.bind_some]
    simp only [B_app, B_size]
    rw [if_pos (by simp [clk_len, off_len]; omega), hd]
    simp
theorem writeTime_no (n x z : Int) (h : ¬ rightP n x z) : date_WriteTime.f n x z = some (B [], 2) := by
  unfold date_WriteTime.f
  rw [right_eq, Option.bind_some, if_neg (by simpa using h)]
  rfl
theorem rj1_eq (l sg : List UInt8) (x : Nat) (Z z : Int) (n : Int) (k : Nat) (hk : 42 ≤ k) (hx : x < 86400) (hl : l.length ≤ 100) (hs : sg.length = 1) (hz : 0 ≤ Z ∧ Z ≤ 5999) :
    missiveref10_WriteTime.j1 k (B l) Z (B sg) n (x : Int) z = some (B (l ++ 32 :: (clk x ++ 32 :: (sg ++ (tw (Z.natAbs / 60) ++ tw (Z.natAbs % 60))))), 0) := by
  obtain ⟨k, rfl⟩ : ∃ m, k = m + 1 := ⟨k - 1, by omega⟩
  have e32 : (⟨#[32]⟩ : ByteArray) = B [32] := rfl
  have e58 : (⟨#[58]⟩ : ByteArray) = B [58] := rfl
  have t1 : wrap64 (Int.tdiv (x : Int) 3600) = ((x / 3600 : Nat) : Int) := by rw [td _ (by omega), w64 (by omega) (by omega)]; rfl
  have t2 : Int.tmod (wrap64 (Int.tdiv (x : Int) 60)) 60 = ((x / 60 % 60 : Nat) : Int) := by rw [td _ (by omega), w64 (by omega) (by omega), tm _ (by omega)]; rfl
  have t3 : Int.tmod (x : Int) 60 = ((x % 60 : Nat) : Int) := by rw [tm _ (by omega)]; rfl
  have t4 : wrap64 (Int.tdiv Z 60) = ((Z.natAbs / 60 : Nat) : Int) := by rw [td _ (by omega), w64 (by omega) (by omega)]; omega
  have t5 : Int.tmod Z 60 = ((Z.natAbs % 60 : Nat) : Int) := by rw [tm _ (by omega)]; omega
  rw [missiveref10_WriteTime.j1]
  simp only [e32, e58, B_app, B_size]
  rw [if_pos (by omega), rwide2 _ _ k (by omega) t1 (by omega), Option.bind_some]
  simp only [B_app, B_size]
  rw [if_pos (by simp [tw_len]; omega), if_pos (by simp [tw_len]; omega), rwide2 _ _ k (by omega) t2 (by omega), Option.bind_some]
  simp only [B_app, B_size]
  rw [if_pos (by simp [tw_len]; omega), if_pos (by simp [tw_len]; omega), rwide2 _ _ k (by omega) t3 (by omega), Option.bind_some]
  simp only [B_app, B_size]
  rw [if_pos (by simp [tw_len]; omega), if_pos (by simp [tw_len]; omega), if_pos (by simp [tw_len, hs]; omega), rwide2 _ _ k (by omega) t4 (by omega), Option.bind_some]
  simp only [B_app, B_size]
  rw [if_pos (by simp [tw_len, hs]; omega), rwide2 _ _ k (by omega) t5 (by omega), Option.bind_some]
  simp only [B_app, B_size]
  rw [if_pos (by simp [tw_len, hs]; omega)]
  simp [clk]
theorem rj0_eq (l : List UInt8) (x : Nat) (z : Int) (n : Int) (k : Nat) (hk : 43 ≤ k) (hx : x < 86400) (hl : l.length ≤ 100) (h : -5999 ≤ z) (h2 : z ≤ 5999) :
    missiveref10_WriteTime.j0 k (B l) n (x : Int) z = some (B (l ++ 32 :: (clk x ++ 32 :: off z)), 0) := by
  obtain ⟨k, rfl⟩ : ∃ m, k = m + 1 := ⟨k - 1, by omega⟩
  have e45 : (⟨#[45]⟩ : ByteArray) = B [45] := rfl
  have e43 : (⟨#[43]⟩ : ByteArray) = B [43] := rfl
  rw [missiveref10_WriteTime.j0, e45, e43]
  by_cases g : z < 0
  · rw [if_pos g, w64 (by omega) (by omega), rj1_eq l [45] x (-z) z n k (by omega) hx hl rfl (by omega)]
    simp [off, g]
  · rw [if_neg g, rj1_eq l [43] x z z n k (by omega) hx hl rfl (by omega)]
    simp [off, g]
theorem rwriteTime_yes (n z : Int) (x y m d k : Nat) (hk : 43 ≤ k) (hr : rightP n x z) (hm : 1 ≤ m) (hm2 : m ≤ 12) (e : missiveref10_Write.f k n = some (B (wr y m d), 0)) : missiveref10_WriteTime.f k n (x : Int) z = some (B (tmL (wr y m d) x z), 0) := by
  have hr' := hr
  obtain ⟨_, _, r3, r4, r5, r6⟩ := hr'
  have e32 : (⟨#[32]⟩ : ByteArray) = B [32] := rfl
  have hl := dayT_len y m d hm hm2
  unfold missiveref10_WriteTime.f
  rw [rright_eq, Option.bind_some, if_pos (by simpa using hr), e, Option.bind_some]
  unfold tmL
  by_cases g : (wr y m d).length = 10
  · have hd : dayT (wr y m d) = 32 :: wr y m d := if_pos g
    simp only [e32, B_app, B_size]
    rw [if_pos (by omega), if_pos (by omega), rj0_eq _ _ _ _ _ hk (by omega) (by simp; omega) r5 r6, hd]
    simp
  · have hd : dayT (wr y m d) = wr y m d := if_neg g
    rw [hd] at hl
    simp only [e32, B_app, B_size]
    rw [if_neg (by omega), rj0_eq _ _ _ _ _ hk (by omega) (by omega) r5 r6, hd]
theorem rwriteTime_no (n x z : Int) (k : Nat) (h : ¬ rightP n x z) : missiveref10_WriteTime.f k n x z = some (B [], 2) := by
  unfold missiveref10_WriteTime.f
  rw [rright_eq, Option.bind_some, if_neg (by simpa using h)]
  rfl
theorem writeTime_is (n x z : Int) (hr : rightP n x z) : ∃ y m d X : Nat, 1 ≤ y ∧ y ≤ 9999 ∧ 1 ≤ m ∧ m ≤ 12 ∧ 1 ≤ d ∧ d ≤ 31 ∧ Cal.Vld y m d ∧ Cal.num y m d = n ∧ x = (X : Int) ∧ date_WriteTime.f n x z = some (B (tmL (wr y m d) X z), 0) ∧ ∀ k, 43 ≤ k → missiveref10_WriteTime.f k n x z = some (B (tmL (wr y m d) X z), 0) := by
  have hr' := hr
  obtain ⟨r1, r2, r3, r4, r5, r6⟩ := hr'
  obtain ⟨y, m, d, y1, y2, m1, m2, d1, d2, v, e, e1, e2⟩ := civ_ex n ⟨r1, r2⟩
  obtain ⟨X, rfl⟩ := Int.eq_ofNat_of_zero_le r3
  exact ⟨y, m, d, X, y1, y2, m1, m2, d1, d2, v, e, rfl, writeTime_yes n z X y m d hr m1 m2 (write_yes n y m d y2 m1 m2 d2 e1), fun k hk => rwriteTime_yes n z X y m d k hk hr m1 m2 (rwrite_yes n y m d k (by omega) y2 m1 m2 d2 (e2 k (by omega)))⟩
theorem writeTime_same (n x z : Int) (k : Nat) (hk : 43 ≤ k) : ∃ r, date_WriteTime.f n x z = some r ∧ missiveref10_WriteTime.f k n x z = some r := by
  by_cases h : rightP n x z
  · obtain ⟨y, m, d, X, _, _, _, _, _, _, _, _, _, e1, e2⟩ := writeTime_is n x z h
    exact ⟨_, e1, e2 k hk⟩
  · exact ⟨_, writeTime_no n x z h, rwriteTime_no n x z k h⟩
def isBl (b : UInt8) : Bool := b == 32 || b == 9
theorem isBl_nat (b : UInt8) : isBlank b.toNat = isBl b := by
  unfold isBlank isBl
  have h : ∀ c : UInt8, (b.toNat == c.toNat) = (b == c) := by
    intro c
    rw [Bool.eq_iff_iff]
    simp [UInt8.toNat_inj]
  have h1 := h 32
  have h2 := h 9
  rw [← h1, ← h2]; rfl
theorem fields_bl (s : ByteArray) : (Lib.goFieldsP isBlank s).map ls = fw isBl (ls s) [] := by
  refine fields_fw isBlank isBl (fun b _ => isBl_nat b) ?_ ?_ s
  · intro r hr; simp [isBlank]; omega
  · intro b hb
    rw [← isBl_nat]; simp [isBlank]; omega
/-- the year that a mail's Date tells -/
def yearL (c : List UInt8) : Int :=
  if Text.digS c 2 4 < 0 then -1 else if c.length = 2 ∧ Text.digS c 2 4 < 50 then Text.digS c 2 4 + 2000 else if c.length = 4 then Text.digS c 2 4 else Text.digS c 2 4 + 1900
def mailL (l : List UInt8) : Int × Int :=
  match fw isBl (if (cutC 44 l).2.2 = true then (cutC 44 l).2.1 else l) [] with
  | a :: b :: c :: _ => dayR (yearL c) (mon b) (Text.digS a 1 2)
  | _ => (0, 7)
theorem digS_bd (l : List UInt8) (lo hi : Nat) (h : hi ≤ 4) : -1 ≤ Text.digS l lo hi ∧ Text.digS l lo hi ≤ 9999 := by
  unfold Text.digS
  split
  · omega
  · rename_i g
    have ha : l.all Text.isDig = true := by
      cases hc : l.all Text.isDig with
      | true => rfl
      | false => exact absurd (Or.inr (Or.inr hc)) g
    have := Text.dval_lt l 0 ha
    have hp : 10 ^ l.length ≤ 10 ^ 4 := Nat.pow_le_pow_right (by decide) (by omega)
    omega
theorem fw_size (p : UInt8 → Bool) (l : List UInt8) : ∀ cur, ∀ x ∈ fw p l cur, x.length ≤ l.length + cur.length := by
  induction l with
  | nil =>
    intro cur x hx
    unfold fw at hx
    split at hx
    · simp at hx
    · simp at hx; subst hx; simp
  | cons b l ih =>
    intro cur x hx
    unfold fw at hx
    split at hx
    · split at hx
      · have := ih _ x hx; simp at this ⊢; omega
      · rcases List.mem_cons.1 hx with rfl | hx
        · simp
        · have := ih _ x hx; simp at this ⊢; omega
    · have := ih _ x hx; simp at this ⊢; omega
theorem mail_end (a b c : ByteArray) (r : List ByteArray) (k : Nat) (hk : 30 ≤ k) (za : a.size ≤ 2000000) (zb : b.size ≤ 2000000) (zc : c.size ≤ 2000000) (y : Int) :
    (if 1 < ((a :: b :: c :: r).length : Int) then ((date_month.f k (rdOf ByteArray.empty (a :: b :: c :: r) 1)).bind fun t133 => (if 0 < ((a :: b :: c :: r).length : Int) then ((date_digits.f (rdOf ByteArray.empty (a :: b :: c :: r) 0) 1 2).bind fun t135 => ((date_day.f k y t133 t135).bind fun bt136 => (some (bt136.1, bt136.2)))) else (none))) else (none)) = some (dayR y (mon (ls b)) (Text.digS (ls a) 1 2)) := by
  have ra : rdOf ByteArray.empty (a :: b :: c :: r) 0 = a := rfl
  have rb : rdOf ByteArray.empty (a :: b :: c :: r) 1 = b := rfl
  obtain ⟨k, rfl⟩ : ∃ m, k = m + 1 := ⟨k - 1, by omega⟩
  rw [ra, rb, if_pos (by simp only [List.length_cons]; omega), month_eq b _ (by omega), Option.bind_some, if_pos (by simp only [List.length_cons]; omega), digits_eq a 1 2 (by omega) (by omega) (by omega) (by omega) za, Option.bind_some, dday_eq, Option.bind_some]
  rfl
theorem mail_j0 (s : ByteArray) (k : Nat) (hs : s.size ≤ 2000000) (hk : 40 ≤ k) : date_Mail.j0 k s = some (match fw isBl (ls s) [] with | a :: b :: c :: _ => dayR (yearL c) (mon b) (Text.digS a 1 2) | _ => (0, 7)) := by
  obtain ⟨k, rfl⟩ : ∃ m, k = m + 3 := ⟨k - 3, by omega⟩
  rw [show k + 3 = (k + 2) + 1 from rfl, date_Mail.j0]
  unfold strings_FieldsFunc.f
  rw [if_pos ⟨rfl, hs⟩, Option.bind_some]
  have hm := fields_bl s
  have hz : ∀ x ∈ Lib.goFieldsP isBlank s, x.size ≤ 2000000 := by
    intro x hx
    have h1 : ls x ∈ fw isBl (ls s) [] := by rw [← hm]; exact List.mem_map.2 ⟨x, hx, rfl⟩
    have := fw_size isBl (ls s) [] _ h1
    rw [ls_len, ls_len] at this
    simp at this; omega
  generalize Lib.goFieldsP isBlank s = t at *
  rw [← hm]
  match t, hz with
  | [], _ => rfl
  | [_], _ => rfl
  | [_, _], _ => rfl
  | a :: b :: c :: r, hz =>
    have za := hz a (by simp)
    have zb := hz b (by simp)
    have zc := hz c (by simp)
    have rc : rdOf ByteArray.empty (a :: b :: c :: r) 2 = c := rfl
    have hbd := digS_bd (ls c) 2 4 (by omega)
    rw [if_neg (by simp only [List.length_cons]; omega), if_pos (by simp only [List.length_cons]; omega), rc, digits_eq c 2 4 (by omega) (by omega) (by omega) (by omega) zc, Option.bind_some]
    have e24 : Text.digS (ls c) (2 : Int).toNat (4 : Int).toNat = Text.digS (ls c) 2 4 := rfl
    rw [e24]
    simp only [List.map_cons]
    unfold yearL
    by_cases g : Text.digS (ls c) 2 4 < 0
    · rw [if_pos g, if_pos g, date_Mail.j1, if_pos rfl, mail_end a b c r _ (by omega) za zb zc]
      congr 1
      rw [dayR_no (by omega), dayR_no (by omega)]
    · rw [if_neg g, if_neg g, date_Mail.j1, rc]
      by_cases g4 : c.size = 4
      · rw [show ((c.size : Int) == 4) = true by simp; omega, if_pos rfl, mail_end a b c r _ (by omega) za zb zc, if_neg (by rw [ls_len]; omega), if_pos (by rw [ls_len]; exact g4)]
      · rw [show ((c.size : Int) == 4) = false by simp; omega, if_neg (by decide), if_pos (by simp only [List.length_cons]; omega)]
        by_cases g2 : (c.size : Int) = 2
        · rw [if_pos g2, date_Mail.j2]
          by_cases g5 : Text.digS (ls c) 2 4 < 50
          · rw [if_pos (by simpa using g5), w64 (by omega) (by omega), mail_end a b c r _ (by omega) za zb zc, if_pos ⟨by rw [ls_len]; omega, g5⟩]
          · rw [if_neg (by simpa using g5), w64 (by omega) (by omega), mail_end a b c r _ (by omega) za zb zc, if_neg (fun q => g5 q.2), if_neg (by rw [ls_len]; exact g4)]
        · rw [if_neg g2, date_Mail.j2, if_neg (by decide), w64 (by omega) (by omega), mail_end a b c r _ (by omega) za zb zc, if_neg (fun q => g2 (by rw [ls_len] at q; omega)), if_neg (by rw [ls_len]; exact g4)]
theorem cutC_len (c : UInt8) (l : List UInt8) : (cutC c l).2.1.length ≤ l.length := by
  induction l with
  | nil => simp [cutC]
  | cons b l ih =>
    unfold cutC
    split
    · simp
    · simp; omega
theorem mail_eq (s : ByteArray) (k : Nat) (hs : s.size ≤ 2000000) (hk : 40 ≤ k) : date_Mail.f k s = some (mailL (ls s)) := by
  unfold date_Mail.f strings_Cut.f
  have e : (⟨#[44]⟩ : ByteArray).data.toList = [44] := rfl
  rw [if_pos (by omega), Option.bind_some, e, show s.data.toList = ls s from rfl, cut_one]
  unfold mailL
  have h := cutC_len 44 (ls s)
  rw [ls_len] at h
  by_cases g : (cutC 44 (ls s)).2.2 = true
  · rw [if_pos g, if_pos g, mail_j0 _ k (by show (B _).size ≤ _; rw [B_size]; omega) hk]
    simp only [ls_mk]
  · rw [if_neg g, if_neg g, mail_j0 _ k hs hk]
end Go.Proofs.YtdpbaagpekhipaaGreatDoor.PAll

