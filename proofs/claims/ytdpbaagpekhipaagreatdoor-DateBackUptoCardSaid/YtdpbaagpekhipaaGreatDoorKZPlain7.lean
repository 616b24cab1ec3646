/- Plain laws of the date texts: a day's number, its text, and its text in a mail. No condition. -/
import Derived.Test.YtdpbaagpekhipaaGreatDoorKZPlain5
import Derived.Test.YtdpbaagpekhipaaGreatDoorKZPAllx13
import Derived.Lib.Split
import Derived.Lib.SplitLaws
import Derived.Lib.CutLaws
import Derived.Lib.CountLaws
import Derived.Lib.IndexLaws
import Derived.Lib.FieldsP
open Go Go.RowKit Go.Proofs.YtdpbaagpekhipaaGreatDoorW.PrintWords Go.Proofs.YtdpbaagpekhipaaGreatDoorW.PrintLast Go.Proofs.YtdpbaagpekhipaaGreatDoor.Str
set_option linter.unusedVariables false
set_option linter.unusedSimpArgs false
namespace Go.Proofs.YtdpbaagpekhipaaGreatDoor.PAll
theorem days_true (k : Nat) : missivelaw10_days.f (k + 1) = some true := by
  unfold missivelaw10_days.f
  obtain ⟨r1, e1, h1⟩ := day_right 1996 2 5 k
  obtain ⟨r2, e2, h2⟩ := day_right 1900 2 29 k
  rw [e1, e2]
  have d1 := h1.1 ⟨by decide, by decide, by decide, by decide, by decide, by decide⟩
  have d2 := h2.2 (by rintro ⟨_, _, _, _, _, h⟩; revert h; decide)
  subst d1 d2
  have c : date_Civil.f (-1) = some (1969, 12, 31, 0) := by decide +kernel
  have wk : date_Weekday.f 0 = some (4, 0) := by decide +kernel
  have nm : Cal.num 1996 2 5 = 9531 := by decide +kernel
  rw [c, wk, nm]
  rfl
/-- a day's number, and that number's day -/
theorem day_civil (y m d : Int) : (date_Day.f 50 y m d = some (Cal.num y m d, 0) ∧ date_Civil.f (Cal.num y m d) = some (y, m, d, 0)) ∨ date_Day.f 50 y m d = some (0, 1) := by
  obtain ⟨r, e, h⟩ := day_right y m d 49
  by_cases g : 1 ≤ y ∧ y ≤ 9999 ∧ Cal.Vld y m d
  · left
    refine ⟨by rw [e, h.1 g], ?_⟩
    obtain ⟨g1, g2, v⟩ := g
    obtain ⟨o3, o4, o5, o6⟩ := v
    have l1 := Cal.lp01 y
    have hd : d ≤ 31 := by
      unfold Cal.dim at o6
      split at o6
      · omega
      · split at o6 <;> omega
    have hr := num_range y m d g1 g2 o3 o4 o5 hd
    obtain ⟨y', m', d', _, _, _, _, _, _, v', e', c', _⟩ := civ_ex (Cal.num y m d) hr
    obtain ⟨i1, i2, i3⟩ := Cal.inj ⟨o3, o4, o5, o6⟩ v' e'.symm
    rw [c', ← i1, ← i2, ← i3]
  · right
    rw [e, h.2 g]
def blank (b : UInt8) : UInt8 := if b = 45 then 32 else b
/-- the mail's Date that the law makes of a day's text -/
def mailOf (l : List UInt8) : List UInt8 := [120, 44, 32] ++ l.map blank ++ [32, 49, 58, 50]
theorem fw_word (u r : List UInt8) (h : ∀ x ∈ u, isBl x = false) (hn : u ≠ []) : fw isBl (u ++ 32 :: r) [] = u :: fw isBl r [] := by
  rw [fw_skip isBl u _ [] h, List.nil_append, fw, if_pos (show isBl 32 = true from rfl), if_neg hn]
theorem fw_end (u : List UInt8) (h : ∀ x ∈ u, isBl x = false) (hn : u ≠ []) : fw isBl u [] = [u] := by
  have := fw_skip isBl u [] [] h
  rw [List.append_nil] at this
  rw [this, List.nil_append, fw, if_neg hn]
theorem blank_id (l : List UInt8) (h : 45 ∉ l) : l.map blank = l := by
  induction l with
  | nil => rfl
  | cons b l ih =>
    simp at h
    rw [List.map_cons, ih h.2, blank, if_neg (fun g => h.1 g.symm)]
theorem dig_bl (b : UInt8) (h : Text.isDig b = true) : isBl b = false ∧ b ≠ 45 ∧ b ≠ 44 := by
  have g := Text.isDig_iff h
  have n32 : b ≠ 32 := fun e => by subst e; revert g; decide
  have n9 : b ≠ 9 := fun e => by subst e; revert g; decide
  refine ⟨by simp [isBl, n32, n9], fun e => by subst e; revert g; decide, fun e => by subst e; revert g; decide⟩
theorem on_digs (u : Nat) : ∀ x ∈ on u, Text.isDig x = true := by
  intro x hx
  unfold on at hx
  split at hx
  · simp at hx; rw [hx]; exact (dig_c10 u).1
  · simp [tw] at hx
    rcases hx with rfl | rfl
    · exact (dig_c10 _).1
    · exact (dig_c10 _).1
theorem fo_digs (u : Nat) : ∀ x ∈ fo u, Text.isDig x = true := by
  intro x hx
  simp [fo] at hx
  rcases hx with rfl | rfl | rfl | rfl <;> exact (dig_c10 _).1
theorem mname_ok (k : Nat) (hk : k < 12) : ∀ x ∈ mname k, isBl x = false ∧ x ≠ 45 ∧ x ≠ 44 := by
  intro x hx
  have g := mname_letters k hk x hx
  have n32 : x ≠ 32 := fun e => by subst e; revert g; decide
  have n9 : x ≠ 9 := fun e => by subst e; revert g; decide
  exact ⟨by simp [isBl, n32, n9], fun e => by subst e; revert g; decide, fun e => by subst e; revert g; decide⟩
theorem mail_wr (y m d : Nat) (y1 : 1 ≤ y) (y2 : y ≤ 9999) (m1 : 1 ≤ m) (m2 : m ≤ 12) (d1 : 1 ≤ d) (d2 : d ≤ 31) (v : Cal.Vld y m d) : mailL (mailOf (wr y m d)) = (Cal.num y m d, 0) := by
  have bo : (on d).map blank = on d := blank_id _ (fun h => (dig_bl _ (on_digs d _ h)).2.1 rfl)
  have bf : (fo y).map blank = fo y := blank_id _ (fun h => (dig_bl _ (fo_digs y _ h)).2.1 rfl)
  have bm : (mname (m - 1)).map blank = mname (m - 1) := blank_id _ (fun h => (mname_ok (m - 1) (by omega) _ h).2.1 rfl)
  have e : mailOf (wr y m d) = [120] ++ 44 :: (32 :: (on d ++ 32 :: (mname (m - 1) ++ 32 :: (fo y ++ 32 :: [49, 58, 50])))) := by
    unfold mailOf wr
    simp [bo, bf, bm, blank]
  have hm := mname_len (m - 1) (by omega)
  have nm : mname (m - 1) ≠ [] := fun h => by rw [h] at hm; simp at hm
  have no : on d ≠ [] := fun h => by have := on_len d; rw [h] at this; simp at this
  have w : fw isBl (32 :: (on d ++ 32 :: (mname (m - 1) ++ 32 :: (fo y ++ 32 :: [49, 58, 50])))) [] = on d :: mname (m - 1) :: fo y :: [[49, 58, 50]] := by
    have w0 : ∀ r, fw isBl (32 :: r) [] = fw isBl r [] := fun r => by rw [fw, if_pos (show isBl 32 = true from rfl), if_pos rfl]
    rw [w0, fw_word _ _ (fun x hx => (dig_bl _ (on_digs d x hx)).1) no, fw_word _ _ (fun x hx => (mname_ok (m - 1) (by omega) x hx).1) nm, fw_word _ _ (fun x hx => (dig_bl _ (fo_digs y x hx)).1) (by simp [fo]), fw_end _ (by decide) (by simp)]
  have em : mon (mname (m - 1)) = (m : Int) := by rw [mname_mon (m - 1) (by omega)]; omega
  have ey : yearL (fo y) = (y : Int) := by
    unfold yearL
    rw [digS_fo y 2 (by omega) (by omega), if_neg (by omega), if_neg (by simp [fo]), if_pos (by simp [fo])]
  unfold mailL
  rw [e, cutC_app 44 [120] _ (by decide)]
  simp only [if_true]
  rw [w]
  simp only
  rw [ey, em, digS_on d (by omega), dayR, if_pos ⟨by omega, by omega, v⟩]
theorem back_ex (n : Int) : (¬ (-719162 ≤ n ∧ n ≤ 2932896) ∧ date_Civil.f n = some (0, 0, 0, 1) ∧ date_Write.f n = some (B [], 1)) ∨
    ∃ (Y M D : Int) (l : List UInt8), l.length ≤ 11 ∧ date_Civil.f n = some (Y, M, D, 0) ∧ date_Write.f n = some (B l, 0) ∧ date_Day.f 50 Y M D = some (n, 0) ∧ date_Parse.f 50 (B l) = some (n, 0) ∧ date_Mail.f 50 (B (mailOf l)) = some (n, 0) := by
  by_cases h : -719162 ≤ n ∧ n ≤ 2932896
  · right
    obtain ⟨y, m, d, y1, y2, m1, m2, d1, d2, v, e, e1, e2⟩ := civ_ex n h
    have hl := wr_len y m d m1 m2
    have ho := on_len d
    refine ⟨y, m, d, wr y m d, by omega, e1, write_yes n y m d y2 m1 m2 d2 e1, ?_, ?_, ?_⟩
    · obtain ⟨r, er, hr⟩ := day_right y m d 49
      rw [er, hr.1 ⟨by omega, by omega, v⟩, e]
    · rw [parse_eq _ 50 (by rw [B_size]; omega) (by omega), ls_B, parse_wr y m d y1 y2 m1 m2 d1 d2 v, e]
    · rw [mail_eq _ 50 (by rw [B_size]; simp [mailOf]; omega) (by omega), ls_B, mail_wr y m d y1 y2 m1 m2 d1 d2 v, e]
  · left
    exact ⟨h, (civ_no n h).1, write_no n h⟩
end Go.Proofs.YtdpbaagpekhipaaGreatDoor.PAll

