/- Plain facts on texts as lists of bytes: digits, what they spell, what Trim leaves. No condition. -/
import Derived.Lib.Atoi
import Derived.Lib.SlTrimSet
namespace Go.Proofs.YtdpbaagpekhipaaGreatDoor.Text
open Go
set_option linter.unusedVariables false
set_option linter.unusedSimpArgs false
def isDig (b : UInt8) : Bool := decide (48 ≤ b.toNat ∧ b.toNat ≤ 57)
theorem isDig_iff {b : UInt8} (h : isDig b = true) : 48 ≤ b.toNat ∧ b.toNat ≤ 57 := of_decide_eq_true h
def TEN : List UInt8 := [48, 49, 50, 51, 52, 53, 54, 55, 56, 57]
theorem ten_contains (b : UInt8) : TEN.contains b = isDig b := by
  have h : ∀ n : Fin 256, TEN.contains (UInt8.ofNat n.val) = isDig (UInt8.ofNat n.val) := by decide +kernel
  have := h ⟨b.toNat, b.toNat_lt⟩
  simpa using this
theorem dropWhile_nil {α : Type} (p : α → Bool) (l : List α) : l.dropWhile p = [] ↔ l.all p = true := by
  induction l with
  | nil => simp
  | cons a l ih =>
    by_cases h : p a = true
    · rw [List.dropWhile_cons_of_pos h, ih]; simp [h]
    · rw [List.dropWhile_cons_of_neg h]; simp [h]
theorem dropWhile_suffix_all {α : Type} (p : α → Bool) (l : List α) (h : (l.dropWhile p).all p = true) : l.all p = true := by
  induction l with
  | nil => rfl
  | cons a l ih =>
    by_cases g : p a = true
    · rw [List.dropWhile_cons_of_pos g] at h
      rw [List.all_cons, g, ih h]; rfl
    · rw [List.dropWhile_cons_of_neg g] at h
      exact h
theorem trimS_nil (l : List UInt8) : Lib.trimS l TEN = [] ↔ l.all isDig = true := by
  have hf : (fun b => TEN.contains b) = isDig := funext ten_contains
  unfold Lib.trimS Lib.trimLeftS Lib.trimRightS
  rw [dropWhile_nil]
  simp only [hf]
  constructor
  · intro h
    have h2 : ((l.reverse.dropWhile isDig)).all isDig = true := by rw [← h]; simp
    have := dropWhile_suffix_all isDig _ h2
    simpa using this
  · intro h
    have : l.reverse.dropWhile isDig = [] := (dropWhile_nil _ _).2 (by simpa using h)
    rw [this]; rfl
/-- what a row of digits spells -/
def dv (b : UInt8) : Nat := b.toNat - 48
def dval (acc : Nat) (l : List UInt8) : Nat := l.foldl (fun a b => a * 10 + dv b) acc
theorem dval_cons (acc : Nat) (b : UInt8) (r : List UInt8) : dval acc (b :: r) = dval (acc * 10 + dv b) r := List.foldl_cons ..
theorem decFrom_digs (l : List UInt8) (acc : Nat) (h : l.all isDig = true) : Lib.decFrom acc l = some (dval acc l) := by
  induction l generalizing acc with
  | nil => rfl
  | cons b r ih =>
    simp only [List.all_cons, Bool.and_eq_true] at h
    have hb := isDig_iff h.1
    have hd : Lib.digitVal b = some (dv b) := if_pos hb
    have e1 : Lib.decFrom acc (b :: r) = Lib.decFrom (acc * 10 + dv b) r := by
      show (match Lib.digitVal b with | some d => Lib.decFrom (acc * 10 + d) r | none => none) = _
      rw [hd]
    rw [e1, ih _ h.2, dval_cons]
theorem atoi_digs (l : List UInt8) (h : l.all isDig = true) (h0 : l ≠ []) : Lib.atoi l = some (dval 0 l : Int) := by
  cases l with
  | nil => exact absurd rfl h0
  | cons b r =>
    have hb : 48 ≤ b.toNat ∧ b.toNat ≤ 57 := by
      simp only [List.all_cons, Bool.and_eq_true] at h
      exact isDig_iff h.1
    have n45 : (b == 45) = false := by
      simp only [beq_eq_false_iff_ne]; rintro rfl; simp at hb
    have n43 : (b == 43) = false := by
      simp only [beq_eq_false_iff_ne]; rintro rfl; simp at hb
    have e := decFrom_digs (b :: r) 0 h
    show (if (b == 45) = true then Option.map (fun m : Nat => -(m : Int)) (Lib.decNat r) else if (b == 43) = true then Option.map (fun m : Nat => (m : Int)) (Lib.decNat r) else Option.map (fun m : Nat => (m : Int)) (Lib.decNat (b :: r))) = _
    rw [if_neg (by rw [n45]; exact Bool.false_ne_true), if_neg (by rw [n43]; exact Bool.false_ne_true)]
    unfold Lib.decNat
    rw [e]
    rfl
theorem dval_lt (l : List UInt8) (acc : Nat) (h : l.all isDig = true) : dval acc l < (acc + 1) * 10 ^ l.length := by
  induction l generalizing acc with
  | nil => simp [dval]
  | cons b r ih =>
    simp only [List.all_cons, Bool.and_eq_true] at h
    have hb := isDig_iff h.1
    have := ih (acc * 10 + dv b) h.2
    rw [dval_cons, List.length_cons, Nat.pow_succ]
    have e : (acc * 10 + dv b + 1) * 10 ^ r.length ≤ ((acc + 1) * 10) * 10 ^ r.length := Nat.mul_le_mul_right _ (by unfold dv; omega)
    have e2 : (acc + 1) * 10 * 10 ^ r.length = (acc + 1) * (10 ^ r.length * 10) := by rw [Nat.mul_assoc, Nat.mul_comm 10]
    rw [e2] at e
    exact Nat.lt_of_lt_of_le this e
/-- a number of digits alone, of from so many to so many; -1: it is none -/
def digS (l : List UInt8) (least most : Nat) : Int := if l.length < least ∨ most < l.length ∨ l.all isDig = false then -1 else (dval 0 l : Int)
end Go.Proofs.YtdpbaagpekhipaaGreatDoor.Text

