/- date.digits: a number of digits alone, of so many to so many (at most 18); -1: it is none. No condition. -/
import Derived.Test.YtdpbaagpekhipaaGreatDoorKZShelf
import Derived.Test.YtdpbaagpekhipaaGreatDoorKZText
import Derived.Shelf.Strings.SlTrimAscii
import Derived.WalkKit
import Derived.WalkSpells
import Derived.Deep.RegionWith
import Derived.Test.YtdpbaagpekhipaaGreatDoorKZW0
namespace Go.Proofs.YtdpbaagpekhipaaGreatDoor
open Go.RowKit Go.Proofs.YtdpbaagpekhipaaGreatDoorW.PrintWords Go.Proofs.YtdpbaagpekhipaaGreatDoorW.PrintLast
set_option linter.unusedVariables false
def date_digits.f (s : ByteArray) (least most : Int) : Option Int :=
  if 1 ≤ least ∧ least ≤ 18 ∧ 0 ≤ most ∧ most ≤ 18 ∧ s.size ≤ 140737488351232 then some (Text.digS s.data.toList least.toNat most.toNat) else none
theorem trim_ten (s : ByteArray) (w : World) (hs : s.size ≤ 140737488351232) :
    Calls Tryz.prog 45 #[.string s, .string ⟨#[48, 49, 50, 51, 52, 53, 54, 55, 56, 57]⟩] w fun e w' => e = .returned (.string ⟨(Lib.trimS s.data.toList Text.TEN).toArray⟩) ∧ Below w.heap.size w w' :=
  Any.strings_Trim_laid Tryz.lays160 (by kernel_rfl) s ⟨#[48, 49, 50, 51, 52, 53, 54, 55, 56, 57]⟩ w (by omega) (by decide) (ascii_of_all (by decide))
set_option maxHeartbeats 1000000 in
theorem digits_short (s : ByteArray) (least most : Int) (w : World) (hs : s.size ≤ 140737488351232) (h1 : least ≤ 18) (h2 : (s.size : Int) < least) :
    Calls Tryz.prog 23 #[.string s, .int .i64 least, .int .i64 most] w fun e w' => e = .returned (.int .i64 (-1)) ∧ Below w.heap.size w w' := by
  go_enter Tryz.func23, Tryz.ntmps23
  go_wp2
  go_ret
  exact ⟨rfl, Below.refl _ _⟩
set_option maxHeartbeats 1000000 in
theorem digits_long (s : ByteArray) (least most : Int) (w : World) (hs : s.size ≤ 140737488351232) (h2 : least ≤ (s.size : Int)) (h3 : most < s.size) :
    Calls Tryz.prog 23 #[.string s, .int .i64 least, .int .i64 most] w fun e w' => e = .returned (.int .i64 (-1)) ∧ Below w.heap.size w w' := by
  go_enter Tryz.func23, Tryz.ntmps23
  go_wp2
  go_ret
  exact ⟨rfl, Below.refl _ _⟩
theorem atoi_below (s : ByteArray) (w : World) (hs : s.size ≤ 18) (h0 : 1 ≤ s.size) (ha : s.data.toList.all Text.isDig = true) :
    Calls Tryz.prog 46 #[.string s] w fun e w' => e = .returned (.tuple #[.int .i64 (Text.dval 0 s.data.toList), .nilIface]) ∧ Below w.heap.size w w' := by
  have hn : s.data.toList ≠ [] := by
    intro h
    have : s.data.toList.length = s.size := Array.length_toList
    rw [h] at this
    simp at this
    omega
  refine (Tryz.strconv_Atoi s _ hs (Text.atoi_digs _ ha hn) w).mono fun e w' ⟨h, t, hw⟩ => ⟨h, ?_⟩
  rw [hw]
  exact bytes_below (Below.refl _ _) (Nat.le_refl _) _ _
set_option maxHeartbeats 1000000 in
theorem digits_ok (s : ByteArray) (least most : Int) (w : World) (hs : s.size ≤ 140737488351232) (h0 : 1 ≤ s.size) (h2 : least ≤ (s.size : Int)) (h3 : s.size ≤ most) (h4 : most ≤ 18) (ha : s.data.toList.all Text.isDig = true) :
    Calls Tryz.prog 23 #[.string s, .int .i64 least, .int .i64 most] w fun e w' => e = .returned (.int .i64 (Text.dval 0 s.data.toList)) ∧ Below w.heap.size w w' := by
  have ht : Aside0 (∀ w, Calls Tryz.prog 45 #[.string s, .string ⟨#[48, 49, 50, 51, 52, 53, 54, 55, 56, 57]⟩] w fun e w' => e = .returned (.string ⟨#[]⟩) ∧ Below w.heap.size w w') :=
    Aside0.mk fun w => (trim_ten s w hs).mono fun e w' ⟨h, hb⟩ => ⟨by rw [h, (Text.trimS_nil _).2 ha], hb⟩
  have hA : Aside0 (∀ w, Calls Tryz.prog 46 #[.string s] w fun e w' => e = .returned (.tuple #[.int .i64 (Text.dval 0 s.data.toList), .nilIface]) ∧ Below w.heap.size w w') :=
    Aside0.mk fun w => atoi_below s w (by omega) h0 ha
  generalize Text.dval 0 s.data.toList = v at *
  clear ha
  go_enter Tryz.func23, Tryz.ntmps23
  go_wp2_with (first | (go_at_call 45; (with_reducible refine (ht.out _).mono ?_); rintro e w1 ⟨rfl, hb1⟩) | (go_at_call 46; (with_reducible refine (hA.out _).mono ?_); rintro e w2 ⟨rfl, hb2⟩))
  go_ret
  exact ⟨rfl, hb1.trans (hb2.mono hb1.size)⟩
set_option maxHeartbeats 1000000 in
theorem digits_bad (s : ByteArray) (least most : Int) (w : World) (hs : s.size ≤ 140737488351232) (h2 : least ≤ (s.size : Int)) (h3 : s.size ≤ most) (ha : s.data.toList.all Text.isDig = false) :
    Calls Tryz.prog 23 #[.string s, .int .i64 least, .int .i64 most] w fun e w' => e = .returned (.int .i64 (-1)) ∧ Below w.heap.size w w' := by
  have hx : ∃ x r, Lib.trimS s.data.toList Text.TEN = x :: r := by
    cases hc : Lib.trimS s.data.toList Text.TEN with
    | nil => rw [(Text.trimS_nil _).1 hc] at ha; cases ha
    | cons x r => exact ⟨x, r, rfl⟩
  obtain ⟨x, r, hx⟩ := hx
  have ht : Aside0 (∀ w, Calls Tryz.prog 45 #[.string s, .string ⟨#[48, 49, 50, 51, 52, 53, 54, 55, 56, 57]⟩] w fun e w' => e = .returned (.string ⟨(x :: r).toArray⟩) ∧ Below w.heap.size w w') :=
    Aside0.mk fun w => (trim_ten s w hs).mono fun e w' ⟨h, hb⟩ => ⟨by rw [h, hx], hb⟩
  clear ha hx
  go_enter Tryz.func23, Tryz.ntmps23
  go_wp2_with (first | (go_at_call 45; (with_reducible refine (ht.out _).mono ?_); rintro e w1 ⟨rfl, hb1⟩))
  go_ret
  exact ⟨rfl, hb1⟩
theorem date_digits.calls (a0 : ByteArray) (a1 : Int) (a2 : Int) (r : Int) (w : World) (h : date_digits.f a0 a1 a2 = some r) :
    Calls Tryz.prog 23 #[.string a0, .int .i64 a1, .int .i64 a2] w fun e w' => e = .returned (.int .i64 r) ∧ Below w.heap.size w w' := by
  unfold date_digits.f at h
  split at h
  · rename_i g
    obtain ⟨g1, g2, g3, g4, g5⟩ := g
    obtain rfl := Option.some.inj h
    have hl : a0.data.toList.length = a0.size := Array.length_toList
    unfold Text.digS
    rw [hl]
    by_cases c1 : (a0.size : Int) < a1
    · rw [if_pos (by omega)]; exact digits_short a0 a1 a2 w g5 g2 c1
    · by_cases c2 : a2 < a0.size
      · rw [if_pos (by omega)]; exact digits_long a0 a1 a2 w g5 (by omega) c2
      · cases c3 : a0.data.toList.all Text.isDig with
        | false => rw [if_pos (by simp)]; exact digits_bad a0 a1 a2 w g5 (by omega) (by omega) c3
        | true => rw [if_neg (by simp; omega)]; exact digits_ok a0 a1 a2 w g5 (by omega) (by omega) (by omega) g4 c3
  · cases h
end Go.Proofs.YtdpbaagpekhipaaGreatDoor

