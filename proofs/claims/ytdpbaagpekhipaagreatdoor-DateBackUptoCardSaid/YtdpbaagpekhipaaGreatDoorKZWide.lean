/- date.wide: a number's digits, with zeros ahead up to a width of 100 at the most. Condition: the table of powers (GlobOK). -/
import Derived.Test.YtdpbaagpekhipaaGreatDoorKZGlob
import Derived.Test.YtdpbaagpekhipaaGreatDoorKZShelf
import Derived.WalkKit
import Derived.Test.YtdpbaagpekhipaaGreatDoorKZW0
import Derived.Lib.AppendIntMem
import Derived.Lib.Repeat
namespace Go.Proofs.YtdpbaagpekhipaaGreatDoor
open Go.RowKit Go.Proofs.YtdpbaagpekhipaaGreatDoorW.PrintWords Go.Proofs.YtdpbaagpekhipaaGreatDoorW.PrintLast
/-- zeros ahead of a text, up to a width -/
def padL (k : Nat) (l : List UInt8) : List UInt8 := if l.length < k then List.replicate (k - l.length) 48 ++ l else l
def date_wide.f (n k : Int) : Option ByteArray :=
  if -9223372036854775808 ≤ n ∧ n ≤ 9223372036854775807 ∧ 0 ≤ k ∧ k ≤ 100 then some ⟨(padL k.toNat (Lib.itoa n)).toArray⟩ else none
theorem fmt_below (n : Int) (w : World) (h1 : -9223372036854775808 ≤ n) (h2 : n ≤ 9223372036854775807) (hG : GlobOK w) :
    Calls Tryz.prog 51 #[.int .i64 n, .int .i64 10] w fun e w' => e = .returned (.string ⟨(Lib.itoa n).toArray⟩) ∧ Below w.heap.size w w' :=
  (Tryz.strconv_FormatInt_10 n h1 h2 w hG.tab).mono fun e w' ⟨he, kd, os, hw⟩ => ⟨he, by rw [hw]; exact Lib.below_grow _ _ (Nat.le_refl _) _ _⟩
theorem repeat_zeros (c : Nat) : Lib.repeatL [48] c = List.replicate c 48 := by
  induction c with
  | zero => rfl
  | succ c ih => simp [Lib.repeatL, ih, List.replicate_succ]
theorem zeros_below (c : Int) (w : World) (h0 : 0 ≤ c) (h1 : c ≤ 100) :
    Calls Tryz.prog 52 #[.string ⟨#[48]⟩, .int .i64 c] w fun e w' => e = .returned (.string ⟨(List.replicate c.toNat 48).toArray⟩) ∧ Below w.heap.size w w' := by
  obtain ⟨c, rfl⟩ := Int.eq_ofNat_of_zero_le h0
  have h := Tryz.strings_Repeat ⟨#[48]⟩ c w (by omega) (by show 1 * c ≤ _; omega)
  have e : (⟨#[48]⟩ : ByteArray).data.toList = [48] := rfl
  rw [e, repeat_zeros] at h
  exact h
set_option maxHeartbeats 1000000 in
theorem wide_any (n : Int) (k : Int) (w : World) (hG : GlobOK w) (h1 : -9223372036854775808 ≤ n) (h2 : n ≤ 9223372036854775807) (h3 : 0 ≤ k) (hk : k ≤ 100) :
    Calls Tryz.prog 28 #[.int .i64 n, .int .i64 k] w fun e w' => e = .returned (.string ⟨(padL k.toNat (Lib.itoa n)).toArray⟩) ∧ Below w.heap.size w w' := by
  generalize hl : Lib.itoa n = l at *
  have hf : Aside0 (∀ w, GlobOK w → Calls Tryz.prog 51 #[.int .i64 n, .int .i64 10] w fun e w' => e = .returned (.string ⟨l.toArray⟩) ∧ Below w.heap.size w w') := Aside0.mk fun w g => hl ▸ fmt_below n w h1 h2 g
  clear hl
  obtain ⟨k, rfl⟩ := Int.eq_ofNat_of_zero_le h3
  by_cases g : l.length < k
  · go_enter Tryz.func28, Tryz.ntmps28
    go_wp2_with (first | (go_at_call 51; (with_reducible refine (hf.out _ hG).mono ?_); rintro e w1 ⟨rfl, hb1⟩) | (go_at_call 52; (with_reducible refine (zeros_below _ _ (by omega) (by omega)).mono ?_); rintro e w2 ⟨rfl, hb2⟩))
    go_ret
    refine ⟨?_, hb1.trans (hb2.mono hb1.size)⟩
    simp only [padL, Int.toNat_natCast, if_pos g]
    congr 2
  · go_enter Tryz.func28, Tryz.ntmps28
    go_wp2_with (first | (go_at_call 51; (with_reducible refine (hf.out _ hG).mono ?_); rintro e w1 ⟨rfl, hb1⟩))
    go_ret
    refine ⟨?_, hb1⟩
    simp [padL, g]
theorem date_wide.calls (a0 : Int) (a1 : Int) (r : ByteArray) (w : World) (hG : GlobOK w) (h : date_wide.f a0 a1 = some r) :
    Calls Tryz.prog 28 #[.int .i64 a0, .int .i64 a1] w fun e w' => e = .returned (.string r) ∧ Below w.heap.size w w' := by
  unfold date_wide.f at h
  split at h
  · rename_i g
    obtain rfl := Option.some.inj h
    exact wide_any a0 a1 w hG g.1 g.2.1 g.2.2.1 g.2.2.2
  · cases h
end Go.Proofs.YtdpbaagpekhipaaGreatDoor

