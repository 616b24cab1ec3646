/- missiveref10.ParseTime, what its walks share. No condition. -/
import Derived.Test.YtdpbaagpekhipaaGreatDoorKZParseTime
import Derived.Test.YtdpbaagpekhipaaGreatDoorKZPAllx7
import Derived.Deep.Cut
import Derived.Deep.CutBlock
import Derived.BigQuiet
import Derived.Deep.QuietTactic
namespace Go.Proofs.YtdpbaagpekhipaaGreatDoor
open Go.RowKit Go.Proofs.YtdpbaagpekhipaaGreatDoorW.PrintWords Go.Proofs.YtdpbaagpekhipaaGreatDoorW.PrintLast
open PAll
set_option linter.unusedVariables false
/-- the text of the day -/
def rtx (s : ByteArray) : ByteArray := if bt s 0 = 32 ∨ bt s 0 = 48 then s.extract 1 11 else s.extract 0 11
/-- a right time -/
def rtOk (s : ByteArray) (why h m x zh zm : Int) : Prop := why = 0 ∧ bt s 11 = 32 ∧ bt s 14 = 58 ∧ bt s 17 = 58 ∧ bt s 20 = 32 ∧ (bt s 21 = 43 ∨ bt s 21 = 45) ∧ 0 ≤ h ∧ h ≤ 23 ∧ 0 ≤ m ∧ m ≤ 59 ∧ 0 ≤ x ∧ x ≤ 59 ∧ 0 ≤ zh ∧ 0 ≤ zm ∧ zm ≤ 59
instance instRtOk (s : ByteArray) (why h m x zh zm : Int) : Decidable (rtOk s why h m x zh zm) := by unfold rtOk; infer_instance
/-- the result's block -/
def RW (w W : World) : Prop := W.heap[w.heap.size]? = some (.cells #[.int .i64 0, .int .i64 0, .int .i64 0] 30 (0, 0)) ∧ Below w.heap.size w W
theorem RW.start (w : World) : RW w (w.alloc (.cells #[.int .i64 0, .int .i64 0, .int .i64 0] 30)) := ⟨heap_alloc_new _ _, (Below.refl _ _).alloc (Nat.le_refl _) _⟩
theorem RW.below {w W W' : World} (h : RW w W) (hb : Below W.heap.size W W') : RW w W' := ⟨blk_below h.1 hb, h.2.trans (hb.mono h.2.size)⟩
theorem RW.drawn {w W W' : World} (h : RW w W) (hd : Drawn0 W W') : RW w W' := h.below (hd.below)
theorem RW.facts {w W : World} (h : RW w W) : W.cell? ⟨w.heap.size, 0, none⟩ = some (.int .i64 0) ∧ W.cell? ⟨w.heap.size, 1, none⟩ = some (.int .i64 0) ∧ W.cell? ⟨w.heap.size, 2, none⟩ = some (.int .i64 0) ∧
    W.frozen? ⟨w.heap.size, 0, none⟩ = false ∧ W.frozen? ⟨w.heap.size, 1, none⟩ = false ∧ W.frozen? ⟨w.heap.size, 2, none⟩ = false :=
  ⟨blk_cell h.1 0, blk_cell h.1 1, blk_cell h.1 2, blk_frozen h.1 0, blk_frozen h.1 1, blk_frozen h.1 2⟩
theorem blk3a {W : World} {r : Nat} {x y z : Value} {T : TypeId} (h : W.heap[r]? = some (.cells #[x, y, z] T (0, 0))) (a b c : Value) :
    (∀ o, ((((W.setCell ⟨r, 0, none⟩ a).setCell ⟨r, 1, none⟩ b).setCell ⟨r, 2, none⟩ c).alloc o).cell? ⟨r, 0, none⟩ = some a) ∧ (∀ o, ((((W.setCell ⟨r, 0, none⟩ a).setCell ⟨r, 1, none⟩ b).setCell ⟨r, 2, none⟩ c).alloc o).cell? ⟨r, 1, none⟩ = some b) ∧ (∀ o, ((((W.setCell ⟨r, 0, none⟩ a).setCell ⟨r, 1, none⟩ b).setCell ⟨r, 2, none⟩ c).alloc o).cell? ⟨r, 2, none⟩ = some c) := by
  have h0 : (W.setCell ⟨r, 0, none⟩ a).heap[r]? = some (.cells #[a, y, z] T (0, 0)) := by simpa using blk_set h 0 a
  have h1 : ((W.setCell ⟨r, 0, none⟩ a).setCell ⟨r, 1, none⟩ b).heap[r]? = some (.cells #[a, b, z] T (0, 0)) := by simpa using blk_set h0 1 b
  have h2 : (((W.setCell ⟨r, 0, none⟩ a).setCell ⟨r, 1, none⟩ b).setCell ⟨r, 2, none⟩ c).heap[r]? = some (.cells #[a, b, c] T (0, 0)) := by simpa using blk_set h1 2 c
  exact ⟨fun o => blk_cell (blk_alloc h2 o) 0, fun o => blk_cell (blk_alloc h2 o) 1, fun o => blk_cell (blk_alloc h2 o) 2⟩
theorem RW.lt {w W : World} (h : RW w W) : w.heap.size < W.heap.size := blk_lt h.1
end Go.Proofs.YtdpbaagpekhipaaGreatDoor

