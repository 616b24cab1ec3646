/- What the package-level variables that this seat's functions read hold, in one fact that every later world keeps. No condition. -/
import Derived.Test.YtdpbaagpekhipaaGreatDoorProg
import Derived.Below
import Derived.WalkSmall
import Derived.Lib.LaidTab
import Derived.Shelf.Strconv.Itoa4
namespace Go.Proofs.YtdpbaagpekhipaaGreatDoor
open Go.RowKit
/-- The table of powers, and the length that IndexByte's kin ask for. -/
structure GlobOK (w : World) : Prop where
  here : 0 ≤ w.heap.size
  tab : Lib.TabIs Tryz.prog w "internal/strconv.uint64pow10" .u64 Lib.pow10Tab
  max : ∃ m, w.cell? ⟨0, 0, none⟩ = some (.int .i64 m)
theorem cell_lt {w : World} {p : Addr} {v : Value} (h : w.cell? p = some v) : p.block < w.heap.size := by
  unfold World.cell? at h
  by_cases hl : p.block < w.heap.size
  · exact hl
  · rw [Array.getElem?_eq_none (by omega)] at h; simp at h
theorem var_lt {P : Program} {w : World} {n : String} {g : Nat} {cs : Array Value} (hg : P.globalNamed n = some g) (h : w.var? P n = some cs) : g < w.heap.size := by
  unfold World.var? at h
  simp only [hg, Option.bind_some] at h
  by_cases hl : g < w.heap.size
  · exact hl
  · rw [Array.getElem?_eq_none (by omega)] at h; simp at h
theorem gPow : Tryz.prog.globalNamed "internal/strconv.uint64pow10" = some 3 := by kernel_rfl
theorem GlobOK.below {w w' : World} (h : GlobOK w) (hb : Below w.heap.size w w') : GlobOK w' where
  here := Nat.zero_le _
  tab := var?_below hb gPow (var_lt gPow h.tab) h.tab
  max := by
    obtain ⟨m, hm⟩ := h.max
    exact ⟨m, (hb.cell (cell_lt hm)).trans hm⟩
end Go.Proofs.YtdpbaagpekhipaaGreatDoor

