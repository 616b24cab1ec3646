/- A row of bytes that a conversion of a text has laid: its bytes, read and written in place, and its text again. No condition. -/
import Derived.Test.YtdpbaagpekhipaaGreatDoorProg
import Derived.WalkKit
import Derived.Lib.ConvBytes
import Derived.Laws.BytesArg
import Derived.Test.YtdpbaagpekhipaaGreatDoorKZW0
namespace Go.Proofs.YtdpbaagpekhipaaGreatDoor
open Go.RowKit Go.Proofs.YtdpbaagpekhipaaGreatDoorW.PrintWords
set_option linter.unusedVariables false
set_option linter.unusedSimpArgs false
/-- block B of W is a conversion's row that begins with these bytes -/
def BRow (W : World) (B : Nat) (l : List UInt8) : Prop :=
  ∃ cs : Array Value, W.heap[B]? = some (.cells cs 5 (cs.size, cs.size + 1)) ∧ l.length ≤ cs.size ∧ ∀ (i : Nat) (b : UInt8), l[i]? = some b → cs[i]? = some (.int .u8 b.toNat)
theorem BRow.made (w : World) (s : ByteArray) : BRow (Lib.bytesWorld w 5 s) w.heap.size s.data.toList := by
  have hl : s.data.toList.length = s.size := Array.length_toList
  refine ⟨_, Lib.bytesWorld_at_new w _ s, ?_, ?_⟩
  · simp [Lib.bytesCells]
  · intro i b hb
    have hi : i < s.data.size := by
      have := (List.getElem?_eq_some_iff.1 hb).1
      simpa using this
    have hb2 : s.data[i]? = some b := by simpa using hb
    rw [Lib.bytesCells, Array.getElem?_append_left (by simpa using hi), Array.getElem?_map, hb2]
    rfl
theorem BRow.cell {W : World} {B : Nat} {l : List UInt8} (h : BRow W B l) (i : Nat) (b : UInt8) (hb : l[i]? = some b) : W.cell? ⟨B, i, none⟩ = some (.int .u8 b.toNat) := by
  obtain ⟨cs, hh, _, hc⟩ := h
  rw [cell_of_row W B i cs _ _ hh]
  exact hc i b hb
theorem BRow.free {W : World} {B : Nat} {l : List UInt8} (h : BRow W B l) (i : Nat) (hi : i < l.length) : W.frozen? ⟨B, i, none⟩ = false := by
  obtain ⟨cs, hh, hl, _⟩ := h
  simp [World.frozen?, hh]
  omega
theorem BRow.lt {W : World} {B : Nat} {l : List UInt8} (h : BRow W B l) : B < W.heap.size := by
  obtain ⟨cs, hh, _⟩ := h
  exact blk_lt hh
theorem BRow.set {W : World} {B : Nat} {l : List UInt8} (h : BRow W B l) (i : Nat) (b : UInt8) (hi : i < l.length) : BRow (W.setCell ⟨B, i, none⟩ (.int .u8 b.toNat)) B (l.set i b) := by
  obtain ⟨cs, hh, hl, hc⟩ := h
  refine ⟨cs.setIfInBounds i (.int .u8 b.toNat), ?_, by simpa using hl, ?_⟩
  · simp [World.setCell, Array.getElem?_modify, hh]
  · intro j c hj
    rw [Array.getElem?_setIfInBounds]
    by_cases e : i = j
    · subst e
      rw [List.getElem?_set_self (by omega)] at hj
      obtain rfl := Option.some.inj hj
      simp; omega
    · rw [List.getElem?_set_ne e] at hj
      rw [if_neg e]
      exact hc j c hj
theorem BRow.below {W W' : World} {B : Nat} {l : List UInt8} (h : BRow W B l) (hb : Below W.heap.size W W') : BRow W' B l := by
  obtain ⟨cs, hh, hl, hc⟩ := h
  exact ⟨cs, blk_below hh hb, hl, hc⟩
theorem BRow.drewN {W : World} {B : Nat} {l : List UInt8} (h : BRow W B l) (n : Nat) : BRow (W.drewN n) B l := h
theorem BRow.reads {W : World} {B : Nat} {l : List UInt8} (h : BRow W B l) (hm : l.length ≤ 9223372036854775807) : ReadsInt W .u8 (some ⟨B, 0, none⟩) l.length (l.map fun b => (b.toNat : Int)) := by
  refine ⟨by simp, hm, fun _ => ⟨⟨B, 0, none⟩, rfl, fun j hj => ?_⟩⟩
  have hj2 : l[j]? = some l[j] := List.getElem?_eq_getElem hj
  have e : (Addr.add ⟨B, 0, none⟩ j) = ⟨B, j, none⟩ := by simp [Addr.add]; exact fun h => h.symm
  rw [e, h.cell j _ hj2]
  congr 2
  simp [List.getD, hj]
theorem strOfNums_bytes (l : List UInt8) : strOfNums (l.map fun b => (b.toNat : Int)) = ⟨l.toArray⟩ := by
  unfold strOfNums
  congr 2
  rw [List.map_map]
  have : ((fun n : Int => UInt8.ofNat n.toNat) ∘ fun b : UInt8 => (b.toNat : Int)) = id := by
    funext b; simp
  rw [this, List.map_id]
theorem BRow.text {P : Program} {W : World} {B c src dst e : Nat} {l : List UInt8} (h : BRow W B l) (hm : l.length ≤ 9223372036854775807) (hs : P.underlying src = some (.slice e)) (he : P.underlying e = some (.int .u8)) (hd : P.underlying dst = some .string) :
    (convert src dst (.slice (some ⟨B, 0, none⟩) l.length c)).run P W = .ok (.string ⟨l.toArray⟩) W := by
  have := string_of_reads (c := c) hs he hd (h.reads hm)
  rw [strOfNums_bytes] at this
  exact this
end Go.Proofs.YtdpbaagpekhipaaGreatDoor

