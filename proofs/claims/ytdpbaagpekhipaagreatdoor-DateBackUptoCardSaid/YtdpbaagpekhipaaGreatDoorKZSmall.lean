/- missiveref08.small: a text in small letters. No condition. -/
import Derived.Test.YtdpbaagpekhipaaGreatDoorProg
import Derived.WalkKit
import Derived.WalkSpells
import Derived.Lib.ConvBytes
import Derived.Test.YtdpbaagpekhipaaGreatDoorKZW0
import Derived.Test.YtdpbaagpekhipaaGreatDoorKZBRow
import Derived.LoopTactic
import Derived.Lib.Hide
import Derived.Outline
namespace Go.Proofs.YtdpbaagpekhipaaGreatDoor
open Go.RowKit Go.Proofs.YtdpbaagpekhipaaGreatDoorW.PrintWords Go.Proofs.YtdpbaagpekhipaaGreatDoorW.PrintLast
set_option linter.unusedVariables false
def lowB (c : UInt8) : UInt8 := if 65 ≤ c.toNat ∧ c.toNat ≤ 90 then c + 32 else c
def missiveref08_small.f (s : ByteArray) : Option ByteArray := if s.size ≤ 140737488351232 then some ⟨(s.data.toList.map lowB).toArray⟩ else none
def mixL (l : List UInt8) (k : Nat) : List UInt8 := (l.take k).map lowB ++ l.drop k
theorem mixL_length (l : List UInt8) (k : Nat) : (mixL l k).length = l.length := by simp [mixL]; omega
theorem mixL_at (l : List UInt8) (k : Nat) (hk : k < l.length) : (mixL l k)[k]? = l[k]? := by
  unfold mixL
  rw [List.getElem?_append_right (by simp; omega)]
  simp
  congr 1; omega
theorem mixL_set (l : List UInt8) (k : Nat) (hk : k < l.length) : (mixL l k).set k (lowB l[k]) = mixL l (k + 1) := by
  unfold mixL
  have e1 : ((l.take k).map lowB).length = k := by simp; omega
  have e2 : (l.take (k + 1)).map lowB = (l.take k).map lowB ++ [lowB l[k]] := by
    rw [List.take_succ_eq_append_getElem hk, List.map_append]; rfl
  rw [List.set_append_right _ _ (by rw [e1]; exact Nat.le_refl _), e1, Nat.sub_self, List.drop_eq_getElem_cons hk, List.set_cons_zero, e2, List.append_assoc]
  rfl
theorem mixL_same (l : List UInt8) (k : Nat) (hk : k < l.length) (h : lowB l[k] = l[k]) : mixL l k = mixL l (k + 1) := by
  rw [← mixL_set l k hk, h]
  refine (List.ext_getElem? fun i => ?_)
  by_cases e : i = k
  · subst e
    rw [List.getElem?_set_self (by rw [mixL_length]; exact hk), mixL_at l i hk, List.getElem?_eq_getElem hk]
  · rw [List.getElem?_set_ne (fun h => e h.symm)]
theorem mixL_all (l : List UInt8) : mixL l l.length = l.map lowB := by simp [mixL]
theorem lowB_up (b : UInt8) (h1 : 65 ≤ b.toNat) (h2 : b.toNat ≤ 90) : (((b.toNat : Int) + 32 : Int)) = ((lowB b).toNat : Int) := by
  unfold lowB
  rw [if_pos ⟨h1, h2⟩, UInt8.toNat_add]
  have : (32 : UInt8).toNat = 32 := rfl
  rw [this]; omega
theorem lowB_no (b : UInt8) (h : ¬ (65 ≤ b.toNat ∧ b.toNat ≤ 90)) : lowB b = b := if_neg h
set_option maxHeartbeats 1000000 in
theorem small_any (s : ByteArray) (w : World) (hs : s.size ≤ 140737488351232) :
    Calls Tryz.prog 68 #[.string s] w fun e w' => e = .returned (.string ⟨(s.data.toList.map lowB).toArray⟩) ∧ Below w.heap.size w w' := by
  have kc := fun (w : World) => Lib.run_convert_string_bytes (P := Tryz.prog) w 9 38 5 s Tryz.underlying9 Tryz.underlying38 Tryz.underlying5
  have hl : s.data.toList.length = s.size := Array.length_toList
  go_enter Tryz.func68, Tryz.ntmps68
  go_wp2
  clear kc
  have hb0 := bytes_below (Below.refl w.heap.size w) (Nat.le_refl _) 5 s
  have hr0 := BRow.made w s
  generalize Lib.bytesWorld w 5 s = w0 at *
  generalize grownCap w s.size 0 5 = cap at *
  generalize hB : w.heap.size = B at *
  generalize hL : s.data.toList = l at *
  have hB' := Lib.hid hB
  clear hB
  have hL' := Lib.hid hL
  clear hL
  have hn := Lib.hid hl
  have hn2 : (l.length : Int) ≤ s.size ∧ (s.size : Int) ≤ l.length := by omega
  clear hl
  go_loopw [10] (fun i wr => ∃ k : Nat, k ≤ l.length ∧ i = .int .i64 k ∧ BRow wr B (mixL l k) ∧ Below B w wr) (fun i _ => l.length - (intOf i).toNat)
  case atStart => exact ⟨0, Nat.zero_le _, rfl, by simpa [mixL] using hr0, hb0⟩
  case round =>
    obtain ⟨k, hk, rfl, hr, hb⟩ := hrel
    clear hr0 hb0
    by_cases hlt : k < l.length
    · have hcell := hr.cell k l[k] (by rw [mixL_at l k hlt, List.getElem?_eq_getElem hlt])
      have hfree := hr.free k (by rw [mixL_length]; exact hlt)
      have hup := lowB_up l[k]
      have hno := lowB_no l[k]
      have hset := mixL_set l k hlt
      have hsame := mixL_same l k hlt
      have hrs := hr.set k (lowB l[k]) (by rw [mixL_length]; exact hlt)
      rw [hset] at hrs
      clear hset
      generalize l[k] = b at *
      by_cases h65 : 65 ≤ b.toNat
      · by_cases h90 : b.toNat ≤ 90
        · have e := hup h65 h90
          rw [← e] at hrs
          have HS := Lib.hid hrs
          clear e hup hno hsame hrs
          go_wp2
          go_roundw
          case rel => exact ⟨k + 1, by omega, by go_num, HS.out, hb.setCell (by simp) _⟩
          case measure => simp [intOf]; omega
        · have e := hsame (hno (by omega))
          have HS := Lib.hid (e ▸ hr)
          clear e hup hno hsame hrs
          go_wp2
          go_roundw
          case rel => exact ⟨k + 1, by omega, by go_num, HS.out, hb⟩
          case measure => simp [intOf]; omega
      · have e := hsame (hno (by omega))
        have HS := Lib.hid (e ▸ hr)
        clear e hup hno hsame hrs
        go_wp2
        go_roundw
        case rel => exact ⟨k + 1, by omega, by go_num, HS.out, hb⟩
        case measure => simp [intOf]; omega
    · obtain rfl : k = l.length := by omega
      have hs2 := fun c => BRow.text (P := Tryz.prog) (W := wr) (B := B) (c := c) hr (by rw [mixL_length]; omega) Tryz.underlying38 Tryz.underlying5 Tryz.underlying9
      rw [mixL_length, mixL_all, hn.out] at hs2
      go_wp2
      go_ret
      exact ⟨by rw [hL'.out]; first | rfl | simp, by rw [hB'.out]; exact hb⟩
theorem missiveref08_small.calls (a0 : ByteArray) (r : ByteArray) (w : World) (h : missiveref08_small.f a0 = some r) :
    Calls Tryz.prog 68 #[.string a0] w fun e w' => e = .returned (.string r) ∧ Below w.heap.size w w' := by
  unfold missiveref08_small.f at h
  split at h
  · obtain rfl := Option.some.inj h
    exact small_any a0 w (by assumption)
  · cases h
end Go.Proofs.YtdpbaagpekhipaaGreatDoor

