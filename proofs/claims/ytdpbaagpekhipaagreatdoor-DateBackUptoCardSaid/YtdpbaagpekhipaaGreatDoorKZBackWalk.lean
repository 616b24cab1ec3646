/- DateBack's walk: called with any four numbers it returns true, and turns nothing that was there. Condition: the variables (GlobOK). -/
import Derived.Test.YtdpbaagpekhipaaGreatDoorKZPlain7
import Derived.Test.YtdpbaagpekhipaaGreatDoorKZBRow
import Derived.WalkKit
import Derived.WalkSpells
import Derived.Lib.ConvBytes
import Derived.LoopTactic
import Derived.Lib.Hide
import Derived.Outline
import Derived.Deep.Cut
import Derived.Deep.CutBlock
namespace Go.Proofs.YtdpbaagpekhipaaGreatDoor.PAll
open Go Go.RowKit Go.Proofs.YtdpbaagpekhipaaGreatDoorW.PrintWords Go.Proofs.YtdpbaagpekhipaaGreatDoorW.PrintLast Go.Proofs.YtdpbaagpekhipaaGreatDoor.Str
set_option linter.unusedVariables false
def mixB (l : List UInt8) (k : Nat) : List UInt8 := (l.take k).map blank ++ l.drop k
theorem mixB_length (l : List UInt8) (k : Nat) : (mixB l k).length = l.length := by simp [mixB]; omega
theorem mixB_at (l : List UInt8) (k : Nat) (hk : k < l.length) : (mixB l k)[k]? = l[k]? := by
  unfold mixB
  rw [List.getElem?_append_right (by simp; omega)]
  simp
  congr 1; omega
theorem mixB_set (l : List UInt8) (k : Nat) (hk : k < l.length) : (mixB l k).set k (blank l[k]) = mixB l (k + 1) := by
  unfold mixB
  have e1 : ((l.take k).map blank).length = k := by simp; omega
  have e2 : (l.take (k + 1)).map blank = (l.take k).map blank ++ [blank l[k]] := by
    rw [List.take_succ_eq_append_getElem hk, List.map_append]; rfl
  rw [List.set_append_right _ _ (by rw [e1]; exact Nat.le_refl _), e1, Nat.sub_self, List.drop_eq_getElem_cons hk, List.set_cons_zero, e2, List.append_assoc]
  rfl
theorem mixB_same (l : List UInt8) (k : Nat) (hk : k < l.length) (h : blank l[k] = l[k]) : mixB l k = mixB l (k + 1) := by
  rw [← mixB_set l k hk, h]
  refine (List.ext_getElem? fun i => ?_)
  by_cases e : i = k
  · subst e
    rw [List.getElem?_set_self (by rw [mixB_length]; exact hk), mixB_at l i hk, List.getElem?_eq_getElem hk]
  · rw [List.getElem?_set_ne (fun h => e h.symm)]
theorem mixB_all (l : List UInt8) : mixB l l.length = l.map blank := by simp [mixB]
theorem c_days (w : World) : Aside0 (∀ W, Below w.heap.size w W → Calls Tryz.prog 18 #[] W fun e W' => e = .returned (.bool true) ∧ Below w.heap.size w W') :=
  ⟨fun W hb => (missivelaw10_days.calls 50 true W (days_true 49)).mono fun e W' ⟨he, hd⟩ => ⟨he, hb.trans (hd.below.mono hb.size)⟩⟩
theorem c_texts (w : World) (hG : GlobOK w) : Aside0 (∀ W, Below w.heap.size w W → Calls Tryz.prog 13 #[] W fun e W' => e = .returned (.bool true) ∧ Below w.heap.size w W') :=
  ⟨fun W hb => (missivelaw10_texts.calls 300 true W (hG.below hb) (texts_true 300 (by omega))).mono fun e W' ⟨he, hd⟩ => ⟨he, hb.trans (hd.mono hb.size)⟩⟩
theorem c_day (w : World) (y m d a b : Int) (h : date_Day.f 50 y m d = some (a, b)) : Aside0 (∀ W, Below w.heap.size w W → Calls Tryz.prog 19 #[.int .i64 y, .int .i64 m, .int .i64 d] W fun e W' => e = .returned (.tuple #[.int .i64 a, .int .i64 b]) ∧ Below w.heap.size w W') :=
  ⟨fun W hb => (date_Day.calls 50 y m d a b W h).mono fun e W' ⟨he, hd⟩ => ⟨he, hb.trans (hd.below.mono hb.size)⟩⟩
theorem c_civil (w : World) (n a b c k : Int) (h : date_Civil.f n = some (a, b, c, k)) : Aside0 (∀ W, Below w.heap.size w W → Calls Tryz.prog 20 #[.int .i64 n] W fun e W' => e = .returned (.tuple #[.int .i64 a, .int .i64 b, .int .i64 c, .int .i64 k]) ∧ Below w.heap.size w W') :=
  ⟨fun W hb => (date_Civil.calls n a b c k W h).mono fun e W' ⟨he, hd⟩ => ⟨he, hb.trans (hd.below.mono hb.size)⟩⟩
theorem c_write (w : World) (hG : GlobOK w) (n k : Int) (s : ByteArray) (h : date_Write.f n = some (s, k)) : Aside0 (∀ W, Below w.heap.size w W → Calls Tryz.prog 9 #[.int .i64 n] W fun e W' => e = .returned (.tuple #[.string s, .int .i64 k]) ∧ Below w.heap.size w W') :=
  ⟨fun W hb => (date_Write.calls n s k W (hG.below hb) h).mono fun e W' ⟨he, hd⟩ => ⟨he, hb.trans (hd.mono hb.size)⟩⟩
theorem c_parse (w : World) (hG : GlobOK w) (n k : Int) (s : ByteArray) (h : date_Parse.f 50 s = some (n, k)) : Aside0 (∀ W, Below w.heap.size w W → Calls Tryz.prog 7 #[.string s] W fun e W' => e = .returned (.tuple #[.int .i64 n, .int .i64 k]) ∧ Below w.heap.size w W') :=
  ⟨fun W hb => (date_Parse.calls 50 s n k W (hG.below hb) h).mono fun e W' ⟨he, hd⟩ => ⟨he, hb.trans (hd.mono hb.size)⟩⟩
theorem c_mail (w : World) (hG : GlobOK w) (n k : Int) (s : ByteArray) (h : date_Mail.f 50 s = some (n, k)) : Aside0 (∀ W, Below w.heap.size w W → Calls Tryz.prog 11 #[.string s] W fun e W' => e = .returned (.tuple #[.int .i64 n, .int .i64 k]) ∧ Below w.heap.size w W') :=
  ⟨fun W hb => (date_Mail.calls 50 s n k W (hG.below hb) h).mono fun e W' ⟨he, hd⟩ => ⟨he, hb.trans (hd.mono hb.size)⟩⟩
theorem day_first (y m d : Int) : ∃ k w1, date_Day.f 50 y m d = some (k, w1) ∧ (w1 = 0 → date_Civil.f k = some (y, m, d, 0)) := by
  rcases day_civil y m d with ⟨h1, h2⟩ | h
  · exact ⟨_, _, h1, fun _ => h2⟩
  · exact ⟨_, _, h, fun q => absurd q (by decide)⟩
set_option maxHeartbeats 8000000 in
set_option maxRecDepth 100000 in
theorem back_walk (y m d n : Int) (w : World) (hG : GlobOK w) :
    Calls Tryz.prog 6 #[.int .i64 y, .int .i64 m, .int .i64 d, .int .i64 n] w fun e w' => e = .returned (.bool true) ∧ Below w.heap.size w w' := by
  obtain ⟨k, w1, hD, hC⟩ := day_first y m d
  have cD := c_day w y m d k w1 hD
  have cC : Aside0 (w1 = 0 → Aside0 (∀ W, Below w.heap.size w W → Calls Tryz.prog 20 #[.int .i64 k] W fun e W' => e = .returned (.tuple #[.int .i64 y, .int .i64 m, .int .i64 d, .int .i64 0]) ∧ Below w.heap.size w W')) := ⟨fun h => c_civil w k y m d 0 (hC h)⟩
  have cd := c_days w
  have ct := c_texts w hG
  have HG := Aside0.mk hG
  have HB := Aside0.mk (Below.refl w.heap.size w)
  clear hD hC hG
  go_enter Tryz.func6, Tryz.ntmps6
  go_upto_if 43 with (first | (go_at_call 18; (with_reducible refine (cd.out _ HB.out).mono ?_); rintro e W1 ⟨rfl, hb1⟩; clear HB; (have HB := Aside0.mk hb1); clear hb1) | (go_at_call 13; (with_reducible refine (ct.out _ HB.out).mono ?_); rintro e W1 ⟨rfl, hb1⟩; clear HB; (have HB := Aside0.mk hb1); clear hb1) | (go_at_call 19; (with_reducible refine (cD.out _ HB.out).mono ?_); rintro e W1 ⟨rfl, hb1⟩; clear HB; (have HB := Aside0.mk hb1); clear hb1))
  clear cd ct cD
  go_cut [] from 9 (fun wx => Below w.heap.size w wx)
  case first =>
    by_cases h0 : w1 = 0
    · have c2 := cC.out h0
      have f0 : (w1 == 0) = true := by simpa using h0
      clear h0
      go_wp2_with (first | (go_at_call 20; (with_reducible refine (c2.out _ HB.out).mono ?_); rintro e W1 ⟨rfl, hb1⟩; clear HB; (have HB := Aside0.mk hb1); clear hb1))
      go_meet
      case rel => exact HB.out
    · have f0 : (w1 == 0) = false := by simpa using h0
      clear h0
      go_wp2_with fail
      go_meet
      case rel => exact HB.out
  case rest =>
  have hw := hcut
  clear HB cC
  have HB := Aside0.mk hw
  clear hw
  rcases back_ex n with ⟨_, e1, e2⟩ | ⟨Y, M, D, l, hl, e1, e2, e3, e4, e5⟩
  · have cC := c_civil w n _ _ _ _ e1
    have cW := c_write w HG.out n _ _ e2
    have kb : (B []).toList.isEmpty = true := by rw [Lib.toList_data]; rfl
    have kb2 : (B []).toList = [] := by rw [Lib.toList_data]; rfl
    clear e1 e2
    go_wp2_with (first | (go_at_call 20; (with_reducible refine (cC.out _ HB.out).mono ?_); rintro e W1 ⟨rfl, hb1⟩; clear HB; (have HB := Aside0.mk hb1); clear hb1) | (go_at_call 9; (with_reducible refine (cW.out _ HB.out).mono ?_); rintro e W1 ⟨rfl, hb1⟩; clear HB; (have HB := Aside0.mk hb1); clear hb1))
    go_ret
    exact ⟨by first | rfl | (congr 1; simp [B]), HB.out⟩
  · have cC := c_civil w n _ _ _ _ e1
    have cW := c_write w HG.out n _ _ e2
    have cD := c_day w Y M D _ _ e3
    have cP := c_parse w HG.out n _ _ e4
    have cM := c_mail w HG.out n _ _ e5
    clear e1 e2 e3 e4 e5
    have kc := fun (w : World) => Lib.run_convert_string_bytes (P := Tryz.prog) w 9 38 5 (B l) Tryz.underlying9 Tryz.underlying38 Tryz.underlying5
    go_wp2_with (first | (go_at_call 20; (with_reducible refine (cC.out _ HB.out).mono ?_); rintro e W1 ⟨rfl, hb1⟩; clear HB; (have HB := Aside0.mk hb1); clear hb1) | (go_at_call 9; (with_reducible refine (cW.out _ HB.out).mono ?_); rintro e W1 ⟨rfl, hb1⟩; clear HB; (have HB := Aside0.mk hb1); clear hb1) | (go_at_call 19; (with_reducible refine (cD.out _ HB.out).mono ?_); rintro e W1 ⟨rfl, hb1⟩; clear HB; (have HB := Aside0.mk hb1); clear hb1) | (go_at_call 7; (with_reducible refine (cP.out _ HB.out).mono ?_); rintro e W1 ⟨rfl, hb1⟩; clear HB; (have HB := Aside0.mk hb1); clear hb1))
    clear kc cC cW cD cP hcut
    have hb0 := bytes_below HB.out HB.out.size 5 (B l)
    have hr0 := BRow.made W1 (B l)
    have hls : (B l).data.toList = l := ls_B l
    rw [hls] at hr0
    have hsz : (B l).size = l.length := B_size l
    generalize Lib.bytesWorld W1 5 (B l) = w0 at *
    generalize grownCap W1 (B l).size 0 5 = cap at *
    have hW : w.heap.size ≤ W1.heap.size := HB.out.size
    generalize W1.heap.size = BL at *
    have hn2 : (l.length : Int) ≤ (B l).size ∧ ((B l).size : Int) ≤ l.length := by omega
    have hn := Lib.hid hsz
    clear hsz hls HB
    go_loopw [104] (fun i wr => ∃ k : Nat, k ≤ l.length ∧ i = .int .i64 k ∧ BRow wr BL (mixB l k) ∧ Below w.heap.size w wr) (fun i _ => l.length - (intOf i).toNat)
    case atStart => exact ⟨0, Nat.zero_le _, rfl, by simpa [mixB] using hr0, hb0⟩
    case round =>
      obtain ⟨k, hk, rfl, hr, hb⟩ := hrel
      clear hr0 hb0
      by_cases hlt : k < l.length
      · have hcell := hr.cell k l[k] (by rw [mixB_at l k hlt, List.getElem?_eq_getElem hlt])
        have hfree := hr.free k (by rw [mixB_length]; exact hlt)
        have hset := mixB_set l k hlt
        have hsame := mixB_same l k hlt
        have hrs := hr.set k (blank l[k]) (by rw [mixB_length]; exact hlt)
        rw [hset] at hrs
        clear hset
        generalize l[k] = b at *
        by_cases h45 : b = 45
        · have e : blank b = 32 := if_pos h45
          have e2 : ((b.toNat : Int) == 45) = true := by rw [h45]; rfl
          have e3 : ((blank b).toNat : Int) = 32 := by rw [e]; rfl
          rw [e3] at hrs
          have HS := Lib.hid hrs
          clear e e3 hsame hrs h45
          go_wp2
          go_roundw
          case rel => exact ⟨k + 1, by omega, by go_num, HS.out, hb.setCell (by simpa using hW) _⟩
          case measure => simp [intOf]; omega
        · have e : blank b = b := if_neg h45
          have e2 : ((b.toNat : Int) == 45) = false := by
            simp only [beq_eq_false_iff_ne]
            intro q
            exact h45 (UInt8.toNat_inj.1 (by exact_mod_cast q))
          have HS := Lib.hid ((hsame e) ▸ hr)
          clear e hsame hrs h45
          go_wp2
          go_roundw
          case rel => exact ⟨k + 1, by omega, by go_num, HS.out, hb⟩
          case measure => simp [intOf]; omega
      · obtain rfl : k = l.length := by omega
        have hs2 := fun c => BRow.text (P := Tryz.prog) (W := wr) (B := BL) (c := c) hr (by rw [mixB_length]; omega) Tryz.underlying38 Tryz.underlying5 Tryz.underlying9
        rw [mixB_length, mixB_all, ← hn.out] at hs2
        have HB := Aside0.mk hb
        have eM : (⟨#[120, 44, 32]⟩ : ByteArray) ++ (⟨(l.map blank).toArray⟩ : ByteArray) ++ (⟨#[32, 49, 58, 50]⟩ : ByteArray) = B (mailOf l) := by
          show B [120, 44, 32] ++ B (l.map blank) ++ B [32, 49, 58, 50] = _
          rw [B_app, B_app]; rfl
        have EM := Aside0.mk eM
        have z1 : (⟨(l.map blank).toArray⟩ : ByteArray).size ≤ 11 := by
          show (B _).size ≤ 11
          rw [B_size]; simpa using hl
        clear eM hb
        go_wp2_with (first | (go_at_call 11; rw [EM.out]; (with_reducible refine (cM.out _ HB.out).mono ?_); rintro e W1 ⟨rfl, hb1⟩; clear HB; (have HB := Aside0.mk hb1); clear hb1))
        go_ret
        exact ⟨rfl, HB.out⟩
end Go.Proofs.YtdpbaagpekhipaaGreatDoor.PAll

