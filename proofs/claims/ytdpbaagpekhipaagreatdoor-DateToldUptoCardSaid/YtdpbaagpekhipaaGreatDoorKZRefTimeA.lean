/- missiveref10.ParseTime at a text of 26 bytes. No condition beyond its hypotheses. -/
import Derived.Test.YtdpbaagpekhipaaGreatDoorKZRefTimeH
import Derived.Test.YtdpbaagpekhipaaGreatDoorKZRtChain
namespace Go.Proofs.YtdpbaagpekhipaaGreatDoor
open Go.RowKit Go.Proofs.YtdpbaagpekhipaaGreatDoorW.PrintWords Go.Proofs.YtdpbaagpekhipaaGreatDoorW.PrintLast
open PAll Chain
set_option linter.unusedVariables false
set_option maxHeartbeats 16000000 in
set_option maxRecDepth 100000 in
theorem rt_all (s : ByteArray) (w : World) (n why h m x zh zm : Int) (R : Value) (hs : s.size = 26) (hzh : zh ≤ 1000000)
    (hP : Aside0 (∀ W, RW w W → Calls Tryz.prog 8 #[.string (rtx s)] W fun e W' => e = .returned (.tuple #[.int .i64 n, .int .i64 why]) ∧ RW w W'))
    (hd1 : Aside0 (∀ W, Calls Tryz.prog 25 #[.string (s.extract 12 14), .int .i64 2, .int .i64 2] W fun e W' => e = .returned (.int .i64 h) ∧ Drawn0 W W'))
    (hd2 : Aside0 (∀ W, Calls Tryz.prog 25 #[.string (s.extract 15 17), .int .i64 2, .int .i64 2] W fun e W' => e = .returned (.int .i64 m) ∧ Drawn0 W W'))
    (hd3 : Aside0 (∀ W, Calls Tryz.prog 25 #[.string (s.extract 18 20), .int .i64 2, .int .i64 2] W fun e W' => e = .returned (.int .i64 x) ∧ Drawn0 W W'))
    (hd4 : Aside0 (∀ W, Calls Tryz.prog 25 #[.string (s.extract 22 24), .int .i64 2, .int .i64 2] W fun e W' => e = .returned (.int .i64 zh) ∧ Drawn0 W W'))
    (hd5 : Aside0 (∀ W, Calls Tryz.prog 25 #[.string (s.extract 24 26), .int .i64 2, .int .i64 2] W fun e W' => e = .returned (.int .i64 zm) ∧ Drawn0 W W'))
    (hR1 : Aside0 (rtOk s why h m x zh zm → R = .tuple #[.agg #[.int .i64 n, .int .i64 (3600 * h + 60 * m + x), .int .i64 (if bt s 21 = 45 then -(60 * zh + zm) else 60 * zh + zm)], .int .i64 0]))
    (hR2 : Aside0 (¬ rtOk s why h m x zh zm → R = .tuple #[.agg #[.int .i64 0, .int .i64 0, .int .i64 0], .int .i64 7]))  :
    Calls Tryz.prog 15 #[.string s] w fun e w' => e = .returned R ∧ Below w.heap.size w w' := by
  have HW := Aside0.mk (RW.start w)
  have e26 : ((s.size : Int) != 26) = false := by simp; omega
  have l0 : 0 < (s.extract 0 11).size := by rw [ByteArray.size_extract]; omega
  have hX : (s.extract 0 11).extract 1 (min 11 s.size) = s.extract 1 11 := by
    rw [ByteArray.extract_extract]
    congr 1
    omega
  have h0 : bt (s.extract 0 11) 0 = bt s 0 := by
    rw [← bt_at (s.extract 0 11) 0 (by simpa using l0), ← bt_at s 0 (by simp; omega)]
    simp [ByteArray.getElem_extract]
  have l11 : 11 < s.size := by omega
  have l14 : 14 < s.size := by omega
  have l17 : 17 < s.size := by omega
  have l20 : 20 < s.size := by omega
  have l21 : 21 < s.size := by omega
  have hsA : s.size ≤ 26 := by omega
  have hsB : 26 ≤ s.size := by omega
  have H0 := Aside0.mk h0
  have HX := Aside0.mk hX
  clear hs h0 hX
  go_enter Tryz.func15, Tryz.ntmps15
  go_upto_region 4 with fail
  go_cut [21] from 13 (fun s21 wx => (∃ b, s21 = .bool b ∧ (b = true ↔ bt s 0 = 32)) ∧ RW w wx)
  case first =>
    by_cases c : bt s 0 = 32
    · have f := at_eq l0 (H0.out.trans c)
      have C := Aside0.mk c
      clear c
      go_wp2_with fail
      go_meet
      case rel => exact ⟨⟨_, rfl, iff_of_true rfl C.out⟩, HW.out⟩
    · have f := at_ne (c := 32) l0 (fun g => c (H0.out.symm.trans g))
      have C := Aside0.mk c
      clear c
      go_wp2_with fail
      go_meet
      case rel => exact ⟨⟨_, rfl, iff_of_false Bool.false_ne_true C.out⟩, HW.out⟩
  case rest =>
  obtain ⟨⟨b, rfl, hb⟩, hw⟩ := hcut
  clear HW
  have HW := Aside0.mk hw
  clear hw
  go_upto_if 21 with fail
  go_cut [4] from 13 (fun s4 wx => s4 = .string (rtx s) ∧ RW w wx)
  case first =>
    cases b with
    | true =>
      have e : rtx s = s.extract 1 11 := if_pos (Or.inl (hb.1 rfl))
      have E := Aside0.mk e
      clear e hb
      go_wp2_with fail
      go_meet
      case rel => exact ⟨by rw [E.out, HX.out], HW.out⟩
    | false =>
      have hn : ¬ bt s 0 = 32 := fun g => Bool.false_ne_true (hb.2 g)
      clear hb
      by_cases c : bt s 0 = 48
      · have f := at_eq l0 (H0.out.trans c)
        have e : rtx s = s.extract 1 11 := if_pos (Or.inr c)
        have E := Aside0.mk e
        clear e c hn
        go_wp2_with fail
        go_meet
        case rel => exact ⟨by rw [E.out, HX.out], HW.out⟩
      · have f := at_ne (c := 48) l0 (fun g => c (H0.out.symm.trans g))
        have e : rtx s = s.extract 0 11 := if_neg (fun g => g.elim hn c)
        have E := Aside0.mk e
        clear e c hn
        go_wp2_with fail
        go_meet
        case rel => exact ⟨by rw [E.out], HW.out⟩
  case rest =>
  obtain ⟨rfl, hw⟩ := hcut
  clear HW H0 HX l0 hb b
  have HW := Aside0.mk hw
  clear hw
  go_upto_region 9 with (first | (go_at_call 8; (with_reducible refine (hP.out _ HW.out).mono ?_); rintro e W1 ⟨rfl, hw1⟩; clear HW; (have HW := Aside0.mk hw1); clear hw1))
  go_cut [7, 8, 9] from 13 (fun s7 s8 s9 wx => (s7 = .int .i64 h ∧ s8 = .int .i64 m ∧ s9 = .int .i64 x) ∧ RW w wx)
  case first =>
    go_quiet (first | (go_at_call 25; (with_reducible refine (hd1.out _).mono ?_); rintro e w' ⟨rfl, ⟨nd, rfl⟩⟩; (try first | exact ⟨rfl, _, World.drewN_drewN _ _ _⟩ | exact ⟨rfl, _, Eq.trans (World.drewN_drewN _ _ _) (congrArg (World.drewN _) (Nat.add_assoc _ _ _))⟩)) | (go_at_call 25; (with_reducible refine (hd2.out _).mono ?_); rintro e w' ⟨rfl, ⟨nd, rfl⟩⟩; (try first | exact ⟨rfl, _, World.drewN_drewN _ _ _⟩ | exact ⟨rfl, _, Eq.trans (World.drewN_drewN _ _ _) (congrArg (World.drewN _) (Nat.add_assoc _ _ _))⟩)) | (go_at_call 25; (with_reducible refine (hd3.out _).mono ?_); rintro e w' ⟨rfl, ⟨nd, rfl⟩⟩; (try first | exact ⟨rfl, _, World.drewN_drewN _ _ _⟩ | exact ⟨rfl, _, Eq.trans (World.drewN_drewN _ _ _) (congrArg (World.drewN _) (Nat.add_assoc _ _ _))⟩)))
    try go_wp2
    go_meet
    case rel => exact ⟨⟨rfl, rfl, rfl⟩, HW.out.drawn ⟨_, rfl⟩⟩
  case rest =>
  obtain ⟨⟨rfl, rfl, rfl⟩, hw⟩ := hcut
  clear HW
  have HW := Aside0.mk hw
  clear hw
  go_upto_region 10 with fail
  go_cut [10, 11] from 13 (fun s10 s11 wx => (s10 = .int .i64 zh ∧ s11 = .int .i64 zm) ∧ RW w wx)
  case first =>
    go_quiet (first | (go_at_call 25; (with_reducible refine (hd4.out _).mono ?_); rintro e w' ⟨rfl, ⟨nd, rfl⟩⟩; (try first | exact ⟨rfl, _, World.drewN_drewN _ _ _⟩ | exact ⟨rfl, _, Eq.trans (World.drewN_drewN _ _ _) (congrArg (World.drewN _) (Nat.add_assoc _ _ _))⟩)) | (go_at_call 25; (with_reducible refine (hd5.out _).mono ?_); rintro e w' ⟨rfl, ⟨nd, rfl⟩⟩; (try first | exact ⟨rfl, _, World.drewN_drewN _ _ _⟩ | exact ⟨rfl, _, Eq.trans (World.drewN_drewN _ _ _) (congrArg (World.drewN _) (Nat.add_assoc _ _ _))⟩)))
    try go_wp2
    go_meet
    case rel => exact ⟨⟨rfl, rfl⟩, HW.out.drawn ⟨_, rfl⟩⟩
  case rest =>
  obtain ⟨⟨rfl, rfl⟩, hw⟩ := hcut
  clear HW
  have HW := Aside0.mk hw
  clear hw
  go_upto_region 11 with fail
  clear hP hd1 hd2 hd3 hd4 hd5
  go_cut [116] from 13 (fun s116 wx => (∃ b, s116 = .bool b ∧ (b = true ↔ ¬ rtOk s why h m x zh zm)) ∧ RW w wx)
  case first =>
    refine wp_region ?_
    refine wpOps_of_eq (ops' := opsOf Tryz.f15 11) (by kernel_rfl) (l := List.range 68) (by kernel_rfl) ?_
    refine rt_meet (z1 := undef) (z2 := .pointer (some ⟨w.heap.size, 0, none⟩)) (z3 := .int .i64 0) (z4 := .string (rtx s)) (z12 := undef) (n := n) (why := why) (h := h) (m := m) (x := x) (zh := zh) (zm := zm) s l11 l14 l17 l20 l21 rfl ((((((((((((((Has.nil rfl).cons rfl).cons rfl).cons rfl).cons rfl).cons rfl).cons rfl).cons rfl).cons rfl).cons rfl).cons rfl).cons rfl).cons rfl).cons rfl) (fun a' b hb => ?_)
    have BI := Aside0.mk hb
    clear hb
    go_step
    go_step
    go_meet
    case rel => exact ⟨⟨_, rfl, BI.out⟩, HW.out⟩
  case rest =>
  obtain ⟨⟨b, rfl, hb⟩, hw⟩ := hcut
  clear HW
  have HW := Aside0.mk hw
  clear hw
  obtain ⟨fr0, fr1, fr2, gr0, gr1, gr2⟩ := HW.out.facts
  have hlt := HW.out.lt
  cases b with
  | true =>
    have eR := Aside0.mk (hR2.out (hb.1 rfl))
    clear hb hR1 hR2
    go_wp2_with fail
    obtain ⟨q0, q1, q2⟩ := blk3 HW.out.1 (.int .i64 0) (.int .i64 0) (.int .i64 0)
    refine bodyPost_ret (v := .tuple #[.agg #[.int .i64 0, .int .i64 0, .int .i64 0], .int .i64 7]) (by simp [results, Tryz.results15, go_sem, q0, q1, q2]) rfl ⟨by rw [eR.out], ?_⟩
    have hb := HW.out.2
    repeat (first | exact hb | refine Below.setCell ?_ (by simp; try omega) _)
  | false =>
    have hok : rtOk s why h m x zh zm := Classical.byContradiction fun g => Bool.false_ne_true (hb.2 g)
    have eR := Aside0.mk (hR1.out hok)
    obtain ⟨_, _, _, _, _, _, b1, b2, b3, b4, b5, b6, b7, b8, b9⟩ := hok
    clear hb hR1 hR2
    by_cases c45 : bt s 21 = 45
    · have g45 := at_eq l21 c45
      have ez := Aside0.mk (show (if bt s 21 = 45 then -(60 * zh + zm) else 60 * zh + zm) = -(60 * zh + zm) from if_pos c45)
      clear c45
      go_wp2_with fail
      obtain ⟨q0, q1, q2⟩ := blk3a HW.out.1 (.int .i64 n) (.int .i64 (3600 * h + 60 * m + x)) (.int .i64 (-(60 * zh + zm)))
      refine bodyPost_ret (v := .tuple #[.agg #[.int .i64 n, .int .i64 (3600 * h + 60 * m + x), .int .i64 (-(60 * zh + zm))], .int .i64 0]) (by simp [results, Tryz.results15, go_sem, q0, q1, q2]) rfl ⟨by rw [eR.out, ez.out], ?_⟩
      have hb := HW.out.2
      have hlt := HW.out.lt
      repeat (first | exact hb | refine Below.setCell ?_ (by simp; try omega) _ | refine Below.alloc ?_ (by simp; try omega) _)
    · have g45 := at_ne l21 c45
      have ez := Aside0.mk (show (if bt s 21 = 45 then -(60 * zh + zm) else 60 * zh + zm) = 60 * zh + zm from if_neg c45)
      clear c45
      go_wp2_with fail
      obtain ⟨q0, q1, q2⟩ := blk3a HW.out.1 (.int .i64 n) (.int .i64 (3600 * h + 60 * m + x)) (.int .i64 (60 * zh + zm))
      refine bodyPost_ret (v := .tuple #[.agg #[.int .i64 n, .int .i64 (3600 * h + 60 * m + x), .int .i64 (60 * zh + zm)], .int .i64 0]) (by simp [results, Tryz.results15, go_sem, q0, q1, q2]) rfl ⟨by rw [eR.out, ez.out], ?_⟩
      have hb := HW.out.2
      repeat (first | exact hb | refine Below.setCell ?_ (by simp; try omega) _ | refine Below.alloc ?_ (by simp; try omega) _)
end Go.Proofs.YtdpbaagpekhipaaGreatDoor

