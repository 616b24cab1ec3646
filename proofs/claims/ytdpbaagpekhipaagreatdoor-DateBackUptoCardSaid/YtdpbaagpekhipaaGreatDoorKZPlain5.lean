/- Plain laws of the date texts' printed functions: a client's time, and the three laws. No condition. -/
import Derived.Test.YtdpbaagpekhipaaGreatDoorKZPlain
import Derived.Test.YtdpbaagpekhipaaGreatDoorKZRefTimeF
import Derived.Lib.Split
import Derived.Lib.SplitLaws
import Derived.Lib.CutLaws
import Derived.Lib.CountLaws
import Derived.Lib.IndexLaws
import Derived.Lib.FieldsP
open Go Go.RowKit Go.Proofs.YtdpbaagpekhipaaGreatDoorW.PrintWords Go.Proofs.YtdpbaagpekhipaaGreatDoorW.PrintLast Go.Proofs.YtdpbaagpekhipaaGreatDoor.Str
set_option linter.unusedVariables false
set_option linter.unusedSimpArgs false
namespace Go.Proofs.YtdpbaagpekhipaaGreatDoor.PAll
theorem rtx_ptx (s : ByteArray) : rtx s = ptx s := rfl
theorem ext_size (s : ByteArray) (a b : Nat) : (s.extract a b).size ≤ s.size := by rw [ByteArray.size_extract]; omega
theorem ptx_size (s : ByteArray) (hs : s.size ≤ 2000000) : (ptx s).size ≤ 2000000 := by
  unfold ptx
  split
  · have := ext_size s 1 11; omega
  · have := ext_size s 0 11; omega
theorem ptMin_iff (s : ByteArray) : 0 ≤ ptMin s ↔ (0 ≤ two s 12 24 ∧ 0 ≤ two s 15 60 ∧ 0 ≤ two s 18 60 ∧ 0 ≤ two s 22 100 ∧ 0 ≤ two s 24 60) := by
  unfold ptMin m5
  omega
def dg2 (s : ByteArray) (i : Nat) : Int := Text.digS (ls (s.extract i (i + 2))) 2 2
theorem dg2_bd (s : ByteArray) (i : Nat) : -1 ≤ dg2 s i ∧ dg2 s i ≤ 99 := by
  unfold dg2
  by_cases h : 0 ≤ Text.digS (ls (s.extract i (i + 2))) 2 2
  · have l := digS_len h
    exact digS_lt _ l.2.1
  · have := digS_bd (ls (s.extract i (i + 2))) 2 2 (by omega)
    omega
theorem two_dg (s : ByteArray) (i b : Nat) : two s (i : Int) (b : Int) = if dg2 s i < b then dg2 s i else -1 := rfl
theorem two_ok (s : ByteArray) (i b : Nat) : (0 ≤ two s (i : Int) (b : Int) ↔ 0 ≤ dg2 s i ∧ dg2 s i < b) ∧ (0 ≤ two s (i : Int) (b : Int) → two s (i : Int) (b : Int) = dg2 s i) := by
  rw [two_dg]
  split <;> omega
theorem ptime_code (s : ByteArray) (hs : s.size ≤ 2000000) : date_ParseTime.f s = if shape s then (if ptOk s (parseL (ls (ptx s))).2 then some ((parseL (ls (ptx s))).1, ptSec s, ptZone s, 0) else some (0, 0, 0, 7)) else some (0, 0, 0, 7) := by
  unfold date_ParseTime.f
  rw [if_pos hs]
  by_cases h : shape s
  · rw [if_pos h, if_pos h, parse_eq _ _ (ptx_size s hs) (by omega), Option.bind_some]
  · rw [if_neg h, if_neg h]
theorem ptOk_iff (s : ByteArray) (why : Int) (h26 : s.size = 26) : (shape s ∧ ptOk s why) ↔ rtOk s why (dg2 s 12) (dg2 s 15) (dg2 s 18) (dg2 s 22) (dg2 s 24) := by
  have a := two_ok s 12 24
  have b := two_ok s 15 60
  have c := two_ok s 18 60
  have d := two_ok s 22 100
  have e := two_ok s 24 60
  have d2 := dg2_bd s 22
  unfold ptOk
  rw [ptMin_iff]
  unfold rtOk shape
  have a1 : (0 ≤ two s 12 24) ↔ 0 ≤ dg2 s 12 ∧ dg2 s 12 < 24 := a.1
  have b1 : (0 ≤ two s 15 60) ↔ 0 ≤ dg2 s 15 ∧ dg2 s 15 < 60 := b.1
  have c1 : (0 ≤ two s 18 60) ↔ 0 ≤ dg2 s 18 ∧ dg2 s 18 < 60 := c.1
  have d1 : (0 ≤ two s 22 100) ↔ 0 ≤ dg2 s 22 ∧ dg2 s 22 < 100 := d.1
  have e1 : (0 ≤ two s 24 60) ↔ 0 ≤ dg2 s 24 ∧ dg2 s 24 < 60 := e.1
  rw [a1, b1, c1, d1, e1]
  constructor
  · rintro ⟨⟨_, p1, p2, p3, p4, p5⟩, _, ⟨⟨q1, q2⟩, ⟨q3, q4⟩, ⟨q5, q6⟩, ⟨q7, q8⟩, ⟨q9, q10⟩⟩, p6⟩
    exact ⟨p6, p1, p2, p3, p4, p5, q1, by omega, q3, by omega, q5, by omega, q7, q9, by omega⟩
  · rintro ⟨p6, p1, p2, p3, p4, p5, q1, q2, q3, q4, q5, q6, q7, q9, q10⟩
    have sh : s.size = 26 ∧ bt s 11 = 32 ∧ bt s 14 = 58 ∧ bt s 17 = 58 ∧ bt s 20 = 32 ∧ (bt s 21 = 43 ∨ bt s 21 = 45) := ⟨h26, p1, p2, p3, p4, p5⟩
    exact ⟨sh, sh, ⟨⟨q1, by omega⟩, ⟨q3, by omega⟩, ⟨q5, by omega⟩, ⟨q7, by omega⟩, ⟨q9, by omega⟩⟩, p6⟩
theorem ptOk_vals (s : ByteArray) (why : Int) (h : ptOk s why) : ptSec s = 3600 * dg2 s 12 + 60 * dg2 s 15 + dg2 s 18 ∧ ptZone s = (if bt s 21 = 45 then -(60 * dg2 s 22 + dg2 s 24) else 60 * dg2 s 22 + dg2 s 24) ∧
    0 ≤ dg2 s 12 ∧ dg2 s 12 < 24 ∧ 0 ≤ dg2 s 15 ∧ dg2 s 15 < 60 ∧ 0 ≤ dg2 s 18 ∧ dg2 s 18 < 60 ∧ 0 ≤ dg2 s 22 ∧ dg2 s 22 < 100 ∧ 0 ≤ dg2 s 24 ∧ dg2 s 24 < 60 := by
  obtain ⟨_, hm, _⟩ := h
  rw [ptMin_iff] at hm
  obtain ⟨m1, m2, m3, m4, m5⟩ := hm
  have a := two_ok s 12 24
  have b := two_ok s 15 60
  have c := two_ok s 18 60
  have d := two_ok s 22 100
  have e := two_ok s 24 60
  have a2 : two s 12 24 = dg2 s 12 := a.2 m1
  have b2 : two s 15 60 = dg2 s 15 := b.2 m2
  have c2 : two s 18 60 = dg2 s 18 := c.2 m3
  have d2 : two s 22 100 = dg2 s 22 := d.2 m4
  have e2 : two s 24 60 = dg2 s 24 := e.2 m5
  have a1 := a.1.1 m1
  have b1 := b.1.1 m2
  have c1 := c.1.1 m3
  have d1 := d.1.1 m4
  have e1 := e.1.1 m5
  unfold ptSec ptZone
  rw [a2, b2, c2, d2, e2]
  exact ⟨rfl, rfl, a1.1, a1.2, b1.1, b1.2, c1.1, c1.2, d1.1, d1.2, e1.1, e1.2⟩
theorem ptime_same (s : ByteArray) (hs : s.size ≤ 2000000) : ∃ r, date_ParseTime.f s = some r ∧ missiveref10_ParseTime.f s = some r := by
  rw [ptime_code s hs]
  unfold missiveref10_ParseTime.f
  rw [if_pos hs]
  by_cases h26 : s.size = 26
  · have dz : ∀ i : Nat, missiveref10_digits.f 60 (s.extract i (i + 2)) 2 2 = some (dg2 s i) := fun i => rdigits_eq _ 2 2 60 (by omega) (by omega) (by omega) (by omega)
    have d12 : missiveref10_digits.f 60 (s.extract 12 14) 2 2 = some (dg2 s 12) := dz 12
    have d15 : missiveref10_digits.f 60 (s.extract 15 17) 2 2 = some (dg2 s 15) := dz 15
    have d18 : missiveref10_digits.f 60 (s.extract 18 20) 2 2 = some (dg2 s 18) := dz 18
    have d22 : missiveref10_digits.f 60 (s.extract 22 24) 2 2 = some (dg2 s 22) := dz 22
    have d24 : missiveref10_digits.f 60 (s.extract 24 26) 2 2 = some (dg2 s 24) := dz 24
    have z22 := dg2_bd s 22
    rw [if_pos h26, rtx_ptx, rparse_eq _ _ (ptx_size s hs) (by omega), Option.bind_some, d12, Option.bind_some, d15, Option.bind_some, d18, Option.bind_some, d22, Option.bind_some, d24, Option.bind_some, if_pos (c := dg2 s 22 ≤ 1000000) (by omega)]
    have hi := ptOk_iff s (parseL (ls (ptx s))).2 h26
    by_cases g : shape s ∧ ptOk s (parseL (ls (ptx s))).2
    · have v := ptOk_vals s _ g.2
      rw [if_pos g.1, if_pos g.2, if_pos (hi.1 g), v.1, v.2.1]
      exact ⟨_, rfl, rfl⟩
    · rw [if_neg (fun q => g (hi.2 q))]
      refine ⟨(0, 0, 0, 7), ?_, rfl⟩
      by_cases g1 : shape s
      · rw [if_pos g1, if_neg (fun q => g ⟨g1, q⟩)]
      · rw [if_neg g1]
  · rw [if_neg h26, if_neg (fun q => h26 q.1)]
    exact ⟨_, rfl, rfl⟩
/-- what is parsed is right, or nothing -/
theorem ptime_right (s : ByteArray) (hs : s.size ≤ 2000000) : date_ParseTime.f s = some (0, 0, 0, 7) ∨ ∃ n x z, date_ParseTime.f s = some (n, x, z, 0) ∧ rightP n x z := by
  rw [ptime_code s hs]
  by_cases g1 : shape s
  · rw [if_pos g1]
    by_cases g2 : ptOk s (parseL (ls (ptx s))).2
    · rw [if_pos g2]
      right
      have v := ptOk_vals s _ g2
      have hw := g2.2.2
      refine ⟨_, _, _, rfl, ?_⟩
      have hp : parseL (ls (ptx s)) ≠ (0, 7) := by
        intro q
        rw [q] at hw
        exact absurd hw (by decide)
      have hn : -719162 ≤ (parseL (ls (ptx s))).1 ∧ (parseL (ls (ptx s))).1 ≤ 2932896 := by
        obtain ⟨a, b, c, e, h1, h2, h3, h4⟩ := parseL_valid hp
        rw [e, parseL_app h1 h2 h3, if_neg h4] at hp ⊢
        by_cases ho : DayOK (Text.digS c 4 4) (mon b) (Text.digS a 1 2)
        · rw [dayR, if_pos ho]
          obtain ⟨o1, o2, o3, o4, o5, o6⟩ := ho
          have l1 := Cal.lp01 (Text.digS c 4 4)
          refine num_range _ _ _ o1 o2 o3 o4 o5 ?_
          unfold Cal.dim at o6
          split at o6
          · omega
          · split at o6 <;> omega
        · exact absurd (by rw [dayR, if_neg ho]) hp
      refine ⟨hn.1, hn.2, by rw [v.1]; omega, by rw [v.1]; omega, ?_, ?_⟩ <;> (rw [v.2.1]; split <;> omega)
    · rw [if_neg g2]; exact Or.inl rfl
  · rw [if_neg g1]; exact Or.inl rfl
theorem bt_B (l : List UInt8) (i : Nat) (c : UInt8) (h : l[i]? = some c) : bt (B l) (i : Int) = (c.toNat : Int) := by
  have hi := (List.getElem?_eq_some_iff.1 h).1
  exact (bt_is (B l) i c (by rw [B_size]; exact hi)).2 (by rw [ls_B]; exact h)
theorem pt_form (x0 x1 x2 x3 x4 x5 x6 x7 x8 x9 x10 h1 h2 m1 m2 s1 s2 sg z1 z2 z3 z4 : UInt8) (n : Int) (h m x zh zm : Int) (hsg : sg = 43 ∨ sg = 45)
    (hp : parseL (if x0 = 32 ∨ x0 = 48 then [x1, x2, x3, x4, x5, x6, x7, x8, x9, x10] else [x0, x1, x2, x3, x4, x5, x6, x7, x8, x9, x10]) = (n, 0))
    (e1 : Text.digS [h1, h2] 2 2 = h) (e2 : Text.digS [m1, m2] 2 2 = m) (e3 : Text.digS [s1, s2] 2 2 = x) (e4 : Text.digS [z1, z2] 2 2 = zh) (e5 : Text.digS [z3, z4] 2 2 = zm)
    (b1 : 0 ≤ h ∧ h < 24) (b2 : 0 ≤ m ∧ m < 60) (b3 : 0 ≤ x ∧ x < 60) (b4 : 0 ≤ zh ∧ zh < 100) (b5 : 0 ≤ zm ∧ zm < 60) :
    date_ParseTime.f (B [x0, x1, x2, x3, x4, x5, x6, x7, x8, x9, x10, 32, h1, h2, 58, m1, m2, 58, s1, s2, 32, sg, z1, z2, z3, z4]) = some (n, 3600 * h + 60 * m + x, if sg = 45 then -(60 * zh + zm) else 60 * zh + zm, 0) := by
  generalize hL : [x0, x1, x2, x3, x4, x5, x6, x7, x8, x9, x10, 32, h1, h2, 58, m1, m2, 58, s1, s2, 32, sg, z1, z2, z3, z4] = L
  have hl : L.length = 26 := by rw [← hL]; rfl
  have hs : (B L).size = 26 := by rw [B_size, hl]
  have c0 : bt (B L) 0 = (x0.toNat : Int) := bt_B L 0 x0 (by rw [← hL]; rfl)
  have c11 : bt (B L) 11 = 32 := bt_B L 11 32 (by rw [← hL]; rfl)
  have c14 : bt (B L) 14 = 58 := bt_B L 14 58 (by rw [← hL]; rfl)
  have c17 : bt (B L) 17 = 58 := bt_B L 17 58 (by rw [← hL]; rfl)
  have c20 : bt (B L) 20 = 32 := bt_B L 20 32 (by rw [← hL]; rfl)
  have c21 : bt (B L) 21 = (sg.toNat : Int) := bt_B L 21 sg (by rw [← hL]; rfl)
  have d12 : dg2 (B L) 12 = h := by unfold dg2; rw [ls_ext, ls_B, ← hL]; exact e1
  have d15 : dg2 (B L) 15 = m := by unfold dg2; rw [ls_ext, ls_B, ← hL]; exact e2
  have d18 : dg2 (B L) 18 = x := by unfold dg2; rw [ls_ext, ls_B, ← hL]; exact e3
  have d22 : dg2 (B L) 22 = zh := by unfold dg2; rw [ls_ext, ls_B, ← hL]; exact e4
  have d24 : dg2 (B L) 24 = zm := by unfold dg2; rw [ls_ext, ls_B, ← hL]; exact e5
  have u : ∀ c : UInt8, ∀ k : UInt8, ((c.toNat : Int) = (k.toNat : Int)) ↔ c = k := by
    intro c k
    constructor
    · intro q; exact UInt8.toNat_inj.1 (by exact_mod_cast q)
    · intro q; rw [q]
  have u32 := u x0 32
  have u48 := u x0 48
  have u45 := u sg 45
  have u43 := u sg 43
  have t32 : ((32 : UInt8).toNat : Int) = 32 := rfl
  have t48 : ((48 : UInt8).toNat : Int) = 48 := rfl
  have t45 : ((45 : UInt8).toNat : Int) = 45 := rfl
  have t43 : ((43 : UInt8).toNat : Int) = 43 := rfl
  rw [t32] at u32
  rw [t48] at u48
  rw [t45] at u45
  rw [t43] at u43
  have px : ls (ptx (B L)) = if x0 = 32 ∨ x0 = 48 then [x1, x2, x3, x4, x5, x6, x7, x8, x9, x10] else [x0, x1, x2, x3, x4, x5, x6, x7, x8, x9, x10] := by
    unfold ptx
    rw [c0]
    by_cases q : x0 = 32 ∨ x0 = 48
    · rw [if_pos q, if_pos (by rw [u32, u48]; exact q), ls_ext, ls_B, ← hL]; rfl
    · rw [if_neg q, if_neg (by rw [u32, u48]; exact q), ls_ext, ls_B, ← hL]; rfl
  have sh : shape (B L) := ⟨hs, c11, c14, c17, c20, by rw [c21, u43, u45]; exact hsg⟩
  have ro : rtOk (B L) 0 (dg2 (B L) 12) (dg2 (B L) 15) (dg2 (B L) 18) (dg2 (B L) 22) (dg2 (B L) 24) := by
    rw [d12, d15, d18, d22, d24]
    exact ⟨rfl, c11, c14, c17, c20, by rw [c21, u43, u45]; exact hsg, b1.1, by omega, b2.1, by omega, b3.1, by omega, b4.1, b5.1, by omega⟩
  have po := ((ptOk_iff (B L) 0 hs).2 ro).2
  have v := ptOk_vals _ _ po
  rw [ptime_code _ (by omega), if_pos sh, px, hp, if_pos po, v.1, v.2.1, d12, d15, d18, d22, d24, c21]
  by_cases q : sg = 45
  · rw [if_pos q, if_pos (u45.2 q)]
  · rw [if_neg q, if_neg (fun z => q (u45.1 z))]
theorem three {l : List UInt8} (h : l.length = 3) : ∃ a b c, l = [a, b, c] := by
  match l, h with
  | [a, b, c], _ => exact ⟨a, b, c, rfl⟩
theorem ptime_tm (y m d X : Nat) (z : Int) (y1 : 1 ≤ y) (y2 : y ≤ 9999) (m1 : 1 ≤ m) (m2 : m ≤ 12) (d1 : 1 ≤ d) (d2 : d ≤ 31) (v : Cal.Vld y m d) (hX : X < 86400) (hz : -5999 ≤ z) (hz2 : z ≤ 5999) :
    date_ParseTime.f (B (tmL (wr y m d) X z)) = some (Cal.num y m d, (X : Int), z, 0) ∧ (tmL (wr y m d) X z).length = 26 := by
  refine ⟨?_, by unfold tmL; have := dayT_len y m d m1 m2; simp [clk_len, off_len]; omega⟩
  have hp := parse_wr y m d y1 y2 m1 m2 d1 d2 v
  obtain ⟨a, b, c, em⟩ := three (mname_len (m - 1) (by omega))
  have e1 := digS_tw (X / 3600) 2 (by omega) (by omega)
  have e2 := digS_tw (X / 60 % 60) 2 (by omega) (by omega)
  have e3 := digS_tw (X % 60) 2 (by omega) (by omega)
  have e4 := digS_tw (z.natAbs / 60) 2 (by omega) (by omega)
  have e5 := digS_tw (z.natAbs % 60) 2 (by omega) (by omega)
  have hsg : (if z < 0 then (45 : UInt8) else 43) = 43 ∨ (if z < 0 then (45 : UInt8) else 43) = 45 := by split <;> simp
  have hfin : (some (Cal.num y m d, 3600 * ((X / 3600 : Nat) : Int) + 60 * ((X / 60 % 60 : Nat) : Int) + ((X % 60 : Nat) : Int), if (if z < 0 then (45 : UInt8) else 43) = 45 then -(60 * ((z.natAbs / 60 : Nat) : Int) + ((z.natAbs % 60 : Nat) : Int)) else 60 * ((z.natAbs / 60 : Nat) : Int) + ((z.natAbs % 60 : Nat) : Int), (0 : Int))) = some (Cal.num y m d, (X : Int), z, 0) := by
    have a1 : 3600 * ((X / 3600 : Nat) : Int) + 60 * ((X / 60 % 60 : Nat) : Int) + ((X % 60 : Nat) : Int) = (X : Int) := by omega
    have a2 : (if (if z < 0 then (45 : UInt8) else 43) = 45 then -(60 * ((z.natAbs / 60 : Nat) : Int) + ((z.natAbs % 60 : Nat) : Int)) else 60 * ((z.natAbs / 60 : Nat) : Int) + ((z.natAbs % 60 : Nat) : Int)) = z := by
      by_cases g : z < 0
      · simp [g]; omega
      · simp [g]; omega
    rw [a1, a2]
  rw [← hfin]
  unfold tmL dayT
  unfold wr at hp ⊢
  rw [em] at hp ⊢
  unfold on at hp ⊢
  by_cases g : d < 10
  · rw [if_pos g] at hp ⊢
    exact pt_form 32 (c10 d) 45 a b c 45 (c10 (y / 1000)) (c10 (y / 100)) (c10 (y / 10)) (c10 y) _ _ _ _ _ _ _ _ _ _ _ _ _ _ _ _ _ hsg hp e1 e2 e3 e4 e5 (by omega) (by omega) (by omega) (by omega) (by omega)
  · rw [if_neg g] at hp ⊢
    have n1 : ¬ (c10 (d / 10) = 32 ∨ c10 (d / 10) = 48) := by
      rintro (q | q)
      · have := (dig_c10 (d / 10)).1
        rw [q] at this
        exact absurd this (by decide)
      · have := c10_zero q
        omega
    refine pt_form (c10 (d / 10)) (c10 d) 45 a b c 45 (c10 (y / 1000)) (c10 (y / 100)) (c10 (y / 10)) (c10 y) _ _ _ _ _ _ _ _ _ _ _ _ _ _ _ _ _ hsg ?_ e1 e2 e3 e4 e5 (by omega) (by omega) (by omega) (by omega) (by omega)
    rw [if_neg n1]
    exact hp
theorem texts_true (k : Nat) (hk : 200 ≤ k) : missivelaw10_texts.f k = some true := by
  have p1 : date_Parse.f k (⟨#[53, 45, 102, 101, 98, 45, 49, 57, 57, 54]⟩ : ByteArray) = some (9531, 0) := by
    rw [parse_eq _ k (by decide) (by omega)]
    have e : parseL (ls (⟨#[53, 45, 102, 101, 98, 45, 49, 57, 57, 54]⟩ : ByteArray)) = (9531, 0) := by decide +kernel
    rw [e]
  have p2 : date_Parse.f k (⟨#[48, 53, 45, 70, 101, 98, 45, 49, 57, 57, 54]⟩ : ByteArray) = some (0, 7) := by
    rw [parse_eq _ k (by decide) (by omega)]
    have e : parseL (ls (⟨#[48, 53, 45, 70, 101, 98, 45, 49, 57, 57, 54]⟩ : ByteArray)) = (0, 7) := by decide +kernel
    rw [e]
  have p3 : date_Write.f 9531 = some (B (wr 1996 2 5), 0) := write_yes 9531 1996 2 5 (by omega) (by omega) (by omega) (by omega) (by decide +kernel)
  have p4 : date_ParseTime.f (⟨#[49, 55, 45, 74, 117, 108, 45, 49, 57, 57, 54, 32, 48, 50, 58, 52, 52, 58, 50, 53, 32, 45, 48, 55, 48, 48]⟩ : ByteArray) = some (9694, 9865, -420, 0) :=
    pt_form 49 55 45 74 117 108 45 49 57 57 54 48 50 52 52 50 53 45 48 55 48 48 9694 2 44 25 7 0 (Or.inr rfl) (by decide +kernel) (by decide) (by decide) (by decide) (by decide) (by decide) (by omega) (by omega) (by omega) (by omega) (by omega)
  have p5 : date_WriteTime.f 9694 9865 (-420) = some (B (tmL (wr 1996 7 17) 9865 (-420)), 0) :=
    writeTime_yes 9694 (-420) 9865 1996 7 17 (by unfold rightP; omega) (by omega) (by omega) (write_yes 9694 1996 7 17 (by omega) (by omega) (by omega) (by omega) (by decide +kernel))
  have p6 : date_Mail.f k (⟨#[77, 111, 110, 44, 32, 53, 32, 70, 101, 98, 32, 57, 54, 32, 49, 48, 58, 48, 48, 32, 71, 77, 84]⟩ : ByteArray) = some (9531, 0) := by
    rw [mail_eq _ k (by decide) (by omega)]
    have e : mailL (ls (⟨#[77, 111, 110, 44, 32, 53, 32, 70, 101, 98, 32, 57, 54, 32, 49, 48, 58, 48, 48, 32, 71, 77, 84]⟩ : ByteArray)) = (9531, 0) := by decide +kernel
    rw [e]
  have p7 : date_Mail.f k (⟨#[116, 111, 109, 111, 114, 114, 111, 119]⟩ : ByteArray) = some (0, 7) := by
    rw [mail_eq _ k (by decide) (by omega)]
    have e : mailL (ls (⟨#[116, 111, 109, 111, 114, 114, 111, 119]⟩ : ByteArray)) = (0, 7) := by decide +kernel
    rw [e]
  have t1 : (B (wr 1996 2 5)).toList = [53, 45, 70, 101, 98, 45, 49, 57, 57, 54] := by
    rw [Lib.toList_data]
    exact (ls_B _).trans (by decide)
  have t2 : (B (tmL (wr 1996 7 17) 9865 (-420))).toList = [49, 55, 45, 74, 117, 108, 45, 49, 57, 57, 54, 32, 48, 50, 58, 52, 52, 58, 50, 53, 32, 45, 48, 55, 48, 48] := by
    rw [Lib.toList_data]
    exact (ls_B _).trans (by decide)
  unfold missivelaw10_texts.f
  rw [p1, Option.bind_some]
  simp only
  rw [p3, Option.bind_some, p4, Option.bind_some]
  simp only
  rw [p5, Option.bind_some, p6, Option.bind_some, p2, Option.bind_some, p7, Option.bind_some]
  simp only [t1, t2]
  rfl
theorem back (n x z : Int) (h : rightP n x z) : ∃ b, date_WriteTime.f n x z = some (b, 0) ∧ date_ParseTime.f b = some (n, x, z, 0) ∧ b.size = 26 := by
  obtain ⟨y, m, d, X, y1, y2, m1, m2, d1, d2, v, e, rfl, e1, _⟩ := writeTime_is n x z h
  obtain ⟨h1, h2, h3, h4, h5, h6⟩ := h
  obtain ⟨t1, t2⟩ := ptime_tm y m d X z y1 y2 m1 m2 d1 d2 v (by omega) h5 h6
  exact ⟨_, e1, by rw [t1, e], by rw [B_size, t2]⟩
end Go.Proofs.YtdpbaagpekhipaaGreatDoor.PAll

