/- date.ParseTime: a client's time. Conditions: the variables (GlobOK), a text of at most 2000000 bytes. -/
import Derived.Test.YtdpbaagpekhipaaGreatDoorKZPAllx3
import Derived.WalkMore
import Derived.WalkSpells
import Derived.WalkLawsBesides
import Derived.ScopeJumps
import Derived.Lib.Hide
import Derived.Outline
namespace Go.Proofs.YtdpbaagpekhipaaGreatDoor
open Go.RowKit Go.Proofs.YtdpbaagpekhipaaGreatDoorW.PrintWords Go.Proofs.YtdpbaagpekhipaaGreatDoorW.PrintLast
open PAll
set_option linter.unusedVariables false
def two (s : ByteArray) (at_ below : Int) : Int := if Text.digS (s.extract at_.toNat (at_.toNat + 2)).data.toList 2 2 < below then Text.digS (s.extract at_.toNat (at_.toNat + 2)).data.toList 2 2 else -1
theorem digS_lt (l : List UInt8) (h : l.length ≤ 2) : -1 ≤ Text.digS l 2 2 ∧ Text.digS l 2 2 ≤ 99 := by
  unfold Text.digS
  split
  · omega
  · rename_i g
    have ha : l.all Text.isDig = true := by
      cases hc : l.all Text.isDig with
      | true => rfl
      | false => exact absurd (Or.inr (Or.inr hc)) g
    have hl : l.length = 2 := by omega
    have := Text.dval_lt l 0 ha
    rw [hl] at this
    have e : (0 + 1) * 10 ^ 2 = 100 := rfl
    omega
set_option maxHeartbeats 1000000 in
theorem two_any (s : ByteArray) (at_ below : Int) (a : Addr) (w : World) (hc : w.cell? a = some (.string s)) (h0 : 0 ≤ at_) (h : at_ + 2 ≤ s.size) (hs : s.size ≤ 26) (hb0 : 0 ≤ below) (hb : below ≤ 100) :
    Calls Tryz.prog 35 #[.int .i64 at_, .int .i64 below, .pointer (some a)] w fun e w' => e = .returned (.int .i64 (two s at_ below)) ∧ Below w.heap.size w w' := by
  obtain ⟨at_, rfl⟩ := Int.eq_ofNat_of_zero_le h0
  have hlen : (s.extract at_ (at_ + 2)).data.toList.length ≤ 2 := by
    rw [Array.length_toList]
    show (s.extract at_ (at_ + 2)).size ≤ 2
    rw [ByteArray.size_extract]; omega
  have hd := Aside0.mk (fun w : World => date_digits.calls (s.extract at_ (at_ + 2)) 2 2 (Text.digS (s.extract at_ (at_ + 2)).data.toList 2 2) w (by
    unfold date_digits.f
    rw [if_pos ⟨by decide, by decide, by decide, by decide, by rw [ByteArray.size_extract]; omega⟩]; rfl))
  have hr := digS_lt _ hlen
  have ht : two s at_ below = if Text.digS (s.extract at_ (at_ + 2)).data.toList 2 2 < below then Text.digS (s.extract at_ (at_ + 2)).data.toList 2 2 else -1 := rfl
  rw [ht]
  clear ht
  generalize Text.digS (s.extract at_ (at_ + 2)).data.toList 2 2 = v at *
  obtain ⟨hr1, hr2⟩ := hr
  clear hlen
  by_cases g : v < below
  · rw [if_pos g]
    go_enter Tryz.func35, Tryz.ntmps35
    go_wp2_with (first | (go_at_call 23; (with_reducible refine (hd.out _).mono ?_); rintro e w1 ⟨rfl, hb1⟩))
    go_ret
    exact ⟨rfl, hb1⟩
  · rw [if_neg g]
    go_enter Tryz.func35, Tryz.ntmps35
    go_wp2_with (first | (go_at_call 23; (with_reducible refine (hd.out _).mono ?_); rintro e w1 ⟨rfl, hb1⟩))
    go_ret
    exact ⟨rfl, hb1⟩
/-- the call's own three blocks: the text, the result, the time at work -/
def PW (w : World) (s : ByteArray) (W : World) (d x y : Int) : Prop :=
  W.heap[w.heap.size]? = some (.cells #[.string s] 9 (0, 0)) ∧ W.heap[w.heap.size + 1]? = some (.cells #[.int .i64 0, .int .i64 0, .int .i64 0] 30 (0, 0)) ∧
  W.heap[w.heap.size + 1 + 1]? = some (.cells #[.int .i64 d, .int .i64 x, .int .i64 y] 30 (0, 0)) ∧ Below w.heap.size w W
theorem PW.lt {w : World} {s : ByteArray} {W : World} {d x y : Int} (h : PW w s W d x y) : w.heap.size + 1 + 1 < W.heap.size := blk_lt h.2.2.1
theorem PW.below {w : World} {s : ByteArray} {W W' : World} {d x y : Int} (h : PW w s W d x y) (hb : Below W.heap.size W W') : PW w s W' d x y :=
  ⟨blk_below h.1 hb, blk_below h.2.1 hb, blk_below h.2.2.1 hb, h.2.2.2.trans (hb.mono h.2.2.2.size)⟩
theorem PW.start (w : World) (s : ByteArray) : PW w s (((w.alloc (.cells #[.string s] 9)).alloc (.cells #[.int .i64 0, .int .i64 0, .int .i64 0] 30)).alloc (.cells #[.int .i64 0, .int .i64 0, .int .i64 0] 30)) 0 0 0 := by
  refine ⟨blk_alloc (blk_alloc (heap_alloc_new _ _) _) _, blk_alloc (by simpa using heap_alloc_new (w.alloc (.cells #[.string s] 9)) (.cells #[.int .i64 0, .int .i64 0, .int .i64 0] 30)) _, by simpa using heap_alloc_new ((w.alloc (.cells #[.string s] 9)).alloc (.cells #[.int .i64 0, .int .i64 0, .int .i64 0] 30)) (.cells #[.int .i64 0, .int .i64 0, .int .i64 0] 30), ?_⟩
  exact (((Below.refl _ _).alloc (Nat.le_refl _) _).alloc (by simp) _).alloc (by simp; omega) _
theorem PW.put0 {w : World} {s : ByteArray} {W : World} {d x y : Int} (h : PW w s W d x y) (v : Int) : PW w s (W.setCell ⟨w.heap.size + 1 + 1, 0, none⟩ (.int .i64 v)) v x y :=
  ⟨blk_far h.1 (by simp; omega) _, blk_far h.2.1 (by simp) _, by simpa using blk_set h.2.2.1 0 (.int .i64 v), h.2.2.2.setCell (by simp; omega) _⟩
theorem PW.put1 {w : World} {s : ByteArray} {W : World} {d x y : Int} (h : PW w s W d x y) (v : Int) : PW w s (W.setCell ⟨w.heap.size + 1 + 1, 1, none⟩ (.int .i64 v)) d v y :=
  ⟨blk_far h.1 (by simp; omega) _, blk_far h.2.1 (by simp) _, by simpa using blk_set h.2.2.1 1 (.int .i64 v), h.2.2.2.setCell (by simp; omega) _⟩
theorem PW.put2 {w : World} {s : ByteArray} {W : World} {d x y : Int} (h : PW w s W d x y) (v : Int) : PW w s (W.setCell ⟨w.heap.size + 1 + 1, 2, none⟩ (.int .i64 v)) d x v :=
  ⟨blk_far h.1 (by simp; omega) _, blk_far h.2.1 (by simp) _, by simpa using blk_set h.2.2.1 2 (.int .i64 v), h.2.2.2.setCell (by simp; omega) _⟩
/-- what the walk reads of them -/
def PF (w : World) (s : ByteArray) (W : World) (d x y : Int) : Prop :=
  W.cell? ⟨w.heap.size, 0, none⟩ = some (.string s) ∧ W.cell? ⟨w.heap.size + 1 + 1, 0, none⟩ = some (.int .i64 d) ∧ W.cell? ⟨w.heap.size + 1 + 1, 1, none⟩ = some (.int .i64 x) ∧ W.cell? ⟨w.heap.size + 1 + 1, 2, none⟩ = some (.int .i64 y) ∧
  W.frozen? ⟨w.heap.size + 1 + 1, 0, none⟩ = false ∧ W.frozen? ⟨w.heap.size + 1 + 1, 1, none⟩ = false ∧ W.frozen? ⟨w.heap.size + 1 + 1, 2, none⟩ = false ∧
  W.cell? ⟨w.heap.size + 1, 0, none⟩ = some (.int .i64 0) ∧ W.cell? ⟨w.heap.size + 1, 1, none⟩ = some (.int .i64 0) ∧ W.cell? ⟨w.heap.size + 1, 2, none⟩ = some (.int .i64 0) ∧
  W.frozen? ⟨w.heap.size + 1, 0, none⟩ = false ∧ W.frozen? ⟨w.heap.size + 1, 1, none⟩ = false ∧ W.frozen? ⟨w.heap.size + 1, 2, none⟩ = false
theorem PW.facts {w : World} {s : ByteArray} {W : World} {d x y : Int} (h : PW w s W d x y) : PF w s W d x y :=
  ⟨blk_cell h.1 0, blk_cell h.2.2.1 0, blk_cell h.2.2.1 1, blk_cell h.2.2.1 2, blk_frozen h.2.2.1 0, blk_frozen h.2.2.1 1, blk_frozen h.2.2.1 2, blk_cell h.2.1 0, blk_cell h.2.1 1, blk_cell h.2.1 2, blk_frozen h.2.1 0, blk_frozen h.2.1 1, blk_frozen h.2.1 2⟩
theorem two_pw (s : ByteArray) (at_ below : Int) (w W : World) (d x y : Int) (h : PW w s W d x y) (h0 : 0 ≤ at_) (h1 : at_ + 2 ≤ s.size) (hs : s.size ≤ 26) (hb0 : 0 ≤ below) (hb : below ≤ 100) :
    Calls Tryz.prog 35 #[.int .i64 at_, .int .i64 below, .pointer (some ⟨w.heap.size, 0, none⟩)] W fun e W' => e = .returned (.int .i64 (two s at_ below)) ∧ PW w s W' d x y ∧ PF w s W' d x y :=
  (two_any s at_ below _ W (h.facts.1) h0 h1 hs hb0 hb).mono fun e W' ⟨he, hb⟩ => ⟨he, h.below hb, (h.below hb).facts⟩
theorem parse_pw (s x : ByteArray) (w W : World) (n why : Int) (hG : GlobOK w) (h : PW w s W 0 0 0) (hf : date_Parse.f 60 x = some (n, why)) :
    Calls Tryz.prog 7 #[.string x] W fun e W' => e = .returned (.tuple #[.int .i64 n, .int .i64 why]) ∧ PW w s W' 0 0 0 ∧ PF w s W' 0 0 0 :=
  (date_Parse.calls 60 x n why W (hG.below h.2.2.2) hf).mono fun e W' ⟨he, hb⟩ => ⟨he, h.below hb, (h.below hb).facts⟩
/-- what holds wherever the run goes on at the label -/
def PJ (w : World) (a' : Act) (w' : World) : Prop :=
  ∃ (u0 u1 u3 u4 u5 u6 u7 u8 u9 u10 u11 u12 u13 u14 u15 u16 u17 u18 u19 u20 u21 u22 u23 u24 u25 u26 u27 u28 u29 u30 u31 u32 u33 u34 u35 u36 u37 u38 u39 u40 u41 u42 u43 u44 u45 u46 u47 u48 u49 u50 u51 u52 u53 u54 u55 u56 u57 u58 u59 u60 u61 u62 u63 u64 u65 u66 u67 u68 u69 u70 u71 u72 u73 u74 u75 u76 u77 u78 u79 u80 u81 u82 u83 u84 u85 u86 u87 u88 u89 u90 u91 u92 u93 u94 u95 u96 u97 u98 u99 u100 u101 u102 u103 u104 u105 : Value) (x y z : Value), a' = { tmps := #[u0, u1, .pointer (some ⟨w.heap.size + 1, 0, none⟩), u3, u4, u5, u6, u7, u8, u9, u10, u11, u12, u13, u14, u15, u16, u17, u18, u19, u20, u21, u22, u23, u24, u25, u26, u27, u28, u29, u30, u31, u32, u33, u34, u35, u36, u37, u38, u39, u40, u41, u42, u43, u44, u45, u46, u47, u48, u49, u50, u51, u52, u53, u54, u55, u56, u57, u58, u59, u60, u61, u62, u63, u64, u65, u66, u67, u68, u69, u70, u71, u72, u73, u74, u75, u76, u77, u78, u79, u80, u81, u82, u83, u84, u85, u86, u87, u88, u89, u90, u91, u92, u93, u94, u95, u96, u97, u98, u99, u100, u101, u102, u103, u104, u105], defers := [] } ∧ w'.heap[w.heap.size + 1]? = some (.cells #[x, y, z] 30 (0, 0)) ∧ Below w.heap.size w w'
def m5 (a b c d e : Int) : Int := min (min (min (min a b) c) d) e
theorem min5_int (ats : Array TypeId) (ty : TypeId) (a b c d e : Int) : Builtin.min_ ats ty #[.int .i64 a, .int .i64 b, .int .i64 c, .int .i64 d, .int .i64 e] = pure (.int .i64 (m5 a b c d e)) := by
  have h : ∀ x y : Int, (if y < x then y else x) = min x y := fun x y => by rw [Int.min_def]; split <;> split <;> omega
  simp only [Builtin.min_, List.foldlM_cons, List.foldlM_nil, Builtin.min2]
  simp [m5, h]
/-- a text of the right shape -/
def shape (s : ByteArray) : Prop := s.size = 26 ∧ bt s 11 = 32 ∧ bt s 14 = 58 ∧ bt s 17 = 58 ∧ bt s 20 = 32 ∧ (bt s 21 = 43 ∨ bt s 21 = 45)
theorem at_eq {s : ByteArray} {i : Nat} (h : i < s.size) {c : Int} (e : bt s i = c) : (((s[i]'h).toNat : Int) == c) = true := by
  have := bt_at s i (by simpa using h)
  simp at this
  simp [this, e]
theorem at_ne {s : ByteArray} {i : Nat} (h : i < s.size) {c : Int} (e : bt s i ≠ c) : (((s[i]'h).toNat : Int) == c) = false := by
  have := bt_at s i (by simpa using h)
  simp at this
  simp [this, e]
theorem at_eqn {s : ByteArray} {i : Nat} (h : i < s.size) {c : Int} (e : bt s i = c) : (((s[i]'h).toNat : Int) != c) = false := by
  rw [bne, at_eq h e]; rfl
theorem at_nen {s : ByteArray} {i : Nat} (h : i < s.size) {c : Int} (e : bt s i ≠ c) : (((s[i]'h).toNat : Int) != c) = true := by
  rw [bne, at_ne h e]; rfl
theorem two_le (s : ByteArray) (at_ below : Int) (hb : below ≤ 100) : -1 ≤ two s at_ below ∧ two s at_ below ≤ 99 := by
  unfold two
  split
  · rename_i h
    refine ⟨?_, by omega⟩
    unfold Text.digS
    split
    · omega
    · exact Int.le_trans (by decide) (Int.natCast_nonneg _)
  · omega
theorem jump_ret {l : Nat} {J : Act → World → Prop} {Q : Exit → Act → World → Prop} {a : Act} {w : World} (h : Q .ret a w) : Exit.jump l J Q .ret a w := h
theorem blk3 {W : World} {r : Nat} {x y z : Value} {T : TypeId} (h : W.heap[r]? = some (.cells #[x, y, z] T (0, 0))) (a b c : Value) :
    (((W.setCell ⟨r, 0, none⟩ a).setCell ⟨r, 1, none⟩ b).setCell ⟨r, 2, none⟩ c).cell? ⟨r, 0, none⟩ = some a ∧ (((W.setCell ⟨r, 0, none⟩ a).setCell ⟨r, 1, none⟩ b).setCell ⟨r, 2, none⟩ c).cell? ⟨r, 1, none⟩ = some b ∧ (((W.setCell ⟨r, 0, none⟩ a).setCell ⟨r, 1, none⟩ b).setCell ⟨r, 2, none⟩ c).cell? ⟨r, 2, none⟩ = some c := by
  have h0 : (W.setCell ⟨r, 0, none⟩ a).heap[r]? = some (.cells #[a, y, z] T (0, 0)) := by simpa using blk_set h 0 a
  have h1 : ((W.setCell ⟨r, 0, none⟩ a).setCell ⟨r, 1, none⟩ b).heap[r]? = some (.cells #[a, b, z] T (0, 0)) := by simpa using blk_set h0 1 b
  have h2 : (((W.setCell ⟨r, 0, none⟩ a).setCell ⟨r, 1, none⟩ b).setCell ⟨r, 2, none⟩ c).heap[r]? = some (.cells #[a, b, c] T (0, 0)) := by simpa using blk_set h1 2 c
  exact ⟨blk_cell h2 0, blk_cell h2 1, blk_cell h2 2⟩
/-- the text of the day within a time's -/
def ptx (s : ByteArray) : ByteArray := if bt s 0 = 32 ∨ bt s 0 = 48 then s.extract 1 11 else s.extract 0 11
def ptMin (s : ByteArray) : Int := m5 (two s 12 24) (two s 15 60) (two s 18 60) (two s 22 100) (two s 24 60)
def ptOk (s : ByteArray) (why : Int) : Prop := shape s ∧ 0 ≤ ptMin s ∧ why = 0
def ptSec (s : ByteArray) : Int := 3600 * two s 12 24 + 60 * two s 15 60 + two s 18 60
def ptZone (s : ByteArray) : Int := if bt s 21 = 45 then -(60 * two s 22 100 + two s 24 60) else 60 * two s 22 100 + two s 24 60
set_option maxHeartbeats 2000000 in
set_option maxRecDepth 100000 in
theorem pt_all (s : ByteArray) (w : World) (n why : Int) (R : Value) (hs : s.size ≤ 2000000)
    (hP : Aside0 (shape s → ∀ W, PW w s W 0 0 0 → Calls Tryz.prog 7 #[.string (ptx s)] W fun e W' => e = .returned (.tuple #[.int .i64 n, .int .i64 why]) ∧ PW w s W' 0 0 0 ∧ PF w s W' 0 0 0))
    (hR1 : Aside0 (ptOk s why → R = .tuple #[.agg #[.int .i64 n, .int .i64 (ptSec s), .int .i64 (ptZone s)], .int .i64 0]))
    (hR2 : Aside0 (¬ ptOk s why → R = .tuple #[.agg #[.int .i64 0, .int .i64 0, .int .i64 0], .int .i64 7])) :
    Calls Tryz.prog 14 #[.string s] w fun e w' => e = .returned R ∧ Below w.heap.size w w' := by
  have HW := Aside0.mk (PW.start w s)
  have k5 := min5_int
  go_enter Tryz.func14, Tryz.ntmps14
  go_wp2
  refine wp_scope_jumps 0 (fun a w' => PJ w a w' ∧ ¬ ptOk s why) (fun _ _ => 0) rfl ?_ ?_
  · go_upto_region 4 with fail
    go_cut [40] from 7 (fun s40 wx => (∃ b, s40 = .bool b ∧ (b = true ↔ ¬ shape s)) ∧ PW w s wx 0 0 0)
    case first =>
      have HS := Aside0.mk (show ∀ b : Bool, (b = true ↔ ¬ shape s) ↔ (b = true ↔ ¬ shape s) from fun _ => Iff.rfl)
      by_cases g26 : s.size = 26
      · have e26 : ((s.size : Int) == 26) = true := by simp; omega
        have e26n : ((s.size : Int) != 26) = false := by simp; omega
        have l11 : 11 < s.size := by omega
        have l14 : 14 < s.size := by omega
        have l17 : 17 < s.size := by omega
        have l20 : 20 < s.size := by omega
        have l21 : 21 < s.size := by omega
        have H26 := Aside0.mk g26
        clear g26
        by_cases c11 : bt s 11 = 32
        · have f11 := at_eqn l11 c11
          have C11 := Aside0.mk c11
          clear c11
          by_cases c14 : bt s 14 = 58
          · have f14 := at_eqn l14 c14
            have C14 := Aside0.mk c14
            clear c14
            by_cases c17 : bt s 17 = 58
            · have f17 := at_eqn l17 c17
              have C17 := Aside0.mk c17
              clear c17
              by_cases c20 : bt s 20 = 32
              · have f20 := at_eqn l20 c20
                have C20 := Aside0.mk c20
                clear c20
                by_cases c43 : bt s 21 = 43
                · have f43 := at_eqn l21 c43
                  have C43 := Aside0.mk c43
                  clear c43
                  go_wp2_with fail
                  go_meet
                  case rel => exact ⟨⟨_, rfl, by simp [shape, H26.out, C11.out, C14.out, C17.out, C20.out, C43.out]⟩, HW.out⟩
                · have f43 := at_nen l21 c43
                  by_cases c45 : bt s 21 = 45
                  · have f45 := at_eqn l21 c45
                    have C45 := Aside0.mk c45
                    clear c43 c45
                    go_wp2_with fail
                    go_meet
                    case rel => exact ⟨⟨_, rfl, by simp [shape, H26.out, C11.out, C14.out, C17.out, C20.out, C45.out]⟩, HW.out⟩
                  · have f45 := at_nen l21 c45
                    have C43 := Aside0.mk c43
                    have C45 := Aside0.mk c45
                    clear c43 c45
                    go_wp2_with fail
                    go_meet
                    case rel => exact ⟨⟨_, rfl, by simp [shape, C43.out, C45.out]⟩, HW.out⟩
              · have f20 := at_nen l20 c20
                have C := Aside0.mk c20
                clear c20
                go_wp2_with fail
                go_meet
                case rel => exact ⟨⟨_, rfl, by simp [shape, C.out]⟩, HW.out⟩
            · have f17 := at_nen l17 c17
              have C := Aside0.mk c17
              clear c17
              go_wp2_with fail
              go_meet
              case rel => exact ⟨⟨_, rfl, by simp [shape, C.out]⟩, HW.out⟩
          · have f14 := at_nen l14 c14
            have C := Aside0.mk c14
            clear c14
            go_wp2_with fail
            go_meet
            case rel => exact ⟨⟨_, rfl, by simp [shape, C.out]⟩, HW.out⟩
        · have f11 := at_nen l11 c11
          have C := Aside0.mk c11
          clear c11
          go_wp2_with fail
          go_meet
          case rel => exact ⟨⟨_, rfl, by simp [shape, C.out]⟩, HW.out⟩
      · have e26n : ((s.size : Int) != 26) = true := by simp; omega
        have C := Aside0.mk g26
        clear g26
        go_wp2_with fail
        go_meet
        case rel => exact ⟨⟨_, rfl, by simp [shape, C.out]⟩, HW.out⟩
    case rest =>
    obtain ⟨⟨b, rfl, hb⟩, hw⟩ := hcut
    clear HW
    have HW := Aside0.mk hw
    clear hw
    cases b with
    | true =>
      have hno : Aside0 (¬ ptOk s why) := ⟨fun h => hb.1 rfl h.1⟩
      clear hb
      go_wp2_with fail
      go_step3
      change 0 = 0 ∧ PJ w _ _ ∧ ¬ ptOk s why
      exact ⟨rfl, ⟨_, _, _, _, _, _, _, _, _, _, _, _, _, _, _, _, _, _, _, _, _, _, _, _, _, _, _, _, _, _, _, _, _, _, _, _, _, _, _, _, _, _, _, _, _, _, _, _, _, _, _, _, _, _, _, _, _, _, _, _, _, _, _, _, _, _, _, _, _, _, _, _, _, _, _, _, _, _, _, _, _, _, _, _, _, _, _, _, _, _, _, _, _, _, _, _, _, _, _, _, _, _, _, _, _, _, _, _, rfl, HW.out.2.1, HW.out.2.2.2⟩, hno.out⟩
    | false =>
    have hsh : shape s := Classical.byContradiction fun h => Bool.false_ne_true (hb.2 h)
    clear hb
    have hs26 : s.size = 26 := hsh.1
    have hsA : s.size ≤ 26 := by omega
    have hsB : 26 ≤ s.size := by omega
    have HS := Aside0.mk hsh
    have hP := Aside0.mk (hP.out hsh)
    clear hsh hs26
    obtain ⟨fs, ft0, ft1, ft2, gt0, gt1, gt2, fr0, fr1, fr2, gr0, gr1, gr2⟩ := HW.out.facts
    have l0 : 0 < s.size := by omega
    go_upto_region 5 with fail
    go_cut [48] from 7 (fun s48 wx => (∃ b, s48 = .bool b ∧ (b = true ↔ (bt s 0 = 32 ∨ bt s 0 = 48))) ∧ PW w s wx 0 0 0)
    case first =>
      by_cases c32 : bt s 0 = 32
      · have f32 := at_eq l0 c32
        have C := Aside0.mk c32
        clear c32
        go_wp2_with fail
        go_meet
        case rel => exact ⟨⟨_, rfl, by simp [C.out]⟩, HW.out⟩
      · have f32 := at_ne l0 c32
        have C := Aside0.mk c32
        clear c32
        by_cases c48 : bt s 0 = 48
        · have f48 := at_eq l0 c48
          have C48 := Aside0.mk c48
          clear c48
          go_wp2_with fail
          go_meet
          case rel => exact ⟨⟨_, rfl, by simp [C48.out]⟩, HW.out⟩
        · have f48 := at_ne l0 c48
          have C48 := Aside0.mk c48
          clear c48
          go_wp2_with fail
          go_meet
          case rel => exact ⟨⟨_, rfl, by simp [C.out, C48.out]⟩, HW.out⟩
    case rest =>
    obtain ⟨⟨b, rfl, hb⟩, hw⟩ := hcut
    clear HW fs ft0 ft1 ft2 gt0 gt1 gt2 fr0 fr1 fr2 gr0 gr1 gr2
    have HW := Aside0.mk hw
    clear hw
    obtain ⟨fs, ft0, ft1, ft2, gt0, gt1, gt2, fr0, fr1, fr2, gr0, gr1, gr2⟩ := HW.out.facts
    go_upto_if 48 with fail
    go_cut [5] from 7 (fun s5 wx => s5 = .int .i64 why ∧ PW w s wx n 0 0)
    case first =>
      cases b with
      | true =>
        have ex : ptx s = s.extract 1 11 := if_pos (hb.1 rfl)
        rw [ex] at hP
        clear hb ex
        go_wp2_with (first | (go_at_call 7; (with_reducible refine (hP.out _ HW.out).mono ?_); rintro e W1 ⟨rfl, hw1, hf1⟩; (have HW1 := Aside0.mk (hw1.put0 n)); clear HW hw1; (have HW := HW1); clear HW1; obtain ⟨fs, ft0, ft1, ft2, gt0, gt1, gt2, fr0, fr1, fr2, gr0, gr1, gr2⟩ := hf1))
        go_meet
        case rel => exact ⟨rfl, HW.out⟩
      | false =>
        have ex : ptx s = s.extract 0 11 := if_neg (fun h => Bool.false_ne_true (hb.2 h))
        rw [ex] at hP
        clear hb ex
        go_wp2_with (first | (go_at_call 7; (with_reducible refine (hP.out _ HW.out).mono ?_); rintro e W1 ⟨rfl, hw1, hf1⟩; (have HW1 := Aside0.mk (hw1.put0 n)); clear HW hw1; (have HW := HW1); clear HW1; obtain ⟨fs, ft0, ft1, ft2, gt0, gt1, gt2, fr0, fr1, fr2, gr0, gr1, gr2⟩ := hf1))
        go_meet
        case rel => exact ⟨rfl, HW.out⟩
    case rest =>
    obtain ⟨rfl, hw⟩ := hcut
    clear HW fs ft0 ft1 ft2 gt0 gt1 gt2 fr0 fr1 fr2 gr0 gr1 gr2 hb b hP
    have HW := Aside0.mk hw
    clear hw
    obtain ⟨fs, ft0, ft1, ft2, gt0, gt1, gt2, fr0, fr1, fr2, gr0, gr1, gr2⟩ := HW.out.facts
    have l21 : 21 < s.size := by omega
    by_cases hm : ptMin s < 0
    · have hno : Aside0 (¬ ptOk s why) := ⟨fun h => by have := h.2.1; omega⟩
      have em : decide (m5 (two s 12 24) (two s 15 60) (two s 18 60) (two s 22 100) (two s 24 60) < 0) = true := by simpa [ptMin] using hm
      clear hm
      go_wp2_with (first | (go_at_call 35; (first | (with_reducible refine (two_pw s _ _ w _ _ _ _ HW.out (by omega) (by omega) (by omega) (by omega) (by omega)).mono ?_) | (with_reducible refine (two_pw s _ _ w _ _ _ _ (HW.out.put1 _) (by omega) (by omega) (by omega) (by omega) (by omega)).mono ?_)); rintro e W1 ⟨rfl, hw1, hf1⟩; clear HW; (have HW := Aside0.mk hw1); clear hw1; clear fs ft0 ft1 ft2 gt0 gt1 gt2 fr0 fr1 fr2 gr0 gr1 gr2; obtain ⟨fs, ft0, ft1, ft2, gt0, gt1, gt2, fr0, fr1, fr2, gr0, gr1, gr2⟩ := hf1))
      go_step3
      change 0 = 0 ∧ PJ w _ _ ∧ ¬ ptOk s why
      exact ⟨rfl, ⟨_, _, _, _, _, _, _, _, _, _, _, _, _, _, _, _, _, _, _, _, _, _, _, _, _, _, _, _, _, _, _, _, _, _, _, _, _, _, _, _, _, _, _, _, _, _, _, _, _, _, _, _, _, _, _, _, _, _, _, _, _, _, _, _, _, _, _, _, _, _, _, _, _, _, _, _, _, _, _, _, _, _, _, _, _, _, _, _, _, _, _, _, _, _, _, _, _, _, _, _, _, _, _, _, _, _, _, _, rfl, HW.out.2.1, HW.out.2.2.2⟩, hno.out⟩
    · have em : decide (m5 (two s 12 24) (two s 15 60) (two s 18 60) (two s 22 100) (two s 24 60) < 0) = false := by simpa [ptMin] using hm
      have Hm := Aside0.mk hm
      clear hm
      by_cases hw0 : why = 0
      · subst hw0
        have eR := Aside0.mk (hR1.out ⟨HS.out, by have := Hm.out; omega, rfl⟩)
        clear hR1 hR2 Hm
        have b1 := two_le s 12 24 (by omega)
        have b2 := two_le s 15 60 (by omega)
        have b3 := two_le s 18 60 (by omega)
        have b4 := two_le s 22 100 (by omega)
        have b5 := two_le s 24 60 (by omega)
        by_cases c45 : bt s 21 = 45
        · have f45 := at_eq l21 c45
          have ez := Aside0.mk (show ptZone s = -(60 * two s 22 100 + two s 24 60) from if_pos c45)
          clear c45
          go_wp2_with (first | (go_at_call 35; (first | (with_reducible refine (two_pw s _ _ w _ _ _ _ HW.out (by omega) (by omega) (by omega) (by omega) (by omega)).mono ?_) | (with_reducible refine (two_pw s _ _ w _ _ _ _ (HW.out.put1 _) (by omega) (by omega) (by omega) (by omega) (by omega)).mono ?_)); rintro e W1 ⟨rfl, hw1, hf1⟩; clear HW; (have HW := Aside0.mk hw1); clear hw1; clear fs ft0 ft1 ft2 gt0 gt1 gt2 fr0 fr1 fr2 gr0 gr1 gr2; obtain ⟨fs, ft0, ft1, ft2, gt0, gt1, gt2, fr0, fr1, fr2, gr0, gr1, gr2⟩ := hf1))
          obtain ⟨q0, q1, q2⟩ := blk3 ((HW.out.put2 (60 * two s 22 100 + two s 24 60)).put2 (-(60 * two s 22 100 + two s 24 60))).2.1 (.int .i64 n) (.int .i64 (3600 * two s 12 24 + 60 * two s 15 60 + two s 18 60)) (.int .i64 (-(60 * two s 22 100 + two s 24 60)))
          refine jump_ret ?_
          refine bodyPost_ret (v := .tuple #[.agg #[.int .i64 n, .int .i64 (3600 * two s 12 24 + 60 * two s 15 60 + two s 18 60), .int .i64 (-(60 * two s 22 100 + two s 24 60))], .int .i64 0]) (by simp [results, Tryz.results14, go_sem, q0, q1, q2]) rfl ⟨by rw [eR.out, ez.out]; rfl, ?_⟩
          have hb := HW.out.2.2.2
          repeat (first | exact hb | refine Below.setCell ?_ (by simp; try omega) _)
        · have f45 := at_ne l21 c45
          have ez := Aside0.mk (show ptZone s = 60 * two s 22 100 + two s 24 60 from if_neg c45)
          clear c45
          go_wp2_with (first | (go_at_call 35; (first | (with_reducible refine (two_pw s _ _ w _ _ _ _ HW.out (by omega) (by omega) (by omega) (by omega) (by omega)).mono ?_) | (with_reducible refine (two_pw s _ _ w _ _ _ _ (HW.out.put1 _) (by omega) (by omega) (by omega) (by omega) (by omega)).mono ?_)); rintro e W1 ⟨rfl, hw1, hf1⟩; clear HW; (have HW := Aside0.mk hw1); clear hw1; clear fs ft0 ft1 ft2 gt0 gt1 gt2 fr0 fr1 fr2 gr0 gr1 gr2; obtain ⟨fs, ft0, ft1, ft2, gt0, gt1, gt2, fr0, fr1, fr2, gr0, gr1, gr2⟩ := hf1))
          obtain ⟨q0, q1, q2⟩ := blk3 (HW.out.put2 (60 * two s 22 100 + two s 24 60)).2.1 (.int .i64 n) (.int .i64 (3600 * two s 12 24 + 60 * two s 15 60 + two s 18 60)) (.int .i64 (60 * two s 22 100 + two s 24 60))
          refine jump_ret ?_
          refine bodyPost_ret (v := .tuple #[.agg #[.int .i64 n, .int .i64 (3600 * two s 12 24 + 60 * two s 15 60 + two s 18 60), .int .i64 (60 * two s 22 100 + two s 24 60)], .int .i64 0]) (by simp [results, Tryz.results14, go_sem, q0, q1, q2]) rfl ⟨by rw [eR.out, ez.out]; rfl, ?_⟩
          have hb := HW.out.2.2.2
          repeat (first | exact hb | refine Below.setCell ?_ (by simp; try omega) _)
      · have ew : (why != 0) = true := by simpa using hw0
        have hno : Aside0 (¬ ptOk s why) := ⟨fun h => hw0 h.2.2⟩
        clear hw0
        go_wp2_with (first | (go_at_call 35; (first | (with_reducible refine (two_pw s _ _ w _ _ _ _ HW.out (by omega) (by omega) (by omega) (by omega) (by omega)).mono ?_) | (with_reducible refine (two_pw s _ _ w _ _ _ _ (HW.out.put1 _) (by omega) (by omega) (by omega) (by omega) (by omega)).mono ?_)); rintro e W1 ⟨rfl, hw1, hf1⟩; clear HW; (have HW := Aside0.mk hw1); clear hw1; clear fs ft0 ft1 ft2 gt0 gt1 gt2 fr0 fr1 fr2 gr0 gr1 gr2; obtain ⟨fs, ft0, ft1, ft2, gt0, gt1, gt2, fr0, fr1, fr2, gr0, gr1, gr2⟩ := hf1))
        go_step3
        change 0 = 0 ∧ PJ w _ _ ∧ ¬ ptOk s why
        exact ⟨rfl, ⟨_, _, _, _, _, _, _, _, _, _, _, _, _, _, _, _, _, _, _, _, _, _, _, _, _, _, _, _, _, _, _, _, _, _, _, _, _, _, _, _, _, _, _, _, _, _, _, _, _, _, _, _, _, _, _, _, _, _, _, _, _, _, _, _, _, _, _, _, _, _, _, _, _, _, _, _, _, _, _, _, _, _, _, _, _, _, _, _, _, _, _, _, _, _, _, _, _, _, _, _, _, _, _, _, _, _, _, _, rfl, HW.out.2.1, HW.out.2.2.2⟩, hno.out⟩
  · rintro a' w' ⟨⟨u0, u1, u3, u4, u5, u6, u7, u8, u9, u10, u11, u12, u13, u14, u15, u16, u17, u18, u19, u20, u21, u22, u23, u24, u25, u26, u27, u28, u29, u30, u31, u32, u33, u34, u35, u36, u37, u38, u39, u40, u41, u42, u43, u44, u45, u46, u47, u48, u49, u50, u51, u52, u53, u54, u55, u56, u57, u58, u59, u60, u61, u62, u63, u64, u65, u66, u67, u68, u69, u70, u71, u72, u73, u74, u75, u76, u77, u78, u79, u80, u81, u82, u83, u84, u85, u86, u87, u88, u89, u90, u91, u92, u93, u94, u95, u96, u97, u98, u99, u100, u101, u102, u103, u104, u105, x, y, z, rfl, hb3, hB⟩, hno⟩
    dsimp only
    have fr0 := blk_cell hb3 0
    have fr1 := blk_cell hb3 1
    have fr2 := blk_cell hb3 2
    have gr0 := blk_frozen hb3 0
    have gr1 := blk_frozen hb3 1
    have gr2 := blk_frozen hb3 2
    have eR := Aside0.mk (hR2.out hno)
    have HB := Aside0.mk hB
    have HQ := Aside0.mk (blk3 hb3 (.int .i64 0) (.int .i64 0) (.int .i64 0))
    clear hb3 hB hno hP hR1 hR2 HW k5
    go_wp2_with fail
    obtain ⟨q0, q1, q2⟩ := HQ.out
    refine jump_ret ?_
    refine bodyPost_ret (v := .tuple #[.agg #[.int .i64 0, .int .i64 0, .int .i64 0], .int .i64 7]) (by simp [results, Tryz.results14, go_sem, q0, q1, q2]) rfl ⟨by rw [eR.out], ?_⟩
    have hb := HB.out
    repeat (first | exact hb | refine Below.setCell ?_ (by simp; try omega) _)
instance instShape (s : ByteArray) : Decidable (shape s) := by unfold shape; infer_instance
instance instPtOk (s : ByteArray) (why : Int) : Decidable (ptOk s why) := by unfold ptOk; infer_instance
/-- what date.ParseTime answers: the day, the second, the zone, why not -/
def date_ParseTime.f (a0 : ByteArray) : Option (Int × Int × Int × Int) :=
  if a0.size ≤ 2000000 then
    if shape a0 then (date_Parse.f 60 (ptx a0)).bind fun r => if ptOk a0 r.2 then some (r.1, ptSec a0, ptZone a0, 0) else some (0, 0, 0, 7)
    else some (0, 0, 0, 7)
  else none
theorem date_ParseTime.calls (a0 : ByteArray) (v0 v1 v2 v3 : Int) (w : World) (hG : GlobOK w) (h : date_ParseTime.f a0 = some (v0, v1, v2, v3)) :
    Calls Tryz.prog 14 #[.string a0] w fun e w' => e = .returned (.tuple #[.agg #[.int .i64 v0, .int .i64 v1, .int .i64 v2], .int .i64 v3]) ∧ Below w.heap.size w w' := by
  unfold date_ParseTime.f at h
  by_cases h1 : a0.size ≤ 2000000
  · rw [if_pos h1] at h
    by_cases h2 : shape a0
    · rw [if_pos h2] at h
      cases hf : date_Parse.f 60 (ptx a0) with
      | none => rw [hf] at h; exact absurd h (by simp)
      | some r =>
        obtain ⟨n, why⟩ := r
        rw [hf] at h
        refine pt_all a0 w n why _ h1 ⟨?_⟩ ⟨?_⟩ ⟨?_⟩
        · exact fun _ W hW => parse_pw a0 _ w W n why hG hW hf
        · intro hk
          simp [hk] at h
          obtain ⟨rfl, rfl, rfl, rfl⟩ := h
          rfl
        · intro hk
          simp [hk] at h
          obtain ⟨rfl, rfl, rfl, rfl⟩ := h
          rfl
    · rw [if_neg h2] at h
      simp at h
      obtain ⟨rfl, rfl, rfl, rfl⟩ := h
      exact pt_all a0 w 0 0 _ h1 ⟨fun g => absurd g h2⟩ ⟨fun g => absurd g.1 h2⟩ ⟨fun _ => rfl⟩
  · rw [if_neg h1] at h
    exact absurd h (by simp)
end Go.Proofs.YtdpbaagpekhipaaGreatDoor

