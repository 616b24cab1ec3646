/- What the library's functions do that lex calls, as contracts. No condition. -/
import Derived.Test.YtnidaonmigjgkaaDoorBld
import Derived.Test.YtnidaonmigjgkaaDoorEvStd
import Derived.Test.YtnidaonmigjgkaaDoorShelf
import Derived.Shelf.Strings.SlTrimAscii
namespace Go.Proofs.YtnidaonmigjgkaaDoor.Ev
open Go Go.RowKit Go.Proofs
set_option linter.unusedVariables false
/-- the program's variables that nobody writes -/
def GG (m : Int) (t : TypeId) (fr : Nat × Nat) : GT where
  tab := fun g => match Nat.beq g 0 with
    | true => some [int m]
    | false => match Nat.beq g 1 || Nat.beq g 2 with
      | true => some [.iface 116 .junk]
      | false => none
  obj := fun g => match Nat.beq g 3 with
    | true => some (.cells ((Lib.pow10Tab.map fun z => Value.int .u64 z).toArray) t fr)
    | false => none
section
variable {m : Int} {t : TypeId} {fr : Nat × Nat}
theorem GG_maxLen : (GG m t fr).tab 0 = some [int m] := rfl
theorem GG_errS : (GG m t fr).tab 1 = some [.iface 116 .junk] := rfl
theorem GG_range : (GG m t fr).tab 2 = some [.iface 116 .junk] := rfl
def bs (l : List UInt8) : ByteArray := ⟨l.toArray⟩
def cutG : List PV → Tr PV
  | [.lit (.string s), .lit (.string p)] => .br (okS s) (.leaf (.lit (.tuple #[.string (bs (Lib.cut s.data.toList p.data.toList).1), .string (bs (Lib.cut s.data.toList p.data.toList).2.1), .bool (Lib.cut s.data.toList p.data.toList).2.2]))) .fail
  | _ => .fail
theorem cut_ok : PureOK Tryd.prog (GG m t fr) 30 cutG := by
  intro ps p hp
  unfold cutG at hp
  split at hp
  · rename_i s q
    obtain ⟨hs, hp⟩ := br_run hp
    simp only [Tr.run, Option.some.injEq] at hp
    subst hp
    refine PureAt.known (vs := [.string s, .string q]) fun w C hK hG hO => ?_
    refine (Tryd.strings_Cut s q m w (by have := okS_le hs; omega) (glob_cell hK hG GG_maxLen)).mono ?_
    rintro e w' ⟨rfl, n, rfl⟩
    exact ⟨rfl, Keeps.drewN n⟩
  · cases hp
def trimLeftG : List PV → Tr PV
  | [.lit (.string s), .lit (.string ⟨⟨[c]⟩⟩)] => .br (Nat.blt c.toNat 128) (.leaf (str (bs (Lib.trimLeftB s.data.toList c)))) .fail
  | _ => .fail
theorem trimLeft_ok : PureOK Tryd.prog (GG m t fr) 39 trimLeftG := by
  intro ps p hp
  unfold trimLeftG at hp
  split at hp
  · rename_i s c
    obtain ⟨hc, hp⟩ := br_run hp
    simp only [Tr.run, Option.some.injEq] at hp
    subst hp
    refine PureAt.known (vs := [.string s, .string ⟨⟨[c]⟩⟩]) fun w C hK hG hO => ?_
    refine (Tryd.strings_TrimLeft_one s c (by simpa [Nat.blt_eq] using hc) w).mono ?_
    rintro e w' ⟨rfl, rfl⟩
    exact ⟨rfl, Keeps.refl _ _⟩
  · cases hp
def trimG : List PV → Tr PV
  | [.lit (.string s), .lit (.string c)] => .br (okS s && okS c && c.data.toList.all fun b => decide (b.toNat < 128)) (.leaf (str (bs (Lib.trimS s.data.toList c.data.toList)))) .fail
  | _ => .fail
theorem trim_ok : PureOK Tryd.prog (GG m t fr) 34 trimG := by
  intro ps p hp
  unfold trimG at hp
  split at hp
  · rename_i s c
    obtain ⟨hc, hp⟩ := br_run hp
    simp only [Tr.run, Option.some.injEq] at hp
    subst hp
    simp only [Bool.and_eq_true] at hc
    refine PureAt.known (vs := [.string s, .string c]) fun w C hK hG hO => ?_
    refine (Any.strings_Trim_laid Tryd.lays160 (by kernel_rfl) s c w (by have := okS_le hc.1.1; omega) (by have := okS_le hc.1.2; omega) (ascii_of_all hc.2)).mono ?_
    rintro e w' ⟨rfl, hb⟩
    exact ⟨rfl, Keeps.of_below hb fun _ h => h⟩
  · cases hp
def cutSuffixG : List PV → Tr PV
  | [.lit (.string s), .lit (.string p)] => .br (okS s) (.leaf (.lit (.tuple #[.string (bs (Lib.trimSuffix s.data.toList p.data.toList)), .bool (Lib.hasSuffix s.data.toList p.data.toList)]))) .fail
  | _ => .fail
theorem cutSuffix_ok : PureOK Tryd.prog (GG m t fr) 17 cutSuffixG := by
  intro ps p hp
  unfold cutSuffixG at hp
  split at hp
  · rename_i s q
    obtain ⟨hs, hp⟩ := br_run hp
    simp only [Tr.run, Option.some.injEq] at hp
    subst hp
    refine PureAt.known (vs := [.string s, .string q]) fun w C hK hG hO => ?_
    refine (Tryd.strings_CutSuffix s q w (by have := okS_le hs; omega)).mono ?_
    rintro e w' ⟨rfl, rfl⟩
    exact ⟨rfl, Keeps.refl _ _⟩
  · cases hp
def trimSuffixG : List PV → Tr PV
  | [.lit (.string s), .lit (.string p)] => .br (okS s) (.leaf (str (bs (Lib.trimSuffix s.data.toList p.data.toList)))) .fail
  | _ => .fail
theorem trimSuffix_ok : PureOK Tryd.prog (GG m t fr) 18 trimSuffixG := by
  intro ps p hp
  unfold trimSuffixG at hp
  split at hp
  · rename_i s q
    obtain ⟨hs, hp⟩ := br_run hp
    simp only [Tr.run, Option.some.injEq] at hp
    subst hp
    refine PureAt.known (vs := [.string s, .string q]) fun w C hK hG hO => ?_
    refine (Tryd.strings_TrimSuffix s q w (by have := okS_le hs; omega)).mono ?_
    rintro e w' ⟨rfl, rfl⟩
    exact ⟨rfl, Keeps.refl _ _⟩
  · cases hp
def lastIndexG : List PV → Tr PV
  | [.lit (.string s), .lit (.int .u8 c)] => .br (okS s) (.leaf (int (Lib.lastIndexByte s c))) .fail
  | _ => .fail
theorem lastIndex_ok : PureOK Tryd.prog (GG m t fr) 19 lastIndexG := by
  intro ps p hp
  unfold lastIndexG at hp
  split at hp
  · rename_i s c
    obtain ⟨hs, hp⟩ := br_run hp
    simp only [Tr.run, Option.some.injEq] at hp
    subst hp
    refine PureAt.known (vs := [.string s, .int .u8 c]) fun w C hK hG hO => ?_
    refine (Tryd.strings_LastIndexByte s c (by have := okS_le hs; omega) w).mono ?_
    rintro e w' ⟨rfl, rfl⟩
    exact ⟨rfl, Keeps.refl _ _⟩
  · cases hp
def puOk (s : ByteArray) : Bool := match Lib.parseUintB 64 s.data.toList with
  | .ok _ => true
  | _ => false
def puVal (s : ByteArray) : Nat := match Lib.parseUintB 64 s.data.toList with
  | .ok u => u
  | .range => 18446744073709551615
  | _ => 0
def parseUintG : List PV → Tr PV
  | [.lit (.string s), .lit (.int .i64 b), .lit (.int .i64 k)] => match decide (b = 10) && decide (k = 64) with
    | true => .br (okS s) (.br (puOk s) (.leaf (.tup [.lit (.int .u64 (puVal s)), .lit .nilIface])) (.leaf (.tup [.lit (.int .u64 (puVal s)), .iface 88 .junk]))) .fail
    | false => .fail
  | _ => .fail
theorem parseUint_ok : PureOK Tryd.prog (GG m t fr) 35 parseUintG := by
  intro ps p hp
  unfold parseUintG at hp
  split at hp
  · rename_i s b k
    split at hp
    · rename_i hbk
      simp only [Bool.and_eq_true, decide_eq_true_eq] at hbk
      obtain ⟨rfl, rfl⟩ := hbk
      obtain ⟨hs, hp⟩ := br_run hp
      have hs := okS_le hs
      have bad : ∀ (u : Nat), puVal s = u → (∀ (w : World) (C : Nat → Nat → Value → Prop), Known C w → Globs (GG m t fr) C → Calls Tryd.prog 35 #[.string s, .int .i64 10, .int .i64 64] w fun e w' => ∃ N, e = .returned (.tuple #[.int .u64 u, .iface 88 (.pointer (some ⟨N, 0, none⟩))]) ∧ Below w.heap.size w w') →
          PureAt Tryd.prog (GG m t fr) 35 [str s, int 10, int 64] (.tup [.lit (.int .u64 (puVal s)), .iface 88 .junk]) := by
        intro u hu h
        refine PureAt.lits (vs := [.string s, .int .i64 10, .int .i64 64]) fun w C hK hG hO => (h w C hK hG).mono ?_
        rintro e w' ⟨N, rfl, hb⟩
        refine ⟨Keeps.of_below hb fun _ h => h, .tup _ _ _ rfl fun i p v hp hv => ?_⟩
        match i with
        | 0 =>
          simp at hp hv
          subst hp
          subst hv
          rw [hu]
          exact .lit _ _
        | 1 =>
          simp at hp hv
          subst hp
          subst hv
          exact .iface _ _ _ _ (.junk _ _)
        | i + 2 => simp at hp
      rcases hr : Lib.parseUintB 64 s.data.toList with u | _ | _
      · have h1 : puOk s = true := by unfold puOk; rw [hr]
        have h2 : puVal s = u := by unfold puVal; rw [hr]
        rw [h1] at hp
        simp only [Tr.run, cond_true, Option.some.injEq] at hp
        subst hp
        refine PureAt.lits (vs := [.string s, .int .i64 10, .int .i64 64]) fun w C hK hG hO => (Tryd.strconv_ParseUint_10_at64_ok s (by omega) u hr w).mono ?_
        rintro e w' ⟨rfl, hw⟩
        refine ⟨?_, .tup _ _ _ rfl fun i p v hp hv => ?_⟩
        · rcases hw with rfl | rfl
          · exact Keeps.refl _ _
          · exact Keeps.bytes _ _
        · match i with
          | 0 =>
            simp at hp hv
            subst hp
            subst hv
            rw [h2]
            exact .lit _ _
          | 1 =>
            simp at hp hv
            subst hp
            subst hv
            exact .lit _ _
          | i + 2 => simp at hp
      · have h1 : puOk s = false := by unfold puOk; rw [hr]
        have h2 : puVal s = 0 := by unfold puVal; rw [hr]
        rw [h1] at hp
        simp only [Tr.run, cond_false, Option.some.injEq] at hp
        subst hp
        refine bad 0 h2 fun w C hK hG => ?_
        obtain ⟨v, hv⟩ := glob_iface hK hG GG_errS
        refine (Any.strconv_ParseUint_10_at64_syntax Tryd.laysPu14 s (by omega) hr _ w hv (.inr ⟨_, _, rfl⟩)).mono ?_
        rintro e w' ⟨N, rfl, -, -, hb⟩
        exact ⟨N, rfl, hb⟩
      · have h1 : puOk s = false := by unfold puOk; rw [hr]
        have h2 : puVal s = 18446744073709551615 := by unfold puVal; rw [hr]
        rw [h1] at hp
        simp only [Tr.run, cond_false, Option.some.injEq] at hp
        subst hp
        refine bad _ h2 fun w C hK hG => ?_
        obtain ⟨v, hv⟩ := glob_iface hK hG GG_range
        refine (Any.strconv_ParseUint_10_at64_range Tryd.laysPu14 s (by omega) hr _ w hv (.inr ⟨_, _, rfl⟩)).mono ?_
        rintro e w' ⟨N, rfl, -, -, hb⟩
        exact ⟨N, rfl, hb⟩
    · cases hp
  · cases hp
def fmtIntG : List PV → Tr PV
  | [.lit (.int .i64 n), .lit (.int .i64 b)] => match decide (b = 10) with
    | true => .br (decide (-9223372036854775808 ≤ n) && decide (n ≤ 9223372036854775807)) (.leaf (str (bs (Lib.itoa n)))) .fail
    | false => .fail
  | _ => .fail
theorem fmtInt_ok : PureOK Tryd.prog (GG m t fr) 55 fmtIntG := by
  intro ps p hp
  unfold fmtIntG at hp
  split at hp
  · rename_i n b
    split at hp
    · rename_i hb
      simp only [decide_eq_true_eq] at hb
      subst hb
      obtain ⟨hn, hp⟩ := br_run hp
      simp only [Bool.and_eq_true, decide_eq_true_eq] at hn
      simp only [Tr.run, Option.some.injEq] at hp
      subst hp
      refine PureAt.known (vs := [.int .i64 n, .int .i64 10]) fun w C hK hG hO => ?_
      have hobj := hO 3 _ rfl
      have htab : Lib.TabIs Tryd.prog w "internal/strconv.uint64pow10" .u64 Lib.pow10Tab := by
        unfold Lib.TabIs World.var?
        have hg : Tryd.prog.globalNamed "internal/strconv.uint64pow10" = some 3 := by kernel_rfl
        rw [hg]
        dsimp only [Option.bind]
        rw [hobj]
      refine (Tryd.internal_strconv_FormatInt_10 n hn.1 hn.2 w htab).mono ?_
      rintro e w' ⟨rfl, k, os, rfl⟩
      exact ⟨rfl, (Keeps.drewN k).grow os⟩
    · cases hp
  · cases hp
end
def libPure : List (Nat × (List PV → Tr PV)) := [(30, cutG), (39, trimLeftG), (34, trimG), (17, cutSuffixG), (18, trimSuffixG), (19, lastIndexG), (35, parseUintG), (55, fmtIntG)]
def libFull : List (Nat × (List PV → Mem → Tr (PV × Mem))) := [(38, checkG 51), (25, sayG 51 5)]
theorem mixed : (Tryd.prog).follows .mixedOrders = true := by kernel_rfl
theorem libPure_ok {m : Int} {t : TypeId} {fr : Nat × Nat} : TabOK Tryd.prog (GG m t fr) libPure := by
  intro f g hm
  simp only [libPure, List.mem_cons, List.not_mem_nil, or_false, Prod.mk.injEq] at hm
  rcases hm with ⟨rfl, rfl⟩ | ⟨rfl, rfl⟩ | ⟨rfl, rfl⟩ | ⟨rfl, rfl⟩ | ⟨rfl, rfl⟩ | ⟨rfl, rfl⟩ | ⟨rfl, rfl⟩ | ⟨rfl, rfl⟩
  · exact ⟨cut_ok, enters_of (fn := Tryd.f30) (by kernel_rfl) (by kernel_rfl)⟩
  · exact ⟨trimLeft_ok, enters_of (fn := Tryd.f39) (by kernel_rfl) (by kernel_rfl)⟩
  · exact ⟨trim_ok, enters_of (fn := Tryd.f34) (by kernel_rfl) (by kernel_rfl)⟩
  · exact ⟨cutSuffix_ok, enters_of (fn := Tryd.f17) (by kernel_rfl) (by kernel_rfl)⟩
  · exact ⟨trimSuffix_ok, enters_of (fn := Tryd.f18) (by kernel_rfl) (by kernel_rfl)⟩
  · exact ⟨lastIndex_ok, enters_of (fn := Tryd.f19) (by kernel_rfl) (by kernel_rfl)⟩
  · exact ⟨parseUint_ok, enters_of (fn := Tryd.f35) (by kernel_rfl) (by kernel_rfl)⟩
  · exact ⟨fmtInt_ok, enters_of (fn := Tryd.f55) (by kernel_rfl) (by kernel_rfl)⟩
theorem bextra : Builder.Extra Tryd.prog Tryd.lays169_ren := Tryd.Builder_Extra_169
theorem libFull_ok {G : GT} : FullOK Tryd.prog G libFull := by
  intro f g hm
  simp only [libFull, List.mem_cons, List.not_mem_nil, or_false, Prod.mk.injEq] at hm
  rcases hm with ⟨rfl, rfl⟩ | ⟨rfl, rfl⟩
  · exact ⟨check_ok copyCheck_calls G, enters_of (fn := Tryd.f38) (by kernel_rfl) (by kernel_rfl)⟩
  · exact ⟨say_ok Tryd.lays169 bextra G, enters_of (fn := Tryd.f25) (by kernel_rfl) (by kernel_rfl)⟩
end Go.Proofs.YtnidaonmigjgkaaDoor.Ev
