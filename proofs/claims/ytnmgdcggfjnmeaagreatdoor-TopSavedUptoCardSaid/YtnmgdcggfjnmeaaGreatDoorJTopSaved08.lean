/- JTopSaved08: several texts in one. Condition: each part's own. -/
import Derived.Test.YtnmgdcggfjnmeaaGreatDoorJTopSaved07
import Derived.Test.YtnmgdcggfjnmeaaGreatDoorShelf
import Derived.Lib.AppendIntMem
import Derived.Lib.Split
import Derived.WalkKit
import Derived.BigCall
import Derived.BigGuard
/- What the library's functions do that nset calls, as contracts. No condition. -/
namespace Go.Proofs.YtnmgdcggfjnmeaaGreatDoor.Ev
open Go Go.RowKit Go.Proofs Go.Sort Go.Lib
set_option linter.unusedVariables false
/-- the program's variables that nobody writes -/
def GG (m : Int) (t : TypeId) (fr : Nat × Nat) : GT where
  tab := fun g => match Nat.beq g 0 with
    | true => some [int m]
    | false => match Nat.beq g 4 || Nat.beq g 5 with
      | true => some [.iface 147 .junk]
      | false => gxTab g
  obj := fun g => match Nat.beq g 1 with
    | true => some (.cells ((Lib.pow10Tab.map fun z => Value.int .u64 z).toArray) t fr)
    | false => none
theorem mixed : (Tryz.prog).follows .mixedOrders = true := by kernel_rfl
section
variable {m : Int} {t : TypeId} {fr : Nat × Nat}
theorem GG_maxLen : (GG m t fr).tab 0 = some [int m] := rfl
theorem GG_errS : (GG m t fr).tab 4 = some [.iface 147 .junk] := rfl
theorem GG_range : (GG m t fr).tab 5 = some [.iface 147 .junk] := rfl
def cutG : List PV → Tr PV
  | [.lit (.string s), .lit (.string p)] => .br (okS s) (.leaf (.lit (.tuple #[.string (bs (Lib.cut s.data.toList p.data.toList).1), .string (bs (Lib.cut s.data.toList p.data.toList).2.1), .bool (Lib.cut s.data.toList p.data.toList).2.2]))) .fail
  | _ => .fail
theorem cut_ok : PureOK Tryz.prog (GG m t fr) 30 cutG := by
  intro ps p hp
  unfold cutG at hp
  split at hp
  · rename_i s q
    obtain ⟨hs, hp⟩ := br_run hp
    simp only [Tr.run, Option.some.injEq] at hp
    subst hp
    refine PureAt.known (vs := [.string s, .string q]) fun w C hK hG hO => ?_
    refine (Tryz.strings_Cut s q m w (by have := okS_le hs; omega) (glob_cell hK hG GG_maxLen)).mono ?_
    rintro e w' ⟨rfl, n, rfl⟩
    exact ⟨rfl, Keeps.drewN n⟩
  · cases hp
def puOk (s : ByteArray) : Bool := match Lib.parseUintB 32 s.data.toList with
  | .ok _ => true
  | _ => false
def puVal (s : ByteArray) : Nat := match Lib.parseUintB 32 s.data.toList with
  | .ok u => u
  | .range => 4294967295
  | _ => 0
def parseUintG : List PV → Tr PV
  | [.lit (.string s), .lit (.int .i64 b), .lit (.int .i64 k)] => match decide (b = 10) && decide (k = 32) with
    | true => .br (okS s) (.br (puOk s) (.leaf (.tup [.lit (.int .u64 (puVal s)), .lit .nilIface])) (.leaf (.tup [.lit (.int .u64 (puVal s)), .iface 127 .junk]))) .fail
    | false => .fail
  | _ => .fail
theorem parseUint_ok : PureOK Tryz.prog (GG m t fr) 48 parseUintG := by
  intro ps p hp
  unfold parseUintG at hp
  split at hp
  · rename_i s b k
    split at hp
    · rename_i hbk
      simp only [Bool.and_eq_true, decide_eq_true_eq] at hbk
      obtain ⟨rfl, rfl⟩ := hbk
      obtain ⟨hs, hp⟩ := br_run hp
      have hs := okS_le hs
      have bad : ∀ (u : Nat), puVal s = u → (∀ (w : World) (C : Nat → Nat → Value → Prop), Known C w → Globs (GG m t fr) C → Calls Tryz.prog 48 #[.string s, .int .i64 10, .int .i64 32] w fun e w' => ∃ N, e = .returned (.tuple #[.int .u64 u, .iface 127 (.pointer (some ⟨N, 0, none⟩))]) ∧ Below w.heap.size w w') →
          PureAt Tryz.prog (GG m t fr) 48 [str s, int 10, int 32] (.tup [.lit (.int .u64 (puVal s)), .iface 127 .junk]) := by
        intro u hu h
        refine PureAt.lits (vs := [.string s, .int .i64 10, .int .i64 32]) fun w C hK hG hO => (h w C hK hG).mono ?_
        rintro e w' ⟨N, rfl, hb⟩
        refine ⟨Keeps.of_below hb fun _ h => h, .tup _ _ _ rfl fun i p v hp hv => ?_⟩
        match i with
        | 0 =>
          simp at hp hv
          subst hp
          subst hv
          rw [hu]
          exact .lit _ _
        | 1 =>
          simp at hp hv
          subst hp
          subst hv
          exact .iface _ _ _ _ (.junk _ _)
        | i + 2 => simp at hp
      rcases hr : Lib.parseUintB 32 s.data.toList with u | _ | _
      · have h1 : puOk s = true := by unfold puOk; rw [hr]
        have h2 : puVal s = u := by unfold puVal; rw [hr]
        rw [h1] at hp
        simp only [Tr.run, cond_true, Option.some.injEq] at hp
        subst hp
        refine PureAt.lits (vs := [.string s, .int .i64 10, .int .i64 32]) fun w C hK hG hO => (Tryz.strconv_ParseUint_10_at32_ok s (by omega) u hr w).mono ?_
        rintro e w' ⟨rfl, hw⟩
        refine ⟨?_, .tup _ _ _ rfl fun i p v hp hv => ?_⟩
        · rcases hw with rfl | rfl
          · exact Keeps.refl _ _
          · exact Keeps.bytes _ _
        · match i with
          | 0 =>
            simp at hp hv
            subst hp
            subst hv
            rw [h2]
            exact .lit _ _
          | 1 =>
            simp at hp hv
            subst hp
            subst hv
            exact .lit _ _
          | i + 2 => simp at hp
      · have h1 : puOk s = false := by unfold puOk; rw [hr]
        have h2 : puVal s = 0 := by unfold puVal; rw [hr]
        rw [h1] at hp
        simp only [Tr.run, cond_false, Option.some.injEq] at hp
        subst hp
        refine bad 0 h2 fun w C hK hG => ?_
        obtain ⟨v, hv⟩ := glob_iface hK hG GG_errS
        refine (Any.strconv_ParseUint_10_at32_syntax Tryz.laysPu14 s (by omega) hr _ w hv (.inr ⟨_, _, rfl⟩)).mono ?_
        rintro e w' ⟨N, rfl, -, -, hb⟩
        exact ⟨N, rfl, hb⟩
      · have h1 : puOk s = false := by unfold puOk; rw [hr]
        have h2 : puVal s = 4294967295 := by unfold puVal; rw [hr]
        rw [h1] at hp
        simp only [Tr.run, cond_false, Option.some.injEq] at hp
        subst hp
        refine bad _ h2 fun w C hK hG => ?_
        obtain ⟨v, hv⟩ := glob_iface hK hG GG_range
        refine (Any.strconv_ParseUint_10_at32_range Tryz.laysPu14 s (by omega) hr _ w hv (.inr ⟨_, _, rfl⟩)).mono ?_
        rintro e w' ⟨N, rfl, -, -, hb⟩
        exact ⟨N, rfl, hb⟩
    · cases hp
  · cases hp
/-! ### a number's text -/
theorem fmtUint_calls (u : Nat) (hu64 : u < 18446744073709551616) (w : World) (htab : Lib.TabIs Tryz.prog w "internal/strconv.uint64pow10" .u64 Lib.pow10Tab) :
    Calls Tryz.prog 51 #[.int .u64 u, .int .i64 10] w fun e w' => e = .returned (.string ⟨(Lib.decDigits u).toArray⟩) ∧ ∃ k os, w' = grow (w.drewN k) os := by
  by_cases hs : u < 100
  · go_enter Tryz.func51, Tryz.ntmps51
    go_wp2_with (go_at_call 65; refine (Tryz.internal_strconv_small u hs _).mono ?_; rintro e w' ⟨rfl, rfl⟩)
    go_ret
    exact ⟨rfl, 0, #[], by simp [World.drewN_zero]⟩
  · have hu1 : 1 ≤ u := by omega
    have hnd20 : Lib.nDigits u ≤ 20 := by have := Lib.numDigits_eq u hu1 hu64; split at this <;> omega
    have hb3 : Lib.nDigits u ≤ 24 := by omega
    have hal : (Tryz.prog).arrayLen 115 = 24 := by kernel_rfl
    have hsl1 : ∀ W, (Instr.sliceAt 115 (.pointer (some ⟨w.heap.size, 0, none⟩)) none (some (.int .i64 (Lib.nDigits u : Int))) none).run Tryz.prog W = .ok (.slice (some ⟨w.heap.size, 0, none⟩) (Lib.nDigits u) 24) W := fun W => by
      rw [run_sliceAt_array_h W 115 ⟨w.heap.size, 0, none⟩ (by kernel_rfl) .i64 (Lib.nDigits u : Int) (by omega) (by rw [hal]; omega)]
      go_simp
    have hH0 := Lib.holds_zero0 w 115 (Lib.nDigits u) (by omega)
    have hfmt := Tryz.internal_strconv_formatBase10 w.heap.size 0 24 u (Array.replicate (Lib.nDigits u) 0) (w.alloc (.cells Lib.zeros24 115)) hH0 (by rw [Array.size_replicate]; exact Lib.lt_pow_nDigits u) hu64 (by rw [Array.size_replicate]; omega)
    rw [Array.size_replicate] at hfmt
    have HH0 := Lib.hid hH0
    clear hH0 hal
    go_enter Tryz.func51, Tryz.ntmps51
    go_wp2_with (first
      | (go_at_call 66; refine (Tryz.internal_strconv_numDigits u hu1 hu64 _ (Lib.tabIs_alloc htab _)).mono ?_; rintro e w' ⟨rfl, rfl⟩))
    go_at_call 67
    refine hfmt.mono ?_
    rintro e w' ⟨rfl, k, v', dk, rfl, hF⟩
    have hcv : (convert 78 9 (.slice (some ⟨w.heap.size, 0, none⟩) (Lib.nDigits u) 24)).run Tryz.prog ((putRow (fun (b : UInt8) => Value.int .u8 (b.toNat : Int)) (w.alloc (.cells Lib.zeros24 115)) w.heap.size 0 dk).drewN k) = .ok (.string ⟨(Lib.decDigits u).toArray⟩) ((putRow (fun (b : UInt8) => Value.int .u8 (b.toNat : Int)) (w.alloc (.cells Lib.zeros24 115)) w.heap.size 0 dk).drewN k) := by
      have h := run_convert_bytes_back (P := Tryz.prog) ((putRow (fun (b : UInt8) => Value.int .u8 (b.toNat : Int)) (w.alloc (.cells Lib.zeros24 115)) w.heap.size 0 dk).drewN k) 78 9 5 ⟨w.heap.size, 0, none⟩ 24 (Lib.decDigits u) (by kernel_rfl) (by kernel_rfl) (by kernel_rfl) (fun j hj => by
        rw [Lib.row_is_numeral hF j hj, Lib.add_plain, World.cell?_drewN]
        exact cell?_putRow (fun (b : UInt8) => Value.int .u8 (b.toNat : Int)) _ w.heap.size 0 _ dk HH0.out (by rw [hF.size, Array.size_replicate]) j (by rw [hF.size]; rw [Lib.decDigits_length] at hj; exact hj))
      rw [Lib.decDigits_length] at h
      exact h
    go_wp2
    go_ret
    obtain ⟨os, eo⟩ := Lib.fin_at w (.cells Lib.zeros24 115) dk k 0
    exact ⟨rfl, k, os, eo⟩
def fmtUintG : List PV → Tr PV
  | [.lit (.int .u64 n), .lit (.int .i64 b)] => match decide (b = 10) with
    | true => .br (decide (0 ≤ n) && decide (n < 18446744073709551616)) (.leaf (str (bs (Lib.decDigits n.toNat)))) .fail
    | false => .fail
  | _ => .fail
theorem fmtUint_ok : PureOK Tryz.prog (GG m t fr) 51 fmtUintG := by
  intro ps p hp
  unfold fmtUintG at hp
  split at hp
  · rename_i n b
    split at hp
    · rename_i hb
      simp only [decide_eq_true_eq] at hb
      subst hb
      obtain ⟨hn, hp⟩ := br_run hp
      simp only [Bool.and_eq_true, decide_eq_true_eq] at hn
      simp only [Tr.run, Option.some.injEq] at hp
      subst hp
      obtain ⟨u, rfl⟩ : ∃ u : Nat, n = u := ⟨n.toNat, by omega⟩
      refine PureAt.known (vs := [.int .u64 u, .int .i64 10]) fun w C hK hG hO => ?_
      have hobj := hO 1 _ rfl
      have htab : Lib.TabIs Tryz.prog w "internal/strconv.uint64pow10" .u64 Lib.pow10Tab := by
        unfold Lib.TabIs World.var?
        have hg : Tryz.prog.globalNamed "internal/strconv.uint64pow10" = some 1 := by kernel_rfl
        rw [hg]
        dsimp only [Option.bind]
        rw [hobj]
      refine (fmtUint_calls u (by omega) w htab).mono ?_
      rintro e w' ⟨rfl, k, os, rfl⟩
      refine ⟨by rw [Int.toNat_natCast]; rfl, (Keeps.drewN k).grow os⟩
    · cases hp
  · cases hp
/-! ### texts put together -/
def strOf : List PV → ByteArray
  | [.lit (.string s)] => s
  | _ => .empty
def isStr : List PV → Bool
  | [.lit (.string _)] => true
  | _ => false
def strsOf (n : Nat) (f : Nat → List PV) : List ByteArray := (List.range n).map fun i => strOf (f i)
def areStrs (n : Nat) (f : Nat → List PV) : Bool := (List.range n).all fun i => isStr (f i)
theorem isStr_eq {l : List PV} (h : isStr l = true) : l = [.lit (.string (strOf l))] := by
  unfold isStr at h
  split at h
  · rfl
  · cases h
def joinS (l : List ByteArray) (p : ByteArray) : List UInt8 := Lib.join (l.map (·.data.toList)) p.data.toList
def joinG : List PV → Tr PV
  | [.gsl 1 n f, .lit (.string p)] => .br (areStrs n f && Nat.ble n 4294967280 && Nat.ble (joinS (strsOf n f) p).length 4294967280) (.leaf (str (bs (joinS (strsOf n f) p)))) .fail
  | _ => .fail
theorem join_ok : PureOK Tryz.prog (GG m t fr) 17 joinG := by
  intro ps p hp
  unfold joinG at hp
  split at hp
  · rename_i n f q
    obtain ⟨hn, hp⟩ := br_run hp
    simp only [Bool.and_eq_true, Nat.ble_eq] at hn
    obtain ⟨⟨hs, hn⟩, hlen⟩ := hn
    simp only [Tr.run, Option.some.injEq] at hp
    subst hp
    intro w C hK hG hO args hr
    obtain ⟨hsz, hr⟩ := hr
    match args, hsz with
    | ⟨[v0, v1]⟩, _ =>
      have h0 := hr 0 _ v0 rfl rfl
      have h1 := hr 1 _ v1 rfl rfl
      cases h1
      have empty : ∀ (a : Option Addr) (c : Nat), n = 0 → Calls Tryz.prog 17 #[.slice a 0 c, .string q] w fun
          | .returned v, w' => Keeps (· < w.heap.size) w w' ∧ Rep (Grown C w w') (fun _ => none) (str (bs (joinS (strsOf n f) q))) v
          | _, _ => False := by
        intro a c h
        subst h
        refine (Tryz.strings_Join_none a c q w).mono ?_
        rintro e w' ⟨rfl, rfl⟩
        exact ⟨Keeps.refl _ _, .lit _ _⟩
      cases h0 with
      | gnil => exact empty _ _ rfl
      | gsl _ _ _ _ b o cap g hc hl h hcap =>
        rcases Nat.eq_zero_or_pos n with h0 | hpos
        · subst h0
          exact empty _ _ rfl
        · have hlen' : (strsOf n f).length = n := by simp [strsOf]
          have hcell : ∀ (j : Nat) (x : ByteArray), (strsOf n f)[j]? = some x → w.cell? ⟨b, o + j, none⟩ = some (.string x) := by
            intro j x hj
            have hjn : j < n := by
              have := (List.getElem?_eq_some_iff.1 hj).1
              omega
            have hx : strOf (f j) = x := by simpa [strsOf, hjn] using hj
            have hf := isStr_eq (List.all_eq_true.1 hs j (List.mem_range.2 hjn))
            have hg := h j 0 (.lit (.string x)) hjn (by rw [hf, hx]; rfl)
            have hk := hK _ _ _ (hc j 0 hjn (by omega)).1
            cases hg' : g j 0 with
            | string y =>
              rw [hg'] at hg hk
              cases hg
              simpa using hk
            | _ => rw [hg'] at hg; cases hg
          have hb : b < w.heap.size := by
            have h0' := hK _ _ _ (hc 0 0 hpos (by omega)).1
            unfold World.cell? at h0'
            split at h0'
            · rename_i hh
              exact (Array.getElem?_eq_some_iff.1 hh).1
            · cases h0'
          have := Tryz.strings_Join b o cap (strsOf n f) q w hcell hb (by omega) (by omega) (by unfold joinS at hlen; omega)
          rw [hlen'] at this
          refine this.mono ?_
          rintro e w' ⟨rfl, hb⟩
          exact ⟨Keeps.of_below hb fun _ h => h, .lit _ _⟩
  · cases hp
def joinNG : List PV → Tr PV
  | [.gsl 1 n f, .lit (.string p)] => .br (areStrs n f && Nat.ble n 4294967280 && Nat.ble (joinS (strsOf n f) p).length 4294967280) (.leaf (str (bs (joinS (strsOf n f) p)))) .fail
  | [.lit (.slice none 0 0), .lit (.string p)] => .leaf (str ⟨#[]⟩)
  | _ => .fail
theorem joinN_ok : PureOK Tryz.prog (GG m t fr) 17 joinNG := by
  intro ps p hp
  unfold joinNG at hp
  split at hp
  · exact join_ok _ _ hp
  · simp only [Tr.run, Option.some.injEq] at hp
    subst hp
    exact (join_ok [.gsl 1 0 (fun _ => []), .lit (.string _)] (str ⟨#[]⟩) rfl).pre (PLeL.cons (PLe.nil 1 _) (.refl _))
  · cases hp
def pieces (s p : ByteArray) (i : Nat) : ByteArray := (Lib.splitB p 0 (Lib.countB s p) s).getD i .empty
def spR (s p : ByteArray) (i : Nat) : List PV := [.lit (.string (pieces s p i))]
def splitG : List PV → Tr PV
  | [.lit (.string s), .lit (.string p)] => .br (okS s && Nat.ble 1 p.size) (.leaf (.gsl 1 (Lib.countB s p + 1) (spR s p))) .fail
  | _ => .fail
end
def libPure : List (Nat × (List PV → Tr PV)) := (30, cutG) :: (48, parseUintG) :: (51, fmtUintG) :: (17, joinNG) :: []
theorem libPure_ok {m : Int} {t : TypeId} {fr : Nat × Nat} : TabOK Tryz.prog (GG m t fr) libPure := (TabOK.cons cut_ok (fn := Tryz.f30) (by kernel_rfl) (by kernel_rfl) (TabOK.cons parseUint_ok (fn := Tryz.f48) (by kernel_rfl) (by kernel_rfl) (TabOK.cons fmtUint_ok (fn := Tryz.f51) (by kernel_rfl) (by kernel_rfl) (TabOK.cons joinN_ok (fn := Tryz.f17) (by kernel_rfl) (by kernel_rfl) (fun f g h => by cases h)))))
def libFull : List (Nat × (List PV → Mem → Tr (PV × Mem))) := []
theorem libFull_ok {m : Int} {t : TypeId} {fr : Nat × Nat} : FullOK Tryz.prog (GG m t fr) libFull := (fun f g h => by cases h)
end Go.Proofs.YtnmgdcggfjnmeaaGreatDoor.Ev
