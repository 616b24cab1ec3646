/- JTopTallied19: several texts in one. Condition: each part's own. -/
import Derived.Test.YtcdghinmmhcfcaaGreatDoorJTopTallied18
/- head.Like: texts that are one but for great letters. No condition. -/
namespace Go.Proofs.YtcdghinmmhcfcaaGreatDoor.Ev
open Go Go.RowKit Go.Proofs Go.Proofs.YtcdghinmmhcfcaaGreatDoor.Str
set_option linter.unusedVariables false
set_option linter.unusedSimpArgs false
theorem drop_at {l : List UInt8} {i : Nat} {c : UInt8} {r : List UInt8} (h : l.drop i = c :: r) : i < l.length ∧ l.getD i 0 = c ∧ l.drop (i + 1) = r := by
  have hlt : i < l.length := by
    rcases Nat.lt_or_ge i l.length with h' | h'
    · exact h'
    · rw [List.drop_eq_nil_of_le h'] at h
      cases h
  rw [List.drop_eq_getElem_cons hlt] at h
  simp only [List.cons.injEq] at h
  exact ⟨hlt, by rw [← h.1]; simp [hlt], h.2⟩
section
variable {m : Int} {t : TypeId} {fr : Nat × Nat}
def tiPure : List (Nat × (List PV → Tr PV)) := (8, twriteG) :: tfPure
theorem tiPure_ok {m : Int} {t : TypeId} {fr : Nat × Nat} : TabOK Tryz.prog (GG m t fr) tiPure := (TabOK.cons twrite_ok (fn := Tryz.f8) (by kernel_rfl) (by kernel_rfl) tfPure_ok)
noncomputable abbrev E17 (G : GT) : Env := envOf Tryz.prog G tiPure teFull
theorem E17_ok : (E17 (GG m t fr)).ok Tryz.prog (GG m t fr) := envOf_ok mixed tiPure_ok teFull_ok
theorem hsmall_raw (m : Int) (t : TypeId) (fr : Nat × Nat) (x : Int) : (fnPure Tryz.prog ((E17 (GG m t fr)).withCuts (mrg [(1, none)] noCuts)) 60 Tryz.f68 (GG m t fr) [.lit (.int .u8 x)]).run2 =
 (bif (bif (decide (x ≥ (65 : Int))) then (decide (x ≤ (90 : Int))) else false) then
 (.some ((.lit (.int .u8 (IntKind.wrap .u8 (x + (32 : Int))))), [true, (bif (decide (x ≥ (65 : Int))) then true else true)]))
 else (.some ((.lit (.int .u8 x)), [true, (bif (decide (x ≥ (65 : Int))) then true else true)])) : Option (PV × List Bool)) := by
  kernel_rfl
def smI (x : Int) : Int := bif decide (x ≥ 65) && decide (x ≤ 90) then IntKind.u8.wrap (x + 32) else x
def hsmallG : List PV → Tr PV
  | [.lit (.int .u8 x)] => .leaf (.lit (.int .u8 (smI x)))
  | _ => .fail
theorem hsmall_ok : PureOK Tryz.prog (GG m t fr) 68 hsmallG := by
  refine PureOK.of (fn_mrg mixed E17_ok (rs := [(1, none)]) (fn := Tryz.f68) (by kernel_rfl) (by kernel_rfl)) fun ps p hp => ?_
  unfold hsmallG at hp
  split at hp
  · rename_i x
    simp only [Tr.run, Option.some.injEq] at hp
    subst hp
    have h := hsmall_raw m t fr x
    unfold smI
    cases a : decide (x ≥ 65) <;> cases b : decide (x ≤ 90) <;> simp only [a, b] at h ⊢ <;> exact ⟨_, Tr.run_of h rfl, PLe.of_eq rfl⟩
  · cases hp
def tjPure : List (Nat × (List PV → Tr PV)) := (68, hsmallG) :: tiPure
theorem tjPure_ok {m : Int} {t : TypeId} {fr : Nat × Nat} : TabOK Tryz.prog (GG m t fr) tjPure := (TabOK.cons hsmall_ok (fn := Tryz.f68) (by kernel_rfl) (by kernel_rfl) tiPure_ok)
noncomputable abbrev E18 (G : GT) : Env := envOf Tryz.prog G tjPure teFull
theorem E18_ok : (E18 (GG m t fr)).ok Tryz.prog (GG m t fr) := envOf_ok mixed tjPure_ok teFull_ok
def lkOuts : Exit → Outs
  | .normal => { ks := [0, 1, 12, 13] }
  | .exit _ => { ks := [] }
  | _ => { ks := [4] }
noncomputable abbrev lkRound (G : GT) := roundT Tryz.prog (E18 G) 60 G 26 lkOuts .normal (theLoop 0 Tryz.f40)
theorem lk_round (m : Int) (t : TypeId) (fr : Nat × Nat) (a b : ByteArray) (u i : Int) : (lkRound (GG m t fr) ([str a, str b, int u, int i], [])).run2 =
 (bif (decide (i < u)) then
 bif (bne (smI (((UInt8.toNat (Array.getD (ByteArray.data a) (Int.toNat i) (0 : UInt8))) : Nat) : Int)) (smI (((UInt8.toNat (Array.getD (ByteArray.data b) (Int.toNat i) (0 : UInt8))) : Nat) : Int))) then
 (.some ((.ret, ([(.lit (.bool false))], [])), [((decide ((0 : Int) ≤ i)) && (Nat.blt (Int.toNat i) (List.length (ls b)))), ((decide ((0 : Int) ≤ i)) && (Nat.blt (Int.toNat i) (List.length (ls a))))]))
 else (.some ((.normal, ([(.lit (.string a)), (.lit (.string b)), (.lit (.int .i64 u)), (.lit (.int .i64 (IntKind.wrap .i64 (i + (1 : Int)))))], [])), [((decide ((0 : Int) ≤ i)) && (Nat.blt (Int.toNat i) (List.length (ls b)))), ((decide ((0 : Int) ≤ i)) && (Nat.blt (Int.toNat i) (List.length (ls a))))]))
 else (.some (((.exit 0), ([], [])), [])) : Option ((Exit × Kept) × List Bool)) := by
  kernel_rfl
def lowI (c : UInt8) : Int := smI ((c.toNat : Nat) : Int)
def lowL (l : List UInt8) : List Int := l.map lowI
def lkEnd (a b : List UInt8) : Exit × Kept := bif decide (lowL a = lowL b) then (.exit 0, ([], [])) else (.ret, ([bool false], []))
theorem lk_LR (a b : List UInt8) (hl : a.length = b.length) (hn : a.length ≤ 4294967280) : ∀ (s s' : List UInt8) (i : Nat), a.drop i = s → b.drop i = s' → i ≤ a.length →
    LR Tryz.prog (E18 (GG m t fr)) 60 (GG m t fr) 26 lkOuts .normal (theLoop 0 Tryz.f40) ([str (bs a), str (bs b), int (a.length : Nat), int i], []) (lkEnd s s').1 (lkEnd s s').2
  | [], s', i, ha, hb, hi => by
    have h := lk_round m t fr (bs a) (bs b) a.length i
    have hlen := List.drop_eq_nil_iff.1 ha
    have hs : s' = [] := by rw [← hb]; exact List.drop_eq_nil_of_le (by omega)
    subst hs
    have hd : decide ((i : Int) < (a.length : Int)) = false := by simp; omega
    rw [hd] at h
    exact .last (Tr.run_of h rfl) (by simp [lkEnd, lowL]) (by simp [lkEnd, lowL])
  | x :: s, [], i, ha, hb, hi => by
    exfalso
    have h1 := List.drop_eq_nil_iff.1 hb
    have h2 : a.drop i = [] := List.drop_eq_nil_of_le (by omega)
    rw [h2] at ha
    cases ha
  | x :: s, y :: s', i, ha, hb, hi => by
    have h := lk_round m t fr (bs a) (bs b) a.length i
    obtain ⟨h1, h2, h3⟩ := drop_at ha
    obtain ⟨k1, k2, k3⟩ := drop_at hb
    have hd : decide ((i : Int) < (a.length : Int)) = true := by simp; omega
    have hw : IntKind.i64.wrap ((i : Int) + 1) = ((i + 1 : Nat) : Int) := wrap_succ (by omega)
    have b1 : Nat.blt i a.length = true := by rw [Nat.blt_eq]; exact h1
    have b2 : Nat.blt i b.length = true := by rw [Nat.blt_eq]; omega
    have b3 : decide ((0 : Int) ≤ (i : Int)) = true := by simp
    rw [hd, hw, Int.toNat_natCast, getD_ls, getD_ls, ls_bs, ls_bs, h2, k2, b1, b2, b3] at h
    have e : decide (lowL (x :: s) = lowL (y :: s')) = (decide (lowI x = lowI y) && decide (lowL s = lowL s')) := by
      rw [Bool.eq_iff_iff, decide_eq_true_iff, Bool.and_eq_true, decide_eq_true_iff, decide_eq_true_iff]
      unfold lowL
      rw [List.map_cons, List.map_cons, List.cons.injEq]
    cases c : bne (smI ((x.toNat : Nat) : Int)) (smI ((y.toNat : Nat) : Int)) with
    | true =>
      rw [c] at h
      have hne : decide (lowI x = lowI y) = false := by
        rw [bne_iff_ne] at c
        exact decide_eq_false c
      have e2 : lkEnd (x :: s) (y :: s') = (.ret, ([bool false], [])) := by
        unfold lkEnd
        rw [e, hne]
        rfl
      rw [e2]
      exact .last (Tr.run_of h rfl) (by simp) (by simp)
    | false =>
      rw [c] at h
      have heq : decide (lowI x = lowI y) = true := by
        have : ¬ bne (smI ((x.toNat : Nat) : Int)) (smI ((y.toNat : Nat) : Int)) = true := by rw [c]; simp
        rw [bne_iff_ne] at this
        exact decide_eq_true (Classical.not_not.1 this)
      have e2 : lkEnd (x :: s) (y :: s') = lkEnd s s' := by
        unfold lkEnd
        rw [e, heq, Bool.true_and]
      rw [e2]
      exact .more (Tr.run_of h rfl) (lk_LR a b hl hn s s' (i + 1) h3 k3 (by omega))
def lkF : Kept → Tr (Exit × Kept)
  | ([.lit (.string a), .lit (.string b), .lit (.int .i64 u), .lit (.int .i64 0)], []) => .br (okS a && decide ((ls a).length = (ls b).length) && decide (u = ((ls a).length : Nat))) (.br (decide (lowL (ls a) = lowL (ls b))) (.leaf (.exit 0, ([], []))) (.leaf (.ret, ([bool false], [])))) .fail
  | _ => .fail
theorem lkF_ok (k : Kept) (e : Exit) (y : Kept) (h : (lkF k).run = some (e, y)) : LR Tryz.prog (E18 (GG m t fr)) 60 (GG m t fr) 26 lkOuts .normal (theLoop 0 Tryz.f40) k e y := by
  unfold lkF at h
  split at h
  · rename_i a b u
    have hb := br_run h
    clear h
    obtain ⟨hc, h⟩ := hb
    simp only [Bool.and_eq_true, decide_eq_true_eq] at hc
    obtain ⟨⟨hs, hl⟩, rfl⟩ := hc
    have hs := okS_le hs
    have key := lk_LR (m := m) (t := t) (fr := fr) (ls a) (ls b) hl (by rw [ls_len]; omega) (ls a) (ls b) 0 rfl rfl (Nat.zero_le _)
    rw [bs_ls, bs_ls] at key
    simp only [Tr.run] at h
    unfold lkEnd at key
    cases c : decide (lowL (ls a) = lowL (ls b)) with
    | true =>
      rw [c] at h key
      simp only [cond_true, Option.some.injEq, Prod.mk.injEq] at h
      obtain ⟨rfl, rfl⟩ := h
      exact key
    | false =>
      rw [c] at h key
      simp only [cond_false, Option.some.injEq, Prod.mk.injEq] at h
      obtain ⟨rfl, rfl⟩ := h
      exact key
  · cases h
noncomputable abbrev lkCut (G : GT) := cutOf G 26 lkOuts 0 lkF
theorem like_raw (m : Int) (t : TypeId) (fr : Nat × Nat) (a b : ByteArray) : (fnPure Tryz.prog ((E18 (GG m t fr)).withCuts (cut1 0 (lkCut (GG m t fr)))) 60 Tryz.f40 (GG m t fr) [str a, str b]).run2 =
 (bif (bne (((List.length (ls a)) : Nat) : Int) (((List.length (ls b)) : Nat) : Int)) then
 (.some ((.lit (.bool false)), []))
 else bif (decide ((lowL (ls a)) = (lowL (ls b)))) then
 (.some ((.lit (.bool true)), [(((okS a) && (decide ((List.length (ls a)) = (List.length (ls b))))) && (decide ((((List.length (ls a)) : Nat) : Int) = (((List.length (ls a)) : Nat) : Int))))]))
 else (.some ((.lit (.bool false)), [(((okS a) && (decide ((List.length (ls a)) = (List.length (ls b))))) && (decide ((((List.length (ls a)) : Nat) : Int) = (((List.length (ls a)) : Nat) : Int))))])) : Option (PV × List Bool)) := by
  kernel_rfl
def likeG : List PV → Tr PV
  | [.lit (.string a), .lit (.string b)] => .br (okS a && okS b) (.leaf (bool (decide (lowL (ls a) = lowL (ls b))))) .fail
  | _ => .fail
theorem like_ok : PureOK Tryz.prog (GG m t fr) 40 likeG := by
  refine PureOK.of (fn_cuts mixed E18_ok (fn := Tryz.f40) (cuts := cut1 0 (lkCut (GG m t fr))) (by kernel_rfl) (CutLaws.one (by omega) (by kernel_rfl) fun st e st' h => cutOf_ok E18_ok mixed (noCuts_ok (envOf_cuts ..) _) lkF_ok h)) fun ps p hp => ?_
  unfold likeG at hp
  split at hp
  · rename_i a b
    obtain ⟨hs, hp⟩ := br_run hp
    simp only [Bool.and_eq_true] at hs
    simp only [Tr.run, Option.some.injEq] at hp
    subst hp
    have h := like_raw m t fr a b
    by_cases hl : (ls a).length = (ls b).length
    · have e1 : bne (((ls a).length : Nat) : Int) (((ls b).length : Nat) : Int) = false := by
        rw [hl]
        simp
      rw [e1, hs.1, decide_eq_true hl] at h
      cases c : decide (lowL (ls a) = lowL (ls b)) with
      | true =>
        rw [c] at h
        exact ⟨_, Tr.run_of h (by simp), PLe.of_eq rfl⟩
      | false =>
        rw [c] at h
        exact ⟨_, Tr.run_of h (by simp), PLe.of_eq rfl⟩
    · have e1 : bne (((ls a).length : Nat) : Int) (((ls b).length : Nat) : Int) = true := by
        rw [bne_iff_ne]
        omega
      have e2 : decide (lowL (ls a) = lowL (ls b)) = false := decide_eq_false fun e => hl (by have := congrArg List.length e; simpa [lowL] using this)
      rw [e1] at h
      rw [e2]
      exact ⟨_, Tr.run_of h rfl, PLe.of_eq rfl⟩
  · cases hp
def tkPure : List (Nat × (List PV → Tr PV)) := (40, likeG) :: tjPure
theorem tkPure_ok {m : Int} {t : TypeId} {fr : Nat × Nat} : TabOK Tryz.prog (GG m t fr) tkPure := (TabOK.cons like_ok (fn := Tryz.f40) (by kernel_rfl) (by kernel_rfl) tjPure_ok)
noncomputable abbrev E19 (G : GT) : Env := envOf Tryz.prog G tkPure teFull
theorem E19_ok : (E19 (GG m t fr)).ok Tryz.prog (GG m t fr) := envOf_ok mixed tkPure_ok teFull_ok
theorem tword_raw_v (m : Int) (t : TypeId) (fr : Nat × Nat) (s : ByteArray) : ((fnPure Tryz.prog (E19 (GG m t fr)) 60 Tryz.f12 (GG m t fr) [str s])).val =
 (bif (decide ((lowL (ls s)) = (lowL [(77 : UInt8), (73 : UInt8), (78 : UInt8)]))) then
 (.some (.tup [(.lit (.int .u8 (1 : Int))), (.lit (.int .i64 (0 : Int)))]))
 else bif (decide ((lowL (ls s)) = (lowL [(77 : UInt8), (65 : UInt8), (88 : UInt8)]))) then
 (.some (.tup [(.lit (.int .u8 (2 : Int))), (.lit (.int .i64 (0 : Int)))]))
 else bif (decide ((lowL (ls s)) = (lowL [(65 : UInt8), (76 : UInt8), (76 : UInt8)]))) then
 (.some (.tup [(.lit (.int .u8 (4 : Int))), (.lit (.int .i64 (0 : Int)))]))
 else bif (decide ((lowL (ls s)) = (lowL [(67 : UInt8), (79 : UInt8), (85 : UInt8), (78 : UInt8), (84 : UInt8)]))) then
 (.some (.tup [(.lit (.int .u8 (8 : Int))), (.lit (.int .i64 (0 : Int)))]))
 else (.some (.tup [(.lit (.int .u8 (0 : Int))), (.lit (.int .i64 (7 : Int)))])) : Option PV) := by
  kernel_rfl
theorem tword_raw_c (m : Int) (t : TypeId) (fr : Nat × Nat) (s : ByteArray) : ((fnPure Tryz.prog (E19 (GG m t fr)) 60 Tryz.f12 (GG m t fr) [str s])).conds =
 (bif ((okS s) && true) then
 bif (decide ((lowL (ls s)) = (lowL [(77 : UInt8), (73 : UInt8), (78 : UInt8)]))) then
 true
 else bif ((okS s) && true) then
 bif (decide ((lowL (ls s)) = (lowL [(77 : UInt8), (65 : UInt8), (88 : UInt8)]))) then
 true
 else bif ((okS s) && true) then
 bif (decide ((lowL (ls s)) = (lowL [(65 : UInt8), (76 : UInt8), (76 : UInt8)]))) then
 true
 else bif ((okS s) && true) then
 bif (decide ((lowL (ls s)) = (lowL [(67 : UInt8), (79 : UInt8), (85 : UInt8), (78 : UInt8), (84 : UInt8)]))) then
 true
 else true
 else false
 else false
 else false
 else false : Bool) := by
  kernel_rfl
/-- a word's bit, and whether it has one -/
def wdV (l : List UInt8) : Int := bif decide (lowL l = lowL wMIN) then 1 else bif decide (lowL l = lowL wMAX) then 2 else bif decide (lowL l = lowL wALL) then 4 else bif decide (lowL l = lowL wCOUNT) then 8 else 0
def wdE (l : List UInt8) : Int := bif wdV l == 0 then 7 else 0
def twordG : List PV → Tr PV
  | [.lit (.string s)] => .br (okS s) (.leaf (.tup [.lit (.int .u8 (wdV (ls s))), int (wdE (ls s))])) .fail
  | _ => .fail
theorem tword_ok : PureOK Tryz.prog (GG m t fr) 12 twordG := by
  refine PureOK.of (fn_pure mixed E19_ok (envOf_cuts ..) (fn := Tryz.f12) (by kernel_rfl)) fun ps p hp => ?_
  unfold twordG at hp
  split at hp
  · rename_i s
    obtain ⟨hs, hp⟩ := br_run hp
    simp only [Tr.run, Option.some.injEq] at hp
    subst hp
    have hv := tword_raw_v m t fr s
    have hc := tword_raw_c m t fr s
    rw [hs] at hc
    unfold wdE wdV wMIN wMAX wALL wCOUNT
    cases a : decide (lowL (ls s) = lowL [77, 73, 78]) with
    | true =>
      rw [a] at hv hc
      exact ⟨_, Tr.run_vc hv hc rfl rfl, PLe.of_eq rfl⟩
    | false =>
      cases b : decide (lowL (ls s) = lowL [77, 65, 88]) with
      | true =>
        rw [a, b] at hv hc
        exact ⟨_, Tr.run_vc hv hc rfl rfl, PLe.of_eq rfl⟩
      | false =>
        cases c : decide (lowL (ls s) = lowL [65, 76, 76]) with
        | true =>
          rw [a, b, c] at hv hc
          exact ⟨_, Tr.run_vc hv hc rfl rfl, PLe.of_eq rfl⟩
        | false =>
          cases d : decide (lowL (ls s) = lowL [67, 79, 85, 78, 84]) with
          | true =>
            rw [a, b, c, d] at hv hc
            exact ⟨_, Tr.run_vc hv hc rfl rfl, PLe.of_eq rfl⟩
          | false =>
            rw [a, b, c, d] at hv hc
            exact ⟨_, Tr.run_vc hv hc rfl rfl, PLe.of_eq rfl⟩
  · cases hp
end
end Go.Proofs.YtcdghinmmhcfcaaGreatDoor.Ev

/- tally.read: a word's value is read into a tally. No condition. -/
namespace Go.Proofs.YtcdghinmmhcfcaaGreatDoor.Ev
open Go Go.RowKit Go.Proofs Go.Proofs.YtcdghinmmhcfcaaGreatDoor.Str
set_option linter.unusedVariables false
set_option linter.unusedSimpArgs false
section
variable {m : Int} {t : TypeId} {fr : Nat × Nat}
def tlC (w many least most : Int) (q : PV) : Blk := .cells 27 [.lit (.int .u8 w), int many, .lit (.int .u32 least), .lit (.int .u32 most), q]
theorem read_raw_v (m : Int) (t : TypeId) (fr : Nat × Nat) (w many least most : Int) (n : Nat) (f : Nat → List PV) (a v : ByteArray) : ((fnPin Tryz.prog (E19 (GG m t fr)) 60 Tryz.f36 (GG m t fr) [.ptr 0 0, str a, str v] [tlC w many least most (.gsl 2 n f)])).val =
 (bif (puOk v) then
 bif ((ByteArray.toList a) == (ByteArray.toList (bs [(77 : UInt8), (73 : UInt8), (78 : UInt8)]))) then
 (.some ((.tup []), [(.cells 27 [(.lit (.int .u8 w)), (.lit (.int .i64 many)), (.lit (.int .u32 (IntKind.wrap .u32 (((puVal v) : Nat) : Int)))), (.lit (.int .u32 most)), (.gsl 2 n f)])]))
 else bif ((ByteArray.toList a) == (ByteArray.toList (bs [(77 : UInt8), (65 : UInt8), (88 : UInt8)]))) then
 (.some ((.tup []), [(.cells 27 [(.lit (.int .u8 w)), (.lit (.int .i64 many)), (.lit (.int .u32 least)), (.lit (.int .u32 (IntKind.wrap .u32 (((puVal v) : Nat) : Int)))), (.gsl 2 n f)])]))
 else bif ((ByteArray.toList a) == (ByteArray.toList (bs [(65 : UInt8), (76 : UInt8), (76 : UInt8)]))) then
 bif (areS (ls v)) then
 bif (Nat.ble (List.length (spansS (ls v))) (1024 : Nat)) then
 bif (areS (ls v)) then
 bif (Nat.ble (List.length (spansS (ls v))) (1024 : Nat)) then
 (.some ((.tup []), [(.cells 27 [(.lit (.int .u8 w)), (.lit (.int .i64 many)), (.lit (.int .u32 least)), (.lit (.int .u32 most)), (.gsl 2 (List.length (spansS (ls v))) (sRow (spansS (ls v))))])]))
 else (.some ((.tup []), [(.cells 27 [(.lit (.int .u8 w)), (.lit (.int .i64 many)), (.lit (.int .u32 least)), (.lit (.int .u32 most)), (.lit (.slice .none 0 0))])]))
 else (.some ((.tup []), [(.cells 27 [(.lit (.int .u8 w)), (.lit (.int .i64 many)), (.lit (.int .u32 least)), (.lit (.int .u32 most)), (.lit (.slice .none 0 0))])]))
 else (.some ((.tup []), [(.cells 27 [(.lit (.int .u8 w)), (.lit (.int .i64 many)), (.lit (.int .u32 least)), (.lit (.int .u32 most)), (.lit (.slice .none 0 0))])]))
 else (.some ((.tup []), [(.cells 27 [(.lit (.int .u8 w)), (.lit (.int .i64 many)), (.lit (.int .u32 least)), (.lit (.int .u32 most)), (.lit (.slice .none 0 0))])]))
 else bif ((ByteArray.toList a) == (ByteArray.toList (bs [(67 : UInt8), (79 : UInt8), (85 : UInt8), (78 : UInt8), (84 : UInt8)]))) then
 (.some ((.tup []), [(.cells 27 [(.lit (.int .u8 w)), (.lit (.int .i64 (IntKind.wrap .i64 (((puVal v) : Nat) : Int)))), (.lit (.int .u32 least)), (.lit (.int .u32 most)), (.gsl 2 n f)])]))
 else (.some ((.tup []), [(.cells 27 [(.lit (.int .u8 w)), (.lit (.int .i64 many)), (.lit (.int .u32 least)), (.lit (.int .u32 most)), (.gsl 2 n f)])]))
 else bif ((ByteArray.toList a) == (ByteArray.toList (bs [(77 : UInt8), (73 : UInt8), (78 : UInt8)]))) then
 (.some ((.tup []), [(.cells 27 [(.lit (.int .u8 w)), (.lit (.int .i64 many)), (.lit (.int .u32 (0 : Int))), (.lit (.int .u32 most)), (.gsl 2 n f)])]))
 else bif ((ByteArray.toList a) == (ByteArray.toList (bs [(77 : UInt8), (65 : UInt8), (88 : UInt8)]))) then
 (.some ((.tup []), [(.cells 27 [(.lit (.int .u8 w)), (.lit (.int .i64 many)), (.lit (.int .u32 least)), (.lit (.int .u32 (0 : Int))), (.gsl 2 n f)])]))
 else bif ((ByteArray.toList a) == (ByteArray.toList (bs [(65 : UInt8), (76 : UInt8), (76 : UInt8)]))) then
 bif (areS (ls v)) then
 bif (Nat.ble (List.length (spansS (ls v))) (1024 : Nat)) then
 bif (areS (ls v)) then
 bif (Nat.ble (List.length (spansS (ls v))) (1024 : Nat)) then
 (.some ((.tup []), [(.cells 27 [(.lit (.int .u8 w)), (.lit (.int .i64 many)), (.lit (.int .u32 least)), (.lit (.int .u32 most)), (.gsl 2 (List.length (spansS (ls v))) (sRow (spansS (ls v))))])]))
 else (.some ((.tup []), [(.cells 27 [(.lit (.int .u8 w)), (.lit (.int .i64 many)), (.lit (.int .u32 least)), (.lit (.int .u32 most)), (.lit (.slice .none 0 0))])]))
 else (.some ((.tup []), [(.cells 27 [(.lit (.int .u8 w)), (.lit (.int .i64 many)), (.lit (.int .u32 least)), (.lit (.int .u32 most)), (.lit (.slice .none 0 0))])]))
 else (.some ((.tup []), [(.cells 27 [(.lit (.int .u8 w)), (.lit (.int .i64 many)), (.lit (.int .u32 least)), (.lit (.int .u32 most)), (.lit (.slice .none 0 0))])]))
 else (.some ((.tup []), [(.cells 27 [(.lit (.int .u8 w)), (.lit (.int .i64 many)), (.lit (.int .u32 least)), (.lit (.int .u32 most)), (.lit (.slice .none 0 0))])]))
 else bif ((ByteArray.toList a) == (ByteArray.toList (bs [(67 : UInt8), (79 : UInt8), (85 : UInt8), (78 : UInt8), (84 : UInt8)]))) then
 (.some ((.tup []), [(.cells 27 [(.lit (.int .u8 w)), (.lit (.int .i64 (0 : Int))), (.lit (.int .u32 least)), (.lit (.int .u32 most)), (.gsl 2 n f)])]))
 else (.some ((.tup []), [(.cells 27 [(.lit (.int .u8 w)), (.lit (.int .i64 many)), (.lit (.int .u32 least)), (.lit (.int .u32 most)), (.gsl 2 n f)])])) : Option (PV × List Blk)) := by
  kernel_rfl
theorem read_raw_c (m : Int) (t : TypeId) (fr : Nat × Nat) (w many least most : Int) (n : Nat) (f : Nat → List PV) (a v : ByteArray) : ((fnPin Tryz.prog (E19 (GG m t fr)) 60 Tryz.f36 (GG m t fr) [.ptr 0 0, str a, str v] [tlC w many least most (.gsl 2 n f)])).conds =
 (bif (okS v) then
 bif (puOk v) then
 bif ((ByteArray.toList a) == (ByteArray.toList (bs [(77 : UInt8), (73 : UInt8), (78 : UInt8)]))) then
 true
 else bif ((ByteArray.toList a) == (ByteArray.toList (bs [(77 : UInt8), (65 : UInt8), (88 : UInt8)]))) then
 true
 else bif ((ByteArray.toList a) == (ByteArray.toList (bs [(65 : UInt8), (76 : UInt8), (76 : UInt8)]))) then
 bif (okS v) then
 bif (areS (ls v)) then
 bif (Nat.ble (List.length (spansS (ls v))) (1024 : Nat)) then
 bif (okS v) then
 bif (areS (ls v)) then
 bif (Nat.ble (List.length (spansS (ls v))) (1024 : Nat)) then
 true
 else true
 else true
 else false
 else true
 else true
 else false
 else bif ((ByteArray.toList a) == (ByteArray.toList (bs [(67 : UInt8), (79 : UInt8), (85 : UInt8), (78 : UInt8), (84 : UInt8)]))) then
 true
 else true
 else bif ((ByteArray.toList a) == (ByteArray.toList (bs [(77 : UInt8), (73 : UInt8), (78 : UInt8)]))) then
 true
 else bif ((ByteArray.toList a) == (ByteArray.toList (bs [(77 : UInt8), (65 : UInt8), (88 : UInt8)]))) then
 true
 else bif ((ByteArray.toList a) == (ByteArray.toList (bs [(65 : UInt8), (76 : UInt8), (76 : UInt8)]))) then
 bif (okS v) then
 bif (areS (ls v)) then
 bif (Nat.ble (List.length (spansS (ls v))) (1024 : Nat)) then
 bif (okS v) then
 bif (areS (ls v)) then
 bif (Nat.ble (List.length (spansS (ls v))) (1024 : Nat)) then
 true
 else true
 else true
 else false
 else true
 else true
 else false
 else bif ((ByteArray.toList a) == (ByteArray.toList (bs [(67 : UInt8), (79 : UInt8), (85 : UInt8), (78 : UInt8), (84 : UInt8)]))) then
 true
 else true
 else false : Bool) := by
  kernel_rfl
end
end Go.Proofs.YtcdghinmmhcfcaaGreatDoor.Ev

/- tally.read as a contract; tally.Parse's loop. No condition. -/
namespace Go.Proofs.YtcdghinmmhcfcaaGreatDoor.Ev
open Go Go.RowKit Go.Proofs Go.Proofs.YtcdghinmmhcfcaaGreatDoor.Str
set_option linter.unusedVariables false
set_option linter.unusedSimpArgs false
/-- a tally -/
structure Tl where
  w : Int
  many : Int
  least : Int
  most : Int
  l : List Sp
def rdN (v : List UInt8) : Int := bif puOk (bs v) then ((puVal (bs v) : Nat) : Int) else 0
def rdL (v : List UInt8) : List Sp := bif areS v && Nat.ble (spansS v).length 1024 then spansS v else []
/-- a word's value is read -/
def rdT (x : Tl) (a v : List UInt8) : Tl := bif decide (a = wMIN) then { x with least := IntKind.u32.wrap (rdN v) } else bif decide (a = wMAX) then { x with most := IntKind.u32.wrap (rdN v) } else
  bif decide (a = wALL) then { x with l := rdL v } else bif decide (a = wCOUNT) then { x with many := IntKind.i64.wrap (rdN v) } else x
def rdA : Tl → List (List UInt8) → Tl
  | x, a :: v :: r => rdA (rdT x a v) r
  | x, _ => x
section
variable {m : Int} {t : TypeId} {fr : Nat × Nat}
def tlBk (x : Tl) : Blk := tlC x.w x.many x.least x.most (.gsl 2 x.l.length (sRow x.l))
def readG : List PV → List Blk → Tr (PV × List Blk)
  | [.ptr 0 0, .lit (.string a), .lit (.string v)], [.cells ty [.lit (.int .u8 w), .lit (.int .i64 many), .lit (.int .u32 least), .lit (.int .u32 most), .gsl 2 n f]] => match Nat.beq ty 27 with
    | true => .br (okS v && areSps n f) (.leaf (.tup [], [tlBk (rdT ⟨w, many, least, most, spsOf n f⟩ (ls a) (ls v))])) .fail
    | false => .fail
  | _, _ => .fail
theorem eqW (a : ByteArray) (l : List UInt8) : (ByteArray.toList a == ByteArray.toList (bs l)) = decide (ls a = l) := by rw [eqB, ls_bs]
theorem read_ok : PinB Tryz.prog (GG m t fr) 36 readG := by
  refine PinB.le (pinB_of_ev (n := 60) (E := E19 (GG m t fr)) E19_ok mixed (fn := Tryz.f36) (by kernel_rfl) (fun c _ => noCuts_ok (envOf_cuts ..) c)) fun ps bs0 p bs' hp => ?_
  unfold readG at hp
  split at hp
  · rename_i a v ty w many least most n f
    split at hp
    · rename_i hty
      obtain rfl := Nat.eq_of_beq_eq_true hty
      have hb := br_run hp
      clear hp
      obtain ⟨hc0, hp⟩ := hb
      simp only [Bool.and_eq_true] at hc0
      simp only [Tr.run, Option.some.injEq, Prod.mk.injEq] at hp
      obtain ⟨rfl, rfl⟩ := hp
      have hv := read_raw_v m t fr w many least most n f a v
      have hc := read_raw_c m t fr w many least most n f a v
      have hL := sps_len n f
      simp only [eqW] at hv hc
      rw [hc0.1] at hc
      have same : PLe (.gsl 2 n f) (.gsl 2 (spsOf n f).length (sRow (spsOf n f))) := PLe.gsl hL.symm (sps_row hc0.2)
      have nil : PLe (.lit (.slice none 0 0)) (.gsl 2 ([] : List Sp).length (sRow [])) := PLe.nil 2 _
      have fin : ∀ {w' many' least' most' : Int} {q : PV} {y : Tl}, some (PV.tup [], [tlC w' many' least' most' q]) = (fnPin Tryz.prog (E19 (GG m t fr)) 60 Tryz.f36 (GG m t fr) [.ptr 0 0, str a, str v] [tlC w many least most (.gsl 2 n f)]).run → y.w = w' → y.many = many' → y.least = least' → y.most = most' → PLe q (.gsl 2 y.l.length (sRow y.l)) →
          ∃ qs cs q cs', PLeL [.ptr 0 0, .lit (.string a), .lit (.string v)] qs ∧ BLeL [.cells 27 [.lit (.int .u8 w), .lit (.int .i64 many), .lit (.int .u32 least), .lit (.int .u32 most), .gsl 2 n f]] cs ∧
            (fnPin Tryz.prog (E19 (GG m t fr)) 60 Tryz.f36 (GG m t fr) qs cs).run = some (q, cs') ∧ PLe q (.tup []) ∧ BLeL cs' [tlBk y] := by
        intro w' many' least' most' q y h h1 h2 h3 h4 h5
        subst h1 h2 h3 h4
        exact ⟨_, _, _, _, .refl _, .refl _, h.symm, .refl _, BLeL.cons (.cells _ (PLeL.cons (.refl _) (PLeL.cons (.refl _) (PLeL.cons (.refl _) (PLeL.cons (.refl _) (PLeL.cons h5 .nil)))))) .nil⟩
      have ebs : bs (ls v) = v := bs_ls v
      unfold rdT rdN rdL wMIN wMAX wALL wCOUNT
      rw [ebs]
      cases c0 : puOk v <;> cases c1 : decide (ls a = [77, 73, 78]) <;> simp only [c0, c1, cond_true, cond_false] at hv hc ⊢
      · cases c2 : decide (ls a = [77, 65, 88]) <;> simp only [c2, cond_true, cond_false] at hv hc ⊢
        · cases c3 : decide (ls a = [65, 76, 76]) <;> simp only [c3, cond_true, cond_false] at hv hc ⊢
          · cases c4 : decide (ls a = [67, 79, 85, 78, 84]) <;> simp only [c4, cond_true, cond_false] at hv hc ⊢
            · exact fin (Tr.run_vc hv hc rfl rfl).symm rfl rfl rfl rfl same
            · exact fin (Tr.run_vc hv hc rfl rfl).symm rfl rfl rfl rfl same
          · cases c5 : areS (ls v) <;> simp only [c5, cond_true, cond_false, Bool.true_and, Bool.false_and] at hv hc ⊢
            · exact fin (Tr.run_vc hv hc rfl rfl).symm rfl rfl rfl rfl nil
            · cases c6 : Nat.ble (spansS (ls v)).length 1024 <;> simp only [c6, cond_true, cond_false] at hv hc ⊢
              · exact fin (Tr.run_vc hv hc rfl rfl).symm rfl rfl rfl rfl nil
              · exact fin (Tr.run_vc hv hc rfl rfl).symm rfl rfl rfl rfl (.refl _)
        · exact fin (Tr.run_vc hv hc rfl rfl).symm rfl rfl rfl rfl same
      · exact fin (Tr.run_vc hv hc rfl rfl).symm rfl rfl rfl rfl same
      · cases c2 : decide (ls a = [77, 65, 88]) <;> simp only [c2, cond_true, cond_false] at hv hc ⊢
        · cases c3 : decide (ls a = [65, 76, 76]) <;> simp only [c3, cond_true, cond_false] at hv hc ⊢
          · cases c4 : decide (ls a = [67, 79, 85, 78, 84]) <;> simp only [c4, cond_true, cond_false] at hv hc ⊢
            · exact fin (Tr.run_vc hv hc rfl rfl).symm rfl rfl rfl rfl same
            · exact fin (Tr.run_vc hv hc rfl rfl).symm rfl rfl rfl rfl same
          · cases c5 : areS (ls v) <;> simp only [c5, cond_true, cond_false, Bool.true_and, Bool.false_and] at hv hc ⊢
            · exact fin (Tr.run_vc hv hc rfl rfl).symm rfl rfl rfl rfl nil
            · cases c6 : Nat.ble (spansS (ls v)).length 1024 <;> simp only [c6, cond_true, cond_false] at hv hc ⊢
              · exact fin (Tr.run_vc hv hc rfl rfl).symm rfl rfl rfl rfl nil
              · exact fin (Tr.run_vc hv hc rfl rfl).symm rfl rfl rfl rfl (.refl _)
        · exact fin (Tr.run_vc hv hc rfl rfl).symm rfl rfl rfl rfl same
      · exact fin (Tr.run_vc hv hc rfl rfl).symm rfl rfl rfl rfl same
    · cases hp
  · cases hp
def tlFull : List (Nat × (List PV → Mem → Tr (PV × Mem))) := (36, pinG readG) :: teFull
theorem tlFull_ok {m : Int} {t : TypeId} {fr : Nat × Nat} : FullOK Tryz.prog (GG m t fr) tlFull := (FullOK.cons (pin_fn read_ok) (fn := Tryz.f36) (by kernel_rfl) (by kernel_rfl) teFull_ok)
def tlPure : List (Nat × (List PV → Tr PV)) := (12, twordG) :: tkPure
theorem tlPure_ok {m : Int} {t : TypeId} {fr : Nat × Nat} : TabOK Tryz.prog (GG m t fr) tlPure := (TabOK.cons tword_ok (fn := Tryz.f12) (by kernel_rfl) (by kernel_rfl) tkPure_ok)
noncomputable abbrev E20 (G : GT) : Env := envOf Tryz.prog G tlPure tlFull
theorem E20_ok : (E20 (GG m t fr)).ok Tryz.prog (GG m t fr) := envOf_ok mixed tlPure_ok tlFull_ok
def paOuts : Exit → Outs
  | .normal => { ks := [0, 1, 4, 5, 6, 7, 8], rs := [.slot 4, .slot 6] }
  | .exit _ => { ks := [0, 1, 4, 5, 6], rs := [.slot 4, .slot 6] }
  | _ => { ks := [] }
noncomputable abbrev paRound (G : GT) := roundT Tryz.prog (E20 G) 60 G 50 paOuts .normal (theLoop 0 Tryz.f10)
def wRow (L : List (List UInt8)) (i : Nat) : List PV := [str (bs (L.getD i []))]
theorem pa_round (m : Int) (t : TypeId) (fr : Nat × Nat) (w : Int) (s : ByteArray) (x : Tl) (k : Nat) (L : List (List UInt8)) (i : Int) (zs : List PV) : (paRound (GG m t fr) ([.lit (.int .u8 w), str s, .ptr 0 0, int 0, .ptr 1 0, .gsl 1 k (wRow L), int i], [.cells 27 [.lit (.int .u8 0), int 0, .lit (.int .u32 0), .lit (.int .u32 0), .lit (.slice none 0 0)], tlBk x])).run2 =
 (bif (decide ((IntKind.wrap .i64 (i + (1 : Int))) < ((k : Nat) : Int))) then
 (.some ((.normal, ([(.lit (.int .u8 w)), (.lit (.string s)), (.ptr 0 0), (.lit (.int .i64 (0 : Int))), (.ptr 1 0), (.gsl 1 k (wRow L)), (.lit (.int .i64 (IntKind.wrap .i64 (i + (2 : Int)))))], [(.cells 27 [(.lit (.int .u8 (0 : Int))), (.lit (.int .i64 (0 : Int))), (.lit (.int .u32 (0 : Int))), (.lit (.int .u32 (0 : Int))), (.lit (.slice .none 0 0))]), (.cells 27 [(.lit (.int .u8 (Tl.w (rdT (.mk (Tl.w x) (Tl.many x) (Tl.least x) (Tl.most x) (spsOf (List.length (Tl.l x)) (sRow (Tl.l x)))) (List.getD L (Int.toNat i) []) (List.getD L (Int.toNat (IntKind.wrap .i64 (i + (1 : Int)))) []))))), (.lit (.int .i64 (Tl.many (rdT (.mk (Tl.w x) (Tl.many x) (Tl.least x) (Tl.most x) (spsOf (List.length (Tl.l x)) (sRow (Tl.l x)))) (List.getD L (Int.toNat i) []) (List.getD L (Int.toNat (IntKind.wrap .i64 (i + (1 : Int)))) []))))), (.lit (.int .u32 (Tl.least (rdT (.mk (Tl.w x) (Tl.many x) (Tl.least x) (Tl.most x) (spsOf (List.length (Tl.l x)) (sRow (Tl.l x)))) (List.getD L (Int.toNat i) []) (List.getD L (Int.toNat (IntKind.wrap .i64 (i + (1 : Int)))) []))))), (.lit (.int .u32 (Tl.most (rdT (.mk (Tl.w x) (Tl.many x) (Tl.least x) (Tl.most x) (spsOf (List.length (Tl.l x)) (sRow (Tl.l x)))) (List.getD L (Int.toNat i) []) (List.getD L (Int.toNat (IntKind.wrap .i64 (i + (1 : Int)))) []))))), (.gsl 2 (List.length (Tl.l (rdT (.mk (Tl.w x) (Tl.many x) (Tl.least x) (Tl.most x) (spsOf (List.length (Tl.l x)) (sRow (Tl.l x)))) (List.getD L (Int.toNat i) []) (List.getD L (Int.toNat (IntKind.wrap .i64 (i + (1 : Int)))) [])))) (sRow (Tl.l (rdT (.mk (Tl.w x) (Tl.many x) (Tl.least x) (Tl.most x) (spsOf (List.length (Tl.l x)) (sRow (Tl.l x)))) (List.getD L (Int.toNat i) []) (List.getD L (Int.toNat (IntKind.wrap .i64 (i + (1 : Int)))) [])))))])])), [((okS (bs (List.getD L (Int.toNat (IntKind.wrap .i64 (i + (1 : Int)))) []))) && (areSps (List.length (Tl.l x)) (sRow (Tl.l x)))), ((decide ((0 : Int) ≤ (IntKind.wrap .i64 (i + (1 : Int))))) && (Nat.blt (Int.toNat (IntKind.wrap .i64 (i + (1 : Int)))) k)), ((decide ((0 : Int) ≤ i)) && (Nat.blt (Int.toNat i) k))]))
 else (.some (((.exit 0), ([(.lit (.int .u8 w)), (.lit (.string s)), (.ptr 0 0), (.lit (.int .i64 (0 : Int))), (.ptr 1 0)], [(.cells 27 [(.lit (.int .u8 (0 : Int))), (.lit (.int .i64 (0 : Int))), (.lit (.int .u32 (0 : Int))), (.lit (.int .u32 (0 : Int))), (.lit (.slice .none 0 0))]), (.cells 27 [(.lit (.int .u8 (Tl.w x))), (.lit (.int .i64 (Tl.many x))), (.lit (.int .u32 (Tl.least x))), (.lit (.int .u32 (Tl.most x))), (.gsl 2 (List.length (Tl.l x)) (sRow (Tl.l x)))])])), [])) : Option ((Exit × Kept) × List Bool)) := by
  kernel_rfl
end
end Go.Proofs.YtcdghinmmhcfcaaGreatDoor.Ev

/- tally.Parse. No condition. -/
namespace Go.Proofs.YtcdghinmmhcfcaaGreatDoor.Ev
open Go Go.RowKit Go.Proofs Go.Proofs.YtcdghinmmhcfcaaGreatDoor.Str
set_option linter.unusedVariables false
set_option linter.unusedSimpArgs false
theorem rdL_u32 (v : List UInt8) : (rdL v).all u32B = true := by
  unfold rdL
  cases h : areS v && Nat.ble (spansS v).length 1024 with
  | false => rfl
  | true =>
    simp only [Bool.and_eq_true] at h
    exact (text_back h.1).2.2.2.1
theorem rdT_u32 {x : Tl} {a v : List UInt8} (h : x.l.all u32B = true) : (rdT x a v).l.all u32B = true := by
  unfold rdT
  cases decide (a = wMIN) <;> cases decide (a = wMAX) <;> cases decide (a = wALL) <;> cases decide (a = wCOUNT) <;> first | exact h | exact rdL_u32 v
theorem rdA_u32 : ∀ {L : List (List UInt8)} {x : Tl}, x.l.all u32B = true → (rdA x L).l.all u32B = true
  | [], _, h => h
  | [_], _, h => h
  | a :: v :: r, _, h => rdA_u32 (L := r) (rdT_u32 h)
theorem w_drop {L : List (List UInt8)} {i : Nat} {a : List UInt8} {r : List (List UInt8)} (h : L.drop i = a :: r) : i < L.length ∧ L.getD i [] = a ∧ L.drop (i + 1) = r := by
  have hlt : i < L.length := by
    rcases Nat.lt_or_ge i L.length with h' | h'
    · exact h'
    · rw [List.drop_eq_nil_of_le h'] at h
      cases h
  rw [List.drop_eq_getElem_cons hlt] at h
  simp only [List.cons.injEq] at h
  exact ⟨hlt, by rw [← h.1]; simp [hlt], h.2⟩
section
variable {m : Int} {t : TypeId} {fr : Nat × Nat}
def zBk : Blk := .cells 27 [.lit (.int .u8 0), int 0, .lit (.int .u32 0), .lit (.int .u32 0), .lit (.slice none 0 0)]
def paIn (w : Int) (s : ByteArray) (L : List (List UInt8)) (x : Tl) (i : Nat) : Kept := ([.lit (.int .u8 w), str s, .ptr 0 0, int 0, .ptr 1 0, .gsl 1 L.length (wRow L), int i], [zBk, tlBk x])
def paEnd (w : Int) (s : ByteArray) (x : Tl) : Kept := ([.lit (.int .u8 w), str s, .ptr 0 0, int 0, .ptr 1 0], [zBk, tlBk x])
theorem pa_LR (w : Int) (s : ByteArray) (L : List (List UInt8)) (hn : L.length ≤ 4294967290) (hs : ∀ a ∈ L, okS (bs a) = true) : ∀ (r : List (List UInt8)) (i : Nat) (x : Tl), L.drop i = r → i ≤ L.length → x.l.all u32B = true →
    LR Tryz.prog (E20 (GG m t fr)) 60 (GG m t fr) 50 paOuts .normal (theLoop 0 Tryz.f10) (paIn w s L x i) (.exit 0) (paEnd w s (rdA x r))
  | [], i, x, hr, hi, hx => by
    have h := pa_round m t fr w s x L.length L i []
    have hlen := List.drop_eq_nil_iff.1 hr
    have hw : IntKind.i64.wrap ((i : Int) + 1) = ((i + 1 : Nat) : Int) := wrap_succ (by omega)
    have hd : decide (((i + 1 : Nat) : Int) < (L.length : Int)) = false := by simp; omega
    rw [hw, hd] at h
    exact .last (Tr.run_of h rfl) (by simp) (by simp)
  | [a], i, x, hr, hi, hx => by
    have h := pa_round m t fr w s x L.length L i []
    obtain ⟨h1, h2, h3⟩ := w_drop hr
    have hlen := List.drop_eq_nil_iff.1 h3
    have hw : IntKind.i64.wrap ((i : Int) + 1) = ((i + 1 : Nat) : Int) := wrap_succ (by omega)
    have hd : decide (((i + 1 : Nat) : Int) < (L.length : Int)) = false := by simp; omega
    rw [hw, hd] at h
    exact .last (Tr.run_of h rfl) (by simp) (by simp)
  | a :: v :: r, i, x, hr, hi, hx => by
    have h := pa_round m t fr w s x L.length L i []
    obtain ⟨h1, h2, h3⟩ := w_drop hr
    obtain ⟨k1, k2, k3⟩ := w_drop h3
    have hw : IntKind.i64.wrap ((i : Int) + 1) = ((i + 1 : Nat) : Int) := wrap_succ (by omega)
    have hw2 : IntKind.i64.wrap ((i : Int) + 2) = ((i + 2 : Nat) : Int) := by
      have e : (i : Int) + 2 = ((i + 2 : Nat) : Int) := by omega
      rw [e]
      exact wrap_nat (by omega)
    have hd : decide (((i + 1 : Nat) : Int) < (L.length : Int)) = true := by simp; omega
    have b1 : Nat.blt i L.length = true := by rw [Nat.blt_eq]; exact h1
    have b2 : Nat.blt (i + 1) L.length = true := by rw [Nat.blt_eq]; exact k1
    have b3 : ∀ k : Nat, decide ((0 : Int) ≤ (k : Int)) = true := fun k => by simp
    have hv : okS (bs v) = true := hs v (by rw [← k2]; simp [k1])
    rw [hw, hw2, hd, Int.toNat_natCast, Int.toNat_natCast, h2, k2, sps_sRow, b1, b2, b3, b3, hv, are_sRow hx] at h
    exact .more (Tr.run_of h (by simp)) (pa_LR w s L hn hs r (i + 2) (rdT x a v) k3 (by omega) (rdT_u32 hx))
/-- words that are told by a row -/
def wdsOf (n : Nat) (f : Nat → List PV) : List (List UInt8) := (strsOf n f).map ls
def areWds (n : Nat) (f : Nat → List PV) : Bool := (List.range n).all fun i => isStr (f i) && okS (strOf (f i))
theorem wds_len (n : Nat) (f : Nat → List PV) : (wdsOf n f).length = n := by simp [wdsOf, strsOf]
theorem wds_row {n : Nat} {f : Nat → List PV} (h : areWds n f = true) (i : Nat) (hi : i < n) : f i = wRow (wdsOf n f) i := by
  have h1 := List.all_eq_true.1 h i (List.mem_range.2 hi)
  simp only [Bool.and_eq_true] at h1
  have e : (wdsOf n f).getD i [] = ls (strOf (f i)) := by simp [wdsOf, strsOf, hi]
  unfold wRow
  rw [e, bs_ls]
  exact isStr_eq h1.1
def paZ (w : Int) (n : Nat) (f : Nat → List PV) : Tl := rdA ⟨w, 0, 0, 0, []⟩ (wdsOf n f)
def paF : Kept → Tr (Exit × Kept)
  | ([.lit (.int .u8 w), .lit (.string s), .ptr 0 0, .lit (.int .i64 0), .ptr 1 0, .gsl 1 n f, .lit (.int .i64 0)], [.cells ty0 [.lit (.int .u8 0), .lit (.int .i64 0), .lit (.int .u32 0), .lit (.int .u32 0), .lit (.slice none 0 0)], .cells ty [.lit (.int .u8 w1), .lit (.int .i64 0), .lit (.int .u32 0), .lit (.int .u32 0), .lit (.slice none 0 0)]]) =>
    match Nat.beq ty0 27 && Nat.beq ty 27 with
    | true => .br (areWds n f && Nat.ble n 4294967290) (.leaf (.exit 0, paEnd w s (paZ w1 n f))) .fail
    | false => .fail
  | _ => .fail
theorem paF_ok (k : Kept) (e : Exit) (y : Kept) (h : (paF k).run = some (e, y)) : LR Tryz.prog (E20 (GG m t fr)) 60 (GG m t fr) 50 paOuts .normal (theLoop 0 Tryz.f10) k e y := by
  unfold paF at h
  split at h
  · rename_i w s n f ty0 ty w1
    split at h
    · rename_i hty
      simp only [Bool.and_eq_true] at hty
      obtain rfl := Nat.eq_of_beq_eq_true hty.1
      obtain rfl := Nat.eq_of_beq_eq_true hty.2
      have hb := br_run h
      clear h
      obtain ⟨hc, h⟩ := hb
      simp only [Bool.and_eq_true, Nat.ble_eq] at hc
      simp only [Tr.run, Option.some.injEq, Prod.mk.injEq] at h
      obtain ⟨rfl, rfl⟩ := h
      have hL := wds_len n f
      have key := pa_LR (m := m) (t := t) (fr := fr) w s (wdsOf n f) (by omega) (fun a ha => by
        simp only [wdsOf, strsOf, List.map_map, List.mem_map, List.mem_range] at ha
        obtain ⟨i, hi, rfl⟩ := ha
        have := List.all_eq_true.1 hc.1 i (List.mem_range.2 hi)
        simp only [Bool.and_eq_true] at this
        show okS (bs (ls (strOf (f i)))) = true
        rw [bs_ls]
        exact this.2) (wdsOf n f) 0 ⟨w1, 0, 0, 0, []⟩ rfl (Nat.zero_le _) rfl
      refine .le ⟨PLeL.cons (.refl _) (PLeL.cons (.refl _) (PLeL.cons (.refl _) (PLeL.cons (.refl _) (PLeL.cons (.refl _) (PLeL.cons (PLe.gsl hL.symm (wds_row hc.1)) (.refl _)))))), BLeL.cons (.refl _) (BLeL.cons (.cells _ (PLeL.cons (.refl _) (PLeL.cons (.refl _) (PLeL.cons (.refl _) (PLeL.cons (.refl _) (PLeL.cons (PLe.nil 2 _) .nil)))))) .nil)⟩ key
    · cases h
  · cases h
noncomputable abbrev paCut (G : GT) := cutOf G 50 paOuts 0 paF
theorem tparse_raw_v (m : Int) (t : TypeId) (fr : Nat × Nat) (w : Int) (s : ByteArray) : ((fnPure Tryz.prog ((E20 (GG m t fr)).withCuts (cut1 0 (paCut (GG m t fr)))) 60 Tryz.f10 (GG m t fr) [.lit (.int .u8 w), str s])).val =
 (bif (bne (IntKind.wrap .u8 (((BitVec.toNat (HAnd.hAnd (BitVec.ofInt 8 w) (Complement.complement (BitVec.ofInt 8 (15 : Int))))) : Nat) : Int)) (0 : Int)) then
 (.some (.tup [(.agg [(.lit (.int .u8 (0 : Int))), (.lit (.int .i64 (0 : Int))), (.lit (.int .u32 (0 : Int))), (.lit (.int .u32 (0 : Int))), (.lit (.slice .none 0 0))]), (.lit (.int .i64 (1 : Int)))]))
 else bif (ckP (Tl.w (paZ w ((Lib.countB s (.mk (List.toArray [(32 : UInt8)]))) + 1) (spR s (.mk (List.toArray [(32 : UInt8)]))))) (Tl.many (paZ w ((Lib.countB s (.mk (List.toArray [(32 : UInt8)]))) + 1) (spR s (.mk (List.toArray [(32 : UInt8)]))))) (Tl.least (paZ w ((Lib.countB s (.mk (List.toArray [(32 : UInt8)]))) + 1) (spR s (.mk (List.toArray [(32 : UInt8)]))))) (Tl.most (paZ w ((Lib.countB s (.mk (List.toArray [(32 : UInt8)]))) + 1) (spR s (.mk (List.toArray [(32 : UInt8)]))))) (spsOf (List.length (Tl.l (paZ w ((Lib.countB s (.mk (List.toArray [(32 : UInt8)]))) + 1) (spR s (.mk (List.toArray [(32 : UInt8)])))))) (sRow (Tl.l (paZ w ((Lib.countB s (.mk (List.toArray [(32 : UInt8)]))) + 1) (spR s (.mk (List.toArray [(32 : UInt8)])))))))) then
 bif (!((ByteArray.toList (bs (twS (Tl.w (paZ w ((Lib.countB s (.mk (List.toArray [(32 : UInt8)]))) + 1) (spR s (.mk (List.toArray [(32 : UInt8)]))))) (Tl.many (paZ w ((Lib.countB s (.mk (List.toArray [(32 : UInt8)]))) + 1) (spR s (.mk (List.toArray [(32 : UInt8)]))))) (Tl.least (paZ w ((Lib.countB s (.mk (List.toArray [(32 : UInt8)]))) + 1) (spR s (.mk (List.toArray [(32 : UInt8)]))))) (Tl.most (paZ w ((Lib.countB s (.mk (List.toArray [(32 : UInt8)]))) + 1) (spR s (.mk (List.toArray [(32 : UInt8)]))))) (spsOf (List.length (Tl.l (paZ w ((Lib.countB s (.mk (List.toArray [(32 : UInt8)]))) + 1) (spR s (.mk (List.toArray [(32 : UInt8)])))))) (sRow (Tl.l (paZ w ((Lib.countB s (.mk (List.toArray [(32 : UInt8)]))) + 1) (spR s (.mk (List.toArray [(32 : UInt8)])))))))))) == (ByteArray.toList s))) then
 (.some (.tup [(.agg [(.lit (.int .u8 (0 : Int))), (.lit (.int .i64 (0 : Int))), (.lit (.int .u32 (0 : Int))), (.lit (.int .u32 (0 : Int))), (.lit (.slice .none 0 0))]), (.lit (.int .i64 (7 : Int)))]))
 else (.some (.tup [(.agg [(.lit (.int .u8 (Tl.w (paZ w ((Lib.countB s (.mk (List.toArray [(32 : UInt8)]))) + 1) (spR s (.mk (List.toArray [(32 : UInt8)]))))))), (.lit (.int .i64 (Tl.many (paZ w ((Lib.countB s (.mk (List.toArray [(32 : UInt8)]))) + 1) (spR s (.mk (List.toArray [(32 : UInt8)]))))))), (.lit (.int .u32 (Tl.least (paZ w ((Lib.countB s (.mk (List.toArray [(32 : UInt8)]))) + 1) (spR s (.mk (List.toArray [(32 : UInt8)]))))))), (.lit (.int .u32 (Tl.most (paZ w ((Lib.countB s (.mk (List.toArray [(32 : UInt8)]))) + 1) (spR s (.mk (List.toArray [(32 : UInt8)]))))))), (.gsl 2 (List.length (Tl.l (paZ w ((Lib.countB s (.mk (List.toArray [(32 : UInt8)]))) + 1) (spR s (.mk (List.toArray [(32 : UInt8)])))))) (sRow (Tl.l (paZ w ((Lib.countB s (.mk (List.toArray [(32 : UInt8)]))) + 1) (spR s (.mk (List.toArray [(32 : UInt8)])))))))]), (.lit (.int .i64 (0 : Int)))]))
 else (.some (.tup [(.agg [(.lit (.int .u8 (0 : Int))), (.lit (.int .i64 (0 : Int))), (.lit (.int .u32 (0 : Int))), (.lit (.int .u32 (0 : Int))), (.lit (.slice .none 0 0))]), (.lit (.int .i64 (7 : Int)))])) : Option PV) := by
  kernel_rfl
theorem tparse_raw_c (m : Int) (t : TypeId) (fr : Nat × Nat) (w : Int) (s : ByteArray) : ((fnPure Tryz.prog ((E20 (GG m t fr)).withCuts (cut1 0 (paCut (GG m t fr)))) 60 Tryz.f10 (GG m t fr) [.lit (.int .u8 w), str s])).conds =
 (bif (bne (IntKind.wrap .u8 (((BitVec.toNat (HAnd.hAnd (BitVec.ofInt 8 w) (Complement.complement (BitVec.ofInt 8 (15 : Int))))) : Nat) : Int)) (0 : Int)) then
 true
 else bif ((okS s) && true) then
 bif ((okS s) && true) then
 bif ((areWds ((Lib.countB s (.mk (List.toArray [(32 : UInt8)]))) + 1) (spR s (.mk (List.toArray [(32 : UInt8)])))) && (Nat.ble ((Lib.countB s (.mk (List.toArray [(32 : UInt8)]))) + 1) (4294967290 : Nat))) then
 bif (tlB (Tl.w (paZ w ((Lib.countB s (.mk (List.toArray [(32 : UInt8)]))) + 1) (spR s (.mk (List.toArray [(32 : UInt8)]))))) (Tl.least (paZ w ((Lib.countB s (.mk (List.toArray [(32 : UInt8)]))) + 1) (spR s (.mk (List.toArray [(32 : UInt8)]))))) (Tl.most (paZ w ((Lib.countB s (.mk (List.toArray [(32 : UInt8)]))) + 1) (spR s (.mk (List.toArray [(32 : UInt8)]))))) (List.length (Tl.l (paZ w ((Lib.countB s (.mk (List.toArray [(32 : UInt8)]))) + 1) (spR s (.mk (List.toArray [(32 : UInt8)])))))) (sRow (Tl.l (paZ w ((Lib.countB s (.mk (List.toArray [(32 : UInt8)]))) + 1) (spR s (.mk (List.toArray [(32 : UInt8)]))))))) then
 bif (ckP (Tl.w (paZ w ((Lib.countB s (.mk (List.toArray [(32 : UInt8)]))) + 1) (spR s (.mk (List.toArray [(32 : UInt8)]))))) (Tl.many (paZ w ((Lib.countB s (.mk (List.toArray [(32 : UInt8)]))) + 1) (spR s (.mk (List.toArray [(32 : UInt8)]))))) (Tl.least (paZ w ((Lib.countB s (.mk (List.toArray [(32 : UInt8)]))) + 1) (spR s (.mk (List.toArray [(32 : UInt8)]))))) (Tl.most (paZ w ((Lib.countB s (.mk (List.toArray [(32 : UInt8)]))) + 1) (spR s (.mk (List.toArray [(32 : UInt8)]))))) (spsOf (List.length (Tl.l (paZ w ((Lib.countB s (.mk (List.toArray [(32 : UInt8)]))) + 1) (spR s (.mk (List.toArray [(32 : UInt8)])))))) (sRow (Tl.l (paZ w ((Lib.countB s (.mk (List.toArray [(32 : UInt8)]))) + 1) (spR s (.mk (List.toArray [(32 : UInt8)])))))))) then
 bif (!((ByteArray.toList (bs (twS (Tl.w (paZ w ((Lib.countB s (.mk (List.toArray [(32 : UInt8)]))) + 1) (spR s (.mk (List.toArray [(32 : UInt8)]))))) (Tl.many (paZ w ((Lib.countB s (.mk (List.toArray [(32 : UInt8)]))) + 1) (spR s (.mk (List.toArray [(32 : UInt8)]))))) (Tl.least (paZ w ((Lib.countB s (.mk (List.toArray [(32 : UInt8)]))) + 1) (spR s (.mk (List.toArray [(32 : UInt8)]))))) (Tl.most (paZ w ((Lib.countB s (.mk (List.toArray [(32 : UInt8)]))) + 1) (spR s (.mk (List.toArray [(32 : UInt8)]))))) (spsOf (List.length (Tl.l (paZ w ((Lib.countB s (.mk (List.toArray [(32 : UInt8)]))) + 1) (spR s (.mk (List.toArray [(32 : UInt8)])))))) (sRow (Tl.l (paZ w ((Lib.countB s (.mk (List.toArray [(32 : UInt8)]))) + 1) (spR s (.mk (List.toArray [(32 : UInt8)])))))))))) == (ByteArray.toList s))) then
 true
 else true
 else true
 else false
 else false
 else false
 else false : Bool) := by
  kernel_rfl
end
end Go.Proofs.YtcdghinmmhcfcaaGreatDoor.Ev

/- tally.Parse as a contract. No condition. -/
namespace Go.Proofs.YtcdghinmmhcfcaaGreatDoor.Ev
open Go Go.RowKit Go.Proofs Go.Proofs.YtcdghinmmhcfcaaGreatDoor.Str
set_option linter.unusedVariables false
set_option linter.unusedSimpArgs false
theorem wds_split (s : ByteArray) : wdsOf (Lib.countB s ⟨#[32]⟩ + 1) (spR s ⟨#[32]⟩) = splitC 32 (ls s) := by
  rw [← splitB_ls 32 s]
  have hlen : (Lib.splitB ⟨#[32]⟩ 0 (Lib.countB s ⟨#[32]⟩) s).length = Lib.countB s ⟨#[32]⟩ + 1 := Lib.splitB_all _ (by decide) 0 _ s rfl
  refine List.ext_getElem (by simp [wdsOf, strsOf, hlen]) fun i h1 h2 => ?_
  rw [List.length_map] at h2
  simp [wdsOf, strsOf, spR, strOf, pieces, h2]
theorem wds_are (s : ByteArray) (h : okS s = true) : areWds (Lib.countB s ⟨#[32]⟩ + 1) (spR s ⟨#[32]⟩) = true := by
  have hlen : (Lib.splitB ⟨#[32]⟩ 0 (Lib.countB s ⟨#[32]⟩) s).length = Lib.countB s ⟨#[32]⟩ + 1 := Lib.splitB_all _ (by decide) 0 _ s rfl
  have hs := okS_le h
  refine List.all_eq_true.2 fun i hi => ?_
  have hi := List.mem_range.1 hi
  rw [Bool.and_eq_true]
  refine ⟨rfl, okS_of ?_⟩
  show (pieces s ⟨#[32]⟩ i).size ≤ _
  have hm : ls (pieces s ⟨#[32]⟩ i) ∈ splitC 32 (ls s) := by
    rw [← splitB_ls 32 s]
    refine List.mem_map.2 ⟨_, ?_, rfl⟩
    unfold pieces
    rw [List.getD_eq_getElem?_getD, List.getElem?_eq_getElem (by omega)]
    exact List.getElem_mem _
  have := splitC_len 32 _ _ hm
  rw [ls_len, ls_len] at this
  omega
/-- what a text's words tell -/
def ptT (w : Int) (l : List UInt8) : Tl := rdA ⟨w, 0, 0, 0, []⟩ (splitC 32 l)
def ckT (x : Tl) : Bool := ckP x.w x.many x.least x.most x.l
def twT (x : Tl) : List UInt8 := twS x.w x.many x.least x.most x.l
def ptOk (w : Int) (l : List UInt8) : Bool := ckT (ptT w l) && decide (twT (ptT w l) = l)
theorem rdT_fit {x : Tl} {a v : List UInt8} (h : x.l.length ≤ 1024 ∧ u32N x.least = true ∧ u32N x.most = true) : (rdT x a v).w = x.w ∧ (rdT x a v).l.length ≤ 1024 ∧ u32N (rdT x a v).least = true ∧ u32N (rdT x a v).most = true := by
  have hw : ∀ z : Int, u32N (IntKind.u32.wrap z) = true := by
    intro z
    have e : IntKind.u32.wrap z = z % 4294967296 := by simp [IntKind.wrap, IntKind.signed, IntKind.bits]
    rw [e]
    unfold u32N
    simp only [Bool.and_eq_true, decide_eq_true_eq]
    omega
  have hr : (rdL v).length ≤ 1024 := by
    unfold rdL
    cases h : areS v && Nat.ble (spansS v).length 1024 with
    | false => simp
    | true =>
      simp only [Bool.and_eq_true] at h
      exact Nat.le_of_ble_eq_true h.2
  unfold rdT
  cases decide (a = wMIN) with
  | true => exact ⟨rfl, h.1, hw _, h.2.2⟩
  | false =>
    cases decide (a = wMAX) with
    | true => exact ⟨rfl, h.1, h.2.1, hw _⟩
    | false =>
      cases decide (a = wALL) with
      | true => exact ⟨rfl, hr, h.2.1, h.2.2⟩
      | false =>
        cases decide (a = wCOUNT) with
        | true => exact ⟨rfl, h.1, h.2.1, h.2.2⟩
        | false => exact ⟨rfl, h.1, h.2.1, h.2.2⟩
theorem rdA_fit : ∀ {L : List (List UInt8)} {x : Tl}, (x.l.length ≤ 1024 ∧ u32N x.least = true ∧ u32N x.most = true) → (rdA x L).w = x.w ∧ (rdA x L).l.length ≤ 1024 ∧ u32N (rdA x L).least = true ∧ u32N (rdA x L).most = true
  | [], _, h => ⟨rfl, h⟩
  | [_], _, h => ⟨rfl, h⟩
  | a :: v :: r, x, h => by
    have h1 := rdT_fit (a := a) (v := v) h
    have h2 := rdA_fit (L := r) h1.2
    exact ⟨h2.1.trans h1.1, h2.2⟩
theorem ptT_fit (w : Int) (l : List UInt8) : (ptT w l).w = w ∧ (ptT w l).l.length ≤ 1024 ∧ u32N (ptT w l).least = true ∧ u32N (ptT w l).most = true ∧ (ptT w l).l.all u32B = true := by
  have h := rdA_fit (L := splitC 32 l) (x := ⟨w, 0, 0, 0, []⟩) ⟨by simp, rfl, rfl⟩
  exact ⟨h.1, h.2.1, h.2.2.1, h.2.2.2, rdA_u32 rfl⟩
section
variable {m : Int} {t : TypeId} {fr : Nat × Nat}
def tlV (x : Tl) : PV := tlP x.w x.many x.least x.most x.l.length (sRow x.l)
def tlZ : PV := .agg [.lit (.int .u8 0), int 0, .lit (.int .u32 0), .lit (.int .u32 0), .lit (.slice none 0 0)]
def tparseG : List PV → Tr PV
  | [.lit (.int .u8 w), .lit (.string s)] => .br (okS s && (decide (0 ≤ w) && decide (w < 256))) (.br (aN w) (.leaf (.tup [tlZ, int 1])) (.br (ptOk w (ls s)) (.leaf (.tup [tlV (ptT w (ls s)), int 0])) (.leaf (.tup [tlZ, int 7])))) .fail
  | _ => .fail
theorem tparse_ok : PureOK Tryz.prog (GG m t fr) 10 tparseG := by
  refine PureOK.of (fn_cuts mixed E20_ok (fn := Tryz.f10) (cuts := cut1 0 (paCut (GG m t fr))) (by kernel_rfl) (CutLaws.one (by omega) (by kernel_rfl) fun st e st' h => cutOf_ok E20_ok mixed (noCuts_ok (envOf_cuts ..) _) paF_ok h)) fun ps p hp => ?_
  unfold tparseG at hp
  split at hp
  · rename_i w s
    obtain ⟨hb, hp⟩ := br_run hp
    simp only [Bool.and_eq_true] at hb
    obtain ⟨hs, hw0, hw1⟩ := hb
    have hv := tparse_raw_v m t fr w s
    have hc := tparse_raw_c m t fr w s
    have e1 : paZ w (Lib.countB s ⟨#[32]⟩ + 1) (spR s ⟨#[32]⟩) = ptT w (ls s) := by
      unfold paZ ptT
      rw [wds_split]
    have hcnt : Nat.ble (Lib.countB s ⟨#[32]⟩ + 1) 4294967290 = true := by
      refine Nat.ble_eq_true_of_le ?_
      have h1 := splitC_count 32 (ls s)
      rw [← wds_split, wds_len, ls_len] at h1
      have := okS_le hs
      omega
    obtain ⟨f1, f2, f3, f4, f5⟩ := ptT_fit w (ls s)
    have ht : tlB (ptT w (ls s)).w (ptT w (ls s)).least (ptT w (ls s)).most (ptT w (ls s)).l.length (sRow (ptT w (ls s)).l) = true := by
      have hl : Nat.ble (ptT w (ls s)).l.length 4294967280 = true := Nat.ble_eq_true_of_le (by omega)
      unfold tlB
      rw [f1, hw0, hw1, f3, f4, are_sRow f5, hl]
      rfl
    simp only [e1, sps_sRow, eqW] at hv hc
    rw [hs, wds_are s hs, hcnt, ht] at hc
    simp only [Tr.run] at hp
    have e2 : ∀ z : Tl, ckP z.w z.many z.least z.most z.l = ckT z := fun _ => rfl
    have e3 : ∀ z : Tl, twS z.w z.many z.least z.most z.l = twT z := fun _ => rfl
    have e4 : (ByteArray.toList (bs (twT (ptT w (ls s)))) == ByteArray.toList s) = decide (twT (ptT w (ls s)) = ls s) := by rw [eqB, ls_bs]
    rw [show bne (IntKind.wrap .u8 (((BitVec.toNat (HAnd.hAnd (BitVec.ofInt 8 w) (Complement.complement (BitVec.ofInt 8 (15 : Int))))) : Nat) : Int)) (0 : Int) = aN w from rfl, e2, e3, e4] at hv hc
    unfold ptOk at hp
    cases c1 : aN w with
    | true =>
      rw [c1] at hv hc hp
      simp only [cond_true, Option.some.injEq] at hp
      subst hp
      exact ⟨_, Tr.run_vc hv hc rfl rfl, PLe.of_eq rfl⟩
    | false =>
      rw [c1] at hv hc hp
      cases c2 : ckT (ptT w (ls s)) with
      | false =>
        rw [c2] at hv hc hp
        simp only [cond_false, Bool.false_and, Option.some.injEq] at hp
        subst hp
        exact ⟨_, Tr.run_vc hv hc rfl rfl, PLe.of_eq rfl⟩
      | true =>
        rw [c2] at hv hc hp
        cases c3 : decide (twT (ptT w (ls s)) = ls s) with
        | false =>
          rw [c3] at hv hc hp
          simp only [cond_false, Bool.and_false, Option.some.injEq] at hp
          subst hp
          exact ⟨_, Tr.run_vc hv hc rfl rfl, PLe.of_eq rfl⟩
        | true =>
          rw [c3] at hv hc hp
          simp only [cond_false, cond_true, Bool.and_true, Option.some.injEq] at hp
          subst hp
          exact ⟨_, Tr.run_vc hv hc rfl rfl, PLe.of_eq rfl⟩
  · cases hp
end
end Go.Proofs.YtcdghinmmhcfcaaGreatDoor.Ev

/- Lists of numbers: whether one is among them; whether they rise. No condition. -/
namespace Go.Proofs.YtcdghinmmhcfcaaGreatDoor.Ev
open Go Go.RowKit Go.Proofs Go.Proofs.YtcdghinmmhcfcaaGreatDoor.Str
set_option linter.unusedVariables false
set_option linter.unusedSimpArgs false
section
variable {m : Int} {t : TypeId} {fr : Nat × Nat}
def tnPure : List (Nat × (List PV → Tr PV)) := (10, tparseG) :: tlPure
theorem tnPure_ok {m : Int} {t : TypeId} {fr : Nat × Nat} : TabOK Tryz.prog (GG m t fr) tnPure := (TabOK.cons tparse_ok (fn := Tryz.f10) (by kernel_rfl) (by kernel_rfl) tlPure_ok)
noncomputable abbrev E21 (G : GT) : Env := envOf Tryz.prog G tnPure tlFull
theorem E21_ok : (E21 (GG m t fr)).ok Tryz.prog (GG m t fr) := envOf_ok mixed tnPure_ok tlFull_ok
def inOuts : Exit → Outs
  | .normal => { ks := [0, 1, 7, 8] }
  | .exit _ => { ks := [] }
  | _ => { ks := [4] }
noncomputable abbrev inRound (G : GT) := roundT Tryz.prog (E21 G) 60 G 19 inOuts .normal (theLoop 0 Tryz.f59)
theorem in_round (m : Int) (t : TypeId) (fr : Nat × Nat) (ns : List Int) (n n' : Nat) (v u i : Int) : (inRound (GG m t fr) ([.gsl 1 n (nRow ns), .lit (.int .u32 v), int u, int i], [])).run2 =
 (bif (decide (i < u)) then
 bif (v == (nu ns (Int.toNat i))) then
 (.some ((.ret, ([(.lit (.int .i64 i))], [])), [((decide ((0 : Int) ≤ i)) && (Nat.blt (Int.toNat i) n))]))
 else (.some ((.normal, ([(.gsl 1 n (nRow ns)), (.lit (.int .u32 v)), (.lit (.int .i64 u)), (.lit (.int .i64 (IntKind.wrap .i64 (i + (1 : Int)))))], [])), [((decide ((0 : Int) ≤ i)) && (Nat.blt (Int.toNat i) n))]))
 else (.some (((.exit 0), ([], [])), [])) : Option ((Exit × Kept) × List Bool)) := by
  kernel_rfl
def pcOuts : Exit → Outs
  | .normal => { ks := [0, 3] }
  | .exit _ => { ks := [0] }
  | _ => { ks := [2] }
noncomputable abbrev pcRound (G : GT) := roundT Tryz.prog (E21 G) 60 G 23 pcOuts .normal (theLoop 0 Tryz.f25)
theorem pc_round (m : Int) (t : TypeId) (fr : Nat × Nat) (ns : List Int) (n : Nat) (i : Int) : (pcRound (GG m t fr) ([.gsl 1 n (nRow ns), int i], [])).run2 =
 (bif (decide (i < ((n : Nat) : Int))) then
 bif (decide ((nu ns (Int.toNat i)) ≤ (nu ns (Int.toNat (IntKind.wrap .i64 (i - (1 : Int))))))) then
 (.some ((.ret, ([(.lit (.int .i64 (12 : Int)))], [])), [((decide ((0 : Int) ≤ (IntKind.wrap .i64 (i - (1 : Int))))) && (Nat.blt (Int.toNat (IntKind.wrap .i64 (i - (1 : Int)))) n)), ((decide ((0 : Int) ≤ i)) && (Nat.blt (Int.toNat i) n))]))
 else (.some ((.normal, ([(.gsl 1 n (nRow ns)), (.lit (.int .i64 (IntKind.wrap .i64 (i + (1 : Int)))))], [])), [((decide ((0 : Int) ≤ (IntKind.wrap .i64 (i - (1 : Int))))) && (Nat.blt (Int.toNat (IntKind.wrap .i64 (i - (1 : Int)))) n)), ((decide ((0 : Int) ≤ i)) && (Nat.blt (Int.toNat i) n))]))
 else (.some (((.exit 0), ([(.gsl 1 n (nRow ns))], [])), [])) : Option ((Exit × Kept) × List Bool)) := by
  kernel_rfl
def pdcOuts : Exit → Outs
  | .normal => { ks := [0, 5, 6] }
  | .exit _ => { ks := [0] }
  | _ => { ks := [2] }
noncomputable abbrev pdcRound (G : GT) := roundT Tryz.prog (E21 G) 60 G 27 pdcOuts .normal (theLoop 0 Tryz.f27)
theorem pdc_round (m : Int) (t : TypeId) (fr : Nat × Nat) (ns : List Int) (n : Nat) (u i : Int) : (pdcRound (GG m t fr) ([.gsl 1 n (nRow ns), int u, int i], [])).run2 =
 (bif (decide (i < u)) then
 bif (decide (i > (0 : Int))) then
 bif (decide ((nu ns (Int.toNat i)) ≤ (nu ns (Int.toNat (IntKind.wrap .i64 (i - (1 : Int))))))) then
 (.some ((.ret, ([(.lit (.int .i64 (12 : Int)))], [])), [((decide ((0 : Int) ≤ (IntKind.wrap .i64 (i - (1 : Int))))) && (Nat.blt (Int.toNat (IntKind.wrap .i64 (i - (1 : Int)))) n)), ((decide ((0 : Int) ≤ i)) && (Nat.blt (Int.toNat i) n))]))
 else (.some ((.normal, ([(.gsl 1 n (nRow ns)), (.lit (.int .i64 u)), (.lit (.int .i64 (IntKind.wrap .i64 (i + (1 : Int)))))], [])), [((decide ((0 : Int) ≤ (IntKind.wrap .i64 (i - (1 : Int))))) && (Nat.blt (Int.toNat (IntKind.wrap .i64 (i - (1 : Int)))) n)), ((decide ((0 : Int) ≤ i)) && (Nat.blt (Int.toNat i) n))]))
 else (.some ((.normal, ([(.gsl 1 n (nRow ns)), (.lit (.int .i64 u)), (.lit (.int .i64 (IntKind.wrap .i64 (i + (1 : Int)))))], [])), []))
 else (.some (((.exit 0), ([(.gsl 1 n (nRow ns))], [])), [])) : Option ((Exit × Kept) × List Bool)) := by
  kernel_rfl
/-- where a number stands first -/
def ixN (v : Int) : List Int → Nat → Int
  | [], _ => -1
  | x :: r, i => bif v == x then (i : Int) else ixN v r (i + 1)
def inEnd (z : Int) : Exit × Kept := bif z == -1 then (.exit 0, ([], [])) else (.ret, ([int z], []))
theorem in_LR (v : Int) (ns : List Int) (hn : ns.length ≤ 4294967280) : ∀ (s : List Int) (i : Nat), ns.drop i = s →
    LR Tryz.prog (E21 (GG m t fr)) 60 (GG m t fr) 19 inOuts .normal (theLoop 0 Tryz.f59) ([.gsl 1 ns.length (nRow ns), .lit (.int .u32 v), int ns.length, int i], []) (inEnd (ixN v s i)).1 (inEnd (ixN v s i)).2
  | [], i, hr => by
    have h := in_round m t fr ns ns.length 0 v ns.length i
    have hlen := List.drop_eq_nil_iff.1 hr
    have hd : decide ((i : Int) < (ns.length : Int)) = false := by simp; omega
    rw [hd] at h
    exact .last (Tr.run_of h rfl) (by simp [inEnd, ixN]) (by simp [inEnd, ixN])
  | y :: s, i, hr => by
    have h := in_round m t fr ns ns.length 0 v ns.length i
    obtain ⟨hlt, hx, hdr⟩ := nu_drop hr
    have hd : decide ((i : Int) < (ns.length : Int)) = true := by simp; omega
    have hw : IntKind.i64.wrap ((i : Int) + 1) = ((i + 1 : Nat) : Int) := wrap_succ (by omega)
    have b1 : Nat.blt i ns.length = true := by rw [Nat.blt_eq]; exact hlt
    have b3 : decide ((0 : Int) ≤ (i : Int)) = true := by simp
    rw [hd, hw, Int.toNat_natCast, hx, b1, b3] at h
    cases c : v == y with
    | true =>
      rw [c] at h
      have e : inEnd (ixN v (y :: s) i) = (.ret, ([int (i : Nat)], [])) := by
        rw [ixN, c]
        unfold inEnd
        have : (((i : Nat) : Int) == -1) = false := by
          rw [beqD]
          exact decide_eq_false (by omega)
        rw [cond_true, this]
        rfl
      rw [e]
      exact .last (Tr.run_of h rfl) (by simp) (by simp)
    | false =>
      rw [c] at h
      have e : ixN v (y :: s) i = ixN v s (i + 1) := by rw [ixN, c]; rfl
      rw [e]
      exact .more (Tr.run_of h rfl) (in_LR v ns hn s (i + 1) hdr)
def inF : Kept → Tr (Exit × Kept)
  | ([.gsl 1 n f, .lit (.int .u32 v), .lit (.int .i64 u), .lit (.int .i64 0)], []) => .br (areNums n f && decide (u = (n : Int)) && Nat.ble n 4294967280) (.br (ixN v (numsOf n f) 0 == -1) (.leaf (.exit 0, ([], []))) (.leaf (.ret, ([int (ixN v (numsOf n f) 0)], [])))) .fail
  | _ => .fail
theorem inF_ok (k : Kept) (e : Exit) (y : Kept) (h : (inF k).run = some (e, y)) : LR Tryz.prog (E21 (GG m t fr)) 60 (GG m t fr) 19 inOuts .normal (theLoop 0 Tryz.f59) k e y := by
  unfold inF at h
  split at h
  · rename_i n f v u
    have hb := br_run h
    clear h
    obtain ⟨hc, h⟩ := hb
    simp only [Bool.and_eq_true, decide_eq_true_eq, Nat.ble_eq] at hc
    obtain ⟨⟨hf, rfl⟩, hn⟩ := hc
    have hL := nums_len n f
    have key := in_LR (m := m) (t := t) (fr := fr) v (numsOf n f) (by omega) (numsOf n f) 0 rfl
    have hin : KLe ([.gsl 1 n f, .lit (.int .u32 v), int (n : Int), int 0], []) ([.gsl 1 (numsOf n f).length (nRow (numsOf n f)), .lit (.int .u32 v), int (numsOf n f).length, int (0 : Nat)], []) := by
      refine ⟨PLeL.cons (PLe.gsl hL.symm (nums_row hf)) (PLeL.cons (.refl _) (PLeL.cons (PLe.of_eq ?_) (.refl _))), .refl _⟩
      rw [hL]
    simp only [Tr.run] at h
    unfold inEnd at key
    cases c : ixN v (numsOf n f) 0 == -1 with
    | true =>
      rw [c] at h key
      simp only [cond_true, Option.some.injEq, Prod.mk.injEq] at h
      obtain ⟨rfl, rfl⟩ := h
      exact .le hin key
    | false =>
      rw [c] at h key
      simp only [cond_false, Option.some.injEq, Prod.mk.injEq] at h
      obtain ⟨rfl, rfl⟩ := h
      exact .le hin key
  · cases h
noncomputable abbrev inCut (G : GT) := cutOf G 19 inOuts 0 inF
theorem index_raw (m : Int) (t : TypeId) (fr : Nat × Nat) (n : Nat) (f : Nat → List PV) (v : Int) : (fnPure Tryz.prog ((E21 (GG m t fr)).withCuts (cut1 0 (inCut (GG m t fr)))) 60 Tryz.f59 (GG m t fr) [.gsl 1 n f, .lit (.int .u32 v)]).run2 =
 (bif ((ixN v (numsOf n f) 0) == (-1 : Int)) then
 (.some ((.lit (.int .i64 (-1 : Int))), [(((areNums n f) && (decide (((n : Nat) : Int) = ((n : Nat) : Int)))) && (Nat.ble n (4294967280 : Nat)))]))
 else (.some ((.lit (.int .i64 (ixN v (numsOf n f) 0))), [(((areNums n f) && (decide (((n : Nat) : Int) = ((n : Nat) : Int)))) && (Nat.ble n (4294967280 : Nat)))])) : Option (PV × List Bool)) := by
  kernel_rfl
end
end Go.Proofs.YtcdghinmmhcfcaaGreatDoor.Ev
