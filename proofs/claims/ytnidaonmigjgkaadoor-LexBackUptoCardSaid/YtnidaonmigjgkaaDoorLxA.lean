/- lex: a text's line, as the program and the document say it. No condition. -/
import Derived.Test.YtnidaonmigjgkaaDoorLxLib
import Derived.Test.YtnidaonmigjgkaaDoorStr
namespace Go.Proofs.YtnidaonmigjgkaaDoor.Ev
open Go Go.RowKit Go.Proofs Go.Proofs.YtnidaonmigjgkaaDoor.Str
set_option linter.unusedVariables false
set_option linter.unusedSimpArgs false
section
variable {m : Int} {t : TypeId} {fr : Nat × Nat}
noncomputable abbrev E1 (G : GT) : Env := envOf Tryd.prog G libPure libFull
theorem E1_ok : (E1 (GG m t fr)).ok Tryd.prog (GG m t fr) := envOf_ok mixed libPure_ok libFull_ok
theorem bs_ls (s : ByteArray) : bs (ls s) = s := mk_ls s
theorem ls_bs (l : List UInt8) : ls (bs l) = l := ls_mk l
theorem bs_len (l : List UInt8) : (bs l).size = l.length := by rw [← ls_len, ls_bs]
/-- a line is without its carriage return -/
def trimCR (l : List UInt8) : List UInt8 := Lib.trimSuffix l [13]
/-- the line that a text begins with, and what is behind it -/
def lineS (l : List UInt8) : List UInt8 × List UInt8 × Bool := bif (cutC 10 l).2.2 then (trimCR (cutC 10 l).1, (cutC 10 l).2.1, true) else (l, [], false)
def lineP (s : ByteArray) : PV := .tup [str (bs (lineS (ls s)).1), str (bs (lineS (ls s)).2.1), bool (lineS (ls s)).2.2]
def lineG : List PV → Tr PV
  | [.lit (.string s)] => .br (okS s) (.leaf (lineP s)) .fail
  | _ => .fail
theorem line_raw (s : ByteArray) : (fnPure Tryd.prog (E1 (GG m t fr)) 60 Tryd.f15 (GG m t fr) [str s]).run2 =
    bif (Lib.cut s.data.toList [10]).2.2 then some (.tup [str (bs (Lib.trimSuffix (Lib.cut s.data.toList [10]).1 [13])), str (bs (Lib.cut s.data.toList [10]).2.1), bool (Lib.cut s.data.toList [10]).2.2], [okS (bs (Lib.cut s.data.toList [10]).1), okS s])
    else some (.tup [str (bs (Lib.cut s.data.toList [10]).1), str (bs (Lib.cut s.data.toList [10]).2.1), bool (Lib.cut s.data.toList [10]).2.2], [okS s]) := by
  kernel_rfl
theorem cutC_len (c : UInt8) (l : List UInt8) : (cutC c l).1.length ≤ l.length ∧ (cutC c l).2.1.length ≤ l.length := by
  induction l with
  | nil => simp [cutC]
  | cons b l ih =>
    unfold cutC
    split
    · simp
    · simp
      omega
theorem cutC_none {c : UInt8} {l : List UInt8} (h : (cutC c l).2.2 = false) : cutC c l = (l, [], false) := by
  induction l with
  | nil => rfl
  | cons b l ih =>
    unfold cutC at h ⊢
    split at h
    · cases h
    · rename_i hb
      rw [if_neg hb, ih h]
theorem line_ok : PureOK Tryd.prog (GG m t fr) 15 lineG := by
  refine PureOK.of (fn_pure mixed E1_ok (envOf_cuts ..) (fn := Tryd.f15) (by kernel_rfl)) fun ps p hp => ?_
  unfold lineG at hp
  split at hp
  · rename_i s
    obtain ⟨hs, hp⟩ := br_run hp
    simp only [Tr.run, Option.some.injEq] at hp
    subst hp
    have h := line_raw (m := m) (t := t) (fr := fr) s
    have hcut : Lib.cut s.data.toList [10] = cutC 10 (ls s) := cut_one 10 (ls s)
    rw [hcut] at h
    have hl := cutC_len 10 (ls s)
    rw [ls_len] at hl
    have hs' := okS_le hs
    cases hc : (cutC 10 (ls s)).2.2 with
    | true =>
      rw [hc] at h
      have h1 : okS (bs (cutC 10 (ls s)).1) = true := okS_of (by rw [bs_len]; omega)
      refine ⟨_, Tr.run_of h (by simp [hs, h1]), PLe.of_eq ?_⟩
      simp [lineP, lineS, hc, trimCR]
    | false =>
      rw [hc] at h
      refine ⟨_, Tr.run_of h (by simp [hs]), PLe.of_eq ?_⟩
      simp [lineP, lineS, hc, cutC_none hc]
  · cases hp
-- the document's
def rlineOuts : Exit → Outs
  | .normal => { ks := [0, 5] }
  | .exit _ => { ks := [0] }
  | .ret => { ks := [2, 3, 4] }
  | _ => { ks := [] }
noncomputable abbrev rlineRound (G : GT) := roundT Tryd.prog (E1 G) 60 G 37 rlineOuts .normal (theLoop 0 Tryd.f16)
theorem rline_round (s : ByteArray) (i : Int) : (rlineRound (GG m t fr) ([str s, int i], [])).run2 =
    bif decide (i < (s.size : Int)) then bif ((s.data.getD i.toNat 0).toNat : Int) == 10 then bif decide (i > 0) then
      bif ((s.data.getD (IntKind.i64.wrap (i - 1)).toNat 0).toNat : Int) == 13 then
        some ((.ret, ([str (s.extract 0 (IntKind.i64.wrap (i - 1)).toNat), str (s.extract (IntKind.i64.wrap (i + 1)).toNat s.size), bool true], [])),
          [decide (0 ≤ IntKind.i64.wrap (i + 1)) && decide (IntKind.i64.wrap (i + 1) ≤ (s.size : Int)) && decide ((s.size : Int) ≤ s.size), decide (0 ≤ (0 : Int)) && decide ((0 : Int) ≤ IntKind.i64.wrap (i - 1)) && decide (IntKind.i64.wrap (i - 1) ≤ (s.size : Int)), decide (0 ≤ IntKind.i64.wrap (i - 1)) && Nat.blt (IntKind.i64.wrap (i - 1)).toNat s.size, decide (0 ≤ i) && Nat.blt i.toNat s.size])
      else some ((.ret, ([str (s.extract 0 i.toNat), str (s.extract (IntKind.i64.wrap (i + 1)).toNat s.size), bool true], [])),
          [decide (0 ≤ IntKind.i64.wrap (i + 1)) && decide (IntKind.i64.wrap (i + 1) ≤ (s.size : Int)) && decide ((s.size : Int) ≤ s.size), decide (0 ≤ (0 : Int)) && decide ((0 : Int) ≤ i) && decide (i ≤ (s.size : Int)), decide (0 ≤ IntKind.i64.wrap (i - 1)) && Nat.blt (IntKind.i64.wrap (i - 1)).toNat s.size, decide (0 ≤ i) && Nat.blt i.toNat s.size])
      else some ((.ret, ([str (s.extract 0 i.toNat), str (s.extract (IntKind.i64.wrap (i + 1)).toNat s.size), bool true], [])),
          [decide (0 ≤ IntKind.i64.wrap (i + 1)) && decide (IntKind.i64.wrap (i + 1) ≤ (s.size : Int)) && decide ((s.size : Int) ≤ s.size), decide (0 ≤ (0 : Int)) && decide ((0 : Int) ≤ i) && decide (i ≤ (s.size : Int)), decide (0 ≤ i) && Nat.blt i.toNat s.size])
      else some ((.normal, ([str s, int (IntKind.i64.wrap (i + 1))], [])), [decide (0 ≤ i) && Nat.blt i.toNat s.size])
    else some ((.exit 0, ([str s], [])), []) := by
  kernel_rfl
theorem bs_ext (s : ByteArray) (a b : Nat) : s.extract a b = bs (((ls s).take b).drop a) := ls_inj (by rw [ls_ext, ls_bs])
theorem get_drop {s : ByteArray} {i : Nat} {c : UInt8} {r : List UInt8} (h : (ls s).drop i = c :: r) : i < s.size ∧ s.data.getD i 0 = c ∧ (ls s).drop (i + 1) = r := by
  have hlt : i < (ls s).length := by
    rcases Nat.lt_or_ge i (ls s).length with h' | h'
    · exact h'
    · rw [List.drop_eq_nil_of_le h'] at h
      cases h
  rw [List.drop_eq_getElem_cons hlt] at h
  simp only [List.cons.injEq] at h
  refine ⟨by rw [← ls_len]; exact hlt, ?_, h.2⟩
  rw [← h.1]
  have h1 : i < s.data.size := by simpa [ls] using hlt
  have h2 : i < s.size := h1
  simp [ls, Array.getD, h2]
theorem trimCR_take (l : List UInt8) (i : Nat) (hi : i < l.length) : trimCR (l.take (i + 1)) = if l[i] = 13 then l.take i else l.take (i + 1) := by
  unfold trimCR Lib.trimSuffix Lib.hasSuffix
  have hl : l.take (i + 1) = l.take i ++ [l[i]] := List.take_succ_eq_append_getElem hi
  by_cases h : l[i] = 13
  · rw [if_pos h, hl, h]
    simp
  · have hn : ([13] : List UInt8).isSuffixOf (l.take i ++ [l[i]]) = false := by
      rw [Bool.eq_false_iff]
      intro hs
      rw [List.isSuffixOf_iff_suffix] at hs
      obtain ⟨t, ht⟩ := hs
      have := (List.append_inj' ht rfl).2
      simp at this
      exact h this.symm
    rw [if_neg h, hl, hn]
    rfl
theorem trimCR_nil : trimCR [] = [] := rfl
def rlineEnd (s : ByteArray) (i : Nat) (r : List UInt8) : Exit × Kept := match cutC 10 r with
  | (a, b, true) => (.ret, ([str (bs (trimCR ((ls s).take i ++ a))), str (bs b), bool true], []))
  | (_, _, false) => (.exit 0, ([str s], []))
theorem rline_LR (s : ByteArray) (hs : s.size ≤ 4294967280) : ∀ (r : List UInt8) (i : Nat), (ls s).drop i = r → i ≤ s.size →
    LR Tryd.prog (E1 (GG m t fr)) 60 (GG m t fr) 37 rlineOuts .normal (theLoop 0 Tryd.f16) ([str s, int i], []) (rlineEnd s i r).1 (rlineEnd s i r).2
  | [], i, hr, hi => by
    have h := rline_round (m := m) (t := t) (fr := fr) s i
    have hlen : s.size ≤ i := by
      have := List.drop_eq_nil_iff.1 hr
      rwa [ls_len] at this
    have hd : decide ((i : Int) < (s.size : Int)) = false := by simp; omega
    rw [hd] at h
    have hend : rlineEnd s i [] = (.exit 0, ([str s], [])) := rfl
    rw [hend]
    exact .last (Tr.run_of h rfl) (by simp) (by simp)
  | c :: r, i, hr, hi => by
    have h := rline_round (m := m) (t := t) (fr := fr) s i
    obtain ⟨hlt, hget, hdrop⟩ := get_drop hr
    have hd : decide ((i : Int) < (s.size : Int)) = true := by simp; omega
    have hw : IntKind.i64.wrap ((i : Int) + 1) = ((i + 1 : Nat) : Int) := wrap_succ (by omega)
    rw [hd, hw, Int.toNat_natCast, hget] at h
    simp only [cond_true] at h
    by_cases hc : c = 10
    · subst hc
      have e0 : (((10 : UInt8).toNat : Int) == 10) = true := rfl
      rw [e0] at h
      simp only [cond_true] at h
      have hend : rlineEnd s i (10 :: r) = (.ret, ([str (bs (trimCR ((ls s).take i))), str (bs r), bool true], [])) := by
        simp [rlineEnd, cutC]
      rw [hend]
      have hrest : s.extract ((i + 1 : Nat) : Int).toNat s.size = bs r := by
        rw [bs_ext, Int.toNat_natCast, ← ls_len, List.take_length, hdrop]
      rw [hrest] at h
      rcases Nat.eq_zero_or_pos i with h0 | h0
      · subst h0
        have e1 : decide (((0 : Nat) : Int) > 0) = false := rfl
        rw [e1] at h
        refine .out (.last (Tr.run_of h (by simp; omega)) (by simp) (by simp)) ⟨PLeL.cons (PLe.of_eq ?_) (.refl _), .refl _⟩
        rw [bs_ext]
        rfl
      · obtain ⟨k, rfl⟩ : ∃ k, i = k + 1 := ⟨i - 1, by omega⟩
        have e1 : decide (((k + 1 : Nat) : Int) > 0) = true := by simp
        have hwm : IntKind.i64.wrap (((k + 1 : Nat) : Int) - 1) = (k : Int) := by
          have e : ((k + 1 : Nat) : Int) - 1 = (k : Int) := by omega
          rw [e]
          exact wrap_nat (by omega)
        rw [e1, hwm, Int.toNat_natCast] at h
        simp only [cond_true] at h
        have hk : k < (ls s).length := by rw [ls_len]; omega
        have hkk : s.data.getD k 0 = (ls s)[k] := by
          have h2 : k < s.size := by omega
          simp [ls, Array.getD, h2]
        rw [hkk] at h
        by_cases h13 : (ls s)[k] = 13
        · rw [h13] at h
          have e2 : (((13 : UInt8).toNat : Int) == 13) = true := rfl
          rw [e2] at h
          refine .out (.last (Tr.run_of h (by simp; omega)) (by simp) (by simp)) ⟨PLeL.cons (PLe.of_eq ?_) (.refl _), .refl _⟩
          rw [bs_ext, trimCR_take _ _ hk, if_pos h13]
          rfl
        · have e2 : (((ls s)[k].toNat : Int) == 13) = false := by
            simp only [beq_eq_false_iff_ne, ne_eq]
            intro hc
            refine h13 (UInt8.toNat_inj.1 ?_)
            have : ((13 : UInt8).toNat : Int) = 13 := rfl
            omega
          rw [e2] at h
          refine .out (.last (Tr.run_of h (by simp; omega)) (by simp) (by simp)) ⟨PLeL.cons (PLe.of_eq ?_) (.refl _), .refl _⟩
          rw [bs_ext, trimCR_take _ _ hk, if_neg h13]
          rfl
    · have e0 : ((c.toNat : Int) == 10) = false := by
        simp only [beq_eq_false_iff_ne, ne_eq]
        intro he
        refine hc (UInt8.toNat_inj.1 ?_)
        have : ((10 : UInt8).toNat : Int) = 10 := rfl
        omega
      rw [e0] at h
      refine .more (Tr.run_of h (by simp; omega)) ?_
      have ih := rline_LR s hs r (i + 1) hdrop (by omega)
      have htake : (ls s).take (i + 1) = (ls s).take i ++ [c] := by
        have hlt' : i < (ls s).length := by rw [ls_len]; exact hlt
        have hx := List.drop_eq_getElem_cons hlt'
        rw [hr] at hx
        simp only [List.cons.injEq] at hx
        rw [List.take_succ_eq_append_getElem hlt', ← hx.1]
      have hend : rlineEnd s i (c :: r) = rlineEnd s (i + 1) r := by
        simp only [rlineEnd, cutC, if_neg hc]
        rw [htake]
        rcases hcr : cutC 10 r with ⟨a, b, d⟩
        cases d <;> simp
      rw [hend]
      exact ih
def rlineF : Kept → Tr (Exit × Kept)
  | ([.lit (.string s), .lit (.int .i64 i)], []) => .br (okS s && decide (0 ≤ i) && decide (i ≤ (s.size : Int))) (.br (cutC 10 ((ls s).drop i.toNat)).2.2 (.leaf (.ret, ([str (bs (trimCR ((ls s).take i.toNat ++ (cutC 10 ((ls s).drop i.toNat)).1))), str (bs (cutC 10 ((ls s).drop i.toNat)).2.1), bool true], [])))
      (.leaf (.exit 0, ([str s], [])))) .fail
  | _ => .fail
theorem rlineF_ok (x : Kept) (e : Exit) (y : Kept) (h : (rlineF x).run = some (e, y)) : LR Tryd.prog (E1 (GG m t fr)) 60 (GG m t fr) 37 rlineOuts .normal (theLoop 0 Tryd.f16) x e y := by
  unfold rlineF at h
  split at h
  · rename_i s i
    obtain ⟨hc, h⟩ := br_run h
    simp only [Bool.and_eq_true, decide_eq_true_eq] at hc
    obtain ⟨n, rfl⟩ : ∃ n : Nat, i = n := ⟨i.toNat, by omega⟩
    rw [Int.toNat_natCast] at h
    have := rline_LR (m := m) (t := t) (fr := fr) s (okS_le hc.1.1) ((ls s).drop n) n rfl (by omega)
    unfold rlineEnd at this
    rcases hcr : cutC 10 ((ls s).drop n) with ⟨a, b, d⟩
    rw [hcr] at this h
    cases d with
    | true =>
      simp only [Tr.run, cond_true, Option.some.injEq, Prod.mk.injEq] at h
      obtain ⟨rfl, rfl⟩ := h
      exact this
    | false =>
      simp only [Tr.run, cond_false, Option.some.injEq, Prod.mk.injEq] at h
      obtain ⟨rfl, rfl⟩ := h
      exact this
  · cases h
noncomputable abbrev rlineCut (G : GT) := cutOf G 37 rlineOuts 0 rlineF
theorem rline_raw (s : ByteArray) : (fnPure Tryd.prog ((E1 (GG m t fr)).withCuts (cut1 0 (rlineCut (GG m t fr)))) 60 Tryd.f16 (GG m t fr) [str s]).run2 =
    bif (cutC 10 (ls s)).2.2 then some (.tup [str (bs (trimCR (cutC 10 (ls s)).1)), str (bs (cutC 10 (ls s)).2.1), bool true], [okS s && decide (0 ≤ (0 : Int)) && decide ((0 : Int) ≤ (s.size : Int))])
    else some (.tup [str s, str .empty, bool false], [okS s && decide (0 ≤ (0 : Int)) && decide ((0 : Int) ≤ (s.size : Int))]) := by
  kernel_rfl
theorem rline_ok : PureOK Tryd.prog (GG m t fr) 16 lineG := by
  refine PureOK.of (fn_cuts mixed E1_ok (fn := Tryd.f16) (cuts := cut1 0 (rlineCut (GG m t fr))) (by kernel_rfl) (CutLaws.one (by omega) (by kernel_rfl) fun st e st' h => cutOf_ok E1_ok mixed (noCuts_ok (envOf_cuts ..) _) rlineF_ok h)) fun ps p hp => ?_
  unfold lineG at hp
  split at hp
  · rename_i s
    obtain ⟨hs, hp⟩ := br_run hp
    simp only [Tr.run, Option.some.injEq] at hp
    subst hp
    have h := rline_raw (m := m) (t := t) (fr := fr) s
    cases hc : (cutC 10 (ls s)).2.2 with
    | true =>
      rw [hc] at h
      refine ⟨_, Tr.run_of h (by simp [hs]), PLe.of_eq ?_⟩
      simp [lineP, lineS, hc]
    | false =>
      rw [hc] at h
      refine ⟨_, Tr.run_of h (by simp [hs]), PLe.of_eq ?_⟩
      simp [lineP, lineS, hc, bs_ls]
      rfl
  · cases hp
end
end Go.Proofs.YtnidaonmigjgkaaDoor.Ev
