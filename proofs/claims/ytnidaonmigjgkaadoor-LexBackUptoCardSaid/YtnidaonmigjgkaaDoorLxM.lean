/- lex: the tokens of a text. No condition. -/
import Derived.Test.YtnidaonmigjgkaaDoorLxK
namespace Go.Proofs.YtnidaonmigjgkaaDoor.Ev
open Go Go.RowKit Go.Proofs Go.Proofs.YtnidaonmigjgkaaDoor.Str
set_option linter.unusedVariables false
set_option linter.unusedSimpArgs false
section
variable {m : Int} {t : TypeId} {fr : Nat × Nat}
def blS (l : List UInt8) : List UInt8 := Lib.trimLeftB l 32
def blanksG (cs ps : List PV) : Tr (PV × List PV) := match cs, ps with
  | [.lit (.string s), .lit (.bool g), .lit (.bool d)], [] => .leaf (.tup [], [str (bs (blS (ls s))), bool (g || decide ((blS (ls s)).length < (ls s).length)), bool d])
  | _, _ => .fail
theorem blanks_ok : SpotOK Tryd.prog (GG m t fr) 26 61 blanksG := by
  refine SpotOK.of (spot9_ok _ Tryd.f26 (by kernel_rfl) _) fun cs ps p cs' hp => ?_
  unfold blanksG at hp
  split at hp
  · rename_i s g d
    simp only [Tr.run, Option.some.injEq, Prod.mk.injEq] at hp
    obtain ⟨rfl, rfl⟩ := hp
    have h := bl_raw m t fr s g d
    have e : Lib.trimLeftB (ls s) 32 = blS (ls s) := rfl
    have e2 : decide ((((blS (ls s)).length : Nat) : Int) < (((ls s).length : Nat) : Int)) = decide ((blS (ls s)).length < (ls s).length) := by
      rw [decide_eq_decide]
      omega
    rw [e, e2] at h
    cases g with
    | true => exact Tr.run_of h (by simp)
    | false => exact Tr.run_of h (by simp)
  · cases hp
def tkFull : List (Nat × (List PV → Mem → Tr (PV × Mem))) := (27, spotG 61 tokenG) :: (26, spotG 61 blanksG) :: libFull
theorem tkFull_ok : FullOK Tryd.prog (GG m t fr) tkFull :=
  FullOK.cons (spot_fn token_ok) (fn := Tryd.f27) (by kernel_rfl) (by kernel_rfl) (FullOK.cons (spot_fn blanks_ok) (fn := Tryd.f26) (by kernel_rfl) (by kernel_rfl) libFull_ok)
noncomputable abbrev E10 (G : GT) : Env := envOf Tryd.prog G rdPure tkFull
theorem E10_ok : (E10 (GG m t fr)).ok Tryd.prog (GG m t fr) := envOf_ok mixed rdPure_ok tkFull_ok
def tsOuts : Exit → Outs
  | .normal => { ks := [4, 5], rs := [.slot 4, .slot 5], nils := [(5, 38, 2)] }
  | .exit _ => { ks := [4, 5], rs := [.slot 4, .slot 5], nils := [(5, 38, 2)] }
  | _ => { ks := [2, 3] }
noncomputable abbrev tsRound (G : GT) := roundT Tryd.prog (E10 G) 60 G 62 tsOuts .normal (theLoop 0 Tryd.f12)
-- from: ts_round [bs, okS, ls, tokR, blS, rowApp, rowOf, tok] (m : Int) (t : TypeId) (fr : Nat × Nat) (s : ByteArray) (g : Bool) (n : Nat) (ts : List (Int × ByteArray)) : (tsRound (GG m t fr) ([.ptr 0 0, .own 1], [.cells 61 [str s, bool g, bool false], .row 38 2 n (tRow ts)])).run2
theorem ts_round (m : Int) (t : TypeId) (fr : Nat × Nat) (s : ByteArray) (g : Bool) (n : Nat) (ts : List (Int × ByteArray)) : (tsRound (GG m t fr) ([.ptr 0 0, .own 1], [.cells 61 [str s, bool g, bool false], .row 38 2 n (tRow ts)])).run2 =
    (bif (!((ByteArray.toList s) == (ByteArray.toList (.mk (List.toArray []))))) then
        bif (Prod.snd (Prod.snd (Prod.snd (tokR (ls s))))) then
          (.some ((.ret, ([(.lit (.slice .none 0 0)), (.lit (.int .i64 (7 : Int)))], [])), [true, true, true, true, ((okS s) && (Nat.blt 0 (List.length (ls s))))]))
        else bif (decide (((n : Nat) : Int) > (0 : Int))) then
            bif (!g) then
              bif ((Prod.fst (tok ts (Int.toNat (IntKind.wrap .i64 (((n : Nat) : Int) - (1 : Int)))))) == (3 : Int)) then
                (.some ((.normal, ([(.ptr 0 0), (.own 1)], [(.cells (61 : TypeId) [(.lit (.string (bs (blS (Prod.fst (Prod.snd (Prod.snd (tokR (ls s))))))))), (.lit (.bool (decide ((List.length (blS (Prod.fst (Prod.snd (Prod.snd (tokR (ls s))))))) < (List.length (Prod.fst (Prod.snd (Prod.snd (tokR (ls s)))))))))), (.lit (.bool (Prod.snd (Prod.snd (Prod.snd (tokR (ls s)))))))]), (.row 38 2 (n + 1) (rowApp n (tRow ts) (rowOf [(.lit (.int .u8 (Prod.fst (tokR (ls s))))), (.lit (.string (bs (Prod.fst (Prod.snd (tokR (ls s)))))))] 2)))])), [(Nat.ble ((n + 1) * 24) (140737488355328 : Nat)), true, true, true, true, (Nat.blt (Int.toNat (IntKind.wrap .i64 (((n : Nat) : Int) - (1 : Int)))) n), ((decide ((0 : Int) ≤ (IntKind.wrap .i64 (((n : Nat) : Int) - (1 : Int))))) && (Nat.blt (Int.toNat (IntKind.wrap .i64 (((n : Nat) : Int) - (1 : Int)))) n)), ((okS s) && (Nat.blt 0 (List.length (ls s))))]))
              else bif ((Prod.fst (tokR (ls s))) == (4 : Int)) then
                  (.some ((.normal, ([(.ptr 0 0), (.own 1)], [(.cells (61 : TypeId) [(.lit (.string (bs (blS (Prod.fst (Prod.snd (Prod.snd (tokR (ls s))))))))), (.lit (.bool (decide ((List.length (blS (Prod.fst (Prod.snd (Prod.snd (tokR (ls s))))))) < (List.length (Prod.fst (Prod.snd (Prod.snd (tokR (ls s)))))))))), (.lit (.bool (Prod.snd (Prod.snd (Prod.snd (tokR (ls s)))))))]), (.row 38 2 (n + 1) (rowApp n (tRow ts) (rowOf [(.lit (.int .u8 (Prod.fst (tokR (ls s))))), (.lit (.string (bs (Prod.fst (Prod.snd (tokR (ls s)))))))] 2)))])), [(Nat.ble ((n + 1) * 24) (140737488355328 : Nat)), true, true, (Nat.blt (Int.toNat (IntKind.wrap .i64 (((n : Nat) : Int) - (1 : Int)))) n), ((decide ((0 : Int) ≤ (IntKind.wrap .i64 (((n : Nat) : Int) - (1 : Int))))) && (Nat.blt (Int.toNat (IntKind.wrap .i64 (((n : Nat) : Int) - (1 : Int)))) n)), ((okS s) && (Nat.blt 0 (List.length (ls s))))]))
                else bif ((Prod.fst (tok ts (Int.toNat (IntKind.wrap .i64 (((n : Nat) : Int) - (1 : Int)))))) == (4 : Int)) then
                    bif (!((Prod.fst (tokR (ls s))) == (3 : Int))) then
                      (.some ((.ret, ([(.lit (.slice .none 0 0)), (.lit (.int .i64 (7 : Int)))], [])), [(Nat.blt (Int.toNat (IntKind.wrap .i64 (((n : Nat) : Int) - (1 : Int)))) n), ((decide ((0 : Int) ≤ (IntKind.wrap .i64 (((n : Nat) : Int) - (1 : Int))))) && (Nat.blt (Int.toNat (IntKind.wrap .i64 (((n : Nat) : Int) - (1 : Int)))) n)), ((okS s) && (Nat.blt 0 (List.length (ls s))))]))
                    else (.some ((.normal, ([(.ptr 0 0), (.own 1)], [(.cells (61 : TypeId) [(.lit (.string (bs (blS (Prod.fst (Prod.snd (Prod.snd (tokR (ls s))))))))), (.lit (.bool (decide ((List.length (blS (Prod.fst (Prod.snd (Prod.snd (tokR (ls s))))))) < (List.length (Prod.fst (Prod.snd (Prod.snd (tokR (ls s)))))))))), (.lit (.bool (Prod.snd (Prod.snd (Prod.snd (tokR (ls s)))))))]), (.row 38 2 (n + 1) (rowApp n (tRow ts) (rowOf [(.lit (.int .u8 (Prod.fst (tokR (ls s))))), (.lit (.string (bs (Prod.fst (Prod.snd (tokR (ls s)))))))] 2)))])), [(Nat.ble ((n + 1) * 24) (140737488355328 : Nat)), (Nat.blt (Int.toNat (IntKind.wrap .i64 (((n : Nat) : Int) - (1 : Int)))) n), ((decide ((0 : Int) ≤ (IntKind.wrap .i64 (((n : Nat) : Int) - (1 : Int))))) && (Nat.blt (Int.toNat (IntKind.wrap .i64 (((n : Nat) : Int) - (1 : Int)))) n)), ((okS s) && (Nat.blt 0 (List.length (ls s))))]))
                  else (.some ((.ret, ([(.lit (.slice .none 0 0)), (.lit (.int .i64 (7 : Int)))], [])), [(Nat.blt (Int.toNat (IntKind.wrap .i64 (((n : Nat) : Int) - (1 : Int)))) n), ((decide ((0 : Int) ≤ (IntKind.wrap .i64 (((n : Nat) : Int) - (1 : Int))))) && (Nat.blt (Int.toNat (IntKind.wrap .i64 (((n : Nat) : Int) - (1 : Int)))) n)), ((okS s) && (Nat.blt 0 (List.length (ls s))))]))
            else (.some ((.normal, ([(.ptr 0 0), (.own 1)], [(.cells (61 : TypeId) [(.lit (.string (bs (blS (Prod.fst (Prod.snd (Prod.snd (tokR (ls s))))))))), (.lit (.bool (decide ((List.length (blS (Prod.fst (Prod.snd (Prod.snd (tokR (ls s))))))) < (List.length (Prod.fst (Prod.snd (Prod.snd (tokR (ls s)))))))))), (.lit (.bool (Prod.snd (Prod.snd (Prod.snd (tokR (ls s)))))))]), (.row 38 2 (n + 1) (rowApp n (tRow ts) (rowOf [(.lit (.int .u8 (Prod.fst (tokR (ls s))))), (.lit (.string (bs (Prod.fst (Prod.snd (tokR (ls s)))))))] 2)))])), [(Nat.ble ((n + 1) * 24) (140737488355328 : Nat)), ((okS s) && (Nat.blt 0 (List.length (ls s))))]))
          else (.some ((.normal, ([(.ptr 0 0), (.own 1)], [(.cells (61 : TypeId) [(.lit (.string (bs (blS (Prod.fst (Prod.snd (Prod.snd (tokR (ls s))))))))), (.lit (.bool (decide ((List.length (blS (Prod.fst (Prod.snd (Prod.snd (tokR (ls s))))))) < (List.length (Prod.fst (Prod.snd (Prod.snd (tokR (ls s)))))))))), (.lit (.bool (Prod.snd (Prod.snd (Prod.snd (tokR (ls s)))))))]), (.row 38 2 (n + 1) (rowApp n (tRow ts) (rowOf [(.lit (.int .u8 (Prod.fst (tokR (ls s))))), (.lit (.string (bs (Prod.fst (Prod.snd (tokR (ls s)))))))] 2)))])), [(Nat.ble ((n + 1) * 24) (140737488355328 : Nat)), ((okS s) && (Nat.blt 0 (List.length (ls s))))]))
      else (.some (((.exit 0), ([(.ptr 0 0), (.own 1)], [(.cells (61 : TypeId) [(.lit (.string s)), (.lit (.bool g)), (.lit (.bool false))]), (.row (38 : TypeId) 2 n (fun i => [PV.lit (Value.int IntKind.u8 (tok ts i).fst), PV.lit (Value.string (tok ts i).snd)]))])), [])) : Option ((Exit × Kept) × List Bool)) := by
  kernel_rfl
theorem lineS_lt {l : List UInt8} (h : (lineS l).2.2 = true) : (lineS l).2.1.length < l.length := by
  obtain ⟨p, q, hp, rfl⟩ := line_found h
  rw [line_of hp]
  simp
  omega
theorem qR_len : ∀ (n : Nat) (l : List UInt8), l.length ≤ n → (qR l).2.length ≤ l.length
  | n, [], _ => by simp [qR]
  | n, [c], _ => by unfold qR; cases decide (c = 34) <;> cases (decide (c = 13) || decide (c = 10)) <;> simp
  | 0, c :: e :: r, h => by simp at h
  | n + 1, c :: e :: r, h => by
    simp only [List.length_cons] at h
    have h1 := qR_len n r (by omega)
    have h2 := qR_len n (e :: r) (by simp; omega)
    simp only [List.length_cons] at h2
    unfold qR
    cases decide (c = 34) <;> cases (decide (c = 13) || decide (c = 10)) <;> cases decide (c = 92) <;> cases (decide (e = 34) || decide (e = 92)) <;> simp <;> omega
theorem tokR_cons (c : UInt8) (r : List UInt8) : tokR (c :: r) = bif decide (c = 40) then (3, [40], r, false) else bif decide (c = 41) then (4, [41], r, false) else bif decide (c = 34) then (2, theQ r, restQ r, !hasQ r)
    else bif decide (c = 123) then (bif litB (c :: r) then (2, (lineS (c :: r)).2.1.take (annR (lineS (c :: r)).1), (lineS (c :: r)).2.1.drop (annR (lineS (c :: r)).1), false) else (2, [], c :: r, true))
    else (1, (c :: r).take (wdLen (c :: r)), (c :: r).drop (wdLen (c :: r)), decide (wdLen (c :: r) = 0)) := rfl
theorem tokR_lt {l : List UInt8} (h : (tokR l).2.2.2 = false) : (tokR l).2.2.1.length < l.length := by
  rcases l with _ | ⟨c, r⟩
  · simp [tokR] at h
  · rw [tokR_cons] at h ⊢
    cases c1 : decide (c = 40) with
    | true => simp
    | false =>
    cases c2 : decide (c = 41) with
    | true => simp
    | false =>
    cases c3 : decide (c = 34) with
    | true =>
      have := qR_len r.length r (Nat.le_refl _)
      simp [restQ]
      omega
    | false =>
    rw [c1, c2, c3] at h
    simp only [cond_false] at h ⊢
    cases c4 : decide (c = 123) with
    | true =>
      rw [c4] at h
      simp only [cond_true] at h ⊢
      cases hb : litB (c :: r) with
      | true =>
        have hl : (lineS (c :: r)).2.2 = true := by
          unfold litB at hb
          rw [Bool.and_eq_true] at hb
          exact hb.1
        have := lineS_lt hl
        simp only [List.length_cons] at this
        simp
        omega
      | false =>
        rw [hb] at h
        cases h
    | false =>
      rw [c4] at h
      simp only [cond_false, decide_eq_false_iff_not] at h ⊢
      simp
      omega
def touchB (p k : Int) : Bool := p == 3 || (k == 4 || (p == 4 && k == 3))
def tsS : Nat → Option Int → Bool → List UInt8 → Option (List (Int × ByteArray))
  | 0, _, _, _ => none
  | n + 1, p, g, l => bif decide (l = []) then some [] else bif (tokR l).2.2.2 || (match p with
      | none => false
      | some p => !g && !touchB p (tokR l).1) then none
    else (tsS n (some (tokR l).1) (decide ((blS (tokR l).2.2.1).length < (tokR l).2.2.1.length)) (blS (tokR l).2.2.1)).map (((tokR l).1, bs (tokR l).2.1) :: ·)
def lastK (ts : List (Int × ByteArray)) : Option Int := match ts.length with
  | 0 => none
  | j + 1 => some (tok ts j).1
theorem lastK_snoc (ts : List (Int × ByteArray)) (x : Int × ByteArray) : lastK (ts ++ [x]) = some x.1 := by
  unfold lastK
  simp [tok]
theorem tRow_snoc (ts : List (Int × ByteArray)) (k : Int) (x : ByteArray) (i : Nat) (hi : i < ts.length + 1) : rowApp ts.length (tRow ts) (rowOf [.lit (.int .u8 k), .lit (.string x)] 2) i = tRow (ts ++ [(k, x)]) i := by
  rcases Nat.lt_or_ge i ts.length with h | h
  · rw [app_lo _ _ h]
    unfold tRow
    have : tok (ts ++ [(k, x)]) i = tok ts i := by simp [tok, List.getElem?_append_left h]
    rw [this]
  · have : i = ts.length + 0 := by omega
    rw [this, app_hi]
    unfold tRow
    have : tok (ts ++ [(k, x)]) (ts.length + 0) = (k, x) := by simp [tok]
    rw [this]
    rfl
def tsEnd (ts : List (Int × ByteArray)) : Option (List (Int × ByteArray)) → Exit × Kept
  | some q => (.exit 0, ([.ptr 0 0, .own 1], [.cells 61 [.junk, .junk, .junk], .row 38 2 (ts ++ q).length (tRow (ts ++ q))]))
  | none => (.ret, ([.lit (.slice none 0 0), int 7], []))
theorem tsEnd_snoc (ts : List (Int × ByteArray)) (x : Int × ByteArray) (o : Option (List (Int × ByteArray))) : tsEnd (ts ++ [x]) o = tsEnd ts (o.map (x :: ·)) := by
  cases o with
  | none => rfl
  | some q => simp [tsEnd]
theorem ts_LR : ∀ (n : Nat) (l : List UInt8) (g : Bool) (ts : List (Int × ByteArray)), l.length < n → ts.length + l.length ≤ 4294967280 →
    LR Tryd.prog (E10 (GG m t fr)) 60 (GG m t fr) 62 tsOuts .normal (theLoop 0 Tryd.f12) ([.ptr 0 0, .own 1], [.cells 61 [str (bs l), bool g, bool false], .row 38 2 ts.length (tRow ts)]) (tsEnd ts (tsS n (lastK ts) g l)).1 (tsEnd ts (tsS n (lastK ts) g l)).2
  | 0, l, g, ts, hn, _ => by omega
  | n + 1, l, g, ts, hn, hb => by
    have h := ts_round m t fr (bs l) g ts.length ts
    have e0 : ls (ByteArray.mk (List.toArray [])) = [] := rfl
    rw [eqB, ls_bs, e0] at h
    have hS : tsS (n + 1) (lastK ts) g l = bif decide (l = []) then some [] else bif (tokR l).2.2.2 || (match lastK ts with
      | none => false
      | some p => !g && !touchB p (tokR l).1) then none
      else (tsS n (some (tokR l).1) (decide ((blS (tokR l).2.2.1).length < (tokR l).2.2.1.length)) (blS (tokR l).2.2.1)).map (((tokR l).1, bs (tokR l).2.1) :: ·) := rfl
    rw [hS]
    by_cases h0 : l = []
    · rw [decide_eq_true h0] at h ⊢
      refine .out (.last (Tr.run_of h rfl) (by simp [tsEnd]) (by simp [tsEnd])) ⟨.refl _, BLeL.cons (.cells _ (PLeL.cons (PLe.junk _) (PLeL.cons (PLe.junk _) (PLeL.cons (PLe.junk _) (.refl _))))) (BLeL.cons (.row _ _ (by simp) fun i _ => by rw [List.append_nil]; rfl) .nil)⟩
    · rw [decide_eq_false h0] at h ⊢
      simp only [Bool.not_false, cond_true, cond_false] at h ⊢
      have hl0 : 0 < l.length := List.length_pos_iff.2 h0
      have hbl : Nat.blt 0 l.length = true := by rw [Nat.blt_eq]; exact hl0
      have ol : okS (bs l) = true := okS_of (by rw [bs_len]; omega)
      have o1 : Nat.ble ((ts.length + 1) * 24) 140737488355328 = true := by rw [Nat.ble_eq]; omega
      rw [hbl, ol, o1] at h
      cases c1 : (tokR l).2.2.2 with
      | true =>
        rw [c1] at h
        exact .last (Tr.run_of h (by simp)) (by simp [tsEnd]) (by simp [tsEnd])
      | false =>
      rw [c1] at h
      simp only [cond_false, Bool.false_or] at h ⊢
      have hlt := tokR_lt c1
      have hbs : (blS (tokR l).2.2.1).length ≤ (tokR l).2.2.1.length := by
        unfold blS Lib.trimLeftB
        exact (List.dropWhile_suffix _).length_le
      have go : ∀ {cd : List Bool}, cd.all id = true → (tsRound (GG m t fr) ([.ptr 0 0, .own 1], [.cells 61 [str (bs l), bool g, bool false], .row 38 2 ts.length (tRow ts)])).run2 = some ((.normal, ([.ptr 0 0, .own 1], [.cells 61 [.lit (.string (bs (blS (tokR l).2.2.1))), .lit (.bool (decide ((blS (tokR l).2.2.1).length < (tokR l).2.2.1.length))), .lit (.bool false)], .row 38 2 (ts.length + 1) (rowApp ts.length (tRow ts) (rowOf [.lit (.int .u8 (tokR l).1), .lit (.string (bs (tokR l).2.1))] 2))])), cd) →
          LR Tryd.prog (E10 (GG m t fr)) 60 (GG m t fr) 62 tsOuts .normal (theLoop 0 Tryd.f12) ([.ptr 0 0, .own 1], [.cells 61 [str (bs l), bool g, bool false], .row 38 2 ts.length (tRow ts)])
            (tsEnd ts ((tsS n (some (tokR l).1) (decide ((blS (tokR l).2.2.1).length < (tokR l).2.2.1.length)) (blS (tokR l).2.2.1)).map (((tokR l).1, bs (tokR l).2.1) :: ·))).1 (tsEnd ts ((tsS n (some (tokR l).1) (decide ((blS (tokR l).2.2.1).length < (tokR l).2.2.1.length)) (blS (tokR l).2.2.1)).map (((tokR l).1, bs (tokR l).2.1) :: ·))).2 := by
        intro cd hcd hh
        have ih := ts_LR n (blS (tokR l).2.2.1) (decide ((blS (tokR l).2.2.1).length < (tokR l).2.2.1.length)) (ts ++ [((tokR l).1, bs (tokR l).2.1)]) (by omega) (by simp; omega)
        rw [lastK_snoc, tsEnd_snoc] at ih
        have le : KLe ([.ptr 0 0, .own 1], [.cells 61 [.lit (.string (bs (blS (tokR l).2.2.1))), .lit (.bool (decide ((blS (tokR l).2.2.1).length < (tokR l).2.2.1.length))), .lit (.bool false)], .row 38 2 (ts.length + 1) (rowApp ts.length (tRow ts) (rowOf [.lit (.int .u8 (tokR l).1), .lit (.string (bs (tokR l).2.1))] 2))])
            ([.ptr 0 0, .own 1], [.cells 61 [str (bs (blS (tokR l).2.2.1)), bool (decide ((blS (tokR l).2.2.1).length < (tokR l).2.2.1.length)), bool false], .row 38 2 (ts ++ [((tokR l).1, bs (tokR l).2.1)]).length (tRow (ts ++ [((tokR l).1, bs (tokR l).2.1)]))]) :=
          ⟨.refl _, BLeL.cons (.refl _) (BLeL.cons (.row _ _ (by simp) fun i hi => tRow_snoc ts _ _ i hi) .nil)⟩
        exact .more (Tr.run_of hh hcd) (.le le ih)
      cases hts : ts.length with
      | zero =>
        have hp : lastK ts = none := by unfold lastK; rw [hts]
        have e : decide (((ts.length : Nat) : Int) > 0) = false := by rw [hts]; rfl
        rw [e] at h
        rw [hp]
        exact hts ▸ go (by simp) h
      | succ j =>
        have hp : lastK ts = some (tok ts j).1 := by unfold lastK; rw [hts]
        have e : decide (((ts.length : Nat) : Int) > 0) = true := by rw [hts]; simp
        have hw : IntKind.i64.wrap (((ts.length : Nat) : Int) - 1) = (j : Int) := by rw [hts]; exact wrap_pred' (by omega)
        have hbj : Nat.blt j ts.length = true := by rw [Nat.blt_eq]; omega
        rw [e, hw, Int.toNat_natCast, hbj] at h
        rw [hp]
        simp only [cond_true] at h ⊢
        cases g with
        | true => exact hts ▸ go (by simp) h
        | false =>
        simp only [Bool.not_false, cond_true, Bool.true_and] at h ⊢
        unfold touchB
        cases d1 : (tok ts j).1 == 3 with
        | true =>
          rw [d1] at h
          exact hts ▸ go (by simp) h
        | false =>
        rw [d1] at h
        simp only [cond_false, Bool.false_or] at h ⊢
        cases d2 : (tokR l).1 == 4 with
        | true =>
          rw [d2] at h
          exact hts ▸ go (by simp) h
        | false =>
        rw [d2] at h
        simp only [cond_false, Bool.false_or] at h ⊢
        cases d3 : (tok ts j).1 == 4 with
        | false =>
          rw [d3] at h
          exact hts ▸ .last (Tr.run_of h (by simp)) (by simp [tsEnd]) (by simp [tsEnd])
        | true =>
        rw [d3] at h
        simp only [cond_true, Bool.true_and] at h ⊢
        cases d4 : (tokR l).1 == 3 with
        | false =>
          rw [d4] at h
          exact hts ▸ .last (Tr.run_of h (by simp)) (by simp [tsEnd]) (by simp [tsEnd])
        | true =>
          rw [d4] at h
          exact hts ▸ go (by simp) h
end
end Go.Proofs.YtnidaonmigjgkaaDoor.Ev
