/- lex: LexBack, a law. No condition. -/
import Derived.Test.YtnidaonmigjgkaaDoorLxJ
import Derived.Test.YtnidaonmigjgkaaDoorArg
import Derived.Test.YtnidaonmigjgkaaDoorLxL
namespace Go.Proofs.YtnidaonmigjgkaaDoor.Ev
open Go Go.RowKit Go.Proofs Go.Proofs.YtnidaonmigjgkaaDoor.Str
set_option linter.unusedVariables false
set_option linter.unusedSimpArgs false
section
variable {m : Int} {t : TypeId} {fr : Nat × Nat}
def sameG : List PV → Tr PV
  | [.gsl 2 n f, .gsl 2 n' f'] => .br (areToks n f && areToks n' f' && Nat.ble n 4294967280) (.leaf (bool (decide (toksOf n f = toksOf n' f')))) .fail
  | _ => .fail
theorem same_ok : PureOK Tryd.prog (GG m t fr) 13 sameG := by
  refine PureOK.of (fn_cuts mixed E1_ok (fn := Tryd.f13) (cuts := cut1 0 (smCut (GG m t fr))) (by kernel_rfl) (CutLaws.one (by omega) (by kernel_rfl) fun st e st' h => cutOf_ok E1_ok mixed (noCuts_ok (envOf_cuts ..) _) smF_ok h)) fun ps p hp => ?_
  unfold sameG at hp
  split at hp
  · rename_i n f n' f'
    obtain ⟨hc, hp⟩ := br_run hp
    simp only [Bool.and_eq_true, Nat.ble_eq] at hc
    obtain ⟨⟨h1, h2⟩, h3⟩ := hc
    simp only [Tr.run, Option.some.injEq] at hp
    subst hp
    have h := sm_raw m t fr n n' f f'
    by_cases hn : n = n'
    · subst hn
      have hb : bne ((n : Nat) : Int) ((n : Nat) : Int) = false := by simp
      rw [hb] at h
      cases hd : decide (toksOf n f = toksOf n f') with
      | true =>
        rw [hd] at h
        exact ⟨_, Tr.run_of h (by simp [h1, h2, h3]), PLe.of_eq rfl⟩
      | false =>
        rw [hd] at h
        exact ⟨_, Tr.run_of h (by simp [h1, h2, h3]), PLe.of_eq rfl⟩
    · have hb : bne ((n : Nat) : Int) ((n' : Nat) : Int) = true := by simp; omega
      rw [hb] at h
      refine ⟨_, Tr.run_of h (by simp), PLe.of_eq ?_⟩
      have : decide (toksOf n f = toksOf n' f') = false := decide_eq_false fun e => hn (by rw [← toks_len n f, e, toks_len])
      rw [this]
  · cases hp
def lbPure : List (Nat × (List PV → Tr PV)) := (10, livesG) :: (11, writeG) :: (12, tokensG) :: (13, sameG) :: wrPure
theorem lbPure_ok : TabOK Tryd.prog (GG m t fr) lbPure :=
  TabOK.cons lives_ok (fn := Tryd.f10) (by kernel_rfl) (by kernel_rfl) (TabOK.cons write_ok (fn := Tryd.f11) (by kernel_rfl) (by kernel_rfl) (TabOK.cons tokens_ok (fn := Tryd.f12) (by kernel_rfl) (by kernel_rfl) (TabOK.cons same_ok (fn := Tryd.f13) (by kernel_rfl) (by kernel_rfl) wrPure_ok)))
noncomputable abbrev E11 (G : GT) : Env := envOf Tryd.prog G lbPure libFull
theorem E11_ok : (E11 (GG m t fr)).ok Tryd.prog (GG m t fr) := envOf_ok mixed lbPure_ok libFull_ok
theorem wrS_len : ∀ (ts : List (Int × ByteArray)) (p : Option Int) (q : List UInt8), ts.all (fun x => smallS x.2) = true → wrS p ts = some q → q.length ≤ tokW ts
  | [], p, q, _, h => by
    simp only [wrS, Option.some.injEq] at h
    subst h
    exact Nat.le_refl _
  | x :: r, p, q, hs, h => by
    rw [wrS] at h
    simp only [List.all_cons, Bool.and_eq_true] at hs
    cases hB : textB x.1 (ls x.2) with
    | false => rw [hB] at h; cases h
    | true =>
      rw [hB, cond_true] at h
      cases hq : wrS (some x.1) r with
      | none => rw [hq] at h; cases h
      | some q' =>
        rw [hq, Option.map_some, Option.some.injEq] at h
        subst h
        have ih := wrS_len r _ q' hs.2 hq
        have hl := smallS_le hs.1
        have hx := textS_len x.1 (ls x.2) (by rw [ls_len]; exact hl)
        rw [ls_len] at hx
        have hsep : (sepS p x.1).length ≤ 1 := by
          unfold sepS
          split
          · exact Nat.zero_le _
          · cases (!_) <;> cases (!_) <;> decide
        simp only [List.length_append, tokW]
        omega
-- from: lexBack_raw [bs, okS, ls, areToks, toksOf, hasW, theW, wrG, wrOK, tzH, tzT, quoteS, plB, tok, tRow] (m : Int) (t : TypeId) (fr : Nat × Nat) (n : Nat) (f : Nat → List PV) (s : ByteArray) : (fnPure Tryd.prog (E11 (GG m t fr)) 60 Tryd.f4 (GG m t fr) [.gsl 2 n f, str s]).run2
theorem lexBack_raw (m : Int) (t : TypeId) (fr : Nat × Nat) (n : Nat) (f : Nat → List PV) (s : ByteArray) : (fnPure Tryd.prog (E11 (GG m t fr)) 60 Tryd.f4 (GG m t fr) [.gsl 2 n f, str s]).run2 =
    (bif ((hasW (wrG n f)) && (Nat.ble n (4096 : Nat))) then
        bif ((tzH (theW (wrG n f))) && (Nat.ble (List.length (tzT (theW (wrG n f)))) (4096 : Nat))) then
          bif ((tzH (theW (wrG n f))) && (Nat.ble (List.length (tzT (theW (wrG n f)))) (4096 : Nat))) then
            bif (!(decide ((toksOf (List.length (tzT (theW (wrG n f)))) (tRow (tzT (theW (wrG n f))))) = (toksOf n f)))) then
              (.some ((.lit (.bool false)), [(((areToks (List.length (tzT (theW (wrG n f)))) (tRow (tzT (theW (wrG n f))))) && (areToks n f)) && (Nat.ble (List.length (tzT (theW (wrG n f)))) (4294967280 : Nat))), (okS (bs (theW (wrG n f)))), (okS (bs (theW (wrG n f)))), (wrOK n f)]))
            else bif (List.all (ls s) (plB)) then
                bif ((tzH (quoteS (ls s))) && (Nat.ble (List.length (tzT (quoteS (ls s)))) (4096 : Nat))) then
                  bif ((tzH (quoteS (ls s))) && (Nat.ble (List.length (tzT (quoteS (ls s)))) (4096 : Nat))) then
                    bif ((((List.length (tzT (quoteS (ls s)))) : Nat) : Int) == (1 : Int)) then
                      (.some ((.lit (.bool (((Prod.fst (tok (tzT (quoteS (ls s))) 0)) == (2 : Int)) && (((Prod.snd (tok (tzT (quoteS (ls s))) 0)) == s) && true)))), [(Nat.blt 0 (List.length (tzT (quoteS (ls s))))), (okS (bs (quoteS (ls s)))), (okS (bs (quoteS (ls s)))), (okS s), (((areToks (List.length (tzT (theW (wrG n f)))) (tRow (tzT (theW (wrG n f))))) && (areToks n f)) && (Nat.ble (List.length (tzT (theW (wrG n f)))) (4294967280 : Nat))), (okS (bs (theW (wrG n f)))), (okS (bs (theW (wrG n f)))), (wrOK n f)]))
                    else (.some ((.lit (.bool false)), [(okS (bs (quoteS (ls s)))), (okS (bs (quoteS (ls s)))), (okS s), (((areToks (List.length (tzT (theW (wrG n f)))) (tRow (tzT (theW (wrG n f))))) && (areToks n f)) && (Nat.ble (List.length (tzT (theW (wrG n f)))) (4294967280 : Nat))), (okS (bs (theW (wrG n f)))), (okS (bs (theW (wrG n f)))), (wrOK n f)]))
                  else bif ((cond (tzH (quoteS (ls s))) (15 : Int) (7 : Int)) == (0 : Int)) then
                      (.some ((.lit (.bool false)), [(okS (bs (quoteS (ls s)))), (okS (bs (quoteS (ls s)))), (okS s), (((areToks (List.length (tzT (theW (wrG n f)))) (tRow (tzT (theW (wrG n f))))) && (areToks n f)) && (Nat.ble (List.length (tzT (theW (wrG n f)))) (4294967280 : Nat))), (okS (bs (theW (wrG n f)))), (okS (bs (theW (wrG n f)))), (wrOK n f)]))
                    else (.some ((.lit (.bool false)), [(okS (bs (quoteS (ls s)))), (okS (bs (quoteS (ls s)))), (okS s), (((areToks (List.length (tzT (theW (wrG n f)))) (tRow (tzT (theW (wrG n f))))) && (areToks n f)) && (Nat.ble (List.length (tzT (theW (wrG n f)))) (4294967280 : Nat))), (okS (bs (theW (wrG n f)))), (okS (bs (theW (wrG n f)))), (wrOK n f)]))
                else bif ((cond (tzH (quoteS (ls s))) (15 : Int) (7 : Int)) == (0 : Int)) then
                    (.some ((.lit (.bool false)), [(okS (bs (quoteS (ls s)))), (okS s), (((areToks (List.length (tzT (theW (wrG n f)))) (tRow (tzT (theW (wrG n f))))) && (areToks n f)) && (Nat.ble (List.length (tzT (theW (wrG n f)))) (4294967280 : Nat))), (okS (bs (theW (wrG n f)))), (okS (bs (theW (wrG n f)))), (wrOK n f)]))
                  else (.some ((.lit (.bool false)), [(okS (bs (quoteS (ls s)))), (okS s), (((areToks (List.length (tzT (theW (wrG n f)))) (tRow (tzT (theW (wrG n f))))) && (areToks n f)) && (Nat.ble (List.length (tzT (theW (wrG n f)))) (4294967280 : Nat))), (okS (bs (theW (wrG n f)))), (okS (bs (theW (wrG n f)))), (wrOK n f)]))
              else (.some ((.lit (.bool true)), [(okS s), (((areToks (List.length (tzT (theW (wrG n f)))) (tRow (tzT (theW (wrG n f))))) && (areToks n f)) && (Nat.ble (List.length (tzT (theW (wrG n f)))) (4294967280 : Nat))), (okS (bs (theW (wrG n f)))), (okS (bs (theW (wrG n f)))), (wrOK n f)]))
          else bif (bne (cond (tzH (theW (wrG n f))) (15 : Int) (7 : Int)) (0 : Int)) then
              (.some ((.lit (.bool false)), [true, true, true, (okS (bs (theW (wrG n f)))), (okS (bs (theW (wrG n f)))), (wrOK n f)]))
            else (.some ((.lit (.bool false)), [true, true, false, (okS (bs (theW (wrG n f)))), (okS (bs (theW (wrG n f)))), (wrOK n f)]))
        else bif (bne (cond (tzH (theW (wrG n f))) (15 : Int) (7 : Int)) (0 : Int)) then
            (.some ((.lit (.bool false)), [true, true, true, (okS (bs (theW (wrG n f)))), (wrOK n f)]))
          else (.some ((.lit (.bool false)), [true, true, false, (okS (bs (theW (wrG n f)))), (wrOK n f)]))
      else bif (List.all (ls s) (plB)) then
          bif ((tzH (quoteS (ls s))) && (Nat.ble (List.length (tzT (quoteS (ls s)))) (4096 : Nat))) then
            bif ((tzH (quoteS (ls s))) && (Nat.ble (List.length (tzT (quoteS (ls s)))) (4096 : Nat))) then
              bif ((((List.length (tzT (quoteS (ls s)))) : Nat) : Int) == (1 : Int)) then
                (.some ((.lit (.bool (((Prod.fst (tok (tzT (quoteS (ls s))) 0)) == (2 : Int)) && (((Prod.snd (tok (tzT (quoteS (ls s))) 0)) == s) && true)))), [(Nat.blt 0 (List.length (tzT (quoteS (ls s))))), (okS (bs (quoteS (ls s)))), (okS (bs (quoteS (ls s)))), (okS s), (wrOK n f)]))
              else (.some ((.lit (.bool false)), [(okS (bs (quoteS (ls s)))), (okS (bs (quoteS (ls s)))), (okS s), (wrOK n f)]))
            else bif ((cond (tzH (quoteS (ls s))) (15 : Int) (7 : Int)) == (0 : Int)) then
                (.some ((.lit (.bool false)), [(okS (bs (quoteS (ls s)))), (okS (bs (quoteS (ls s)))), (okS s), (wrOK n f)]))
              else (.some ((.lit (.bool false)), [(okS (bs (quoteS (ls s)))), (okS (bs (quoteS (ls s)))), (okS s), (wrOK n f)]))
          else bif ((cond (tzH (quoteS (ls s))) (15 : Int) (7 : Int)) == (0 : Int)) then
              (.some ((.lit (.bool false)), [(okS (bs (quoteS (ls s)))), (okS s), (wrOK n f)]))
            else (.some ((.lit (.bool false)), [(okS (bs (quoteS (ls s)))), (okS s), (wrOK n f)]))
        else (.some ((.lit (.bool true)), [(okS s), (wrOK n f)])) : Option (PV × List Bool)) := by
  kernel_rfl
def lexBackG : List PV → Tr PV
  | [.gsl 2 n f, .lit (.string s)] => .br (wrOK n f && Nat.ble (tokW (toksOf n f)) 4000000000 && smallS s) (.leaf (bool true)) .fail
  | _ => .fail
theorem lexBack_ok : PureOK Tryd.prog (GG m t fr) 4 lexBackG := by
  refine PureOK.of (fn_pure mixed E11_ok (envOf_cuts ..) (fn := Tryd.f4) (by kernel_rfl)) fun ps p hp => ?_
  unfold lexBackG at hp
  split at hp
  · rename_i n f s
    obtain ⟨hc, hp⟩ := br_run hp
    simp only [Bool.and_eq_true] at hc
    obtain ⟨⟨ho, hW⟩, hs⟩ := hc
    simp only [Tr.run, Option.some.injEq] at hp
    subst hp
    have h := lexBack_raw m t fr n f s
    have hs' := smallS_le hs
    have os : okS s = true := okS_of (by omega)
    have ho' := ho
    simp only [wrOK, Bool.and_eq_true, Nat.ble_eq] at ho'
    obtain ⟨⟨⟨ha, hsm⟩, hn⟩, _⟩ := ho'
    rw [Nat.ble_eq] at hW
    have oq : okS (bs (quoteS (ls s))) = true := okS_of (by
      rw [bs_len]
      have := esc_len (ls s)
      rw [ls_len] at this
      simp [quoteS]
      omega)
    have hq : (ls s).all plB = true → tzH (quoteS (ls s)) = true ∧ tzT (quoteS (ls s)) = [(2, s)] := fun hp => by
      have := quote_tz hp
      rwa [bs_ls] at this
    have fin : ((2 : Int) == 2 && (s == s && true)) = true := by
      rw [beq_ba]
      simp
    cases c1 : (hasW (wrG n f) && Nat.ble n 4096) with
    | true =>
      rw [c1] at h
      simp only [Bool.and_eq_true] at c1
      obtain ⟨q, hq1⟩ : ∃ q, wrG n f = some q := by
        have := c1.1
        unfold hasW at this
        exact Option.isSome_iff_exists.1 this
      obtain ⟨z1, z2⟩ := wr_tz (ts := toksOf n f) (q := q) hq1
      have eq : theW (wrG n f) = q := by rw [hq1]; rfl
      have hlen := toks_len n f
      have ow : okS (bs q) = true := okS_of (by
        rw [bs_len]
        have := wrS_len _ _ _ hsm hq1
        omega)
      have e3 : toksOf n (tRow (toksOf n f)) = toksOf n f := by
        have := toks_tRow (toksOf n f)
        rwa [hlen] at this
      have e4 : areToks n (tRow (toksOf n f)) = true := are_tRow _ _
      have e5 : Nat.ble n 4294967280 = true := Nat.ble_eq_true_of_le hn
      rw [eq, z1, z2, hlen, c1.2, ow, ho, e3, e4, ha, e5, os, oq] at h
      simp only [cond_true, Bool.and_self, decide_true, Bool.not_true, cond_false] at h
      cases c2 : (ls s).all plB with
      | false =>
        rw [c2] at h
        exact ⟨_, Tr.run_of h (by simp), PLe.of_eq rfl⟩
      | true =>
        obtain ⟨y1, y2⟩ := hq c2
        rw [c2, y1, y2] at h
        have h := h.trans (show _ = some (bool ((2 : Int) == 2 && (s == s && true)), [true, true, true, true, true, true, true, true]) from rfl)
        rw [fin] at h
        exact ⟨_, Tr.run_of h (by simp), PLe.of_eq rfl⟩
    | false =>
      rw [c1, ho, os, oq] at h
      simp only [cond_false] at h
      cases c2 : (ls s).all plB with
      | false =>
        rw [c2] at h
        exact ⟨_, Tr.run_of h (by simp), PLe.of_eq rfl⟩
      | true =>
        obtain ⟨y1, y2⟩ := hq c2
        rw [c2, y1, y2] at h
        have h := h.trans (show _ = some (bool ((2 : Int) == 2 && (s == s && true)), [true, true, true, true, true]) from rfl)
        rw [fin] at h
        exact ⟨_, Tr.run_of h (by simp), PLe.of_eq rfl⟩
  · cases hp
/-! ### what is given -/
def lexBackSh : List ASh := [.one (.sl [.int .u8, .str]), .one (.sc .str)]
theorem tok_row {ps : List PV} (h : areSc [.int .u8, .str] ps = true) : ∃ k z, ps = [.lit (.int .u8 k), .lit (.string z)] := by
  obtain ⟨v, r, rfl, h1, h2⟩ := sc_cons h
  obtain ⟨v', r', rfl, h3, h4⟩ := sc_cons h2
  obtain rfl := sc_nil h4
  obtain ⟨k, rfl, _, _⟩ := sc_int h1
  obtain ⟨z, rfl⟩ := sc_str h3
  exact ⟨k, z, rfl⟩
theorem toks_bulk {f : Nat → List PV} : ∀ L : List Nat, (∀ i ∈ L, areSc [.int .u8, .str] (f i) = true) → (L.map fun i => scsBulk (f i)).sum ≤ 1048576 →
    L.length ≤ (L.map fun i => scsBulk (f i)).sum ∧ (L.all fun i => isTok (f i)) = true ∧ ((L.map fun i => tokOf (f i)).all fun x => smallS x.2) = true ∧ tokW (L.map fun i => tokOf (f i)) ≤ 40 * (L.map fun i => scsBulk (f i)).sum
  | [], _, _ => ⟨Nat.zero_le _, rfl, rfl, Nat.zero_le _⟩
  | i :: L, h, hb => by
    obtain ⟨k, z, e⟩ := tok_row (h i (by simp))
    simp only [List.map_cons, List.sum_cons] at hb
    obtain ⟨i1, i2, i3, i4⟩ := toks_bulk L (fun j hj => h j (by simp [hj])) (by omega)
    have eb : scsBulk (f i) = 1 + (z.size + 1 + 0) := by rw [e]; rfl
    refine ⟨?_, ?_, ?_, ?_⟩
    · simp only [List.length_cons, List.map_cons, List.sum_cons]
      omega
    · rw [List.all_cons, i2, e]
      rfl
    · rw [List.map_cons, List.all_cons, i3, Bool.and_true, e]
      exact Nat.ble_eq_true_of_le (show z.size ≤ 2000000 by omega)
    · simp only [List.map_cons, List.sum_cons, tokW]
      rw [eb, e]
      show 2 * z.size + 40 + _ ≤ _
      omega
theorem lexBack_args {qs : List PV} (ha : areArgs lexBackSh qs = true) (hb : argsBulk qs ≤ 1048576) : (lexBackG qs).run = some (bool true) := by
  obtain ⟨q0, r0, rfl, h0, hr0⟩ := args_cons ha
  obtain ⟨q1, r1, rfl, h1, hr1⟩ := args_cons hr0
  obtain rfl := args_nil hr1
  obtain ⟨n, f, rfl, hf⟩ := ak_sl h0
  obtain ⟨v, rfl, hv⟩ := ak_sc h1
  obtain ⟨s, rfl⟩ := sc_str hv
  have hb' : (((List.range n).map fun i => scsBulk (f i)).sum + 1) + ((s.size + 1) + 0) ≤ 1048576 := hb
  obtain ⟨i1, i2, i3, i4⟩ := toks_bulk (List.range n) (fun i hi => hf i (List.mem_range.1 hi)) (by omega)
  rw [List.length_range] at i1
  have o1 : areToks n f = true := i2
  have o2 : ((toksOf n f).all fun x => smallS x.2) = true := i3
  have o3 : Nat.ble n 4294967280 = true := Nat.ble_eq_true_of_le (by omega)
  have o4 : Nat.ble (tokW (toksOf n f)) 100000000000 = true := Nat.ble_eq_true_of_le (by unfold toksOf; omega)
  have o5 : Nat.ble (tokW (toksOf n f)) 4000000000 = true := Nat.ble_eq_true_of_le (by unfold toksOf; omega)
  have o6 : smallS s = true := Nat.ble_eq_true_of_le (show s.size ≤ 2000000 by omega)
  show (lexBackG [.gsl 2 n f, .lit (.string s)]).run = some (bool true)
  simp [lexBackG, wrOK, Tr.run, o1, o2, o3, o4, o5, o6]
end
end Go.Proofs.YtnidaonmigjgkaaDoor.Ev
