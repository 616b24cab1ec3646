/- lex: Tokens as a whole. No condition. -/
import Derived.Test.YtnidaonmigjgkaaDoorLxM
namespace Go.Proofs.YtnidaonmigjgkaaDoor.Ev
open Go Go.RowKit Go.Proofs Go.Proofs.YtnidaonmigjgkaaDoor.Str
set_option linter.unusedVariables false
set_option linter.unusedSimpArgs false
section
variable {m : Int} {t : TypeId} {fr : Nat × Nat}
/-- the tokens of a text, behind its blanks -/
def tsR (g : Bool) (l : List UInt8) : Option (List (Int × ByteArray)) := tsS (l.length + 1) none g l
def hasT (g : Bool) (l : List UInt8) : Bool := (tsR g l).isSome
def theT (g : Bool) (l : List UInt8) : List (Int × ByteArray) := (tsR g l).getD []
def tsF : Kept → Tr (Exit × Kept)
  | ([.ptr 0 0, .own 1], [.cells a [.lit (.string s), .lit (.bool g), .lit (.bool false)], .row b 2 0 f]) => match Nat.beq a 61 && Nat.beq b 38 with
    | true => .br (okS s) (.br (hasT g (ls s)) (.leaf (.exit 0, ([.ptr 0 0, .own 1], [.cells 61 [.junk, .junk, .junk], .row 38 2 (theT g (ls s)).length (tRow (theT g (ls s)))]))) (.leaf (.ret, ([.lit (.slice none 0 0), int 7], [])))) .fail
    | false => .fail
  | _ => .fail
theorem tsF_ok (x : Kept) (e : Exit) (y : Kept) (h : (tsF x).run = some (e, y)) : LR Tryd.prog (E10 (GG m t fr)) 60 (GG m t fr) 62 tsOuts .normal (theLoop 0 Tryd.f12) x e y := by
  unfold tsF at h
  split at h
  · rename_i a s g b f
    split at h
    · rename_i ha
      simp only [Bool.and_eq_true] at ha
      obtain rfl := Nat.eq_of_beq_eq_true ha.1
      obtain rfl := Nat.eq_of_beq_eq_true ha.2
      have hb := br_run h
      clear h
      obtain ⟨hs, h⟩ := hb
      have hs' := okS_le hs
      have key := ts_LR (m := m) (t := t) (fr := fr) ((ls s).length + 1) (ls s) g [] (by omega) (by rw [ls_len]; simp; omega)
      have hk : tsS ((ls s).length + 1) (lastK []) g (ls s) = tsR g (ls s) := rfl
      rw [hk, bs_ls] at key
      have le : KLe ([.ptr 0 0, .own 1], [.cells 61 [.lit (.string s), .lit (.bool g), .lit (.bool false)], .row 38 2 0 f]) ([.ptr 0 0, .own 1], [.cells 61 [str s, bool g, bool false], .row 38 2 ([] : List (Int × ByteArray)).length (tRow [])]) :=
        ⟨.refl _, BLeL.cons (.refl _) (BLeL.cons (.row _ _ rfl fun i hi => absurd hi (Nat.not_lt_zero i)) .nil)⟩
      cases hz : tsR g (ls s) with
      | none =>
        rw [hz] at key
        have h1 : hasT g (ls s) = false := by unfold hasT; rw [hz]; rfl
        rw [h1] at h
        simp only [Tr.run, cond_false, Option.some.injEq, Prod.mk.injEq] at h
        obtain ⟨rfl, rfl⟩ := h
        exact .le le key
      | some q =>
        rw [hz] at key
        have h1 : hasT g (ls s) = true := by unfold hasT; rw [hz]; rfl
        have h2 : theT g (ls s) = q := by unfold theT; rw [hz]; rfl
        rw [h1, h2] at h
        simp only [Tr.run, cond_true, Option.some.injEq, Prod.mk.injEq] at h
        obtain ⟨rfl, rfl⟩ := h
        exact .le le key
    · cases h
  · cases h
noncomputable abbrev tsCut (G : GT) := cutOf G 62 tsOuts 0 tsF
-- from: tokens_raw [bs, okS, ls, hasT, theT, blS, tRow] (m : Int) (t : TypeId) (fr : Nat × Nat) (s : ByteArray) : (fnPure Tryd.prog ((E10 (GG m t fr)).withCuts (cut1 0 (tsCut (GG m t fr)))) 60 Tryd.f12 (GG m t fr) [str s]).run2
theorem tokens_raw (m : Int) (t : TypeId) (fr : Nat × Nat) (s : ByteArray) : (fnPure Tryd.prog ((E10 (GG m t fr)).withCuts (cut1 0 (tsCut (GG m t fr)))) 60 Tryd.f12 (GG m t fr) [str s]).run2 =
    (bif (hasT (decide ((List.length (blS (ls s))) < (List.length (ls s)))) (blS (ls s))) then
        bif (decide ((((List.length (theT (decide ((List.length (blS (ls s))) < (List.length (ls s)))) (blS (ls s)))) : Nat) : Int) > (4096 : Int))) then
          (.some ((.tup [(.lit (.slice .none 0 0)), (.lit (.int .i64 (15 : Int)))]), [(okS (bs (blS (ls s))))]))
        else (.some ((.tup [(.gsl 2 (List.length (theT (decide ((List.length (blS (ls s))) < (List.length (ls s)))) (blS (ls s)))) (tRow (theT (decide ((List.length (blS (ls s))) < (List.length (ls s)))) (blS (ls s))))), (.lit (.int .i64 (0 : Int)))]), [(okS (bs (blS (ls s))))]))
      else (.some ((.tup [(.lit (.slice .none 0 0)), (.lit (.int .i64 (7 : Int)))]), [(okS (bs (blS (ls s))))])) : Option (PV × List Bool)) := by
  kernel_rfl
def tzH (l : List UInt8) : Bool := hasT (decide ((blS l).length < l.length)) (blS l)
def tzT (l : List UInt8) : List (Int × ByteArray) := theT (decide ((blS l).length < l.length)) (blS l)
def tokensG : List PV → Tr PV
  | [.lit (.string s)] => .br (okS s) (.br (tzH (ls s) && Nat.ble (tzT (ls s)).length 4096) (.leaf (.tup [.gsl 2 (tzT (ls s)).length (tRow (tzT (ls s))), int 0])) (.leaf (.tup [.lit (.slice none 0 0), int (bif tzH (ls s) then 15 else 7)]))) .fail
  | _ => .fail
theorem tokens_ok : PureOK Tryd.prog (GG m t fr) 12 tokensG := by
  refine PureOK.of (fn_cuts mixed E10_ok (fn := Tryd.f12) (cuts := cut1 0 (tsCut (GG m t fr))) (by kernel_rfl) (CutLaws.one (by omega) (by kernel_rfl) fun st e st' h => cutOf_ok E10_ok mixed (noCuts_ok (envOf_cuts ..) _) tsF_ok h)) fun ps p hp => ?_
  unfold tokensG at hp
  split at hp
  · rename_i s
    obtain ⟨hs, hp⟩ := br_run hp
    have hs' := okS_le hs
    have hbs : (blS (ls s)).length ≤ (ls s).length := by
      unfold blS Lib.trimLeftB
      exact (List.dropWhile_suffix _).length_le
    rw [ls_len] at hbs
    have ob : okS (bs (blS (ls s))) = true := okS_of (by rw [bs_len]; omega)
    have h := tokens_raw m t fr s
    have e1 : hasT (decide ((blS (ls s)).length < (ls s).length)) (blS (ls s)) = tzH (ls s) := rfl
    have e2 : theT (decide ((blS (ls s)).length < (ls s).length)) (blS (ls s)) = tzT (ls s) := rfl
    rw [e1, e2, ob] at h
    cases hH : tzH (ls s) with
    | false =>
      rw [hH] at h hp
      simp only [Tr.run, Bool.false_and, cond_false, Option.some.injEq] at hp
      subst hp
      exact ⟨_, Tr.run_of h (by simp), PLe.of_eq rfl⟩
    | true =>
      rw [hH] at h hp
      simp only [cond_true, Bool.true_and] at h hp
      by_cases hB : (tzT (ls s)).length ≤ 4096
      · have d1 : decide ((((tzT (ls s)).length : Nat) : Int) > 4096) = false := by simp; omega
        have d2 : Nat.ble (tzT (ls s)).length 4096 = true := by rw [Nat.ble_eq]; exact hB
        rw [d1] at h
        rw [d2] at hp
        simp only [Tr.run, cond_true, Option.some.injEq] at hp
        subst hp
        exact ⟨_, Tr.run_of h (by simp), PLe.of_eq rfl⟩
      · have d1 : decide ((((tzT (ls s)).length : Nat) : Int) > 4096) = true := by simp; omega
        have d2 : Nat.ble (tzT (ls s)).length 4096 = false := by rw [Bool.eq_false_iff, ne_eq, Nat.ble_eq]; exact hB
        rw [d1] at h
        rw [d2] at hp
        simp only [Tr.run, cond_false, Option.some.injEq] at hp
        subst hp
        exact ⟨_, Tr.run_of h (by simp), PLe.of_eq rfl⟩
  · cases hp
end
end Go.Proofs.YtnidaonmigjgkaaDoor.Ev
