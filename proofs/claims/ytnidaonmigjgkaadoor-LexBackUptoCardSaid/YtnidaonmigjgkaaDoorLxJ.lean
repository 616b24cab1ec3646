/- lex: two rows of tokens, compared. No condition. -/
import Derived.Test.YtnidaonmigjgkaaDoorLxB
import Derived.Laws.StructEq
namespace Go.Proofs.YtnidaonmigjgkaaDoor.Ev
open Go Go.RowKit Go.Proofs Go.Proofs.YtnidaonmigjgkaaDoor.Str
set_option linter.unusedVariables false
set_option linter.unusedSimpArgs false
section
variable {m : Int} {t : TypeId} {fr : Nat × Nat}
def smOuts : Exit → Outs
  | .normal => { ks := [0, 1, 12, 13] }
  | .exit _ => { ks := [] }
  | _ => { ks := [4] }
noncomputable abbrev smRound (G : GT) := roundT Tryd.prog (E1 G) 60 G 26 smOuts .normal (theLoop 0 Tryd.f13)
-- from: sm_round [bs, okS, ls, tok] (m : Int) (t : TypeId) (fr : Nat × Nat) (ts us : List (Int × ByteArray)) (n n' : Nat) (u i : Int) : (smRound (GG m t fr) ([.gsl 2 n (tRow ts), .gsl 2 n' (tRow us), int u, int i], [])).run2
theorem sm_round (m : Int) (t : TypeId) (fr : Nat × Nat) (ts us : List (Int × ByteArray)) (n n' : Nat) (u i : Int) : (smRound (GG m t fr) ([.gsl 2 n (tRow ts), .gsl 2 n' (tRow us), int u, int i], [])).run2 =
    (bif (decide (i < u)) then
        bif (!(((Prod.fst (tok ts (Int.toNat i))) == (Prod.fst (tok us (Int.toNat i)))) && (((Prod.snd (tok ts (Int.toNat i))) == (Prod.snd (tok us (Int.toNat i)))) && true))) then
          (.some ((.ret, ([(.lit (.bool false))], [])), [((decide ((0 : Int) ≤ i)) && (Nat.blt (Int.toNat i) n')), ((decide ((0 : Int) ≤ i)) && (Nat.blt (Int.toNat i) n))]))
        else (.some ((.normal, ([(.gsl 2 n (fun i => [PV.lit (Value.int IntKind.u8 (tok ts i).fst), PV.lit (Value.string (tok ts i).snd)])), (.gsl 2 n' (fun i => [PV.lit (Value.int IntKind.u8 (tok us i).fst), PV.lit (Value.string (tok us i).snd)])), (.lit (.int .i64 u)), (.lit (.int .i64 (IntKind.wrap .i64 (i + (1 : Int)))))], [])), [((decide ((0 : Int) ≤ i)) && (Nat.blt (Int.toNat i) n')), ((decide ((0 : Int) ≤ i)) && (Nat.blt (Int.toNat i) n))]))
      else (.some (((.exit 0), ([], [])), [])) : Option ((Exit × Kept) × List Bool)) := by
  kernel_rfl
theorem beq_ba (a b : ByteArray) : (a == b) = decide (a = b) := by
  rw [beq_toListBytes, eqB, decide_eq_decide]
  exact ⟨fun h => ls_inj h, fun h => by rw [h]⟩
theorem tok_beq (x y : Int × ByteArray) : (x.1 == y.1 && (x.2 == y.2 && true)) = decide (x = y) := by
  rw [Bool.and_true, beq_ba, beqD, ← Bool.decide_and, decide_eq_decide]
  exact ⟨fun h => Prod.ext h.1 h.2, fun h => by rw [h]; exact ⟨rfl, rfl⟩⟩
def smEnd (a b : List (Int × ByteArray)) : Exit × Kept := bif decide (a = b) then (.exit 0, ([], [])) else (.ret, ([bool false], []))
def smIn (ts us : List (Int × ByteArray)) (i : Nat) : Kept := ([.gsl 2 ts.length (tRow ts), .gsl 2 us.length (tRow us), int ts.length, int i], [])
theorem sm_LR (ts us : List (Int × ByteArray)) (hl : ts.length = us.length) (hn : ts.length ≤ 4294967280) : ∀ (a b : List (Int × ByteArray)) (i : Nat), ts.drop i = a → us.drop i = b →
    LR Tryd.prog (E1 (GG m t fr)) 60 (GG m t fr) 26 smOuts .normal (theLoop 0 Tryd.f13) (smIn ts us i) (smEnd a b).1 (smEnd a b).2
  | [], b, i, ha, hb => by
    have h := sm_round m t fr ts us ts.length us.length ts.length i
    have hi := List.drop_eq_nil_iff.1 ha
    have : b = [] := by rw [← hb]; exact List.drop_eq_nil_of_le (by omega)
    subst this
    have hd : decide ((i : Int) < (ts.length : Int)) = false := by simp; omega
    rw [hd] at h
    exact .last (Tr.run_of h rfl) (by simp [smEnd]) (by simp [smEnd])
  | x :: a, [], i, ha, hb => by
    have := (tok_drop ha).1
    have := List.drop_eq_nil_iff.1 hb
    omega
  | x :: a, y :: b, i, ha, hb => by
    have h := sm_round m t fr ts us ts.length us.length ts.length i
    obtain ⟨hi, hx, hda⟩ := tok_drop ha
    obtain ⟨hj, hy, hdb⟩ := tok_drop hb
    have hd : decide ((i : Int) < (ts.length : Int)) = true := by simp; omega
    have hw : IntKind.i64.wrap ((i : Int) + 1) = ((i + 1 : Nat) : Int) := wrap_succ (by omega)
    rw [hd, hw, Int.toNat_natCast, hx, hy, tok_beq] at h
    simp only [cond_true] at h
    by_cases he : x = y
    · subst he
      rw [decide_eq_true rfl] at h
      have ih := sm_LR ts us hl hn a b (i + 1) hda hdb
      have : smEnd (x :: a) (x :: b) = smEnd a b := by
        unfold smEnd
        have : decide (x :: a = x :: b) = decide (a = b) := by simp
        rw [this]
      rw [this]
      exact .more (Tr.run_of h (by simp; omega)) ih
    · rw [decide_eq_false he] at h
      have : smEnd (x :: a) (y :: b) = (.ret, ([bool false], [])) := by
        unfold smEnd
        rw [decide_eq_false (by simp [he])]
        rfl
      rw [this]
      exact .last (Tr.run_of h (by simp; omega)) (by simp) (by simp)
def smF : Kept → Tr (Exit × Kept)
  | ([.gsl 2 n f, .gsl 2 n' f', .lit (.int .i64 u), .lit (.int .i64 0)], []) => .br (areToks n f && areToks n' f' && decide (n = n') && decide (u = (n : Int)) && Nat.ble n 4294967280) (.br (decide (toksOf n f = toksOf n' f')) (.leaf (.exit 0, ([], []))) (.leaf (.ret, ([bool false], [])))) .fail
  | _ => .fail
theorem smF_ok (x : Kept) (e : Exit) (y : Kept) (h : (smF x).run = some (e, y)) : LR Tryd.prog (E1 (GG m t fr)) 60 (GG m t fr) 26 smOuts .normal (theLoop 0 Tryd.f13) x e y := by
  unfold smF at h
  split at h
  · rename_i n f n' f' u
    have hb := br_run h
    clear h
    obtain ⟨hc, h⟩ := hb
    simp only [Bool.and_eq_true, decide_eq_true_eq, Nat.ble_eq] at hc
    obtain ⟨⟨⟨⟨hf, hf'⟩, rfl⟩, rfl⟩, hn⟩ := hc
    have hlen := toks_len n f
    have hlen' := toks_len n f'
    have key := sm_LR (m := m) (t := t) (fr := fr) (toksOf n f) (toksOf n f') (by omega) (by omega) _ _ 0 rfl rfl
    have hin : KLe ([.gsl 2 n f, .gsl 2 n f', int (n : Int), int 0], []) (smIn (toksOf n f) (toksOf n f') 0) := by
      refine ⟨PLeL.cons (PLe.gsl hlen.symm (toks_row hf)) (PLeL.cons (PLe.gsl hlen'.symm (toks_row hf')) (PLeL.cons (PLe.of_eq ?_) (.refl _))), .refl _⟩
      rw [hlen]
    rw [List.drop_zero, List.drop_zero] at key
    unfold smEnd at key
    cases hd : decide (toksOf n f = toksOf n f') with
    | true =>
      rw [hd] at key h
      simp only [Tr.run, cond_true, Option.some.injEq, Prod.mk.injEq] at h
      obtain ⟨rfl, rfl⟩ := h
      exact .le hin key
    | false =>
      rw [hd] at key h
      simp only [Tr.run, cond_false, Option.some.injEq, Prod.mk.injEq] at h
      obtain ⟨rfl, rfl⟩ := h
      exact .le hin key
  · cases h
noncomputable abbrev smCut (G : GT) := cutOf G 26 smOuts 0 smF
-- from: sm_raw [bs, okS, ls, areToks, toksOf] (m : Int) (t : TypeId) (fr : Nat × Nat) (n n' : Nat) (f f' : Nat → List PV) : (fnPure Tryd.prog ((E1 (GG m t fr)).withCuts (cut1 0 (smCut (GG m t fr)))) 60 Tryd.f13 (GG m t fr) [.gsl 2 n f, .gsl 2 n' f']).run2
theorem sm_raw (m : Int) (t : TypeId) (fr : Nat × Nat) (n n' : Nat) (f f' : Nat → List PV) : (fnPure Tryd.prog ((E1 (GG m t fr)).withCuts (cut1 0 (smCut (GG m t fr)))) 60 Tryd.f13 (GG m t fr) [.gsl 2 n f, .gsl 2 n' f']).run2 =
    (bif (bne ((n : Nat) : Int) ((n' : Nat) : Int)) then
        (.some ((.lit (.bool false)), []))
      else bif (decide ((toksOf n f) = (toksOf n' f'))) then
          (.some ((.lit (.bool true)), [(((((areToks n f) && (areToks n' f')) && (decide (n = n'))) && (decide (((n : Nat) : Int) = ((n : Nat) : Int)))) && (Nat.ble n (4294967280 : Nat)))]))
        else (.some ((.lit (.bool false)), [(((((areToks n f) && (areToks n' f')) && (decide (n = n'))) && (decide (((n : Nat) : Int) = ((n : Nat) : Int)))) && (Nat.ble n (4294967280 : Nat)))])) : Option (PV × List Bool)) := by
  kernel_rfl
end
end Go.Proofs.YtnidaonmigjgkaaDoor.Ev
