/- nset: the document's Sort as a contract. No condition. -/
import Derived.Test.YtbpmfaghjlmjmaaDoorNsV
import Derived.Test.YtbpmfaghjlmjmaaDoorEvNest
namespace Go.Proofs.YtbpmfaghjlmjmaaDoor.Ev
open Go Go.RowKit Go.Proofs Go.Proofs.YtbpmfaghjlmjmaaDoor.Str
set_option linter.unusedVariables false
set_option linter.unusedSimpArgs false
section
variable {m : Int} {t : TypeId} {fr : Nat × Nat}
noncomputable abbrev rsCuts (G : GT) : Nat → Option (St → Tr (Exit × St)) := cutAlso 2 (riCut G) (cut1 4 (rjCut G))
noncomputable abbrev E9s (G : GT) : Env := (E9 G).withCuts (rsCuts G)
theorem rsCuts_ok : CutLaws .none Tryd.prog (GG m t fr) Tryd.f9 (rsCuts (GG m t fr)) :=
  CutLaws.add (by omega) (by kernel_rfl) (fun st e st' h => cutOf_ok E9_ok mixed (noCuts_ok (envOf_cuts ..) _) riF_ok h)
    (CutLaws.one (by omega) (by kernel_rfl) fun st e st' h => cutOf_ok E9_ok mixed (noCuts_ok (envOf_cuts ..) _) rjF_ok h)
def rzOuts : Exit → Outs
  | .normal => { ks := [1, 6, 18, 19, 20], frz := [6] }
  | .exit _ => { ks := [6] }
  | _ => { ks := [] }
noncomputable abbrev rzRound (G : GT) := roundT Tryd.prog (E9s G) 60 G 100 rzOuts .normal (theLoop 0 Tryd.f9)
-- from: rz_round [bs, okS, ls, sp, rowSet, rowApp, rowOf, sRow, areSps, spsOf, bandS, riA, riB, riR, rjS, u32N] (m : Int) (t : TypeId) (fr : Nat × Nat) (o l : List Sp) (k n : Nat) (most u i : Int) : (rzRound (GG m t fr) ([.lit (.int .u32 most), .gsl 2 k (sRow o), .gsl 2 n (sRow l), int u, int i], [])).run2
theorem rz_round (m : Int) (t : TypeId) (fr : Nat × Nat) (o l : List Sp) (k n : Nat) (most u i : Int) : (rzRound (GG m t fr) ([.lit (.int .u32 most), .gsl 2 k (sRow o), .gsl 2 n (sRow l), int u, int i], [])).run2 =
    (bif (decide (i < u)) then
        (.some ((.normal, ([(.lit (.int .u32 most)), (.gsl 2 (((0 + ((Int.toNat (((rjS (riA (spsOf k (sRow o)) (Prod.fst (bandS most ((Prod.fst (sp l (Int.toNat i))), (Prod.snd (sp l (Int.toNat i)))))) (Prod.snd (bandS most ((Prod.fst (sp l (Int.toNat i))), (Prod.snd (sp l (Int.toNat i))))))) (spsOf (List.length (riR (spsOf k (sRow o)) (Prod.fst (bandS most ((Prod.fst (sp l (Int.toNat i))), (Prod.snd (sp l (Int.toNat i)))))) (Prod.snd (bandS most ((Prod.fst (sp l (Int.toNat i))), (Prod.snd (sp l (Int.toNat i)))))))) (sRow (riR (spsOf k (sRow o)) (Prod.fst (bandS most ((Prod.fst (sp l (Int.toNat i))), (Prod.snd (sp l (Int.toNat i)))))) (Prod.snd (bandS most ((Prod.fst (sp l (Int.toNat i))), (Prod.snd (sp l (Int.toNat i)))))))))) : Nat) : Int)) - 0)) + 1) + ((Int.toNat (((List.length (riR (spsOf k (sRow o)) (Prod.fst (bandS most ((Prod.fst (sp l (Int.toNat i))), (Prod.snd (sp l (Int.toNat i)))))) (Prod.snd (bandS most ((Prod.fst (sp l (Int.toNat i))), (Prod.snd (sp l (Int.toNat i)))))))) : Nat) : Int)) - (Int.toNat (((rjS (riA (spsOf k (sRow o)) (Prod.fst (bandS most ((Prod.fst (sp l (Int.toNat i))), (Prod.snd (sp l (Int.toNat i)))))) (Prod.snd (bandS most ((Prod.fst (sp l (Int.toNat i))), (Prod.snd (sp l (Int.toNat i))))))) (spsOf (List.length (riR (spsOf k (sRow o)) (Prod.fst (bandS most ((Prod.fst (sp l (Int.toNat i))), (Prod.snd (sp l (Int.toNat i)))))) (Prod.snd (bandS most ((Prod.fst (sp l (Int.toNat i))), (Prod.snd (sp l (Int.toNat i)))))))) (sRow (riR (spsOf k (sRow o)) (Prod.fst (bandS most ((Prod.fst (sp l (Int.toNat i))), (Prod.snd (sp l (Int.toNat i)))))) (Prod.snd (bandS most ((Prod.fst (sp l (Int.toNat i))), (Prod.snd (sp l (Int.toNat i)))))))))) : Nat) : Int)))) (rowApp ((0 + ((Int.toNat (((rjS (riA (spsOf k (sRow o)) (Prod.fst (bandS most ((Prod.fst (sp l (Int.toNat i))), (Prod.snd (sp l (Int.toNat i)))))) (Prod.snd (bandS most ((Prod.fst (sp l (Int.toNat i))), (Prod.snd (sp l (Int.toNat i))))))) (spsOf (List.length (riR (spsOf k (sRow o)) (Prod.fst (bandS most ((Prod.fst (sp l (Int.toNat i))), (Prod.snd (sp l (Int.toNat i)))))) (Prod.snd (bandS most ((Prod.fst (sp l (Int.toNat i))), (Prod.snd (sp l (Int.toNat i)))))))) (sRow (riR (spsOf k (sRow o)) (Prod.fst (bandS most ((Prod.fst (sp l (Int.toNat i))), (Prod.snd (sp l (Int.toNat i)))))) (Prod.snd (bandS most ((Prod.fst (sp l (Int.toNat i))), (Prod.snd (sp l (Int.toNat i)))))))))) : Nat) : Int)) - 0)) + 1) (rowApp (0 + ((Int.toNat (((rjS (riA (spsOf k (sRow o)) (Prod.fst (bandS most ((Prod.fst (sp l (Int.toNat i))), (Prod.snd (sp l (Int.toNat i)))))) (Prod.snd (bandS most ((Prod.fst (sp l (Int.toNat i))), (Prod.snd (sp l (Int.toNat i))))))) (spsOf (List.length (riR (spsOf k (sRow o)) (Prod.fst (bandS most ((Prod.fst (sp l (Int.toNat i))), (Prod.snd (sp l (Int.toNat i)))))) (Prod.snd (bandS most ((Prod.fst (sp l (Int.toNat i))), (Prod.snd (sp l (Int.toNat i)))))))) (sRow (riR (spsOf k (sRow o)) (Prod.fst (bandS most ((Prod.fst (sp l (Int.toNat i))), (Prod.snd (sp l (Int.toNat i)))))) (Prod.snd (bandS most ((Prod.fst (sp l (Int.toNat i))), (Prod.snd (sp l (Int.toNat i)))))))))) : Nat) : Int)) - 0)) (rowApp 0 (rowOf [] 2) (fun i_1 =>
  sRow
    (spsOf
      (riR (spsOf k (sRow o)) (bandS most ((sp l i.toNat).fst, (sp l i.toNat).snd)).fst
          (bandS most ((sp l i.toNat).fst, (sp l i.toNat).snd)).snd).length
      (sRow
        (riR (spsOf k (sRow o)) (bandS most ((sp l i.toNat).fst, (sp l i.toNat).snd)).fst
          (bandS most ((sp l i.toNat).fst, (sp l i.toNat).snd)).snd)))
    (Int.toNat 0 + i_1))) (rowOf [(.lit (.int .u32 (riA (spsOf k (sRow o)) (Prod.fst (bandS most ((Prod.fst (sp l (Int.toNat i))), (Prod.snd (sp l (Int.toNat i)))))) (Prod.snd (bandS most ((Prod.fst (sp l (Int.toNat i))), (Prod.snd (sp l (Int.toNat i))))))))), (.lit (.int .u32 (riB (spsOf k (sRow o)) (Prod.fst (bandS most ((Prod.fst (sp l (Int.toNat i))), (Prod.snd (sp l (Int.toNat i)))))) (Prod.snd (bandS most ((Prod.fst (sp l (Int.toNat i))), (Prod.snd (sp l (Int.toNat i)))))))))] 2)) (fun i_1 =>
  sRow
    (spsOf
      (riR (spsOf k (sRow o)) (bandS most ((sp l i.toNat).fst, (sp l i.toNat).snd)).fst
          (bandS most ((sp l i.toNat).fst, (sp l i.toNat).snd)).snd).length
      (sRow
        (riR (spsOf k (sRow o)) (bandS most ((sp l i.toNat).fst, (sp l i.toNat).snd)).fst
          (bandS most ((sp l i.toNat).fst, (sp l i.toNat).snd)).snd)))
    ((Nat.cast (R := Int) (rjS
            (riA (spsOf k (sRow o)) (bandS most ((sp l i.toNat).fst, (sp l i.toNat).snd)).fst
              (bandS most ((sp l i.toNat).fst, (sp l i.toNat).snd)).snd)
            (spsOf
              (riR (spsOf k (sRow o)) (bandS most ((sp l i.toNat).fst, (sp l i.toNat).snd)).fst
                  (bandS most ((sp l i.toNat).fst, (sp l i.toNat).snd)).snd).length
              (sRow
                (riR (spsOf k (sRow o)) (bandS most ((sp l i.toNat).fst, (sp l i.toNat).snd)).fst
                  (bandS most ((sp l i.toNat).fst, (sp l i.toNat).snd)).snd))))).toNat +
      i_1)))), (.gsl 2 n (sRow l)), (.lit (.int .i64 u)), (.lit (.int .i64 (IntKind.wrap .i64 (i + (1 : Int)))))], [])), [(Nat.ble ((((0 + ((Int.toNat (((rjS (riA (spsOf k (sRow o)) (Prod.fst (bandS most ((Prod.fst (sp l (Int.toNat i))), (Prod.snd (sp l (Int.toNat i)))))) (Prod.snd (bandS most ((Prod.fst (sp l (Int.toNat i))), (Prod.snd (sp l (Int.toNat i))))))) (spsOf (List.length (riR (spsOf k (sRow o)) (Prod.fst (bandS most ((Prod.fst (sp l (Int.toNat i))), (Prod.snd (sp l (Int.toNat i)))))) (Prod.snd (bandS most ((Prod.fst (sp l (Int.toNat i))), (Prod.snd (sp l (Int.toNat i)))))))) (sRow (riR (spsOf k (sRow o)) (Prod.fst (bandS most ((Prod.fst (sp l (Int.toNat i))), (Prod.snd (sp l (Int.toNat i)))))) (Prod.snd (bandS most ((Prod.fst (sp l (Int.toNat i))), (Prod.snd (sp l (Int.toNat i)))))))))) : Nat) : Int)) - 0)) + 1) + ((Int.toNat (((List.length (riR (spsOf k (sRow o)) (Prod.fst (bandS most ((Prod.fst (sp l (Int.toNat i))), (Prod.snd (sp l (Int.toNat i)))))) (Prod.snd (bandS most ((Prod.fst (sp l (Int.toNat i))), (Prod.snd (sp l (Int.toNat i)))))))) : Nat) : Int)) - (Int.toNat (((rjS (riA (spsOf k (sRow o)) (Prod.fst (bandS most ((Prod.fst (sp l (Int.toNat i))), (Prod.snd (sp l (Int.toNat i)))))) (Prod.snd (bandS most ((Prod.fst (sp l (Int.toNat i))), (Prod.snd (sp l (Int.toNat i))))))) (spsOf (List.length (riR (spsOf k (sRow o)) (Prod.fst (bandS most ((Prod.fst (sp l (Int.toNat i))), (Prod.snd (sp l (Int.toNat i)))))) (Prod.snd (bandS most ((Prod.fst (sp l (Int.toNat i))), (Prod.snd (sp l (Int.toNat i)))))))) (sRow (riR (spsOf k (sRow o)) (Prod.fst (bandS most ((Prod.fst (sp l (Int.toNat i))), (Prod.snd (sp l (Int.toNat i)))))) (Prod.snd (bandS most ((Prod.fst (sp l (Int.toNat i))), (Prod.snd (sp l (Int.toNat i)))))))))) : Nat) : Int)))) * 8) (140737488355328 : Nat)), (((decide ((0 : Int) ≤ (((rjS (riA (spsOf k (sRow o)) (Prod.fst (bandS most ((Prod.fst (sp l (Int.toNat i))), (Prod.snd (sp l (Int.toNat i)))))) (Prod.snd (bandS most ((Prod.fst (sp l (Int.toNat i))), (Prod.snd (sp l (Int.toNat i))))))) (spsOf (List.length (riR (spsOf k (sRow o)) (Prod.fst (bandS most ((Prod.fst (sp l (Int.toNat i))), (Prod.snd (sp l (Int.toNat i)))))) (Prod.snd (bandS most ((Prod.fst (sp l (Int.toNat i))), (Prod.snd (sp l (Int.toNat i)))))))) (sRow (riR (spsOf k (sRow o)) (Prod.fst (bandS most ((Prod.fst (sp l (Int.toNat i))), (Prod.snd (sp l (Int.toNat i)))))) (Prod.snd (bandS most ((Prod.fst (sp l (Int.toNat i))), (Prod.snd (sp l (Int.toNat i)))))))))) : Nat) : Int))) && (decide ((((rjS (riA (spsOf k (sRow o)) (Prod.fst (bandS most ((Prod.fst (sp l (Int.toNat i))), (Prod.snd (sp l (Int.toNat i)))))) (Prod.snd (bandS most ((Prod.fst (sp l (Int.toNat i))), (Prod.snd (sp l (Int.toNat i))))))) (spsOf (List.length (riR (spsOf k (sRow o)) (Prod.fst (bandS most ((Prod.fst (sp l (Int.toNat i))), (Prod.snd (sp l (Int.toNat i)))))) (Prod.snd (bandS most ((Prod.fst (sp l (Int.toNat i))), (Prod.snd (sp l (Int.toNat i)))))))) (sRow (riR (spsOf k (sRow o)) (Prod.fst (bandS most ((Prod.fst (sp l (Int.toNat i))), (Prod.snd (sp l (Int.toNat i)))))) (Prod.snd (bandS most ((Prod.fst (sp l (Int.toNat i))), (Prod.snd (sp l (Int.toNat i)))))))))) : Nat) : Int) ≤ (((List.length (riR (spsOf k (sRow o)) (Prod.fst (bandS most ((Prod.fst (sp l (Int.toNat i))), (Prod.snd (sp l (Int.toNat i)))))) (Prod.snd (bandS most ((Prod.fst (sp l (Int.toNat i))), (Prod.snd (sp l (Int.toNat i)))))))) : Nat) : Int)))) && (decide ((((List.length (riR (spsOf k (sRow o)) (Prod.fst (bandS most ((Prod.fst (sp l (Int.toNat i))), (Prod.snd (sp l (Int.toNat i)))))) (Prod.snd (bandS most ((Prod.fst (sp l (Int.toNat i))), (Prod.snd (sp l (Int.toNat i)))))))) : Nat) : Int) ≤ (((List.length (riR (spsOf k (sRow o)) (Prod.fst (bandS most ((Prod.fst (sp l (Int.toNat i))), (Prod.snd (sp l (Int.toNat i)))))) (Prod.snd (bandS most ((Prod.fst (sp l (Int.toNat i))), (Prod.snd (sp l (Int.toNat i)))))))) : Nat) : Int)))), (Nat.ble (((0 + ((Int.toNat (((rjS (riA (spsOf k (sRow o)) (Prod.fst (bandS most ((Prod.fst (sp l (Int.toNat i))), (Prod.snd (sp l (Int.toNat i)))))) (Prod.snd (bandS most ((Prod.fst (sp l (Int.toNat i))), (Prod.snd (sp l (Int.toNat i))))))) (spsOf (List.length (riR (spsOf k (sRow o)) (Prod.fst (bandS most ((Prod.fst (sp l (Int.toNat i))), (Prod.snd (sp l (Int.toNat i)))))) (Prod.snd (bandS most ((Prod.fst (sp l (Int.toNat i))), (Prod.snd (sp l (Int.toNat i)))))))) (sRow (riR (spsOf k (sRow o)) (Prod.fst (bandS most ((Prod.fst (sp l (Int.toNat i))), (Prod.snd (sp l (Int.toNat i)))))) (Prod.snd (bandS most ((Prod.fst (sp l (Int.toNat i))), (Prod.snd (sp l (Int.toNat i)))))))))) : Nat) : Int)) - 0)) + 1) * 8) (140737488355328 : Nat)), (Nat.ble ((0 + ((Int.toNat (((rjS (riA (spsOf k (sRow o)) (Prod.fst (bandS most ((Prod.fst (sp l (Int.toNat i))), (Prod.snd (sp l (Int.toNat i)))))) (Prod.snd (bandS most ((Prod.fst (sp l (Int.toNat i))), (Prod.snd (sp l (Int.toNat i))))))) (spsOf (List.length (riR (spsOf k (sRow o)) (Prod.fst (bandS most ((Prod.fst (sp l (Int.toNat i))), (Prod.snd (sp l (Int.toNat i)))))) (Prod.snd (bandS most ((Prod.fst (sp l (Int.toNat i))), (Prod.snd (sp l (Int.toNat i)))))))) (sRow (riR (spsOf k (sRow o)) (Prod.fst (bandS most ((Prod.fst (sp l (Int.toNat i))), (Prod.snd (sp l (Int.toNat i)))))) (Prod.snd (bandS most ((Prod.fst (sp l (Int.toNat i))), (Prod.snd (sp l (Int.toNat i)))))))))) : Nat) : Int)) - 0)) * 8) (140737488355328 : Nat)), ((decide ((0 : Int) ≤ (((rjS (riA (spsOf k (sRow o)) (Prod.fst (bandS most ((Prod.fst (sp l (Int.toNat i))), (Prod.snd (sp l (Int.toNat i)))))) (Prod.snd (bandS most ((Prod.fst (sp l (Int.toNat i))), (Prod.snd (sp l (Int.toNat i))))))) (spsOf (List.length (riR (spsOf k (sRow o)) (Prod.fst (bandS most ((Prod.fst (sp l (Int.toNat i))), (Prod.snd (sp l (Int.toNat i)))))) (Prod.snd (bandS most ((Prod.fst (sp l (Int.toNat i))), (Prod.snd (sp l (Int.toNat i)))))))) (sRow (riR (spsOf k (sRow o)) (Prod.fst (bandS most ((Prod.fst (sp l (Int.toNat i))), (Prod.snd (sp l (Int.toNat i)))))) (Prod.snd (bandS most ((Prod.fst (sp l (Int.toNat i))), (Prod.snd (sp l (Int.toNat i)))))))))) : Nat) : Int))) && (decide ((((rjS (riA (spsOf k (sRow o)) (Prod.fst (bandS most ((Prod.fst (sp l (Int.toNat i))), (Prod.snd (sp l (Int.toNat i)))))) (Prod.snd (bandS most ((Prod.fst (sp l (Int.toNat i))), (Prod.snd (sp l (Int.toNat i))))))) (spsOf (List.length (riR (spsOf k (sRow o)) (Prod.fst (bandS most ((Prod.fst (sp l (Int.toNat i))), (Prod.snd (sp l (Int.toNat i)))))) (Prod.snd (bandS most ((Prod.fst (sp l (Int.toNat i))), (Prod.snd (sp l (Int.toNat i)))))))) (sRow (riR (spsOf k (sRow o)) (Prod.fst (bandS most ((Prod.fst (sp l (Int.toNat i))), (Prod.snd (sp l (Int.toNat i)))))) (Prod.snd (bandS most ((Prod.fst (sp l (Int.toNat i))), (Prod.snd (sp l (Int.toNat i)))))))))) : Nat) : Int) ≤ (((List.length (riR (spsOf k (sRow o)) (Prod.fst (bandS most ((Prod.fst (sp l (Int.toNat i))), (Prod.snd (sp l (Int.toNat i)))))) (Prod.snd (bandS most ((Prod.fst (sp l (Int.toNat i))), (Prod.snd (sp l (Int.toNat i)))))))) : Nat) : Int)))), ((areSps (List.length (riR (spsOf k (sRow o)) (Prod.fst (bandS most ((Prod.fst (sp l (Int.toNat i))), (Prod.snd (sp l (Int.toNat i)))))) (Prod.snd (bandS most ((Prod.fst (sp l (Int.toNat i))), (Prod.snd (sp l (Int.toNat i)))))))) (sRow (riR (spsOf k (sRow o)) (Prod.fst (bandS most ((Prod.fst (sp l (Int.toNat i))), (Prod.snd (sp l (Int.toNat i)))))) (Prod.snd (bandS most ((Prod.fst (sp l (Int.toNat i))), (Prod.snd (sp l (Int.toNat i))))))))) && (Nat.ble (List.length (riR (spsOf k (sRow o)) (Prod.fst (bandS most ((Prod.fst (sp l (Int.toNat i))), (Prod.snd (sp l (Int.toNat i)))))) (Prod.snd (bandS most ((Prod.fst (sp l (Int.toNat i))), (Prod.snd (sp l (Int.toNat i)))))))) (4294967280 : Nat))), (((((areSps k (sRow o)) && (decide (((k : Nat) : Int) = ((k : Nat) : Int)))) && (Nat.ble k (4294967280 : Nat))) && (u32N (Prod.fst (bandS most ((Prod.fst (sp l (Int.toNat i))), (Prod.snd (sp l (Int.toNat i)))))))) && (u32N (Prod.snd (bandS most ((Prod.fst (sp l (Int.toNat i))), (Prod.snd (sp l (Int.toNat i)))))))), ((decide ((0 : Int) ≤ i)) && (Nat.blt (Int.toNat i) n))]))
      else (.some (((.exit 0), ([(.gsl 2 k (sRow o))], [])), [])) : Option ((Exit × Kept) × List Bool)) := by
  kernel_rfl
theorem ins_row (R : List Sp) (J : Nat) (hJ : J ≤ R.length) (a b : Int) (i : Nat) (hi : i < J + 1 + (R.length - J)) :
    rowApp (J + 1) (rowApp J (fun i => sRow R (Int.toNat 0 + i)) (rowOf [.lit (.int .u32 a), .lit (.int .u32 b)] 2)) (fun i => sRow R (J + i)) i = sRow (R.take J ++ (a, b) :: R.drop J) i := by
  have hl : (R.take J).length = J := by simp; omega
  rcases Nat.lt_trichotomy i J with h | h | h
  · rw [app_lo _ _ (by omega), app_lo _ _ h]
    show sRow R (0 + i) = _
    rw [Nat.zero_add]
    unfold sRow
    have : sp (R.take J ++ (a, b) :: R.drop J) i = sp R i := by
      unfold sp
      rw [List.getD_eq_getElem?_getD, List.getD_eq_getElem?_getD, List.getElem?_append_left (by omega), List.getElem?_take_of_lt h]
    rw [this]
  · subst h
    have e := app_hi i 0 (fun i => sRow R (Int.toNat 0 + i)) (rowOf [.lit (.int .u32 a), .lit (.int .u32 b)] 2)
    rw [app_lo _ _ (by omega)]
    rw [Nat.add_zero] at e
    rw [e]
    unfold sRow
    have : sp (R.take i ++ (a, b) :: R.drop i) i = (a, b) := by
      unfold sp
      rw [List.getD_eq_getElem?_getD, List.getElem?_append_right (by omega), hl, Nat.sub_self]
      rfl
    rw [this]
    rfl
  · obtain ⟨d, rfl⟩ : ∃ d, i = J + 1 + d := ⟨i - (J + 1), by omega⟩
    rw [app_hi]
    unfold sRow
    have : sp (R.take J ++ (a, b) :: R.drop J) (J + 1 + d) = sp R (J + d) := by
      unfold sp
      rw [List.getD_eq_getElem?_getD, List.getD_eq_getElem?_getD, List.getElem?_append_right (by omega), hl, show J + 1 + d - J = d + 1 by omega, List.getElem?_cons_succ, List.getElem?_drop]
    rw [this]
theorem riS_len : ∀ (s : List Sp) (a b : Int) (r : List Sp), (riS s a b r).2.length ≤ s.length + r.length
  | [], a, b, r => by simp [riS]
  | y :: s, a, b, r => by
    rw [riS]
    cases (decide (y.2 + 1 < a) || decide (b + 1 < y.1)) with
    | true =>
      have := riS_len s a b (r ++ [y])
      simp at this ⊢
      omega
    | false =>
      have := riS_len s (bif decide (y.1 < a) then y.1 else a) (bif decide (y.2 > b) then y.2 else b) r
      simp at this ⊢
      omega
theorem okP_u32 {l : List Sp} (h : okP l) : l.all u32B = true := List.all_eq_true.2 fun y hy => fine_u32 (h.2 y hy)
def rzIn (most : Int) (l : List Sp) (i : Nat) (o : List Sp) : Kept := ([.lit (.int .u32 most), .gsl 2 o.length (sRow o), .gsl 2 l.length (sRow l), int l.length, int i], [])
theorem rz_LR (most : Int) (hm : 0 ≤ most ∧ most < 4294967296) (l : List Sp) (hu : l.all u32B = true) (hn : l.length ≤ 1024) : ∀ (s : List Sp) (i : Nat) (o : List Sp), l.drop i = s → okP o → o.length ≤ i → i ≤ l.length →
    LR Tryd.prog (E9s (GG m t fr)) 60 (GG m t fr) 100 rzOuts .normal (theLoop 0 Tryd.f9) (rzIn most l i o) (.exit 0) ([.gsl 2 (s.foldl (fun o x => roS o (bandS most x)) o).length (sRow (s.foldl (fun o x => roS o (bandS most x)) o))], [])
  | [], i, o, hr, ho, hi, hil => by
    have h := rz_round m t fr o l o.length l.length most l.length i
    have hlen := List.drop_eq_nil_iff.1 hr
    have hd : decide ((i : Int) < (l.length : Int)) = false := by simp; omega
    rw [hd] at h
    exact .last (Tr.run_of h (by simp)) (by simp) (by simp)
  | y :: s, i, o, hr, ho, hi, hil => by
    have h := rz_round m t fr o l o.length l.length most l.length i
    obtain ⟨hlt, hx, hdr⟩ := sp_drop hr
    have hy : u32B y = true := by
      have := List.all_eq_true.1 hu l[i] (List.getElem_mem hlt)
      have e : sp l i = l[i] := by simp [sp, hlt]
      rw [← e, hx] at this
      exact this
    have hc := bandS_fine hm hy
    have hro := (roS_ok 0 ho hc).1
    have hri := riS_ok 0 o (bandS most y).1 (bandS most y).2 [] ho (fun z hz => by cases hz) hc
    have hrl := riS_len o (bandS most y).1 (bandS most y).2 []
    have hd : decide ((i : Int) < (l.length : Int)) = true := by simp; omega
    have hw : IntKind.i64.wrap ((i : Int) + 1) = ((i + 1 : Nat) : Int) := wrap_succ (by omega)
    have hRu : areSps (riR o (bandS most y).1 (bandS most y).2).length (sRow (riR o (bandS most y).1 (bandS most y).2)) = true := are_sRow (okP_u32 hri.1)
    have hu1 : u32N (bandS most y).1 = true := by unfold fine at hc; unfold u32N; simp; omega
    have hu2 : u32N (bandS most y).2 = true := by unfold fine at hc; unfold u32N; simp; omega
    have e0 : bandS most (y.1, y.2) = bandS most y := rfl
    rw [hd, hw, Int.toNat_natCast i, hx, e0, sps_sRow o, sps_sRow (riR o (bandS most y).1 (bandS most y).2), hRu, are_sRow (okP_u32 ho), hu1, hu2, Int.toNat_natCast (rjS (riA o (bandS most y).1 (bandS most y).2) (riR o (bandS most y).1 (bandS most y).2)), Int.toNat_natCast (riR o (bandS most y).1 (bandS most y).2).length, Nat.sub_zero, Nat.zero_add, app_none] at h
    simp only [cond_true] at h
    have hrl' : (riR o (bandS most y).1 (bandS most y).2).length ≤ o.length := hrl
    have hJ := rjS_le (riA o (bandS most y).1 (bandS most y).2) (riR o (bandS most y).1 (bandS most y).2)
    have ero : roS o (bandS most y) = (riR o (bandS most y).1 (bandS most y).2).take (rjS (riA o (bandS most y).1 (bandS most y).2) (riR o (bandS most y).1 (bandS most y).2)) ++ (riA o (bandS most y).1 (bandS most y).2, riB o (bandS most y).1 (bandS most y).2) :: (riR o (bandS most y).1 (bandS most y).2).drop (rjS (riA o (bandS most y).1 (bandS most y).2) (riR o (bandS most y).1 (bandS most y).2)) := rfl
    have hlen : (roS o (bandS most y)).length ≤ o.length + 1 := by
      rw [ero]
      simp only [List.length_append, List.length_take, List.length_cons, List.length_drop]
      omega
    have ih := rz_LR most hm l hu hn s (i + 1) (roS o (bandS most y)) hdr hro (by omega) (by omega)
    rw [ero] at ih
    rw [List.foldl_cons, ero]
    generalize riR o (bandS most y).1 (bandS most y).2 = R at *
    generalize riA o (bandS most y).1 (bandS most y).2 = A at *
    generalize riB o (bandS most y).1 (bandS most y).2 = B at *
    generalize rjS A R = J at *
    have le : KLe ([.lit (.int .u32 most), .gsl 2 (J + 1 + (R.length - J)) (rowApp (J + 1) (rowApp J (fun i => sRow R (Int.toNat 0 + i)) (rowOf [.lit (.int .u32 A), .lit (.int .u32 B)] 2)) (fun i => sRow R (J + i))), .gsl 2 l.length (sRow l), int l.length, int ((i + 1 : Nat) : Int)], []) (rzIn most l (i + 1) (R.take J ++ (A, B) :: R.drop J)) := by
      refine ⟨PLeL.cons (.refl _) (PLeL.cons (PLe.gsl (by simp; omega) fun j hj => ins_row R J hJ A B j hj) (.refl _)), .refl _⟩
    exact .more (Tr.run_of h (by simp; omega)) (.le le ih)
def rzF : Kept → Tr (Exit × Kept)
  | ([.lit (.int .u32 most), .lit (.slice none 0 0), .gsl 2 n f, .lit (.int .i64 u), .lit (.int .i64 0)], []) => .br (areSps n f && decide (u = (n : Int)) && Nat.ble n 1024 && u32N most) (.leaf (.exit 0, ([.gsl 2 (rsS most (spsOf n f)).length (sRow (rsS most (spsOf n f)))], []))) .fail
  | _ => .fail
theorem rzF_ok (k : Kept) (e : Exit) (y : Kept) (h : (rzF k).run = some (e, y)) : LR Tryd.prog (E9s (GG m t fr)) 60 (GG m t fr) 100 rzOuts .normal (theLoop 0 Tryd.f9) k e y := by
  unfold rzF at h
  split at h
  · rename_i most n f u
    have hb := br_run h
    clear h
    obtain ⟨hc, h⟩ := hb
    simp only [Bool.and_eq_true, decide_eq_true_eq, Nat.ble_eq] at hc
    obtain ⟨⟨⟨hf, rfl⟩, hn⟩, hm⟩ := hc
    unfold u32N at hm
    simp only [Bool.and_eq_true, decide_eq_true_eq] at hm
    simp only [Tr.run, Option.some.injEq, Prod.mk.injEq] at h
    obtain ⟨rfl, rfl⟩ := h
    have hL := sps_len n f
    have key := rz_LR (m := m) (t := t) (fr := fr) most hm (spsOf n f) (sps_u32 hf) (by omega) (spsOf n f) 0 [] rfl ⟨List.Pairwise.nil, fun x hx => by cases hx⟩ (Nat.le_refl _) (Nat.zero_le _)
    have hin : KLe ([.lit (.int .u32 most), .lit (.slice none 0 0), .gsl 2 n f, int (n : Int), int 0], []) (rzIn most (spsOf n f) 0 []) := by
      refine ⟨PLeL.cons (.refl _) (PLeL.cons (PLe.nil _ _) (PLeL.cons (PLe.gsl hL.symm (sps_row hf)) (PLeL.cons (PLe.of_eq ?_) (.refl _)))), .refl _⟩
      rw [hL]
    exact .le hin key
  · cases h
noncomputable abbrev rzCut (G : GT) := cutOf G 100 rzOuts 0 rzF
-- from: rsort_raw [bs, okS, ls, sp, areSps, spsOf, rsS, u32N, sRow] (m : Int) (t : TypeId) (fr : Nat × Nat) (n : Nat) (f : Nat → List PV) (most : Int) : (fnPure Tryd.prog ((E9 (GG m t fr)).withCuts (cut1 0 (rzCut (GG m t fr)))) 60 Tryd.f9 (GG m t fr) [.gsl 2 n f, .lit (.int .u32 most)]).run2
theorem rsort_raw (m : Int) (t : TypeId) (fr : Nat × Nat) (n : Nat) (f : Nat → List PV) (most : Int) : (fnPure Tryd.prog ((E9 (GG m t fr)).withCuts (cut1 0 (rzCut (GG m t fr)))) 60 Tryd.f9 (GG m t fr) [.gsl 2 n f, .lit (.int .u32 most)]).run2 =
    (bif (decide (((n : Nat) : Int) > (1024 : Int))) then
        (.some ((.tup [(.lit (.slice .none 0 0)), (.lit (.int .i64 (1 : Int)))]), []))
      else (.some ((.tup [(.gsl 2 (List.length (rsS most (spsOf n f))) (sRow (rsS most (spsOf n f)))), (.lit (.int .i64 (0 : Int)))]), [((((areSps n f) && (decide (((n : Nat) : Int) = ((n : Nat) : Int)))) && (Nat.ble n (1024 : Nat))) && (u32N most))])) : Option (PV × List Bool)) := by
  kernel_rfl
theorem rsort_ok : PureOK Tryd.prog (GG m t fr) 9 srtG := by
  refine PureOK.of (fn_cuts mixed E9_ok (fn := Tryd.f9) (cuts := cut1 0 (rzCut (GG m t fr))) (by kernel_rfl) (CutLaws.one (by omega) (by kernel_rfl) fun st e st' h => cutOf_ok (E := E9s (GG m t fr)) (E9_ok.withCuts _) mixed (CutLaws.inner (by kernel_rfl) rsCuts_ok) rzF_ok h)) fun ps p hp => ?_
  unfold srtG at hp
  split at hp
  · rename_i n f most
    obtain ⟨hc, hp⟩ := br_run hp
    simp only [Bool.and_eq_true] at hc
    obtain ⟨⟨hf, hn⟩, hm⟩ := hc
    have hm' := hm
    unfold u32N at hm'
    simp only [Bool.and_eq_true, decide_eq_true_eq] at hm'
    simp only [Tr.run, Option.some.injEq] at hp
    subst hp
    have h := rsort_raw m t fr n f most
    have hl := sps_len n f
    rw [hf, hm] at h
    cases c : Nat.blt 1024 n with
    | true =>
      have hd : decide ((n : Int) > 1024) = true := by rw [Nat.blt_eq] at c; simp; omega
      rw [hd] at h
      have e1 : srtR most (spsOf n f) = [] := by unfold srtR; rw [hl, c]; rfl
      have e2 : srtE (spsOf n f) = 1 := by unfold srtE; rw [hl, c]; rfl
      rw [e1, e2]
      exact ⟨_, Tr.run_of h (by simp), PLe.tup (PLeL.cons (PLe.nil _ _) (.refl _))⟩
    | false =>
      have hle : n ≤ 1024 := by rw [Bool.eq_false_iff, ne_eq, Nat.blt_eq] at c; omega
      have hd : decide ((n : Int) > 1024) = false := by simp; omega
      rw [hd] at h
      have e2 : srtE (spsOf n f) = 0 := by unfold srtE; rw [hl, c]; rfl
      rw [rsS_eq hm' (sps_u32 hf) (by omega)] at h
      rw [e2]
      exact ⟨_, Tr.run_of h (by simp; exact hle), PLe.of_eq rfl⟩
  · cases hp
end
end Go.Proofs.YtbpmfaghjlmjmaaDoor.Ev
