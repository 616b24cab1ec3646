/- JBox16: several texts in one. Condition: each part's own. -/
import Derived.Test.YtlngnfkjpfokhaaDoorJBox15
/- Mails that are to go: a round each. No condition. -/
namespace Go.Proofs.YtlngnfkjpfokhaaDoor.Ev
open Go Go.RowKit Go.Proofs Go.Proofs.YtlngnfkjpfokhaaDoor.Str
set_option linter.unusedVariables false
set_option linter.unusedSimpArgs false
section
variable {m : Int} {t : TypeId} {fr : Nat × Nat}
/-- whether a mail is to go -/
def delF (f : Int) : Bool := bne (IntKind.wrap .u8 (((BitVec.toNat (HAnd.hAnd (BitVec.ofInt 8 f) (BitVec.ofInt 8 (8 : Int)))) : Nat) : Int)) (0 : Int)
def delB (us : List Int) (x : Ml) : Bool := inI us x.u && delF x.f
def delC : PV := .clo 41 [.ptr 1 0, .ptr 2 0]
def usC (us : List Int) : Blk := .cells 28 [.gsl 1 us.length (nRow us)]
def goC (q : PV) : Blk := .cells 28 [q]
def msR (l : List Ml) : Blk := .row 47 6 l.length (mRow l)
def ixOuts : Exit → Outs
  | .normal => { ks := [0, 1, 7, 8], rs := [.slot 0, .cap 1 0, .cap 1 1], pins := 3 }
  | .exit _ => { ks := [], rs := [.slot 0, .cap 1 0, .cap 1 1], pins := 3 }
  | _ => { ks := [4], rs := [.slot 0, .cap 1 0, .cap 1 1, .cell 2 0], pins := 3 }
noncomputable abbrev ixRound (G : GT) := roundT Tryd.prog (E18 G) 60 G 19 ixOuts .normal (theLoop 0 Tryd.f50)
theorem ix_round_v (m : Int) (t : TypeId) (fr : Nat × Nat) (l : List Ml) (us : List Int) (u i : Int) : ((ixRound (GG m t fr) ([.own 0, delC, int u, int i], [msR l, usC us, goC (.lit (.slice none 0 0))]))).val =
 (bif (decide (i < u)) then
 bif (inI (numsOf (List.length us) (nRow us)) (Ml.u (ml l (Int.toNat i)))) then
 bif (bne (IntKind.wrap .u8 (((BitVec.toNat (HAnd.hAnd (BitVec.ofInt 8 (Ml.f (ml l (Int.toNat i)))) (BitVec.ofInt 8 (8 : Int)))) : Nat) : Int)) (0 : Int)) then
 bif (bne (IntKind.wrap .u8 (((BitVec.toNat (HAnd.hAnd (BitVec.ofInt 8 (Ml.f (ml l (Int.toNat i)))) (BitVec.ofInt 8 (8 : Int)))) : Nat) : Int)) (0 : Int)) then
 (.some (.ret, ([(.lit (.int .i64 i))], [(.row 47 6 (List.length l) (mRow l)), (.cells 28 [(.gsl 1 (List.length us) (nRow us))]), (.cells 28 [(.own 3)]), (.row 22 1 1 (rowOf [(.lit (.int .u32 (Ml.u (ml l (Int.toNat i)))))] 1))])))
 else (.some (.normal, ([(.own 0), (.clo 41 [(.ptr 1 0), (.ptr 2 0)]), (.lit (.int .i64 u)), (.lit (.int .i64 (IntKind.wrap .i64 (i + (1 : Int)))))], [(.row 47 6 (List.length l) (mRow l)), (.cells 28 [(.gsl 1 (List.length us) (nRow us))]), (.cells 28 [.junk])])))
 else bif (bne (IntKind.wrap .u8 (((BitVec.toNat (HAnd.hAnd (BitVec.ofInt 8 (Ml.f (ml l (Int.toNat i)))) (BitVec.ofInt 8 (8 : Int)))) : Nat) : Int)) (0 : Int)) then
 .none
 else (.some (.normal, ([(.own 0), (.clo 41 [(.ptr 1 0), (.ptr 2 0)]), (.lit (.int .i64 u)), (.lit (.int .i64 (IntKind.wrap .i64 (i + (1 : Int)))))], [(.row 47 6 (List.length l) (mRow l)), (.cells 28 [(.gsl 1 (List.length us) (nRow us))]), (.cells 28 [(.lit (.slice .none 0 0))])])))
 else (.some (.normal, ([(.own 0), (.clo 41 [(.ptr 1 0), (.ptr 2 0)]), (.lit (.int .i64 u)), (.lit (.int .i64 (IntKind.wrap .i64 (i + (1 : Int)))))], [(.row 47 6 (List.length l) (mRow l)), (.cells 28 [(.gsl 1 (List.length us) (nRow us))]), (.cells 28 [(.lit (.slice .none 0 0))])])))
 else (.some ((.exit 0), ([], [(.row 47 6 (List.length l) (mRow l)), (.cells 28 [(.gsl 1 (List.length us) (nRow us))]), (.cells 28 [(.lit (.slice .none 0 0))])]))) : Option (Exit × Kept)) := by
  kernel_rfl
theorem ix_round_c (m : Int) (t : TypeId) (fr : Nat × Nat) (l : List Ml) (us : List Int) (u i : Int) : ((ixRound (GG m t fr) ([.own 0, delC, int u, int i], [msR l, usC us, goC (.lit (.slice none 0 0))]))).conds =
 (bif (decide (i < u)) then
 bif ((decide ((0 : Int) ≤ i)) && (Nat.blt (Int.toNat i) (List.length l))) then
 bif (Nat.blt (Int.toNat i) (List.length l)) then
 bif (((areNums (List.length us) (nRow us)) && (risI (numsOf (List.length us) (nRow us)))) && (Nat.ble (List.length us) (4294967280 : Nat))) then
 bif (inI (numsOf (List.length us) (nRow us)) (Ml.u (ml l (Int.toNat i)))) then
 bif (bne (IntKind.wrap .u8 (((BitVec.toNat (HAnd.hAnd (BitVec.ofInt 8 (Ml.f (ml l (Int.toNat i)))) (BitVec.ofInt 8 (8 : Int)))) : Nat) : Int)) (0 : Int)) then
 bif (bne (IntKind.wrap .u8 (((BitVec.toNat (HAnd.hAnd (BitVec.ofInt 8 (Ml.f (ml l (Int.toNat i)))) (BitVec.ofInt 8 (8 : Int)))) : Nat) : Int)) (0 : Int)) then
 true
 else true
 else bif (bne (IntKind.wrap .u8 (((BitVec.toNat (HAnd.hAnd (BitVec.ofInt 8 (Ml.f (ml l (Int.toNat i)))) (BitVec.ofInt 8 (8 : Int)))) : Nat) : Int)) (0 : Int)) then
 true
 else true
 else true
 else false
 else false
 else false
 else true : Bool) := by
  kernel_rfl
def dfOuts : Exit → Outs
  | .normal => { ks := [0, 1, 5, 6], rs := [.slot 0, .cap 1 0, .cap 1 1, .cell 2 0], pins := 3 }
  | .exit _ => { ks := [0, 1, 5], rs := [.slot 0, .cap 1 0, .cap 1 1, .cell 2 0], pins := 3 }
  | _ => { ks := [], rs := [.slot 0, .cap 1 0, .cap 1 1], pins := 3 }
noncomputable abbrev dfRound (G : GT) := roundT Tryd.prog (E18 G) 60 G 42 dfOuts .normal (theLoop 0 Tryd.f40)
theorem df_round_v (m : Int) (t : TypeId) (fr : Nat × Nat) (l : List Ml) (us go : List Int) (i j : Int) : ((dfRound (GG m t fr) ([.own 0, delC, int i, int j], [msR l, usC us, goC (.own 3), .row 22 1 go.length (nRow go)]))).val =
 (bif (decide (j < (((List.length l) : Nat) : Int))) then
 bif (inI (numsOf (List.length us) (nRow us)) (Ml.u (ml l (Int.toNat j)))) then
 bif (bne (IntKind.wrap .u8 (((BitVec.toNat (HAnd.hAnd (BitVec.ofInt 8 (Ml.f (ml l (Int.toNat j)))) (BitVec.ofInt 8 (8 : Int)))) : Nat) : Int)) (0 : Int)) then
 bif (!(bne (IntKind.wrap .u8 (((BitVec.toNat (HAnd.hAnd (BitVec.ofInt 8 (Ml.f (ml l (Int.toNat j)))) (BitVec.ofInt 8 (8 : Int)))) : Nat) : Int)) (0 : Int))) then
 (.some (.normal, ([(.own 0), (.clo 41 [(.ptr 1 0), (.ptr 2 0)]), (.lit (.int .i64 (IntKind.wrap .i64 (i + (1 : Int))))), (.lit (.int .i64 (IntKind.wrap .i64 (j + (1 : Int)))))], [(.row 47 6 (List.length l) (rowSet (mRow l) (Int.toNat i) 0 [(.lit (.int .u32 (Ml.u (ml l (Int.toNat j))))), (.lit (.int .u8 (Ml.f (ml l (Int.toNat j))))), (.lit (.int .i64 (Ml.d (ml l (Int.toNat j))))), (.lit (.int .i64 (Ml.s (ml l (Int.toNat j))))), (.lit (.int .i64 (Ml.z (ml l (Int.toNat j))))), (.lit (.string (Ml.r (ml l (Int.toNat j)))))])), (.cells 28 [(.gsl 1 (List.length us) (nRow us))]), (.cells 28 [(.own 3)]), (.row 22 1 ((List.length go) + 1) (rowApp (List.length go) (nRow go) (rowOf [(.lit (.int .u32 (Ml.u (ml l (Int.toNat j)))))] 1)))])))
 else (.some (.normal, ([(.own 0), (.clo 41 [(.ptr 1 0), (.ptr 2 0)]), (.lit (.int .i64 i)), (.lit (.int .i64 (IntKind.wrap .i64 (j + (1 : Int)))))], [(.row 47 6 (List.length l) (mRow l)), (.cells 28 [(.gsl 1 (List.length us) (nRow us))]), (.cells 28 [(.own 3)]), (.row 22 1 ((List.length go) + 1) (rowApp (List.length go) (nRow go) (rowOf [(.lit (.int .u32 (Ml.u (ml l (Int.toNat j)))))] 1)))])))
 else bif (!(bne (IntKind.wrap .u8 (((BitVec.toNat (HAnd.hAnd (BitVec.ofInt 8 (Ml.f (ml l (Int.toNat j)))) (BitVec.ofInt 8 (8 : Int)))) : Nat) : Int)) (0 : Int))) then
 (.some (.normal, ([(.own 0), (.clo 41 [(.ptr 1 0), (.ptr 2 0)]), (.lit (.int .i64 (IntKind.wrap .i64 (i + (1 : Int))))), (.lit (.int .i64 (IntKind.wrap .i64 (j + (1 : Int)))))], [(.row 47 6 (List.length l) (rowSet (mRow l) (Int.toNat i) 0 [(.lit (.int .u32 (Ml.u (ml l (Int.toNat j))))), (.lit (.int .u8 (Ml.f (ml l (Int.toNat j))))), (.lit (.int .i64 (Ml.d (ml l (Int.toNat j))))), (.lit (.int .i64 (Ml.s (ml l (Int.toNat j))))), (.lit (.int .i64 (Ml.z (ml l (Int.toNat j))))), (.lit (.string (Ml.r (ml l (Int.toNat j)))))])), (.cells 28 [(.gsl 1 (List.length us) (nRow us))]), (.cells 28 [(.own 3)]), (.row 22 1 (List.length go) (nRow go))])))
 else (.some (.normal, ([(.own 0), (.clo 41 [(.ptr 1 0), (.ptr 2 0)]), (.lit (.int .i64 i)), (.lit (.int .i64 (IntKind.wrap .i64 (j + (1 : Int)))))], [(.row 47 6 (List.length l) (mRow l)), (.cells 28 [(.gsl 1 (List.length us) (nRow us))]), (.cells 28 [(.own 3)]), (.row 22 1 (List.length go) (nRow go))])))
 else (.some (.normal, ([(.own 0), (.clo 41 [(.ptr 1 0), (.ptr 2 0)]), (.lit (.int .i64 (IntKind.wrap .i64 (i + (1 : Int))))), (.lit (.int .i64 (IntKind.wrap .i64 (j + (1 : Int)))))], [(.row 47 6 (List.length l) (rowSet (mRow l) (Int.toNat i) 0 [(.lit (.int .u32 (Ml.u (ml l (Int.toNat j))))), (.lit (.int .u8 (Ml.f (ml l (Int.toNat j))))), (.lit (.int .i64 (Ml.d (ml l (Int.toNat j))))), (.lit (.int .i64 (Ml.s (ml l (Int.toNat j))))), (.lit (.int .i64 (Ml.z (ml l (Int.toNat j))))), (.lit (.string (Ml.r (ml l (Int.toNat j)))))])), (.cells 28 [(.gsl 1 (List.length us) (nRow us))]), (.cells 28 [(.own 3)]), (.row 22 1 (List.length go) (nRow go))])))
 else (.some ((.exit 0), ([(.own 0), (.clo 41 [(.ptr 1 0), (.ptr 2 0)]), (.lit (.int .i64 i))], [(.row 47 6 (List.length l) (mRow l)), (.cells 28 [(.gsl 1 (List.length us) (nRow us))]), (.cells 28 [(.own 3)]), (.row 22 1 (List.length go) (nRow go))]))) : Option (Exit × Kept)) := by
  kernel_rfl
theorem df_round_c (m : Int) (t : TypeId) (fr : Nat × Nat) (l : List Ml) (us go : List Int) (i j : Int) : ((dfRound (GG m t fr) ([.own 0, delC, int i, int j], [msR l, usC us, goC (.own 3), .row 22 1 go.length (nRow go)]))).conds =
 (bif (decide (j < (((List.length l) : Nat) : Int))) then
 bif ((decide ((0 : Int) ≤ j)) && (Nat.blt (Int.toNat j) (List.length l))) then
 bif (Nat.blt (Int.toNat j) (List.length l)) then
 bif (((areNums (List.length us) (nRow us)) && (risI (numsOf (List.length us) (nRow us)))) && (Nat.ble (List.length us) (4294967280 : Nat))) then
 bif (inI (numsOf (List.length us) (nRow us)) (Ml.u (ml l (Int.toNat j)))) then
 bif (bne (IntKind.wrap .u8 (((BitVec.toNat (HAnd.hAnd (BitVec.ofInt 8 (Ml.f (ml l (Int.toNat j)))) (BitVec.ofInt 8 (8 : Int)))) : Nat) : Int)) (0 : Int)) then
 bif (Nat.ble (((List.length go) + 1) * 4) (140737488355328 : Nat)) then
 bif (!(bne (IntKind.wrap .u8 (((BitVec.toNat (HAnd.hAnd (BitVec.ofInt 8 (Ml.f (ml l (Int.toNat j)))) (BitVec.ofInt 8 (8 : Int)))) : Nat) : Int)) (0 : Int))) then
 bif ((decide ((0 : Int) ≤ i)) && (Nat.blt (Int.toNat i) (List.length l))) then
 bif (Nat.blt (Int.toNat i) (List.length l)) then
 true
 else false
 else false
 else true
 else false
 else bif (!(bne (IntKind.wrap .u8 (((BitVec.toNat (HAnd.hAnd (BitVec.ofInt 8 (Ml.f (ml l (Int.toNat j)))) (BitVec.ofInt 8 (8 : Int)))) : Nat) : Int)) (0 : Int))) then
 bif ((decide ((0 : Int) ≤ i)) && (Nat.blt (Int.toNat i) (List.length l))) then
 bif (Nat.blt (Int.toNat i) (List.length l)) then
 true
 else false
 else false
 else true
 else bif ((decide ((0 : Int) ≤ i)) && (Nat.blt (Int.toNat i) (List.length l))) then
 bif (Nat.blt (Int.toNat i) (List.length l)) then
 true
 else false
 else false
 else false
 else false
 else false
 else true : Bool) := by
  kernel_rfl
end
end Go.Proofs.YtlngnfkjpfokhaaDoor.Ev

/- Mails that are to go: the loops. No condition. -/
namespace Go.Proofs.YtlngnfkjpfokhaaDoor.Ev
open Go Go.RowKit Go.Proofs Go.Proofs.YtlngnfkjpfokhaaDoor.Str
set_option linter.unusedVariables false
set_option linter.unusedSimpArgs false
def keepL (us : List Int) (l : List Ml) : List Ml := l.filter fun x => !delB us x
def goneL (us : List Int) (l : List Ml) : List Int := (l.filter (delB us)).map (·.u)
/-- the first one that is to go -/
def fiD (us : List Int) (l : List Ml) : Nat := (l.takeWhile fun x => !delB us x).length
theorem ml_get {l : List Ml} {i : Nat} (h : i < l.length) : ml l i = l[i] := by simp [ml, h]
theorem fi_le (us : List Int) (l : List Ml) : fiD us l ≤ l.length := (List.takeWhile_prefix _).length_le
theorem fi_lt {us : List Int} {l : List Ml} {j : Nat} (h : j < fiD us l) : delB us (ml l j) = false := by
  have hl := fi_le us l
  have h1 : j < l.length := by omega
  unfold fiD at h
  have hp := List.takeWhile_prefix (fun x => !delB us x) (l := l)
  have e := hp.getElem h
  have := List.all_eq_true.1 (List.all_takeWhile (p := fun x => !delB us x) (l := l)) _ (List.getElem_mem h)
  rw [ml_get h1, ← e]
  simpa using this
theorem fi_at {us : List Int} : ∀ {l : List Ml}, fiD us l < l.length → delB us (ml l (fiD us l)) = true
  | [], h => by simp [fiD] at h
  | x :: r, h => by
    unfold fiD at h ⊢
    rw [List.takeWhile_cons] at h ⊢
    cases hx : delB us x with
    | true => simp [hx, ml]
    | false =>
      rw [hx] at h
      simp only [Bool.not_false, if_true, List.length_cons] at h ⊢
      have := fi_at (us := us) (l := r) (by unfold fiD; omega)
      unfold fiD at this
      simpa [ml] using this
/-- the row and the place behind j rounds -/
def curD (us : List Int) (l : List Ml) : Nat → List Ml × Nat
  | 0 => (l, 0)
  | j + 1 => bif delB us (ml l j) then curD us l j else ((curD us l j).1.set (curD us l j).2 (ml l j), (curD us l j).2 + 1)
theorem cur_len (us : List Int) (l : List Ml) : ∀ j, (curD us l j).1.length = l.length
  | 0 => rfl
  | j + 1 => by
    unfold curD
    cases delB us (ml l j) with
    | true => exact cur_len us l j
    | false => simp [cur_len us l j]
theorem cur_le (us : List Int) (l : List Ml) : ∀ j, (curD us l j).2 ≤ j
  | 0 => Nat.le_refl _
  | j + 1 => by
    unfold curD
    have := cur_le us l j
    cases delB us (ml l j) with
    | true => exact Nat.le_succ_of_le this
    | false => exact Nat.succ_le_succ this
theorem cur_hi (us : List Int) (l : List Ml) : ∀ j p, j ≤ p → ml (curD us l j).1 p = ml l p
  | 0, p, h => rfl
  | j + 1, p, h => by
    unfold curD
    have h1 := cur_le us l j
    have ih := cur_hi us l j p (by omega)
    cases delB us (ml l j) with
    | true => exact ih
    | false =>
      simp only [cond_false]
      unfold ml at ih ⊢
      rw [List.getD_eq_getElem?_getD, List.getElem?_set_ne (by omega), ← List.getD_eq_getElem?_getD]
      exact ih
theorem take_ml {l : List Ml} {j : Nat} (h : j < l.length) : l.take (j + 1) = l.take j ++ [ml l j] := by
  rw [List.take_add_one, List.getElem?_eq_getElem h, ml_get h]
  rfl
theorem keep_snoc (us : List Int) (l : List Ml) (x : Ml) : keepL us (l ++ [x]) = bif delB us x then keepL us l else keepL us l ++ [x] := by
  unfold keepL
  rw [List.filter_append]
  cases h : delB us x <;> simp [h]
theorem gone_snoc (us : List Int) (l : List Ml) (x : Ml) : goneL us (l ++ [x]) = bif delB us x then goneL us l ++ [x.u] else goneL us l := by
  unfold goneL
  rw [List.filter_append]
  cases h : delB us x <;> simp [h]
theorem cur_lo (us : List Int) (l : List Ml) : ∀ j, j ≤ l.length → (curD us l j).1.take (curD us l j).2 = keepL us (l.take j)
  | 0, h => by simp [curD, keepL]
  | j + 1, h => by
    have ih := cur_lo us l j (by omega)
    have h1 := cur_le us l j
    rw [take_ml (by omega), keep_snoc]
    unfold curD
    cases delB us (ml l j) with
    | true => exact ih
    | false =>
      simp only [cond_false]
      rw [List.take_add_one, List.take_set_of_le (Nat.le_refl _), ih, List.getElem?_set_self (by rw [cur_len]; omega)]
      rfl
theorem cur_n (us : List Int) (l : List Ml) (j : Nat) (h : j ≤ l.length) : (curD us l j).2 = (keepL us (l.take j)).length := by
  rw [← cur_lo us l j h, List.length_take, cur_len]
  have := cur_le us l j
  omega
theorem cur_fi (us : List Int) (l : List Ml) : ∀ j, j ≤ fiD us l → curD us l j = (l, j) ∧ goneL us (l.take j) = []
  | 0, h => ⟨rfl, by simp [goneL]⟩
  | j + 1, h => by
    obtain ⟨h1, h2⟩ := cur_fi us l j (by omega)
    have h3 := fi_lt (us := us) (l := l) (j := j) (by omega)
    have hl := fi_le us l
    refine ⟨?_, ?_⟩
    · unfold curD
      rw [h3, h1]
      simp only [cond_false]
      rw [ml_get (by omega), List.set_getElem_self]
    · rw [take_ml (by omega), gone_snoc, h3, h2]
      rfl
theorem cur_first {us : List Int} {l : List Ml} (h : fiD us l < l.length) : curD us l (fiD us l + 1) = (l, fiD us l) ∧ goneL us (l.take (fiD us l + 1)) = [(ml l (fiD us l)).u] := by
  obtain ⟨h1, h2⟩ := cur_fi us l _ (Nat.le_refl _)
  have h3 := fi_at h
  refine ⟨?_, ?_⟩
  · rw [curD, h3]
    exact h1
  · rw [take_ml h, gone_snoc, h3, h2]
    rfl
/-- one number more in a row -/
theorem nrow_push (go : List Int) (u : Int) : ∀ i, i < go.length + 1 → rowApp go.length (nRow go) (rowOf [.lit (.int .u32 u)] 1) i = nRow (go ++ [u]) i := by
  intro i hi
  rcases Nat.lt_or_ge i go.length with h | h
  · rw [app_lo _ _ h]
    simp [nRow, nu, List.getElem?_append_left h]
  · obtain rfl : i = go.length + 0 := by omega
    rw [app_hi]
    simp [nRow, nu, rowOf]
theorem rowSet_mail (l : List Ml) (j : Nat) (x : Ml) (hj : j < l.length) (p : Nat) (hp : p < l.length) : rowSet (mRow l) j 0 (mC x) p = mRow (l.set j x) p := by
  show rowSetO (mRow l) j 0 (mC x) p = _
  unfold rowSetO
  cases h : Nat.beq p j with
  | true =>
    have := Nat.eq_of_beq_eq_true h
    subst this
    have e : ml (l.set p x) p = x := by simp [ml, hj]
    show _ = mC (ml (l.set p x) p)
    rw [e]
    rfl
  | false =>
    have hne : ¬ j = p := by
      intro e
      subst e
      simp at h
    show mC (ml l p) = mC (ml (l.set j x) p)
    unfold ml
    rw [List.getD_eq_getElem?_getD (l := l.set j x), List.getElem?_set_ne hne, ← List.getD_eq_getElem?_getD]
section
variable {m : Int} {t : TypeId} {fr : Nat × Nat}
def goR (go : List Int) : Blk := .row 22 1 go.length (nRow go)
def ixBad (us : List Int) (l : List Ml) (i : Nat) : Option (Exit × Kept) := bif delB us (ml l i) then some (.ret, ([int i], [msR l, usC us, goC (.own 3), .row 22 1 1 (rowOf [.lit (.int .u32 (ml l i).u)] 1)])) else none
theorem ix_LR (us : List Int) (l : List Ml) (hu : us.all u32N = true) (hus : risI us = true) (hn : l.length ≤ 4294967280) (hc : us.length ≤ 4294967280) (k i : Nat) (hk : i + k = l.length) :
    LR Tryd.prog (E18 (GG m t fr)) 60 (GG m t fr) 19 ixOuts .normal (theLoop 0 Tryd.f50) ([.own 0, delC, int l.length, int i], [msR l, usC us, goC (.lit (.slice none 0 0))])
    (scanR (ixBad us l) (.exit 0, ([], [msR l, usC us, goC (.lit (.slice none 0 0))])) k i).1 (scanR (ixBad us l) (.exit 0, ([], [msR l, usC us, goC (.lit (.slice none 0 0))])) k i).2 := by
  refine LR.scan2 (s := 0) (K := l.length) (st := fun j : Nat => ([.own 0, delC, int l.length, int j], [msR l, usC us, goC (.lit (.slice none 0 0))])) (fun j h1 hlt => ?_) (fun j r hb => ?_) ?_ (by simp) (by simp) k i (by omega) hk
  · have hv := ix_round_v m t fr l us l.length j
    have hcc := ix_round_c m t fr l us l.length j
    have hblt : Nat.blt j l.length = true := by rw [Nat.blt_eq]; exact hlt
    rw [lt_cast, decide_eq_true hlt, Int.toNat_natCast, nums_nRow, wrap_succ (by omega)] at hv
    rw [lt_cast, decide_eq_true hlt, Int.toNat_natCast, in_rng hlt, hblt, nums_nRow, are_nRow hu, hus, Nat.ble_eq_true_of_le hc] at hcc
    simp only [Bool.and_self, Bool.cond_self, cond_true] at hcc
    unfold ixBad delB delF
    cases h1 : inI us (ml l j).u with
    | false =>
      rw [h1] at hv
      exact Tr.run_vc hv hcc rfl rfl
    | true =>
      cases h2 : bne (IntKind.wrap .u8 (((BitVec.toNat (HAnd.hAnd (BitVec.ofInt 8 (ml l j).f) (BitVec.ofInt 8 (8 : Int)))) : Nat) : Int)) (0 : Int) <;> (rw [h1, h2] at hv; exact Tr.run_vc hv hcc rfl rfl)
  · unfold ixBad at hb
    cases hd : delB us (ml l j) <;> (rw [hd] at hb; cases hb)
    exact ⟨by simp, by simp⟩
  · have hv := ix_round_v m t fr l us l.length l.length
    have hcc := ix_round_c m t fr l us l.length l.length
    rw [lt_cast, decide_eq_false (by omega)] at hv hcc
    exact Tr.run_vc hv hcc rfl rfl
theorem ix_scan {us : List Int} {l : List Ml} {z : Exit × Kept} : scanR (ixBad us l) z l.length 0 = bif decide (fiD us l < l.length) then (.ret, ([int (fiD us l)], [msR l, usC us, goC (.own 3), .row 22 1 1 (rowOf [.lit (.int .u32 (ml l (fiD us l)).u)] 1)])) else z := by
  by_cases h : fiD us l < l.length
  · rw [decide_eq_true h]
    refine scanR_at (j := fiD us l) (Nat.zero_le _) (by omega) (by unfold ixBad; rw [fi_at h]; rfl) fun j h1 h2 => ?_
    unfold ixBad
    rw [fi_lt h2]
    rfl
  · rw [decide_eq_false h]
    refine scanR_all fun j h1 h2 => ?_
    unfold ixBad
    rw [fi_lt (show j < fiD us l by omega)]
    rfl
def dfSt (us : List Int) (l : List Ml) (j : Nat) : Kept := ([.own 0, delC, int (curD us l j).2, int j], [msR (curD us l j).1, usC us, goC (.own 3), goR (goneL us (l.take j))])
theorem gone_len (us : List Int) (l : List Ml) : (goneL us l).length ≤ l.length := by
  unfold goneL
  rw [List.length_map]
  exact List.length_filter_le _ _
theorem df_LR (us : List Int) (l : List Ml) (hu : us.all u32N = true) (hus : risI us = true) (hn : l.length ≤ 1000000000) (hc : us.length ≤ 4294967280) : ∀ (k j : Nat), j + k = l.length →
    LR Tryd.prog (E18 (GG m t fr)) 60 (GG m t fr) 42 dfOuts .normal (theLoop 0 Tryd.f40) (dfSt us l j) (.exit 0) ([.own 0, delC, int (keepL us l).length], [msR (curD us l l.length).1, usC us, goC (.own 3), goR (goneL us l)])
  | 0, j, hk => by
    have : j = l.length := by omega
    subst this
    have hv := df_round_v m t fr (curD us l l.length).1 us (goneL us (l.take l.length)) (curD us l l.length).2 l.length
    have hcc := df_round_c m t fr (curD us l l.length).1 us (goneL us (l.take l.length)) (curD us l l.length).2 l.length
    have hd : decide (((l.length : Nat) : Int) < (((curD us l l.length).1.length : Nat) : Int)) = false := decide_eq_false (by rw [cur_len]; omega)
    rw [hd] at hv hcc
    have e1 := cur_n us l l.length (Nat.le_refl _)
    rw [List.take_length] at hv hcc e1
    unfold dfSt
    rw [List.take_length]
    rw [e1] at hv hcc ⊢
    exact .last (Tr.run_vc hv hcc rfl rfl) (by simp) (by simp)
  | k + 1, j, hk => by
    have hlt : j < l.length := by omega
    have hL := cur_len us l j
    have hi := cur_le us l j
    have hg := gone_len us (l.take j)
    rw [List.length_take] at hg
    have hv := df_round_v m t fr (curD us l j).1 us (goneL us (l.take j)) (curD us l j).2 j
    have hcc := df_round_c m t fr (curD us l j).1 us (goneL us (l.take j)) (curD us l j).2 j
    have hlt' : j < (curD us l j).1.length := by omega
    have hblt : Nat.blt j (curD us l j).1.length = true := by rw [Nat.blt_eq]; exact hlt'
    have hblt2 : Nat.blt (curD us l j).2 (curD us l j).1.length = true := by rw [Nat.blt_eq]; omega
    rw [lt_cast, decide_eq_true hlt', Int.toNat_natCast, Int.toNat_natCast, nums_nRow, wrap_succ (by omega), wrap_succ (by omega), cur_hi us l j j (Nat.le_refl _)] at hv
    rw [lt_cast, decide_eq_true hlt', Int.toNat_natCast, Int.toNat_natCast, in_rng hlt', in_rng (show (curD us l j).2 < (curD us l j).1.length by omega), hblt, hblt2, nums_nRow, are_nRow hu, hus, Nat.ble_eq_true_of_le hc, cur_hi us l j j (Nat.le_refl _), Nat.ble_eq_true_of_le (show ((goneL us (l.take j)).length + 1) * 4 ≤ 140737488355328 by omega)] at hcc
    simp only [Bool.and_self, Bool.cond_self, cond_true] at hcc
    have ih := df_LR us l hu hus hn hc k (j + 1) (by omega)
    have stay : delB us (ml l j) = false → KLe ([.own 0, delC, int (((curD us l j).2 + 1 : Nat) : Int), int ((j + 1 : Nat) : Int)], [.row 47 6 (curD us l j).1.length (rowSet (mRow (curD us l j).1) (curD us l j).2 0 (mC (ml l j))), usC us, goC (.own 3), goR (goneL us (l.take j))]) (dfSt us l (j + 1)) := by
      intro h
      have e : curD us l (j + 1) = ((curD us l j).1.set (curD us l j).2 (ml l j), (curD us l j).2 + 1) := by rw [curD, h]; rfl
      have e2 : goneL us (l.take (j + 1)) = goneL us (l.take j) := by rw [take_ml hlt, gone_snoc, h]; rfl
      unfold dfSt
      rw [e, e2]
      refine ⟨.refl _, BLeL.cons (.row _ _ (by simp) fun p hp => ?_) (.refl _)⟩
      exact rowSet_mail _ _ _ (by omega) p hp
    have go : delB us (ml l j) = true → KLe ([.own 0, delC, int ((curD us l j).2 : Nat), int ((j + 1 : Nat) : Int)], [msR (curD us l j).1, usC us, goC (.own 3), .row 22 1 ((goneL us (l.take j)).length + 1) (rowApp (goneL us (l.take j)).length (nRow (goneL us (l.take j))) (rowOf [.lit (.int .u32 (ml l j).u)] 1))]) (dfSt us l (j + 1)) := by
      intro h
      have e : curD us l (j + 1) = curD us l j := by rw [curD, h]; rfl
      have e2 : goneL us (l.take (j + 1)) = goneL us (l.take j) ++ [(ml l j).u] := by rw [take_ml hlt, gone_snoc, h]; rfl
      unfold dfSt
      rw [e, e2]
      refine ⟨.refl _, BLeL.cons (.refl _) (BLeL.cons (.refl _) (BLeL.cons (.refl _) (BLeL.cons (.row _ _ (by simp) fun p hp => ?_) .nil)))⟩
      exact nrow_push _ _ p hp
    cases h1 : inI us (ml l j).u with
    | false =>
      rw [h1] at hv
      exact .more (Tr.run_vc hv hcc rfl rfl) (.le (stay (by unfold delB; rw [h1]; rfl)) ih)
    | true =>
      cases h2 : bne (IntKind.wrap .u8 (((BitVec.toNat (HAnd.hAnd (BitVec.ofInt 8 (ml l j).f) (BitVec.ofInt 8 (8 : Int)))) : Nat) : Int)) (0 : Int) with
      | false =>
        rw [h1, h2] at hv
        exact .more (Tr.run_vc hv hcc rfl rfl) (.le (stay (by unfold delB delF; rw [h1, h2]; rfl)) ih)
      | true =>
        rw [h1, h2] at hv
        exact .more (Tr.run_vc hv hcc rfl rfl) (.le (go (by unfold delB delF; rw [h1, h2]; rfl)) ih)
end
end Go.Proofs.YtlngnfkjpfokhaaDoor.Ev

/- Mails that are to go: where the first one stands. No condition. -/
namespace Go.Proofs.YtlngnfkjpfokhaaDoor.Ev
open Go Go.RowKit Go.Proofs Go.Proofs.YtlngnfkjpfokhaaDoor.Str
set_option linter.unusedVariables false
set_option linter.unusedSimpArgs false
section
variable {m : Int} {t : TypeId} {fr : Nat × Nat}
def ixGd (c : FuncId) (tM tU tV : TypeId) (n : Nat) (g : Nat → List PV) (a : Nat) (h : Nat → List PV) : Bool :=
  Nat.beq c 41 && (Nat.beq tM 47 && (Nat.beq tU 28 && (Nat.beq tV 28 && (areMls n g && (areNums a h && (risI (numsOf a h) && (Nat.ble n 1000000000 && Nat.ble a 4294967280)))))))
theorem ixGd_at {c : FuncId} {tM tU tV : TypeId} {n : Nat} {g : Nat → List PV} {a : Nat} {h : Nat → List PV} (hg : ixGd c tM tU tV n g a h = true) : c = 41 ∧ tM = 47 ∧ tU = 28 ∧ tV = 28 ∧
    areMls n g = true ∧ areNums a h = true ∧ risI (numsOf a h) = true ∧ n ≤ 1000000000 ∧ a ≤ 4294967280 := by
  unfold ixGd at hg
  simp only [Bool.and_eq_true, Nat.ble_eq] at hg
  obtain ⟨g1, g2, g3, g4, g5, g6, g7, g8, g9⟩ := hg
  exact ⟨Nat.eq_of_beq_eq_true g1, Nat.eq_of_beq_eq_true g2, Nat.eq_of_beq_eq_true g3, Nat.eq_of_beq_eq_true g4, g5, g6, g7, g8, g9⟩
theorem ixGd_of {l : List Ml} {us : List Int} (h1 : l.all mlR = true) (h2 : us.all u32N = true) (h3 : risI us = true) (h4 : l.length ≤ 1000000000) (h5 : us.length ≤ 4294967280) :
    ixGd 41 47 28 28 l.length (mRow l) us.length (nRow us) = true := by
  unfold ixGd
  rw [are_mRow h1, are_nRow h2, nums_nRow, h3, Nat.ble_eq_true_of_le h4, Nat.ble_eq_true_of_le h5]
  rfl
def ixF : Kept → Tr (Exit × Kept)
  | ([.own 0, .clo c [.ptr 1 0, .ptr 2 0], .lit (.int .i64 u), .lit (.int .i64 0)], [.row tM 6 n g, .cells tU [q], .cells tV [.lit (.slice none 0 0)]]) => match rowP 1 q with
    | some (a, h) => .br (ixGd c tM tU tV n g a h && decide (u = n)) (.br (decide (fiD (numsOf a h) (mlsOf n g) < n)) (.leaf (.ret, ([int (fiD (numsOf a h) (mlsOf n g))], [msR (mlsOf n g), usC (numsOf a h), goC (.own 3), goR [(ml (mlsOf n g) (fiD (numsOf a h) (mlsOf n g))).u]])))
      (.leaf (.exit 0, ([], [msR (mlsOf n g), usC (numsOf a h), goC (.lit (.slice none 0 0))])))) .fail
    | none => .fail
  | _ => .fail
theorem goR_one (u : Int) : BLe (.row 22 1 1 (rowOf [.lit (.int .u32 u)] 1)) (goR [u]) := .row _ _ rfl fun i hi => by
  have : i = 0 := by omega
  subst this
  rfl
theorem ix_in {n : Nat} {g : Nat → List PV} {a : Nat} {h : Nat → List PV} {q : PV} (hq : rowP 1 q = some (a, h)) (hg : areMls n g = true) (hh : areNums a h = true) (z : Blk) (r : List Blk) : BLeL (.row 47 6 n g :: .cells 28 [q] :: z :: r) (msR (mlsOf n g) :: usC (numsOf a h) :: z :: r) := by
  refine BLeL.cons (.row _ _ (mls_len n g).symm (mls_row hg)) (BLeL.cons (.cells _ (.cons ?_ .nil)) (.refl _))
  exact (rowP_le hq).trans (PLe.gsl (nums_len a h).symm (nums_row hh))
theorem ixF_ok (x : Kept) (e : Exit) (y : Kept) (h : (ixF x).run = some (e, y)) : LR Tryd.prog (E18 (GG m t fr)) 60 (GG m t fr) 19 ixOuts .normal (theLoop 0 Tryd.f50) x e y := by
  unfold ixF at h
  split at h
  · rename_i c u tM n g tU q tV
    split at h
    · rename_i a h0 hq
      have hb := br_run h
      clear h
      obtain ⟨hc, h⟩ := hb
      simp only [Bool.and_eq_true, decide_eq_true_eq] at hc
      obtain ⟨hc, rfl⟩ := hc
      obtain ⟨rfl, rfl, rfl, rfl, g5, g6, g7, g8, g9⟩ := ixGd_at hc
      have l1 := mls_len n g
      have l2 := nums_len a h0
      have key := ix_LR (m := m) (t := t) (fr := fr) (numsOf a h0) (mlsOf n g) (nums_u32 g6) g7 (by omega) (by omega) _ 0 (Nat.zero_add _)
      rw [ix_scan] at key
      have hin : KLe ([.own 0, .clo 41 [.ptr 1 0, .ptr 2 0], int (n : Int), int 0], [.row 47 6 n g, .cells 28 [q], .cells 28 [.lit (.slice none 0 0)]]) ([.own 0, delC, int (mlsOf n g).length, int (0 : Nat)], [msR (mlsOf n g), usC (numsOf a h0), goC (.lit (.slice none 0 0))]) :=
        ⟨.cons (.refl _) (.cons (.refl _) (.cons (PLe.of_eq (by rw [l1])) (.refl _))), ix_in hq g5 g6 _ _⟩
      rw [l1] at key
      cases hr : decide (fiD (numsOf a h0) (mlsOf n g) < n) with
      | true =>
        rw [hr] at key h
        simp only [Tr.run, cond_true, Option.some.injEq, Prod.mk.injEq] at h
        obtain ⟨rfl, rfl⟩ := h
        rw [l1] at hin
        exact .le hin (.out key ⟨.refl _, BLeL.cons (.refl _) (BLeL.cons (.refl _) (BLeL.cons (.refl _) (BLeL.cons (goR_one _) .nil)))⟩)
      | false =>
        rw [hr] at key h
        simp only [Tr.run, cond_false, Option.some.injEq, Prod.mk.injEq] at h
        obtain ⟨rfl, rfl⟩ := h
        rw [l1] at hin
        exact .le hin key
    · cases h
  · cases h
theorem ix_raw_v (m : Int) (t : TypeId) (fr : Nat × Nat) (l : List Ml) (us : List Int) : ((fnPinN 3 Tryd.prog ((E18 (GG m t fr)).withCuts (cut1 0 (cutOf (GG m t fr) 19 ixOuts 0 ixF))) 60 Tryd.f50 (GG m t fr) [.own 0, delC] [msR l, usC us, goC (.lit (.slice none 0 0))])).val =
 (bif (decide ((fiD (numsOf (List.length us) (nRow us)) (mlsOf (List.length l) (mRow l))) < (List.length l))) then
 (.some ((.lit (.int .i64 (((fiD (numsOf (List.length us) (nRow us)) (mlsOf (List.length l) (mRow l))) : Nat) : Int))), [(.row 47 6 (List.length (mlsOf (List.length l) (mRow l))) (mRow (mlsOf (List.length l) (mRow l)))), (.cells 28 [(.gsl 1 (List.length (numsOf (List.length us) (nRow us))) (nRow (numsOf (List.length us) (nRow us))))]), (.cells 28 [(.own 3)]), (.row 22 1 (List.length [(Ml.u (ml (mlsOf (List.length l) (mRow l)) (fiD (numsOf (List.length us) (nRow us)) (mlsOf (List.length l) (mRow l)))))]) (nRow [(Ml.u (ml (mlsOf (List.length l) (mRow l)) (fiD (numsOf (List.length us) (nRow us)) (mlsOf (List.length l) (mRow l)))))]))]))
 else (.some ((.lit (.int .i64 (-1 : Int))), [(.row 47 6 (List.length (mlsOf (List.length l) (mRow l))) (mRow (mlsOf (List.length l) (mRow l)))), (.cells 28 [(.gsl 1 (List.length (numsOf (List.length us) (nRow us))) (nRow (numsOf (List.length us) (nRow us))))]), (.cells 28 [(.lit (.slice .none 0 0))])])) : Option (PV × List Blk)) := by
  kernel_rfl
theorem ix_raw_c (m : Int) (t : TypeId) (fr : Nat × Nat) (l : List Ml) (us : List Int) : ((fnPinN 3 Tryd.prog ((E18 (GG m t fr)).withCuts (cut1 0 (cutOf (GG m t fr) 19 ixOuts 0 ixF))) 60 Tryd.f50 (GG m t fr) [.own 0, delC] [msR l, usC us, goC (.lit (.slice none 0 0))])).conds =
 (bif ((ixGd 41 47 28 28 (List.length l) (mRow l) (List.length us) (nRow us)) && (decide ((((List.length l) : Nat) : Int) = (((List.length l) : Nat) : Int)))) then
 bif (decide ((fiD (numsOf (List.length us) (nRow us)) (mlsOf (List.length l) (mRow l))) < (List.length l))) then
 true
 else true
 else false : Bool) := by
  kernel_rfl
def ixG : List PV → List Blk → Tr (PV × List Blk)
  | [.own 0, .clo c [.ptr 1 0, .ptr 2 0]], [.row tM 6 n g, .cells tU [q], .cells tV [.lit (.slice none 0 0)]] => match rowP 1 q with
    | some (a, h) => .br (ixGd c tM tU tV n g a h) (.br (decide (fiD (numsOf a h) (mlsOf n g) < n)) (.leaf (int (fiD (numsOf a h) (mlsOf n g)), [msR (mlsOf n g), usC (numsOf a h), goC (.own 3), goR [(ml (mlsOf n g) (fiD (numsOf a h) (mlsOf n g))).u]]))
      (.leaf (int (-1), [msR (mlsOf n g), usC (numsOf a h), goC (.lit (.slice none 0 0))]))) .fail
    | none => .fail
  | _, _ => .fail
end
end Go.Proofs.YtlngnfkjpfokhaaDoor.Ev

/- Mails that are to go: DeleteFunc. No condition. -/
namespace Go.Proofs.YtlngnfkjpfokhaaDoor.Ev
open Go Go.RowKit Go.Proofs Go.Proofs.YtlngnfkjpfokhaaDoor.Str
set_option linter.unusedVariables false
set_option linter.unusedSimpArgs false
section
variable {m : Int} {t : TypeId} {fr : Nat × Nat}
theorem ix_ok : PinBn 3 Tryd.prog (GG m t fr) 50 ixG := by
  refine PinBn.le (pinBn_of_ev (K := 3) (n := 60) (E := (E18 (GG m t fr)).withCuts (cut1 0 (cutOf (GG m t fr) 19 ixOuts 0 ixF))) (E18_ok.withCuts _) mixed (fn := Tryd.f50) (by kernel_rfl)
    (CutLaws.ok (E := (E18 (GG m t fr)).withCuts (cut1 0 (cutOf (GG m t fr) 19 ixOuts 0 ixF))) (CutLaws.one (by omega) (by kernel_rfl) fun st e st' h => cutOf_okM (x0 := .pins 3) (fun h => by cases h) E18_ok mixed (noCuts_ok (envOf_cuts ..) _) (fun _ e => by cases e <;> rfl) ixF_ok h))) fun ps bs0 p bs' hp => ?_
  unfold ixG at hp
  split at hp
  · rename_i c tM n g tU q tV
    split at hp
    · rename_i a h0 hq
      have hb := br_run hp
      clear hp
      obtain ⟨hc, hp⟩ := hb
      obtain ⟨rfl, rfl, rfl, rfl, g5, g6, g7, g8, g9⟩ := ixGd_at hc
      have l1 := mls_len n g
      have l2 := nums_len a h0
      have hv := ix_raw_v m t fr (mlsOf n g) (numsOf a h0)
      have hcc := ix_raw_c m t fr (mlsOf n g) (numsOf a h0)
      have hgd := ixGd_of (mls_R g5) (nums_u32 g6) g7 (by omega) (by omega)
      simp only [nums_nRow, mls_mRow] at hv hcc
      rw [hgd] at hcc
      simp only [decide_true, Bool.and_self, Bool.cond_self, cond_true] at hcc
      have hd : decide (fiD (numsOf a h0) (mlsOf n g) < n) = decide (fiD (numsOf a h0) (mlsOf n g) < (mlsOf n g).length) := by rw [l1]
      rw [hd] at hp
      cases hr : decide (fiD (numsOf a h0) (mlsOf n g) < (mlsOf n g).length) with
      | true =>
        rw [hr] at hp hv
        simp only [Tr.run, cond_true, Option.some.injEq, Prod.mk.injEq] at hp
        obtain ⟨rfl, rfl⟩ := hp
        exact ⟨_, _, _, _, .refl _, ix_in hq g5 g6 _ _, Tr.run_vc hv hcc rfl rfl, .refl _, .refl _⟩
      | false =>
        rw [hr] at hp hv
        simp only [Tr.run, cond_false, Option.some.injEq, Prod.mk.injEq] at hp
        obtain ⟨rfl, rfl⟩ := hp
        exact ⟨_, _, _, _, .refl _, ix_in hq g5 g6 _ _, Tr.run_vc hv hcc rfl rfl, .refl _, .refl _⟩
    · cases hp
  · cases hp
def btFull : List (Nat × (List PV → Mem → Tr (PV × Mem))) := (50, (pinGn 3 ixG)) :: biFull
theorem btFull_ok {m : Int} {t : TypeId} {fr : Nat × Nat} : FullOK Tryd.prog (GG m t fr) btFull := (FullOK.cons (pin_fnn 3 ix_ok) (fn := Tryd.f50) (by kernel_rfl) (by kernel_rfl) biFull_ok)
noncomputable abbrev E19 (G : GT) : Env := envOf Tryd.prog G bsPure btFull
theorem E19_ok : (E19 (GG m t fr)).ok Tryd.prog (GG m t fr) := envOf_ok mixed bsPure_ok btFull_ok
noncomputable abbrev dgRound (G : GT) := roundT Tryd.prog (E19 G) 60 G 42 dfOuts .normal (theLoop 0 Tryd.f40)
def dfF : Kept → Tr (Exit × Kept)
  | ([.own 0, .clo c [.ptr 1 0, .ptr 2 0], .lit (.int .i64 i), .lit (.int .i64 j)], [.row tM 6 n g, .cells tU [q], .cells tV [.own 3], .row tW 1 b h']) => match rowP 1 q with
    | some (a, h) => .br (ixGd c tM tU tV n g a h && (Nat.beq tW 22 && (areNums b h' && (Nat.blt (fiD (numsOf a h) (mlsOf n g)) n && (decide (i = (fiD (numsOf a h) (mlsOf n g) : Nat)) && (decide (j = ((fiD (numsOf a h) (mlsOf n g) + 1 : Nat) : Int)) && decide (numsOf b h' = [(ml (mlsOf n g) (fiD (numsOf a h) (mlsOf n g))).u])))))))
      (.leaf (.exit 0, ([.own 0, delC, int (keepL (numsOf a h) (mlsOf n g)).length], [msR (curD (numsOf a h) (mlsOf n g) n).1, usC (numsOf a h), goC (.own 3), goR (goneL (numsOf a h) (mlsOf n g))]))) .fail
    | none => .fail
  | _ => .fail
theorem dfF_ok (x : Kept) (e : Exit) (y : Kept) (h : (dfF x).run = some (e, y)) : LR Tryd.prog (E18 (GG m t fr)) 60 (GG m t fr) 42 dfOuts .normal (theLoop 0 Tryd.f40) x e y := by
  unfold dfF at h
  split at h
  · rename_i c i j tM n g tU q tV tW b h'
    split at h
    · rename_i a h0 hq
      have hb := br_run h
      clear h
      obtain ⟨hc, h⟩ := hb
      simp only [Bool.and_eq_true, decide_eq_true_eq, Nat.blt_eq] at hc
      obtain ⟨hc, tw, hbn, hlt, hi, hj, hgo⟩ := hc
      obtain ⟨rfl, rfl, rfl, rfl, g5, g6, g7, g8, g9⟩ := ixGd_at hc
      have tw := Nat.eq_of_beq_eq_true tw
      subst tw hi hj
      have l1 := mls_len n g
      have l2 := nums_len a h0
      have l3 := nums_len b h'
      obtain ⟨c1, c2⟩ := cur_first (us := numsOf a h0) (l := mlsOf n g) (by omega)
      have key := df_LR (m := m) (t := t) (fr := fr) (numsOf a h0) (mlsOf n g) (nums_u32 g6) g7 (by omega) (by omega) (n - (fiD (numsOf a h0) (mlsOf n g) + 1)) (fiD (numsOf a h0) (mlsOf n g) + 1) (by omega)
      unfold dfSt at key
      rw [c1, c2, l1] at key
      dsimp only at key
      simp only [Tr.run, Option.some.injEq, Prod.mk.injEq] at h
      obtain ⟨rfl, rfl⟩ := h
      have hz : BLe (.row 22 1 b h') (goR [(ml (mlsOf n g) (fiD (numsOf a h0) (mlsOf n g))).u]) := by
        rw [← hgo]
        exact .row _ _ l3.symm (nums_row hbn)
      have hB := BLeL.cons (BLe.row 47 6 (mls_len n g).symm (mls_row g5)) (BLeL.cons (BLe.cells 28 (PLeL.cons ((rowP_le hq).trans (PLe.gsl (nums_len a h0).symm (nums_row g6))) .nil)) (BLeL.cons (BLe.refl (goC (.own 3))) (BLeL.cons hz .nil)))
      have hK : KLe ([.own 0, delC, int ((fiD (numsOf a h0) (mlsOf n g) : Nat) : Int), int ((fiD (numsOf a h0) (mlsOf n g) + 1 : Nat) : Int)], [.row 47 6 n g, .cells 28 [q], .cells 28 [.own 3], .row 22 1 b h'])
          ([.own 0, delC, int ((fiD (numsOf a h0) (mlsOf n g) : Nat) : Int), int ((fiD (numsOf a h0) (mlsOf n g) + 1 : Nat) : Int)], [msR (mlsOf n g), usC (numsOf a h0), goC (.own 3), goR [(ml (mlsOf n g) (fiD (numsOf a h0) (mlsOf n g))).u]]) := ⟨.refl _, hB⟩
      exact .le hK key
    · cases h
  · cases h
theorem df_raw_v (m : Int) (t : TypeId) (fr : Nat × Nat) (l : List Ml) (us : List Int) : ((fnPinN 3 Tryd.prog ((E19 (GG m t fr)).withCuts (cut1 0 (cutOf (GG m t fr) 42 dfOuts 0 dfF))) 60 Tryd.f40 (GG m t fr) [.own 0, delC] [msR l, usC us, goC (.lit (.slice none 0 0))])).val =
 (bif (decide ((fiD (numsOf (List.length us) (nRow us)) (mlsOf (List.length l) (mRow l))) < (List.length l))) then
 (.some ((.gsl 6 ((Int.toNat (((List.length (keepL (numsOf (List.length (numsOf (List.length us) (nRow us))) (nRow (numsOf (List.length us) (nRow us)))) (mlsOf (List.length (mlsOf (List.length l) (mRow l))) (mRow (mlsOf (List.length l) (mRow l)))))) : Nat) : Int)) - 0) (fun i =>
 rowClr
 (mRow
 (curD (numsOf (numsOf us.length (nRow us)).length (nRow (numsOf us.length (nRow us))))
 (mlsOf (mlsOf l.length (mRow l)).length (mRow (mlsOf l.length (mRow l))))
 (mlsOf l.length (mRow l)).length).fst)
 (Nat.cast (R := Int) (keepL (numsOf (numsOf us.length (nRow us)).length (nRow (numsOf us.length (nRow us))))
 (mlsOf (mlsOf l.length (mRow l)).length (mRow (mlsOf l.length (mRow l))))).length).toNat
 (List.map PV.lit
 #[Value.int IntKind.u32 0, Value.int IntKind.u8 0, Value.int IntKind.i64 0, Value.int IntKind.i64 0,
 Value.int IntKind.i64 0, Value.string { data := #[] }].toList)
 (Int.toNat 0 + i))), [(.frz 6 (List.length (Prod.fst (curD (numsOf (List.length (numsOf (List.length us) (nRow us))) (nRow (numsOf (List.length us) (nRow us)))) (mlsOf (List.length (mlsOf (List.length l) (mRow l))) (mRow (mlsOf (List.length l) (mRow l)))) (List.length (mlsOf (List.length l) (mRow l)))))) (rowClr (mRow (Prod.fst (curD (numsOf (List.length (numsOf (List.length us) (nRow us))) (nRow (numsOf (List.length us) (nRow us)))) (mlsOf (List.length (mlsOf (List.length l) (mRow l))) (mRow (mlsOf (List.length l) (mRow l)))) (List.length (mlsOf (List.length l) (mRow l)))))) (Int.toNat (((List.length (keepL (numsOf (List.length (numsOf (List.length us) (nRow us))) (nRow (numsOf (List.length us) (nRow us)))) (mlsOf (List.length (mlsOf (List.length l) (mRow l))) (mRow (mlsOf (List.length l) (mRow l)))))) : Nat) : Int)) [(.lit (.int .u32 (0 : Int))), (.lit (.int .u8 (0 : Int))), (.lit (.int .i64 (0 : Int))), (.lit (.int .i64 (0 : Int))), (.lit (.int .i64 (0 : Int))), (.lit (.string (.mk (List.toArray []))))])), (.cells 28 [(.gsl 1 (List.length (numsOf (List.length (numsOf (List.length us) (nRow us))) (nRow (numsOf (List.length us) (nRow us))))) (nRow (numsOf (List.length (numsOf (List.length us) (nRow us))) (nRow (numsOf (List.length us) (nRow us))))))]), (.cells 28 [(.own 3)]), (.row 22 1 (List.length (goneL (numsOf (List.length (numsOf (List.length us) (nRow us))) (nRow (numsOf (List.length us) (nRow us)))) (mlsOf (List.length (mlsOf (List.length l) (mRow l))) (mRow (mlsOf (List.length l) (mRow l)))))) (nRow (goneL (numsOf (List.length (numsOf (List.length us) (nRow us))) (nRow (numsOf (List.length us) (nRow us)))) (mlsOf (List.length (mlsOf (List.length l) (mRow l))) (mRow (mlsOf (List.length l) (mRow l)))))))]))
 else (.some ((.own 0), [(.row 47 6 (List.length (mlsOf (List.length l) (mRow l))) (mRow (mlsOf (List.length l) (mRow l)))), (.cells 28 [(.gsl 1 (List.length (numsOf (List.length us) (nRow us))) (nRow (numsOf (List.length us) (nRow us))))]), (.cells 28 [(.lit (.slice .none 0 0))])])) : Option (PV × List Blk)) := by
  kernel_rfl
theorem df_raw_c (m : Int) (t : TypeId) (fr : Nat × Nat) (l : List Ml) (us : List Int) : ((fnPinN 3 Tryd.prog ((E19 (GG m t fr)).withCuts (cut1 0 (cutOf (GG m t fr) 42 dfOuts 0 dfF))) 60 Tryd.f40 (GG m t fr) [.own 0, delC] [msR l, usC us, goC (.lit (.slice none 0 0))])).conds =
 (bif (ixGd 41 47 28 28 (List.length l) (mRow l) (List.length us) (nRow us)) then
 bif (decide ((fiD (numsOf (List.length us) (nRow us)) (mlsOf (List.length l) (mRow l))) < (List.length l))) then
 bif ((ixGd 41 47 28 28 (List.length (mlsOf (List.length l) (mRow l))) (mRow (mlsOf (List.length l) (mRow l))) (List.length (numsOf (List.length us) (nRow us))) (nRow (numsOf (List.length us) (nRow us)))) && ((areNums (List.length [(Ml.u (ml (mlsOf (List.length l) (mRow l)) (fiD (numsOf (List.length us) (nRow us)) (mlsOf (List.length l) (mRow l)))))]) (nRow [(Ml.u (ml (mlsOf (List.length l) (mRow l)) (fiD (numsOf (List.length us) (nRow us)) (mlsOf (List.length l) (mRow l)))))])) && ((Nat.blt (fiD (numsOf (List.length (numsOf (List.length us) (nRow us))) (nRow (numsOf (List.length us) (nRow us)))) (mlsOf (List.length (mlsOf (List.length l) (mRow l))) (mRow (mlsOf (List.length l) (mRow l))))) (List.length (mlsOf (List.length l) (mRow l)))) && ((decide ((((fiD (numsOf (List.length us) (nRow us)) (mlsOf (List.length l) (mRow l))) : Nat) : Int) = (((fiD (numsOf (List.length (numsOf (List.length us) (nRow us))) (nRow (numsOf (List.length us) (nRow us)))) (mlsOf (List.length (mlsOf (List.length l) (mRow l))) (mRow (mlsOf (List.length l) (mRow l))))) : Nat) : Int))) && ((decide ((IntKind.wrap .i64 ((((fiD (numsOf (List.length us) (nRow us)) (mlsOf (List.length l) (mRow l))) : Nat) : Int) + (1 : Int))) = ((((fiD (numsOf (List.length (numsOf (List.length us) (nRow us))) (nRow (numsOf (List.length us) (nRow us)))) (mlsOf (List.length (mlsOf (List.length l) (mRow l))) (mRow (mlsOf (List.length l) (mRow l))))) + 1) : Nat) : Int))) && (decide ((numsOf (List.length [(Ml.u (ml (mlsOf (List.length l) (mRow l)) (fiD (numsOf (List.length us) (nRow us)) (mlsOf (List.length l) (mRow l)))))]) (nRow [(Ml.u (ml (mlsOf (List.length l) (mRow l)) (fiD (numsOf (List.length us) (nRow us)) (mlsOf (List.length l) (mRow l)))))])) = [(Ml.u (ml (mlsOf (List.length (mlsOf (List.length l) (mRow l))) (mRow (mlsOf (List.length l) (mRow l)))) (fiD (numsOf (List.length (numsOf (List.length us) (nRow us))) (nRow (numsOf (List.length us) (nRow us)))) (mlsOf (List.length (mlsOf (List.length l) (mRow l))) (mRow (mlsOf (List.length l) (mRow l)))))))]))))))) then
 bif ((decide ((0 : Int) ≤ (((List.length (keepL (numsOf (List.length (numsOf (List.length us) (nRow us))) (nRow (numsOf (List.length us) (nRow us)))) (mlsOf (List.length (mlsOf (List.length l) (mRow l))) (mRow (mlsOf (List.length l) (mRow l)))))) : Nat) : Int))) && (decide ((((List.length (keepL (numsOf (List.length (numsOf (List.length us) (nRow us))) (nRow (numsOf (List.length us) (nRow us)))) (mlsOf (List.length (mlsOf (List.length l) (mRow l))) (mRow (mlsOf (List.length l) (mRow l)))))) : Nat) : Int) < (((List.length (Prod.fst (curD (numsOf (List.length (numsOf (List.length us) (nRow us))) (nRow (numsOf (List.length us) (nRow us)))) (mlsOf (List.length (mlsOf (List.length l) (mRow l))) (mRow (mlsOf (List.length l) (mRow l)))) (List.length (mlsOf (List.length l) (mRow l)))))) : Nat) : Int)))) then
 bif ((decide ((0 : Int) ≤ (((List.length (keepL (numsOf (List.length (numsOf (List.length us) (nRow us))) (nRow (numsOf (List.length us) (nRow us)))) (mlsOf (List.length (mlsOf (List.length l) (mRow l))) (mRow (mlsOf (List.length l) (mRow l)))))) : Nat) : Int))) && (decide ((((List.length (keepL (numsOf (List.length (numsOf (List.length us) (nRow us))) (nRow (numsOf (List.length us) (nRow us)))) (mlsOf (List.length (mlsOf (List.length l) (mRow l))) (mRow (mlsOf (List.length l) (mRow l)))))) : Nat) : Int) ≤ (((List.length (Prod.fst (curD (numsOf (List.length (numsOf (List.length us) (nRow us))) (nRow (numsOf (List.length us) (nRow us)))) (mlsOf (List.length (mlsOf (List.length l) (mRow l))) (mRow (mlsOf (List.length l) (mRow l)))) (List.length (mlsOf (List.length l) (mRow l)))))) : Nat) : Int)))) then
 true
 else false
 else false
 else false
 else true
 else false : Bool) := by
  kernel_rfl
theorem clr_row {us : List Int} {l : List Ml} : ∀ i, i < (keepL us l).length → rowClr (mRow (curD us l l.length).1) (keepL us l).length (mC mlZ) (0 + i) = mRow (keepL us l) i := by
  intro i hi
  have h1 := cur_lo us l l.length (Nat.le_refl _)
  rw [cur_n us l l.length (Nat.le_refl _), List.take_length] at h1
  have hb : Nat.blt (0 + i) (keepL us l).length = true := by rw [Nat.blt_eq]; omega
  unfold rowClr
  rw [hb, Nat.zero_add]
  show mC (ml (curD us l l.length).1 i) = mC (ml (keepL us l) i)
  congr 1
  rw [← h1]
  unfold ml
  rw [List.getD_eq_getElem?_getD, List.getD_eq_getElem?_getD, List.getElem?_take, if_pos hi]
theorem keep_lt {us : List Int} {l : List Ml} (h : fiD us l < l.length) : (keepL us l).length < l.length := by
  unfold keepL
  rw [← List.countP_eq_length_filter]
  refine Nat.lt_of_le_of_ne (List.countP_le_length) fun e => ?_
  rw [List.countP_eq_length] at e
  have := e _ (List.getElem_mem h)
  rw [← ml_get h, fi_at h] at this
  cases this
theorem keep_all {us : List Int} {l : List Ml} (h : ¬ fiD us l < l.length) : keepL us l = l ∧ goneL us l = [] := by
  have hle := fi_le us l
  have hn : ∀ x ∈ l, delB us x = false := by
    intro x hx
    obtain ⟨j, hj, rfl⟩ := List.mem_iff_getElem.1 hx
    rw [← ml_get hj]
    exact fi_lt (by omega)
  constructor
  · unfold keepL
    rw [List.filter_eq_self]
    intro x hx
    rw [hn x hx]
    rfl
  · unfold goneL
    rw [List.map_eq_nil_iff, List.filter_eq_nil_iff]
    intro x hx
    rw [hn x hx]
    simp
def delG : List PV → List Blk → Tr (PV × List Blk)
  | [.own 0, .clo c [.ptr 1 0, .ptr 2 0]], [.row tM 6 n g, .cells tU [q], .cells tV [.lit (.slice none 0 0)]] => match rowP 1 q with
    | some (a, h) => .br (ixGd c tM tU tV n g a h) (.br (decide (fiD (numsOf a h) (mlsOf n g) < n)) (.leaf (.gsl 6 (keepL (numsOf a h) (mlsOf n g)).length (mRow (keepL (numsOf a h) (mlsOf n g))), [.frz 6 n (rowClr (mRow (curD (numsOf a h) (mlsOf n g) n).1) (keepL (numsOf a h) (mlsOf n g)).length (mC mlZ)), usC (numsOf a h), goC (.own 3), goR (goneL (numsOf a h) (mlsOf n g))]))
      (.leaf (.own 0, [msR (mlsOf n g), usC (numsOf a h), goC (.lit (.slice none 0 0))]))) .fail
    | none => .fail
  | _, _ => .fail
theorem del_ok : PinBn 3 Tryd.prog (GG m t fr) 40 delG := by
  refine PinBn.le (pinBn_of_ev (K := 3) (n := 60) (E := (E19 (GG m t fr)).withCuts (cut1 0 (cutOf (GG m t fr) 42 dfOuts 0 dfF))) (E19_ok.withCuts _) mixed (fn := Tryd.f40) (by kernel_rfl)
    (CutLaws.ok (E := (E19 (GG m t fr)).withCuts (cut1 0 (cutOf (GG m t fr) 42 dfOuts 0 dfF))) (CutLaws.one (by omega) (by kernel_rfl) fun st e st' h => cutOf_okM (x0 := .pins 3) (fun h => by cases h) E18_ok mixed (noCuts_ok (envOf_cuts ..) _) (fun _ e => by cases e <;> rfl) dfF_ok h))) fun ps bs0 p bs' hp => ?_
  unfold delG at hp
  split at hp
  · rename_i c tM n g tU q tV
    split at hp
    · rename_i a h0 hq
      have hb := br_run hp
      clear hp
      obtain ⟨hc, hp⟩ := hb
      obtain ⟨rfl, rfl, rfl, rfl, g5, g6, g7, g8, g9⟩ := ixGd_at hc
      have l1 := mls_len n g
      have l2 := nums_len a h0
      have hv := df_raw_v m t fr (mlsOf n g) (numsOf a h0)
      have hcc := df_raw_c m t fr (mlsOf n g) (numsOf a h0)
      have hgd := ixGd_of (mls_R g5) (nums_u32 g6) g7 (by omega) (by omega)
      have hin := ix_in hq g5 g6 (.cells 28 [.lit (.slice none 0 0)]) []
      simp only [nums_nRow, mls_mRow] at hv hcc
      rw [hgd] at hcc
      have hd : decide (fiD (numsOf a h0) (mlsOf n g) < n) = decide (fiD (numsOf a h0) (mlsOf n g) < (mlsOf n g).length) := by rw [l1]
      rw [hd] at hp
      by_cases hr : fiD (numsOf a h0) (mlsOf n g) < (mlsOf n g).length
      · rw [decide_eq_true hr] at hp hv hcc
        simp only [Tr.run, cond_true, Option.some.injEq, Prod.mk.injEq] at hp
        obtain ⟨rfl, rfl⟩ := hp
        have hk := keep_lt hr
        have hN := List.all_eq_true.1 (mls_R g5) _ (List.getElem_mem hr)
        rw [← ml_get hr] at hN
        obtain ⟨n1, n2, n3⟩ := mlR_at hN
        have hones : areNums [(ml (mlsOf n g) (fiD (numsOf a h0) (mlsOf n g))).u].length (nRow [(ml (mlsOf n g) (fiD (numsOf a h0) (mlsOf n g))).u]) = true := are_nRow (by simp [u32N, n1, n2])
        have hblt : Nat.blt (fiD (numsOf a h0) (mlsOf n g)) (mlsOf n g).length = true := by rw [Nat.blt_eq]; exact hr
        have hw : IntKind.wrap .i64 (((fiD (numsOf a h0) (mlsOf n g) : Nat) : Int) + 1) = ((fiD (numsOf a h0) (mlsOf n g) + 1 : Nat) : Int) := wrap_succ (by omega)
        have hc1 : (decide ((0 : Int) ≤ (((keepL (numsOf a h0) (mlsOf n g)).length : Nat) : Int)) && decide ((((keepL (numsOf a h0) (mlsOf n g)).length : Nat) : Int) < (((curD (numsOf a h0) (mlsOf n g) (mlsOf n g).length).1.length : Nat) : Int))) = true := by
          rw [cur_len, Bool.and_eq_true]
          exact ⟨decide_eq_true (by omega), decide_eq_true (by omega)⟩
        have hc2 : (decide ((0 : Int) ≤ (((keepL (numsOf a h0) (mlsOf n g)).length : Nat) : Int)) && decide ((((keepL (numsOf a h0) (mlsOf n g)).length : Nat) : Int) ≤ (((curD (numsOf a h0) (mlsOf n g) (mlsOf n g).length).1.length : Nat) : Int))) = true := by
          rw [cur_len, Bool.and_eq_true]
          exact ⟨decide_eq_true (by omega), decide_eq_true (by omega)⟩
        rw [hw] at hcc
        simp only [hones, hblt, hc1, hc2, decide_true, Bool.and_self, cond_true] at hcc
        refine ⟨_, _, _, _, .refl _, hin, Tr.run_vc hv hcc rfl rfl, PLe.gsl rfl fun i hi => ?_, BLeL.cons (.frz _ (by rw [cur_len, l1]) fun i hi => ?_) (.refl _)⟩
        · exact clr_row i hi
        · rw [l1]
          rfl
      · rw [decide_eq_false hr] at hp hv hcc
        simp only [Tr.run, cond_false, Option.some.injEq, Prod.mk.injEq] at hp
        obtain ⟨rfl, rfl⟩ := hp
        exact ⟨_, _, _, _, .refl _, hin, Tr.run_vc hv hcc rfl rfl, .refl _, .refl _⟩
    · cases hp
  · cases hp
end
end Go.Proofs.YtlngnfkjpfokhaaDoor.Ev

/- Mails that are to go: expunge; a box changed, as evaluated. No condition. -/
namespace Go.Proofs.YtlngnfkjpfokhaaDoor.Ev
open Go Go.RowKit Go.Proofs Go.Proofs.YtlngnfkjpfokhaaDoor.Str
set_option linter.unusedVariables false
set_option linter.unusedSimpArgs false
section
variable {m : Int} {t : TypeId} {fr : Nat × Nat}
def buFull : List (Nat × (List PV → Mem → Tr (PV × Mem))) := (40, (pinGn 3 delG)) :: (32, (pinG markG)) :: btFull
theorem buFull_ok {m : Int} {t : TypeId} {fr : Nat × Nat} : FullOK Tryd.prog (GG m t fr) buFull := (FullOK.cons (pin_fnn 3 del_ok) (fn := Tryd.f40) (by kernel_rfl) (by kernel_rfl) (FullOK.cons (pin_fn mark_ok) (fn := Tryd.f32) (by kernel_rfl) (by kernel_rfl) btFull_ok))
noncomputable abbrev E20 (G : GT) : Env := envOf Tryd.prog G bsPure buFull
theorem E20_ok : (E20 (GG m t fr)).ok Tryd.prog (GG m t fr) := envOf_ok mixed bsPure_ok buFull_ok
theorem ex_raw_v (m : Int) (t : TypeId) (fr : Nat × Nat) (b : Bx) (l : List Ml) (us : List Int) : ((fnPin Tryd.prog (E20 (GG m t fr)) 60 Tryd.f31 (GG m t fr) [.ptr 0 0, .gsl 1 us.length (nRow us)] [shC b (.own 1), msR l])).val =
 (bif (decide ((fiD (numsOf (List.length us) (nRow us)) (mlsOf (List.length l) (mRow l))) < (List.length l))) then
 (.some ((.own 1), [(.cells 65 [(.lit (.int .u32 (Bx.v b))), (.lit (.int .u64 (Bx.nx b))), (.lit (.int .u32 (Bx.ma b))), (.lit (.int .u32 (Bx.la b))), (.gsl 6 (List.length (keepL (numsOf (List.length us) (nRow us)) (mlsOf (List.length l) (mRow l)))) (mRow (keepL (numsOf (List.length us) (nRow us)) (mlsOf (List.length l) (mRow l)))))]), (.row 22 1 (List.length (goneL (numsOf (List.length us) (nRow us)) (mlsOf (List.length l) (mRow l)))) (nRow (goneL (numsOf (List.length us) (nRow us)) (mlsOf (List.length l) (mRow l)))))]))
 else (.some ((.lit (.slice .none 0 0)), [(.cells 65 [(.lit (.int .u32 (Bx.v b))), (.lit (.int .u64 (Bx.nx b))), (.lit (.int .u32 (Bx.ma b))), (.lit (.int .u32 (Bx.la b))), (.own 1)]), (.row 47 6 (List.length (mlsOf (List.length l) (mRow l))) (mRow (mlsOf (List.length l) (mRow l))))])) : Option (PV × List Blk)) := by
  kernel_rfl
theorem ex_raw_c (m : Int) (t : TypeId) (fr : Nat × Nat) (b : Bx) (l : List Ml) (us : List Int) : ((fnPin Tryd.prog (E20 (GG m t fr)) 60 Tryd.f31 (GG m t fr) [.ptr 0 0, .gsl 1 us.length (nRow us)] [shC b (.own 1), msR l])).conds =
 (bif (ixGd 41 47 28 28 (List.length l) (mRow l) (List.length us) (nRow us)) then
 bif (decide ((fiD (numsOf (List.length us) (nRow us)) (mlsOf (List.length l) (mRow l))) < (List.length l))) then
 true
 else true
 else false : Bool) := by
  kernel_rfl
def exGd (tS tM : TypeId) (n : Nat) (g : Nat → List PV) (a : Nat) (h : Nat → List PV) : Bool :=
  Nat.beq tS 65 && (Nat.beq tM 47 && (areMls n g && (areNums a h && (risI (numsOf a h) && (Nat.ble n 1000000000 && Nat.ble a 4294967280)))))
def expG : List PV → List Blk → Tr (PV × List Blk)
  | [.ptr 0 0, q], [.cells tS [.lit (.int .u32 v), .lit (.int .u64 nx), .lit (.int .u32 ma), .lit (.int .u32 la), .own 1], .row tM 6 n g] => match rowP 1 q with
    | some (a, h) => .br (exGd tS tM n g a h) (.br (decide (fiD (numsOf a h) (mlsOf n g) < n)) (.leaf (.own 1, [shC ⟨v, nx, ma, la, []⟩ (.gsl 6 (keepL (numsOf a h) (mlsOf n g)).length (mRow (keepL (numsOf a h) (mlsOf n g)))), goR (goneL (numsOf a h) (mlsOf n g))]))
      (.leaf (.lit (.slice none 0 0), [shC ⟨v, nx, ma, la, []⟩ (.own 1), msR (mlsOf n g)]))) .fail
    | none => .fail
  | _, _ => .fail
theorem exp_ok : PinB Tryd.prog (GG m t fr) 31 expG := by
  refine PinB.le (pinB_of_ev (n := 60) (E := E20 (GG m t fr)) E20_ok mixed (fn := Tryd.f31) (by kernel_rfl) (fun c _ => noCuts_ok (envOf_cuts ..) c)) fun ps bs0 p bs' hp => ?_
  unfold expG at hp
  split at hp
  · rename_i q tS v nx ma la tM n g
    split at hp
    · rename_i a h0 hq
      have hb := br_run hp
      clear hp
      obtain ⟨hc, hp⟩ := hb
      unfold exGd at hc
      simp only [Bool.and_eq_true, Nat.ble_eq] at hc
      obtain ⟨g1, g2, g5, g6, g7, g8, g9⟩ := hc
      have g1 := Nat.eq_of_beq_eq_true g1
      have g2 := Nat.eq_of_beq_eq_true g2
      subst g1 g2
      have l1 := mls_len n g
      have l2 := nums_len a h0
      have hv := ex_raw_v m t fr ⟨v, nx, ma, la, []⟩ (mlsOf n g) (numsOf a h0)
      have hcc := ex_raw_c m t fr ⟨v, nx, ma, la, []⟩ (mlsOf n g) (numsOf a h0)
      have hgd := ixGd_of (mls_R g5) (nums_u32 g6) g7 (by omega) (by omega)
      have hin : BLeL [.cells 65 [.lit (.int .u32 v), .lit (.int .u64 nx), .lit (.int .u32 ma), .lit (.int .u32 la), .own 1], .row 47 6 n g] [shC ⟨v, nx, ma, la, []⟩ (.own 1), msR (mlsOf n g)] :=
        BLeL.cons (.refl _) (BLeL.cons (.row _ _ l1.symm (mls_row g5)) .nil)
      have hle : PLe q (.gsl 1 (numsOf a h0).length (nRow (numsOf a h0))) := (rowP_le hq).trans (PLe.gsl l2.symm (nums_row g6))
      simp only [nums_nRow, mls_mRow] at hv hcc
      rw [hgd] at hcc
      simp only [Bool.cond_self, cond_true] at hcc
      have hd : decide (fiD (numsOf a h0) (mlsOf n g) < n) = decide (fiD (numsOf a h0) (mlsOf n g) < (mlsOf n g).length) := by rw [l1]
      rw [hd] at hp
      cases hr : decide (fiD (numsOf a h0) (mlsOf n g) < (mlsOf n g).length) with
      | true =>
        rw [hr] at hp hv
        simp only [Tr.run, cond_true, Option.some.injEq, Prod.mk.injEq] at hp
        obtain ⟨rfl, rfl⟩ := hp
        exact ⟨_, _, _, _, .cons (.refl _) (.cons hle .nil), hin, Tr.run_vc hv hcc rfl rfl, .refl _, .refl _⟩
      | false =>
        rw [hr] at hp hv
        simp only [Tr.run, cond_false, Option.some.injEq, Prod.mk.injEq] at hp
        obtain ⟨rfl, rfl⟩ := hp
        exact ⟨_, _, _, _, .cons (.refl _) (.cons hle .nil), hin, Tr.run_vc hv hcc rfl rfl, .refl _, .refl _⟩
    · cases hp
  · cases hp
def bvFull : List (Nat × (List PV → Mem → Tr (PV × Mem))) := (31, (pinG expG)) :: buFull
theorem bvFull_ok {m : Int} {t : TypeId} {fr : Nat × Nat} : FullOK Tryd.prog (GG m t fr) bvFull := (FullOK.cons (pin_fn exp_ok) (fn := Tryd.f31) (by kernel_rfl) (by kernel_rfl) buFull_ok)
noncomputable abbrev E21 (G : GT) : Env := envOf Tryd.prog G bsPure bvFull
theorem E21_ok : (E21 (GG m t fr)).ok Tryd.prog (GG m t fr) := envOf_ok mixed bsPure_ok bvFull_ok
theorem do_raw_v (m : Int) (t : TypeId) (fr : Nat × Nat) (b : Bx) (c : Ch) : ((fnPure Tryd.prog (E21 (GG m t fr)) 60 Tryd.f9 (GG m t fr) [bxP b, chP c])).val =
 (bif (bne (chkE (.mk (Bx.v b) (Bx.nx b) (Bx.ma b) (Bx.la b) (mlsOf (List.length (Bx.l b)) (mRow (Bx.l b))))) (0 : Int)) then
 bif ((chkE (.mk (Bx.v b) (Bx.nx b) (Bx.ma b) (Bx.la b) (mlsOf (List.length (Bx.l b)) (mRow (Bx.l b))))) == (0 : Int)) then
 bif (bne (rightE (.mk (Ch.k c) (numsOf (List.length (Ch.us c)) (nRow (Ch.us c))) (Ch.f c) (Ch.d c) (Ch.s c) (Ch.z c) (Ch.r c))) (0 : Int)) then
 (.some (.tup [(.agg [(.lit (.int .u32 (0 : Int))), (.lit (.int .u64 (0 : Int))), (.lit (.int .u32 (0 : Int))), (.lit (.int .u32 (0 : Int))), (.lit (.slice .none 0 0))]), (.lit (.slice .none 0 0)), (.lit (.int .i64 (rightE (.mk (Ch.k c) (numsOf (List.length (Ch.us c)) (nRow (Ch.us c))) (Ch.f c) (Ch.d c) (Ch.s c) (Ch.z c) (Ch.r c)))))]))
 else bif ((Ch.k c) == (1 : Int)) then
 (.some (.tup [(.agg [(.lit (.int .u32 (0 : Int))), (.lit (.int .u64 (1 : Int))), (.lit (.int .u32 (0 : Int))), (.lit (.int .u32 (0 : Int))), (.gsl 6 1 (rowOf [(.lit (.int .u32 (0 : Int))), (.lit (.int .u8 (Ch.f c))), (.lit (.int .i64 (Ch.d c))), (.lit (.int .i64 (Ch.s c))), (.lit (.int .i64 (Ch.z c))), (.lit (.string (Ch.r c)))] 6))]), (.gsl 1 1 (rowOf [(.lit (.int .u32 (0 : Int)))] 1)), (.lit (.int .i64 (0 : Int)))]))
 else bif ((Ch.k c) == (5 : Int)) then
 .none
 else (.some (.tup [(.agg [(.lit (.int .u32 (0 : Int))), (.lit (.int .u64 (0 : Int))), (.lit (.int .u32 (0 : Int))), (.lit (.int .u32 (4294967295 : Int))), (.lit (.slice .none 0 0))]), (.lit (.slice .none 0 0)), (.lit (.int .i64 (rightE (.mk (Ch.k c) (numsOf (List.length (Ch.us c)) (nRow (Ch.us c))) (Ch.f c) (Ch.d c) (Ch.s c) (Ch.z c) (Ch.r c)))))]))
 else bif (bne (chkE (.mk (Bx.v b) (Bx.nx b) (Bx.ma b) (Bx.la b) (mlsOf (List.length (Bx.l b)) (mRow (Bx.l b))))) (0 : Int)) then
 (.some (.tup [(.agg [(.lit (.int .u32 (0 : Int))), (.lit (.int .u64 (0 : Int))), (.lit (.int .u32 (0 : Int))), (.lit (.int .u32 (0 : Int))), (.lit (.slice .none 0 0))]), (.lit (.slice .none 0 0)), (.lit (.int .i64 (chkE (.mk (Bx.v b) (Bx.nx b) (Bx.ma b) (Bx.la b) (mlsOf (List.length (Bx.l b)) (mRow (Bx.l b)))))))]))
 else bif ((Ch.k c) == (1 : Int)) then
 (.some (.tup [(.agg [(.lit (.int .u32 (0 : Int))), (.lit (.int .u64 (1 : Int))), (.lit (.int .u32 (0 : Int))), (.lit (.int .u32 (0 : Int))), (.gsl 6 1 (rowOf [(.lit (.int .u32 (0 : Int))), (.lit (.int .u8 (Ch.f c))), (.lit (.int .i64 (Ch.d c))), (.lit (.int .i64 (Ch.s c))), (.lit (.int .i64 (Ch.z c))), (.lit (.string (Ch.r c)))] 6))]), (.gsl 1 1 (rowOf [(.lit (.int .u32 (0 : Int)))] 1)), (.lit (.int .i64 (0 : Int)))]))
 else bif ((Ch.k c) == (5 : Int)) then
 .none
 else (.some (.tup [(.agg [(.lit (.int .u32 (0 : Int))), (.lit (.int .u64 (0 : Int))), (.lit (.int .u32 (0 : Int))), (.lit (.int .u32 (4294967295 : Int))), (.lit (.slice .none 0 0))]), (.lit (.slice .none 0 0)), (.lit (.int .i64 (chkE (.mk (Bx.v b) (Bx.nx b) (Bx.ma b) (Bx.la b) (mlsOf (List.length (Bx.l b)) (mRow (Bx.l b)))))))]))
 else bif (bne (rightE (.mk (Ch.k c) (numsOf (List.length (Ch.us c)) (nRow (Ch.us c))) (Ch.f c) (Ch.d c) (Ch.s c) (Ch.z c) (Ch.r c))) (0 : Int)) then
 (.some (.tup [(.agg [(.lit (.int .u32 (Bx.v b))), (.lit (.int .u64 (Bx.nx b))), (.lit (.int .u32 (Bx.ma b))), (.lit (.int .u32 (Bx.la b))), (.gsl 6 (List.length (Bx.l b)) (mRow (mlsOf (List.length (Bx.l b)) (mRow (Bx.l b)))))]), (.lit (.slice .none 0 0)), (.lit (.int .i64 (rightE (.mk (Ch.k c) (numsOf (List.length (Ch.us c)) (nRow (Ch.us c))) (Ch.f c) (Ch.d c) (Ch.s c) (Ch.z c) (Ch.r c)))))]))
 else bif ((Ch.k c) == (1 : Int)) then
 bif (decide ((Bx.nx b) > (4294967295 : Int))) then
 (.some (.tup [(.agg [(.lit (.int .u32 (Bx.v b))), (.lit (.int .u64 (Bx.nx b))), (.lit (.int .u32 (Bx.ma b))), (.lit (.int .u32 (Bx.la b))), (.gsl 6 (List.length (Bx.l b)) (mRow (mlsOf (List.length (Bx.l b)) (mRow (Bx.l b)))))]), (.lit (.slice .none 0 0)), (.lit (.int .i64 (8 : Int)))]))
 else bif ((((List.length (Bx.l b)) : Nat) : Int) == (4096 : Int)) then
 (.some (.tup [(.agg [(.lit (.int .u32 (Bx.v b))), (.lit (.int .u64 (Bx.nx b))), (.lit (.int .u32 (Bx.ma b))), (.lit (.int .u32 (Bx.la b))), (.gsl 6 (List.length (Bx.l b)) (mRow (mlsOf (List.length (Bx.l b)) (mRow (Bx.l b)))))]), (.lit (.slice .none 0 0)), (.lit (.int .i64 (8 : Int)))]))
 else (.some (.tup [(.agg [(.lit (.int .u32 (Bx.v b))), (.lit (.int .u64 (IntKind.wrap .u64 ((Bx.nx b) + (1 : Int))))), (.lit (.int .u32 (Bx.ma b))), (.lit (.int .u32 (Bx.la b))), (.gsl 6 ((List.length (Bx.l b)) + 1) (rowApp (List.length (Bx.l b)) (mRow (mlsOf (List.length (Bx.l b)) (mRow (Bx.l b)))) (rowOf [(.lit (.int .u32 (IntKind.wrap .u32 (Bx.nx b)))), (.lit (.int .u8 (Ch.f c))), (.lit (.int .i64 (Ch.d c))), (.lit (.int .i64 (Ch.s c))), (.lit (.int .i64 (Ch.z c))), (.lit (.string (Ch.r c)))] 6)))]), (.gsl 1 1 (rowOf [(.lit (.int .u32 (IntKind.wrap .u32 (Bx.nx b))))] 1)), (.lit (.int .i64 (0 : Int)))]))
 else bif ((Ch.k c) == (5 : Int)) then
 bif (decide ((fiD (numsOf (List.length (Ch.us c)) (nRow (Ch.us c))) (mlsOf (List.length (Bx.l b)) (mRow (mlsOf (List.length (Bx.l b)) (mRow (Bx.l b)))))) < (List.length (Bx.l b)))) then
 (.some (.tup [(.agg [(.lit (.int .u32 (Bx.v b))), (.lit (.int .u64 (Bx.nx b))), (.lit (.int .u32 (Bx.ma b))), (.lit (.int .u32 (Bx.la b))), (.gsl 6 (List.length (keepL (numsOf (List.length (Ch.us c)) (nRow (Ch.us c))) (mlsOf (List.length (Bx.l b)) (mRow (mlsOf (List.length (Bx.l b)) (mRow (Bx.l b))))))) (mRow (keepL (numsOf (List.length (Ch.us c)) (nRow (Ch.us c))) (mlsOf (List.length (Bx.l b)) (mRow (mlsOf (List.length (Bx.l b)) (mRow (Bx.l b))))))))]), (.gsl 1 (List.length (goneL (numsOf (List.length (Ch.us c)) (nRow (Ch.us c))) (mlsOf (List.length (Bx.l b)) (mRow (mlsOf (List.length (Bx.l b)) (mRow (Bx.l b))))))) (nRow (goneL (numsOf (List.length (Ch.us c)) (nRow (Ch.us c))) (mlsOf (List.length (Bx.l b)) (mRow (mlsOf (List.length (Bx.l b)) (mRow (Bx.l b)))))))), (.lit (.int .i64 (rightE (.mk (Ch.k c) (numsOf (List.length (Ch.us c)) (nRow (Ch.us c))) (Ch.f c) (Ch.d c) (Ch.s c) (Ch.z c) (Ch.r c)))))]))
 else (.some (.tup [(.agg [(.lit (.int .u32 (Bx.v b))), (.lit (.int .u64 (Bx.nx b))), (.lit (.int .u32 (Bx.ma b))), (.lit (.int .u32 (Bx.la b))), (.gsl 6 (List.length (mlsOf (List.length (Bx.l b)) (mRow (mlsOf (List.length (Bx.l b)) (mRow (Bx.l b)))))) (mRow (mlsOf (List.length (Bx.l b)) (mRow (mlsOf (List.length (Bx.l b)) (mRow (Bx.l b)))))))]), (.lit (.slice .none 0 0)), (.lit (.int .i64 (rightE (.mk (Ch.k c) (numsOf (List.length (Ch.us c)) (nRow (Ch.us c))) (Ch.f c) (Ch.d c) (Ch.s c) (Ch.z c) (Ch.r c)))))]))
 else bif ((Ch.k c) == (6 : Int)) then
 (.some (.tup [(.agg [(.lit (.int .u32 (Bx.v b))), (.lit (.int .u64 (Bx.nx b))), (.lit (.int .u32 (Bx.la b))), (.lit (.int .u32 (IntKind.wrap .u32 (IntKind.wrap .u64 ((Bx.nx b) - (1 : Int)))))), (.gsl 6 (List.length (Bx.l b)) (mRow (mlsOf (List.length (Bx.l b)) (mRow (Bx.l b)))))]), (.lit (.slice .none 0 0)), (.lit (.int .i64 (rightE (.mk (Ch.k c) (numsOf (List.length (Ch.us c)) (nRow (Ch.us c))) (Ch.f c) (Ch.d c) (Ch.s c) (Ch.z c) (Ch.r c)))))]))
 else bif (allIn (Ch.us (.mk (Ch.k c) (numsOf (List.length (Ch.us c)) (nRow (Ch.us c))) (Ch.f c) (Ch.d c) (Ch.s c) (Ch.z c) (Ch.r c))) (usM (mlsOf (List.length (Bx.l b)) (mRow (mlsOf (List.length (Bx.l b)) (mRow (Bx.l b))))))) then
 (.some (.tup [(.agg [(.lit (.int .u32 (Bx.v b))), (.lit (.int .u64 (Bx.nx b))), (.lit (.int .u32 (Bx.ma b))), (.lit (.int .u32 (Bx.la b))), (.gsl 6 (List.length (Bx.l b)) (mRow (markL (Ch.k c) (Ch.f c) (Ch.us (.mk (Ch.k c) (numsOf (List.length (Ch.us c)) (nRow (Ch.us c))) (Ch.f c) (Ch.d c) (Ch.s c) (Ch.z c) (Ch.r c))) (mlsOf (List.length (Bx.l b)) (mRow (mlsOf (List.length (Bx.l b)) (mRow (Bx.l b))))))))]), (.gsl 1 (List.length (Ch.us (.mk (Ch.k c) (numsOf (List.length (Ch.us c)) (nRow (Ch.us c))) (Ch.f c) (Ch.d c) (Ch.s c) (Ch.z c) (Ch.r c)))) (nRow (Ch.us (.mk (Ch.k c) (numsOf (List.length (Ch.us c)) (nRow (Ch.us c))) (Ch.f c) (Ch.d c) (Ch.s c) (Ch.z c) (Ch.r c))))), (.lit (.int .i64 (0 : Int)))]))
 else (.some (.tup [(.agg [(.lit (.int .u32 (Bx.v b))), (.lit (.int .u64 (Bx.nx b))), (.lit (.int .u32 (Bx.ma b))), (.lit (.int .u32 (Bx.la b))), (.gsl 6 (List.length (Bx.l b)) (mRow (mlsOf (List.length (Bx.l b)) (mRow (mlsOf (List.length (Bx.l b)) (mRow (Bx.l b)))))))]), (.lit (.slice .none 0 0)), (.lit (.int .i64 (3 : Int)))])) : Option PV) := by
  kernel_rfl
theorem do_raw_c (m : Int) (t : TypeId) (fr : Nat × Nat) (b : Bx) (c : Ch) : ((fnPure Tryd.prog (E21 (GG m t fr)) 60 Tryd.f9 (GG m t fr) [bxP b, chP c])).conds =
 (bif (bxGd (Bx.v b) (Bx.nx b) (Bx.ma b) (Bx.la b) (List.length (Bx.l b)) (mRow (Bx.l b))) then
 bif (bne (chkE (.mk (Bx.v b) (Bx.nx b) (Bx.ma b) (Bx.la b) (mlsOf (List.length (Bx.l b)) (mRow (Bx.l b))))) (0 : Int)) then
 bif ((chkE (.mk (Bx.v b) (Bx.nx b) (Bx.ma b) (Bx.la b) (mlsOf (List.length (Bx.l b)) (mRow (Bx.l b))))) == (0 : Int)) then
 bif (chGd (.mk (Ch.k c) (numsOf (List.length (Ch.us c)) (nRow (Ch.us c))) (Ch.f c) (Ch.d c) (Ch.s c) (Ch.z c) (Ch.r c)) (List.length (Ch.us c)) (nRow (Ch.us c))) then
 bif (bne (rightE (.mk (Ch.k c) (numsOf (List.length (Ch.us c)) (nRow (Ch.us c))) (Ch.f c) (Ch.d c) (Ch.s c) (Ch.z c) (Ch.r c))) (0 : Int)) then
 true
 else bif ((Ch.k c) == (1 : Int)) then
 true
 else bif ((Ch.k c) == (5 : Int)) then
 true
 else bif ((Ch.k c) == (6 : Int)) then
 true
 else false
 else false
 else bif (bne (chkE (.mk (Bx.v b) (Bx.nx b) (Bx.ma b) (Bx.la b) (mlsOf (List.length (Bx.l b)) (mRow (Bx.l b))))) (0 : Int)) then
 true
 else bif ((Ch.k c) == (1 : Int)) then
 true
 else bif ((Ch.k c) == (5 : Int)) then
 true
 else bif ((Ch.k c) == (6 : Int)) then
 true
 else false
 else bif ((areMls (List.length (Bx.l b)) (mRow (Bx.l b))) && (Nat.ble (List.length (Bx.l b)) (1000000000 : Nat))) then
 bif (chGd (.mk (Ch.k c) (numsOf (List.length (Ch.us c)) (nRow (Ch.us c))) (Ch.f c) (Ch.d c) (Ch.s c) (Ch.z c) (Ch.r c)) (List.length (Ch.us c)) (nRow (Ch.us c))) then
 bif (bne (rightE (.mk (Ch.k c) (numsOf (List.length (Ch.us c)) (nRow (Ch.us c))) (Ch.f c) (Ch.d c) (Ch.s c) (Ch.z c) (Ch.r c))) (0 : Int)) then
 true
 else bif ((Ch.k c) == (1 : Int)) then
 bif (decide ((Bx.nx b) > (4294967295 : Int))) then
 true
 else bif ((((List.length (Bx.l b)) : Nat) : Int) == (4096 : Int)) then
 true
 else bif (Nat.ble (((List.length (Bx.l b)) + 1) * 48) (140737488355328 : Nat)) then
 true
 else false
 else bif ((Ch.k c) == (5 : Int)) then
 bif (exGd 65 47 (List.length (Bx.l b)) (mRow (mlsOf (List.length (Bx.l b)) (mRow (Bx.l b)))) (List.length (Ch.us c)) (nRow (Ch.us c))) then
 bif (decide ((fiD (numsOf (List.length (Ch.us c)) (nRow (Ch.us c))) (mlsOf (List.length (Bx.l b)) (mRow (mlsOf (List.length (Bx.l b)) (mRow (Bx.l b)))))) < (List.length (Bx.l b)))) then
 true
 else true
 else false
 else bif ((Ch.k c) == (6 : Int)) then
 true
 else bif ((areMls (List.length (Bx.l b)) (mRow (mlsOf (List.length (Bx.l b)) (mRow (Bx.l b))))) && ((risI (usM (mlsOf (List.length (Bx.l b)) (mRow (mlsOf (List.length (Bx.l b)) (mRow (Bx.l b))))))) && ((Nat.ble (List.length (Bx.l b)) (4294967280 : Nat)) && ((chGd (.mk (Ch.k c) (numsOf (List.length (Ch.us c)) (nRow (Ch.us c))) (Ch.f c) (Ch.d c) (Ch.s c) (Ch.z c) (Ch.r c)) (List.length (Ch.us c)) (nRow (Ch.us c))) && (risI (Ch.us (.mk (Ch.k c) (numsOf (List.length (Ch.us c)) (nRow (Ch.us c))) (Ch.f c) (Ch.d c) (Ch.s c) (Ch.z c) (Ch.r c)))))))) then
 bif (allIn (Ch.us (.mk (Ch.k c) (numsOf (List.length (Ch.us c)) (nRow (Ch.us c))) (Ch.f c) (Ch.d c) (Ch.s c) (Ch.z c) (Ch.r c))) (usM (mlsOf (List.length (Bx.l b)) (mRow (mlsOf (List.length (Bx.l b)) (mRow (Bx.l b))))))) then
 true
 else true
 else false
 else false
 else false
 else false : Bool) := by
  kernel_rfl
end
end Go.Proofs.YtlngnfkjpfokhaaDoor.Ev
