/- JBox17: several texts in one. Condition: each part's own. -/
import Derived.Test.YtlngnfkjpfokhaaDoorJBox16
/- A box is asked: a round each. No condition. -/
namespace Go.Proofs.YtlngnfkjpfokhaaDoor.Ev
open Go Go.RowKit Go.Proofs Go.Proofs.YtlngnfkjpfokhaaDoor.Str
set_option linter.unusedVariables false
set_option linter.unusedSimpArgs false
section
variable {m : Int} {t : TypeId} {fr : Nat × Nat}
def abOuts : Exit → Outs
  | .normal => { ks := [1, 7, 16, 17, 18], rs := [.slot 7], nils := [(7, 22, 1)] }
  | .exit _ => { ks := [7], rs := [.slot 7], nils := [(7, 22, 1)] }
  | _ => { ks := [] }
noncomputable abbrev abRound (G : GT) := roundT Tryd.prog (E21 G) 60 G 33 abOuts .normal (theLoop 0 Tryd.f37)
theorem ab_round_v (m : Int) (t : TypeId) (fr : Nat × Nat) (l : List Ml) (go : List Int) (x u i : Int) : ((abRound (GG m t fr) ([.lit (.int .u32 x), .own 0, .gsl 6 l.length (mRow l), int u, int i], [goR go]))).val =
 (bif (decide (i < u)) then
 bif (decide ((Ml.u (ml l (Int.toNat i))) > x)) then
 (.some (.normal, ([(.lit (.int .u32 x)), (.own 0), (.gsl 6 (List.length l) (mRow l)), (.lit (.int .i64 u)), (.lit (.int .i64 (IntKind.wrap .i64 (i + (1 : Int)))))], [(.row 22 1 ((List.length go) + 1) (rowApp (List.length go) (nRow go) (rowOf [(.lit (.int .u32 (Ml.u (ml l (Int.toNat i)))))] 1)))])))
 else (.some (.normal, ([(.lit (.int .u32 x)), (.own 0), (.gsl 6 (List.length l) (mRow l)), (.lit (.int .i64 u)), (.lit (.int .i64 (IntKind.wrap .i64 (i + (1 : Int)))))], [(.row 22 1 (List.length go) (nRow go))])))
 else (.some ((.exit 0), ([(.own 0)], [(.row 22 1 (List.length go) (nRow go))]))) : Option (Exit × Kept)) := by
  kernel_rfl
theorem ab_round_c (m : Int) (t : TypeId) (fr : Nat × Nat) (l : List Ml) (go : List Int) (x u i : Int) : ((abRound (GG m t fr) ([.lit (.int .u32 x), .own 0, .gsl 6 l.length (mRow l), int u, int i], [goR go]))).conds =
 (bif (decide (i < u)) then
 bif ((decide ((0 : Int) ≤ i)) && (Nat.blt (Int.toNat i) (List.length l))) then
 bif (decide ((Ml.u (ml l (Int.toNat i))) > x)) then
 bif (Nat.ble (((List.length go) + 1) * 4) (140737488355328 : Nat)) then
 true
 else false
 else true
 else false
 else true : Bool) := by
  kernel_rfl
def uiOuts : Exit → Outs
  | .normal => { ks := [4, 11, 12, 13], rs := [.slot 4], nils := [(4, 22, 1)] }
  | .exit _ => { ks := [4], rs := [.slot 4], nils := [(4, 22, 1)] }
  | _ => { ks := [] }
noncomputable abbrev uiRound (G : GT) := roundT Tryd.prog (E21 G) 60 G 24 uiOuts .normal (theLoop 0 Tryd.f23)
theorem ui_round_v (m : Int) (t : TypeId) (fr : Nat × Nat) (l : List Ml) (go : List Int) (u i : Int) : ((uiRound (GG m t fr) ([.own 0, .gsl 6 l.length (mRow l), int u, int i], [goR go]))).val =
 (bif (decide (i < u)) then
 (.some (.normal, ([(.own 0), (.gsl 6 (List.length l) (mRow l)), (.lit (.int .i64 u)), (.lit (.int .i64 (IntKind.wrap .i64 (i + (1 : Int)))))], [(.row 22 1 ((List.length go) + 1) (rowApp (List.length go) (nRow go) (rowOf [(.lit (.int .u32 (Ml.u (ml l (Int.toNat i)))))] 1)))])))
 else (.some ((.exit 0), ([(.own 0)], [(.row 22 1 (List.length go) (nRow go))]))) : Option (Exit × Kept)) := by
  kernel_rfl
theorem ui_round_c (m : Int) (t : TypeId) (fr : Nat × Nat) (l : List Ml) (go : List Int) (u i : Int) : ((uiRound (GG m t fr) ([.own 0, .gsl 6 l.length (mRow l), int u, int i], [goR go]))).conds =
 (bif (decide (i < u)) then
 bif ((decide ((0 : Int) ≤ i)) && (Nat.blt (Int.toNat i) (List.length l))) then
 bif (Nat.ble (((List.length go) + 1) * 4) (140737488355328 : Nat)) then
 true
 else false
 else false
 else true : Bool) := by
  kernel_rfl
def rcOuts : Exit → Outs
  | .normal => { ks := [1, 5, 6, 14, 15, 16], rs := [.slot 1, .slot 6], nils := [(6, 22, 1)] }
  | .exit _ => { ks := [5, 6], rs := [.slot 6], nils := [(6, 22, 1)] }
  | _ => { ks := [] }
noncomputable abbrev rcRound (G : GT) := roundT Tryd.prog (E21 G) 60 G 31 rcOuts .normal (theLoop 0 Tryd.f27)
theorem rc_round_v (m : Int) (t : TypeId) (fr : Nat × Nat) (l : List Int) (go : List Int) (v nx mk la w u i : Int) : ((rcRound (GG m t fr) ([.ptr 0 0, int w, .own 1, .gsl 1 l.length (nRow l), int u, int i], [rkB v nx mk la .junk, goR go]))).val =
 (bif (decide (i < u)) then
 bif (decide ((nu l (Int.toNat i)) > mk)) then
 (.some (.normal, ([(.ptr 0 0), (.lit (.int .i64 w)), (.own 1), (.gsl 1 (List.length l) (nRow l)), (.lit (.int .i64 u)), (.lit (.int .i64 (IntKind.wrap .i64 (i + (1 : Int)))))], [(.cells 26 [(.lit (.int .u32 v)), (.lit (.int .u64 nx)), (.lit (.int .u32 mk)), (.lit (.int .u32 la)), .junk]), (.row 22 1 ((List.length go) + 1) (rowApp (List.length go) (nRow go) (rowOf [(.lit (.int .u32 (nu l (Int.toNat i))))] 1)))])))
 else (.some (.normal, ([(.ptr 0 0), (.lit (.int .i64 w)), (.own 1), (.gsl 1 (List.length l) (nRow l)), (.lit (.int .i64 u)), (.lit (.int .i64 (IntKind.wrap .i64 (i + (1 : Int)))))], [(.cells 26 [(.lit (.int .u32 v)), (.lit (.int .u64 nx)), (.lit (.int .u32 mk)), (.lit (.int .u32 la)), .junk]), (.row 22 1 (List.length go) (nRow go))])))
 else (.some ((.exit 0), ([(.lit (.int .i64 w)), (.own 0)], [(.row 22 1 (List.length go) (nRow go))]))) : Option (Exit × Kept)) := by
  kernel_rfl
theorem rc_round_c (m : Int) (t : TypeId) (fr : Nat × Nat) (l : List Int) (go : List Int) (v nx mk la w u i : Int) : ((rcRound (GG m t fr) ([.ptr 0 0, int w, .own 1, .gsl 1 l.length (nRow l), int u, int i], [rkB v nx mk la .junk, goR go]))).conds =
 (bif (decide (i < u)) then
 bif ((decide ((0 : Int) ≤ i)) && (Nat.blt (Int.toNat i) (List.length l))) then
 bif (decide ((nu l (Int.toNat i)) > mk)) then
 bif (Nat.ble (((List.length go) + 1) * 4) (140737488355328 : Nat)) then
 true
 else false
 else true
 else false
 else true : Bool) := by
  kernel_rfl
def plOuts : Exit → Outs
  | .normal => { ks := [1, 12, 13, 14] }
  | .exit _ => { ks := [] }
  | _ => { ks := [4, 5] }
noncomputable abbrev plRound (G : GT) := roundT Tryd.prog (E21 G) 60 G 26 plOuts .normal (theLoop 0 Tryd.f25)
theorem pl_round_v (m : Int) (t : TypeId) (fr : Nat × Nat) (l : List Ml) (x u i : Int) : ((plRound (GG m t fr) ([.lit (.int .u32 x), .gsl 6 l.length (mRow l), int u, int i], []))).val =
 (bif (decide (i < u)) then
 bif ((Ml.u (ml l (Int.toNat i))) == x) then
 (.some (.ret, ([(.lit (.int .i64 (IntKind.wrap .i64 (i + (1 : Int))))), (.lit (.int .i64 (0 : Int)))], [])))
 else (.some (.normal, ([(.lit (.int .u32 x)), (.gsl 6 (List.length l) (mRow l)), (.lit (.int .i64 u)), (.lit (.int .i64 (IntKind.wrap .i64 (i + (1 : Int)))))], [])))
 else (.some ((.exit 0), ([], []))) : Option (Exit × Kept)) := by
  kernel_rfl
theorem pl_round_c (m : Int) (t : TypeId) (fr : Nat × Nat) (l : List Ml) (x u i : Int) : ((plRound (GG m t fr) ([.lit (.int .u32 x), .gsl 6 l.length (mRow l), int u, int i], []))).conds =
 (bif (decide (i < u)) then
 bif ((decide ((0 : Int) ≤ i)) && (Nat.blt (Int.toNat i) (List.length l))) then
 bif ((Ml.u (ml l (Int.toNat i))) == x) then
 true
 else true
 else false
 else true : Bool) := by
  kernel_rfl
def fnOuts : Exit → Outs
  | .normal => { ks := [1, 4, 13, 14, 15], rs := [.slot 4] }
  | .exit _ => { ks := [4], rs := [.slot 4] }
  | _ => { ks := [4, 5], rs := [.slot 4] }
noncomputable abbrev fnRound (G : GT) := roundT Tryd.prog (E21 G) 60 G 26 fnOuts .normal (theLoop 0 Tryd.f21)
def msC (x : Ml) : Blk := .cells 47 (mC x)
theorem fn_round_v (m : Int) (t : TypeId) (fr : Nat × Nat) (l : List Ml) (x u i : Int) : ((fnRound (GG m t fr) ([.lit (.int .u32 x), .ptr 0 0, .gsl 6 l.length (mRow l), int u, int i], [msC mlZ]))).val =
 (bif (decide (i < u)) then
 bif ((Ml.u (ml l (Int.toNat i))) == x) then
 (.some (.ret, ([(.ptr 0 0), (.lit (.int .i64 (0 : Int)))], [(.cells 47 [(.lit (.int .u32 (Ml.u (ml l (Int.toNat i))))), (.lit (.int .u8 (Ml.f (ml l (Int.toNat i))))), (.lit (.int .i64 (Ml.d (ml l (Int.toNat i))))), (.lit (.int .i64 (Ml.s (ml l (Int.toNat i))))), (.lit (.int .i64 (Ml.z (ml l (Int.toNat i))))), (.lit (.string (Ml.r (ml l (Int.toNat i)))))])])))
 else (.some (.normal, ([(.lit (.int .u32 x)), (.ptr 0 0), (.gsl 6 (List.length l) (mRow l)), (.lit (.int .i64 u)), (.lit (.int .i64 (IntKind.wrap .i64 (i + (1 : Int)))))], [(.cells 47 [(.lit (.int .u32 (0 : Int))), (.lit (.int .u8 (0 : Int))), (.lit (.int .i64 (0 : Int))), (.lit (.int .i64 (0 : Int))), (.lit (.int .i64 (0 : Int))), (.lit (.string (.mk (List.toArray []))))])])))
 else (.some ((.exit 0), ([(.ptr 0 0)], [(.cells 47 [(.lit (.int .u32 (0 : Int))), (.lit (.int .u8 (0 : Int))), (.lit (.int .i64 (0 : Int))), (.lit (.int .i64 (0 : Int))), (.lit (.int .i64 (0 : Int))), (.lit (.string (.mk (List.toArray []))))])]))) : Option (Exit × Kept)) := by
  kernel_rfl
theorem fn_round_c (m : Int) (t : TypeId) (fr : Nat × Nat) (l : List Ml) (x u i : Int) : ((fnRound (GG m t fr) ([.lit (.int .u32 x), .ptr 0 0, .gsl 6 l.length (mRow l), int u, int i], [msC mlZ]))).conds =
 (bif (decide (i < u)) then
 bif ((decide ((0 : Int) ≤ i)) && (Nat.blt (Int.toNat i) (List.length l))) then
 bif ((Ml.u (ml l (Int.toNat i))) == x) then
 true
 else true
 else false
 else true : Bool) := by
  kernel_rfl
def bmOuts : Exit → Outs
  | .normal => { ks := [2, 3, 43, 44], rs := [.slot 2, .slot 3] }
  | .exit _ => { ks := [] }
  | _ => { ks := [4] }
noncomputable abbrev bmRound (G : GT) := roundT Tryd.prog (E21 G) 60 G 59 bmOuts .normal (theLoop 0 Tryd.f14)
theorem bm_round_v (m : Int) (t : TypeId) (fr : Nat × Nat) (l l' : List Ml) (v nx mk la v' nx' mk' la' u i : Int) : ((bmRound (GG m t fr) ([.ptr 0 0, .ptr 1 0, int u, int i], [rkB v nx mk la (.gsl 6 l.length (mRow l)), rkB v' nx' mk' la' (.gsl 6 l'.length (mRow l'))]))).val =
 (bif (decide (i < u)) then
 bif (!(((Ml.u (ml l (Int.toNat i))) == (Ml.u (ml l' (Int.toNat i)))) && (((Ml.f (ml l (Int.toNat i))) == (Ml.f (ml l' (Int.toNat i)))) && ((((Ml.d (ml l (Int.toNat i))) == (Ml.d (ml l' (Int.toNat i)))) && (((Ml.s (ml l (Int.toNat i))) == (Ml.s (ml l' (Int.toNat i)))) && (((Ml.z (ml l (Int.toNat i))) == (Ml.z (ml l' (Int.toNat i)))) && true))) && (((Ml.r (ml l (Int.toNat i))) == (Ml.r (ml l' (Int.toNat i)))) && true))))) then
 (.some (.ret, ([(.lit (.bool false))], [])))
 else (.some (.normal, ([(.ptr 0 0), (.ptr 1 0), (.lit (.int .i64 u)), (.lit (.int .i64 (IntKind.wrap .i64 (i + (1 : Int)))))], [(.cells 26 [(.lit (.int .u32 v)), (.lit (.int .u64 nx)), (.lit (.int .u32 mk)), (.lit (.int .u32 la)), (.gsl 6 (List.length l) (mRow l))]), (.cells 26 [(.lit (.int .u32 v')), (.lit (.int .u64 nx')), (.lit (.int .u32 mk')), (.lit (.int .u32 la')), (.gsl 6 (List.length l') (mRow l'))])])))
 else (.some ((.exit 0), ([], []))) : Option (Exit × Kept)) := by
  kernel_rfl
theorem bm_round_c (m : Int) (t : TypeId) (fr : Nat × Nat) (l l' : List Ml) (v nx mk la v' nx' mk' la' u i : Int) : ((bmRound (GG m t fr) ([.ptr 0 0, .ptr 1 0, int u, int i], [rkB v nx mk la (.gsl 6 l.length (mRow l)), rkB v' nx' mk' la' (.gsl 6 l'.length (mRow l'))]))).conds =
 (bif (decide (i < u)) then
 bif ((decide ((0 : Int) ≤ i)) && (Nat.blt (Int.toNat i) (List.length l))) then
 bif ((decide ((0 : Int) ≤ i)) && (Nat.blt (Int.toNat i) (List.length l'))) then
 bif (!(((Ml.u (ml l (Int.toNat i))) == (Ml.u (ml l' (Int.toNat i)))) && (((Ml.f (ml l (Int.toNat i))) == (Ml.f (ml l' (Int.toNat i)))) && ((((Ml.d (ml l (Int.toNat i))) == (Ml.d (ml l' (Int.toNat i)))) && (((Ml.s (ml l (Int.toNat i))) == (Ml.s (ml l' (Int.toNat i)))) && (((Ml.z (ml l (Int.toNat i))) == (Ml.z (ml l' (Int.toNat i)))) && true))) && (((Ml.r (ml l (Int.toNat i))) == (Ml.r (ml l' (Int.toNat i)))) && true))))) then
 true
 else true
 else false
 else false
 else true : Bool) := by
  kernel_rfl
end
end Go.Proofs.YtlngnfkjpfokhaaDoor.Ev

/- A box is asked: the loops. No condition. -/
namespace Go.Proofs.YtlngnfkjpfokhaaDoor.Ev
open Go Go.RowKit Go.Proofs Go.Proofs.YtlngnfkjpfokhaaDoor.Str
set_option linter.unusedVariables false
set_option linter.unusedSimpArgs false
/-- the numbers above one -/
def abI (x : Int) (l : List Int) : List Int := l.filter fun u => decide (u > x)
theorem ab_snoc (x : Int) (l : List Int) (u : Int) : abI x (l ++ [u]) = bif decide (u > x) then abI x l ++ [u] else abI x l := by
  unfold abI
  rw [List.filter_append]
  cases h : decide (u > x) <;> simp [h]
theorem ab_len (x : Int) (l : List Int) : (abI x l).length ≤ l.length := List.length_filter_le _ _
theorem take_nu {l : List Int} {j : Nat} (h : j < l.length) : l.take (j + 1) = l.take j ++ [nu l j] := by
  rw [List.take_add_one, List.getElem?_eq_getElem h, nu_get h]
  rfl
theorem take_us {l : List Ml} {j : Nat} (h : j < l.length) : (usM l).take (j + 1) = (usM l).take j ++ [(ml l j).u] := by
  rw [take_nu (by rw [us_len]; exact h), us_at h]
section
variable {m : Int} {t : TypeId} {fr : Nat × Nat}
theorem go_push {go : List Int} {u : Int} : BLe (.row 22 1 (go.length + 1) (rowApp go.length (nRow go) (rowOf [.lit (.int .u32 u)] 1))) (goR (go ++ [u])) := .row _ _ (by simp) fun p hp => nrow_push _ _ p hp
theorem ab_LR (l : List Ml) (x : Int) (hn : l.length ≤ 4294967280) (k i : Nat) (hk : i + k = l.length) :
    LR Tryd.prog (E21 (GG m t fr)) 60 (GG m t fr) 33 abOuts .normal (theLoop 0 Tryd.f37) ([.lit (.int .u32 x), .own 0, .gsl 6 l.length (mRow l), int l.length, int i], [goR (abI x ((usM l).take i))]) (.exit 0) ([.own 0], [goR (abI x (usM l))]) := by
  have hL := us_len l
  refine LR.fold (st := fun j : Nat => ([.lit (.int .u32 x), .own 0, .gsl 6 l.length (mRow l), int l.length, int j], [goR (abI x ((usM l).take j))])) (z := (.exit 0, ([.own 0], [goR (abI x (usM l))]))) (fun j hlt => ?_) ?_ (by simp) (by simp) k i hk
  · have hv := ab_round_v m t fr l (abI x ((usM l).take j)) x l.length j
    have hc := ab_round_c m t fr l (abI x ((usM l).take j)) x l.length j
    have hg := ab_len x ((usM l).take j)
    rw [List.length_take] at hg
    rw [lt_cast, decide_eq_true hlt, Int.toNat_natCast, wrap_succ (by omega)] at hv
    rw [lt_cast, decide_eq_true hlt, Int.toNat_natCast, in_rng hlt, Nat.ble_eq_true_of_le (show ((abI x ((usM l).take j)).length + 1) * 4 ≤ 140737488355328 by omega)] at hc
    simp only [Bool.cond_self, cond_true] at hc
    rw [take_us hlt, ab_snoc]
    cases hd : decide ((ml l j).u > x) with
    | true =>
      rw [hd] at hv
      exact ⟨_, Tr.run_vc hv hc rfl rfl, .refl _, BLeL.cons go_push .nil⟩
    | false =>
      rw [hd] at hv
      exact ⟨_, Tr.run_vc hv hc rfl rfl, .refl _, .refl _⟩
  · have hv := ab_round_v m t fr l (abI x ((usM l).take l.length)) x l.length l.length
    have hc := ab_round_c m t fr l (abI x ((usM l).take l.length)) x l.length l.length
    have e : (usM l).take l.length = usM l := by rw [← hL, List.take_length]
    rw [lt_cast, decide_eq_false (by omega)] at hv hc
    rw [e] at hv hc ⊢
    exact Tr.run_vc hv hc rfl rfl
def abF : Kept → Tr (Exit × Kept)
  | ([.lit (.int .u32 x), .own 0, p, .lit (.int .i64 u), .lit (.int .i64 0)], [.row tU 1 0 g]) => match rowP 6 p with
    | some (n, f) => .br (Nat.beq tU 22 && (areMls n f && (Nat.ble n 4294967280 && decide (u = n)))) (.leaf (.exit 0, ([.own 0], [goR (abI x (usM (mlsOf n f)))]))) .fail
    | none => .fail
  | _ => .fail
theorem abF_ok (x : Kept) (e : Exit) (y : Kept) (h : (abF x).run = some (e, y)) : LR Tryd.prog (E21 (GG m t fr)) 60 (GG m t fr) 33 abOuts .normal (theLoop 0 Tryd.f37) x e y := by
  unfold abF at h
  split at h
  · rename_i x p u tU g
    split at h
    · rename_i n f hq
      have hb := br_run h
      clear h
      obtain ⟨hc, h⟩ := hb
      simp only [Bool.and_eq_true, Nat.ble_eq, decide_eq_true_eq] at hc
      obtain ⟨hU, hf, hn, rfl⟩ := hc
      have hU := Nat.eq_of_beq_eq_true hU
      subst hU
      have hlen := mls_len n f
      have hle := (rowP_le hq).trans (PLe.gsl rfl (mls_row hf))
      generalize hL : mlsOf n f = l at hlen hle h
      subst hlen
      simp only [Tr.run, Option.some.injEq, Prod.mk.injEq] at h
      obtain ⟨rfl, rfl⟩ := h
      have key := ab_LR (m := m) (t := t) (fr := fr) l x hn l.length 0 (by omega)
      exact .le ⟨.cons (.refl _) (PLeL.cons (.refl _) (PLeL.cons hle (.refl _))), BLeL.cons (.row _ _ (by simp [abI]) fun i hi => by omega) .nil⟩ key
    · cases h
  · cases h
theorem ui_LR (l : List Ml) (hn : l.length ≤ 4294967280) (k i : Nat) (hk : i + k = l.length) :
    LR Tryd.prog (E21 (GG m t fr)) 60 (GG m t fr) 24 uiOuts .normal (theLoop 0 Tryd.f23) ([.own 0, .gsl 6 l.length (mRow l), int l.length, int i], [goR ((usM l).take i)]) (.exit 0) ([.own 0], [goR (usM l)]) := by
  have hL := us_len l
  refine LR.fold (st := fun j : Nat => ([.own 0, .gsl 6 l.length (mRow l), int l.length, int j], [goR ((usM l).take j)])) (z := (.exit 0, ([.own 0], [goR (usM l)]))) (fun j hlt => ?_) ?_ (by simp) (by simp) k i hk
  · have hv := ui_round_v m t fr l ((usM l).take j) l.length j
    have hc := ui_round_c m t fr l ((usM l).take j) l.length j
    have hg : ((usM l).take j).length ≤ j := by rw [List.length_take]; omega
    rw [lt_cast, decide_eq_true hlt, Int.toNat_natCast, wrap_succ (by omega)] at hv
    rw [lt_cast, decide_eq_true hlt, Int.toNat_natCast, in_rng hlt, Nat.ble_eq_true_of_le (show (((usM l).take j).length + 1) * 4 ≤ 140737488355328 by omega)] at hc
    rw [take_us hlt]
    exact ⟨_, Tr.run_vc hv hc rfl rfl, .refl _, BLeL.cons go_push .nil⟩
  · have hv := ui_round_v m t fr l ((usM l).take l.length) l.length l.length
    have hc := ui_round_c m t fr l ((usM l).take l.length) l.length l.length
    have e : (usM l).take l.length = usM l := by rw [← hL, List.take_length]
    rw [lt_cast, decide_eq_false (by omega)] at hv hc
    rw [e] at hv hc ⊢
    exact Tr.run_vc hv hc rfl rfl
def uiF : Kept → Tr (Exit × Kept)
  | ([.own 0, p, .lit (.int .i64 u), .lit (.int .i64 0)], [.row tU 1 0 g]) => match rowP 6 p with
    | some (n, f) => .br (Nat.beq tU 22 && (areMls n f && (Nat.ble n 4294967280 && decide (u = n)))) (.leaf (.exit 0, ([.own 0], [goR (usM (mlsOf n f))]))) .fail
    | none => .fail
  | _ => .fail
theorem uiF_ok (x : Kept) (e : Exit) (y : Kept) (h : (uiF x).run = some (e, y)) : LR Tryd.prog (E21 (GG m t fr)) 60 (GG m t fr) 24 uiOuts .normal (theLoop 0 Tryd.f23) x e y := by
  unfold uiF at h
  split at h
  · rename_i p u tU g
    split at h
    · rename_i n f hq
      have hb := br_run h
      clear h
      obtain ⟨hc, h⟩ := hb
      simp only [Bool.and_eq_true, Nat.ble_eq, decide_eq_true_eq] at hc
      obtain ⟨hU, hf, hn, rfl⟩ := hc
      have hU := Nat.eq_of_beq_eq_true hU
      subst hU
      have hlen := mls_len n f
      have hle := (rowP_le hq).trans (PLe.gsl rfl (mls_row hf))
      generalize hL : mlsOf n f = l at hlen hle h
      subst hlen
      simp only [Tr.run, Option.some.injEq, Prod.mk.injEq] at h
      obtain ⟨rfl, rfl⟩ := h
      have key := ui_LR (m := m) (t := t) (fr := fr) l hn l.length 0 (by omega)
      exact .le ⟨.cons (.refl _) (PLeL.cons hle (.refl _)), BLeL.cons (.row _ _ (by simp) fun i hi => by omega) .nil⟩ key
    · cases h
  · cases h
theorem rc_LR (l : List Int) (v nx x la w : Int) (hn : l.length ≤ 4294967280) (k i : Nat) (hk : i + k = l.length) :
    LR Tryd.prog (E21 (GG m t fr)) 60 (GG m t fr) 31 rcOuts .normal (theLoop 0 Tryd.f27) ([.ptr 0 0, int w, .own 1, .gsl 1 l.length (nRow l), int l.length, int i], [rkB v nx x la .junk, goR (abI x (l.take i))]) (.exit 0) ([int w, .own 0], [goR (abI x l)]) := by
  refine LR.fold (st := fun j : Nat => ([.ptr 0 0, int w, .own 1, .gsl 1 l.length (nRow l), int l.length, int j], [rkB v nx x la .junk, goR (abI x (l.take j))])) (z := (.exit 0, ([int w, .own 0], [goR (abI x l)]))) (fun j hlt => ?_) ?_ (by simp) (by simp) k i hk
  · have hv := rc_round_v m t fr l (abI x (l.take j)) v nx x la w l.length j
    have hc := rc_round_c m t fr l (abI x (l.take j)) v nx x la w l.length j
    have hg := ab_len x (l.take j)
    rw [List.length_take] at hg
    rw [lt_cast, decide_eq_true hlt, Int.toNat_natCast, wrap_succ (by omega)] at hv
    rw [lt_cast, decide_eq_true hlt, Int.toNat_natCast, in_rng hlt, Nat.ble_eq_true_of_le (show ((abI x (l.take j)).length + 1) * 4 ≤ 140737488355328 by omega)] at hc
    simp only [Bool.cond_self, cond_true] at hc
    rw [take_nu hlt, ab_snoc]
    cases hd : decide (nu l j > x) with
    | true =>
      rw [hd] at hv
      exact ⟨_, Tr.run_vc hv hc rfl rfl, .refl _, BLeL.cons (.refl _) (BLeL.cons go_push .nil)⟩
    | false =>
      rw [hd] at hv
      exact ⟨_, Tr.run_vc hv hc rfl rfl, .refl _, .refl _⟩
  · have hv := rc_round_v m t fr l (abI x (l.take l.length)) v nx x la w l.length l.length
    have hc := rc_round_c m t fr l (abI x (l.take l.length)) v nx x la w l.length l.length
    rw [lt_cast, decide_eq_false (by omega)] at hv hc
    rw [List.take_length] at hv hc ⊢
    exact Tr.run_vc hv hc rfl rfl
def rcF : Kept → Tr (Exit × Kept)
  | ([.ptr 0 0, .lit (.int .i64 w), .own 1, p, .lit (.int .i64 u), .lit (.int .i64 0)], [.cells tB [.lit (.int .u32 v), .lit (.int .u64 nx), .lit (.int .u32 x), .lit (.int .u32 la), q], .row tU 1 0 g]) => match rowP 1 p with
    | some (n, f) => .br (Nat.beq tB 26 && (Nat.beq tU 22 && (areNums n f && (Nat.ble n 4294967280 && decide (u = n))))) (.leaf (.exit 0, ([int w, .own 0], [goR (abI x (numsOf n f))]))) .fail
    | none => .fail
  | _ => .fail
theorem rcF_ok (x : Kept) (e : Exit) (y : Kept) (h : (rcF x).run = some (e, y)) : LR Tryd.prog (E21 (GG m t fr)) 60 (GG m t fr) 31 rcOuts .normal (theLoop 0 Tryd.f27) x e y := by
  unfold rcF at h
  split at h
  · rename_i w p u tB v nx x la q tU g
    split at h
    · rename_i n f hq
      have hb := br_run h
      clear h
      obtain ⟨hc, h⟩ := hb
      simp only [Bool.and_eq_true, Nat.ble_eq, decide_eq_true_eq] at hc
      obtain ⟨hB, hU, hf, hn, rfl⟩ := hc
      have hU := Nat.eq_of_beq_eq_true hU
      have hB := Nat.eq_of_beq_eq_true hB
      subst hU hB
      have hlen := nums_len n f
      have hle := (rowP_le hq).trans (PLe.gsl rfl (nums_row hf))
      generalize hL : numsOf n f = l at hlen hle h
      subst hlen
      simp only [Tr.run, Option.some.injEq, Prod.mk.injEq] at h
      obtain ⟨rfl, rfl⟩ := h
      have key := rc_LR (m := m) (t := t) (fr := fr) l v nx x la w hn l.length 0 (by omega)
      exact .le ⟨.cons (.refl _) (PLeL.cons (.refl _) (PLeL.cons (.refl _) (PLeL.cons hle (.refl _)))), BLeL.cons (.cells _ (.cons (.refl _) (.cons (.refl _) (.cons (.refl _) (.cons (.refl _) (.cons (.junk _) .nil)))))) (BLeL.cons (.row _ _ (by simp [abI]) fun i hi => by omega) .nil)⟩ key
    · cases h
  · cases h
theorem up_raw_v (m : Int) (t : TypeId) (fr : Nat × Nat) (b : Bx) (x : Int) : ((fnPure Tryd.prog ((E21 (GG m t fr)).withCuts (cut1 0 (cutOf (GG m t fr) 33 abOuts 0 abF))) 60 Tryd.f37 (GG m t fr) [bxP b, .lit (.int .u32 x)])).val =
 (bif (bne (chkE (.mk (Bx.v b) (Bx.nx b) (Bx.ma b) (Bx.la b) (mlsOf (List.length (Bx.l b)) (mRow (Bx.l b))))) (0 : Int)) then
 (.some (.tup [(.lit (.slice .none 0 0)), (.lit (.int .i64 (chkE (.mk (Bx.v b) (Bx.nx b) (Bx.ma b) (Bx.la b) (mlsOf (List.length (Bx.l b)) (mRow (Bx.l b)))))))]))
 else (.some (.tup [(.gsl 1 (List.length (abI x (usM (mlsOf (List.length (Bx.l b)) (mRow (Bx.l b)))))) (nRow (abI x (usM (mlsOf (List.length (Bx.l b)) (mRow (Bx.l b))))))), (.lit (.int .i64 (0 : Int)))])) : Option PV) := by
  kernel_rfl
theorem up_raw_c (m : Int) (t : TypeId) (fr : Nat × Nat) (b : Bx) (x : Int) : ((fnPure Tryd.prog ((E21 (GG m t fr)).withCuts (cut1 0 (cutOf (GG m t fr) 33 abOuts 0 abF))) 60 Tryd.f37 (GG m t fr) [bxP b, .lit (.int .u32 x)])).conds =
 (bif (bxGd (Bx.v b) (Bx.nx b) (Bx.ma b) (Bx.la b) (List.length (Bx.l b)) (mRow (Bx.l b))) then
 bif (bne (chkE (.mk (Bx.v b) (Bx.nx b) (Bx.ma b) (Bx.la b) (mlsOf (List.length (Bx.l b)) (mRow (Bx.l b))))) (0 : Int)) then
 true
 else bif ((areMls (List.length (Bx.l b)) (mRow (Bx.l b))) && ((Nat.ble (List.length (Bx.l b)) (4294967280 : Nat)) && (decide ((((List.length (Bx.l b)) : Nat) : Int) = (((List.length (Bx.l b)) : Nat) : Int))))) then
 true
 else false
 else false : Bool) := by
  kernel_rfl
theorem ui_raw_v (m : Int) (t : TypeId) (fr : Nat × Nat) (b : Bx) : ((fnPure Tryd.prog ((E21 (GG m t fr)).withCuts (cut1 0 (cutOf (GG m t fr) 24 uiOuts 0 uiF))) 60 Tryd.f23 (GG m t fr) [bxP b])).val =
 (bif (bne (chkE (.mk (Bx.v b) (Bx.nx b) (Bx.ma b) (Bx.la b) (mlsOf (List.length (Bx.l b)) (mRow (Bx.l b))))) (0 : Int)) then
 (.some (.tup [(.lit (.slice .none 0 0)), (.lit (.int .i64 (2 : Int)))]))
 else (.some (.tup [(.gsl 1 (List.length (usM (mlsOf (List.length (Bx.l b)) (mRow (Bx.l b))))) (nRow (usM (mlsOf (List.length (Bx.l b)) (mRow (Bx.l b)))))), (.lit (.int .i64 (0 : Int)))])) : Option PV) := by
  kernel_rfl
theorem ui_raw_c (m : Int) (t : TypeId) (fr : Nat × Nat) (b : Bx) : ((fnPure Tryd.prog ((E21 (GG m t fr)).withCuts (cut1 0 (cutOf (GG m t fr) 24 uiOuts 0 uiF))) 60 Tryd.f23 (GG m t fr) [bxP b])).conds =
 (bif (bxGd (Bx.v b) (Bx.nx b) (Bx.ma b) (Bx.la b) (List.length (Bx.l b)) (mRow (Bx.l b))) then
 bif (bne (chkE (.mk (Bx.v b) (Bx.nx b) (Bx.ma b) (Bx.la b) (mlsOf (List.length (Bx.l b)) (mRow (Bx.l b))))) (0 : Int)) then
 true
 else bif ((areMls (List.length (Bx.l b)) (mRow (Bx.l b))) && ((Nat.ble (List.length (Bx.l b)) (4294967280 : Nat)) && (decide ((((List.length (Bx.l b)) : Nat) : Int) = (((List.length (Bx.l b)) : Nat) : Int))))) then
 true
 else false
 else false : Bool) := by
  kernel_rfl
end
end Go.Proofs.YtlngnfkjpfokhaaDoor.Ev

/- A box is asked: where a mail stands; whether two are one; contracts. No condition. -/
namespace Go.Proofs.YtlngnfkjpfokhaaDoor.Ev
open Go Go.RowKit Go.Proofs Go.Proofs.YtlngnfkjpfokhaaDoor.Str
set_option linter.unusedVariables false
set_option linter.unusedSimpArgs false
section
variable {m : Int} {t : TypeId} {fr : Nat × Nat}
/-! ### numbers: contracts -/
def upL (b : Bx) (x : Int) : List Int := bif chkE b == 0 then abI x (usM b.l) else []
def uiL (b : Bx) : List Int := bif chkE b == 0 then usM b.l else []
def numsP (l : List Int) : PV := .gsl 1 l.length (nRow l)
def upG : List PV → Tr PV
  | [p, .lit (.int .u32 x)] => match bxOf p with
    | some (v, nx, mk, la, n, f) => .br (bxGd v nx mk la n f) (.leaf (.tup [numsP (upL ⟨v, nx, mk, la, mlsOf n f⟩ x), int (chkE ⟨v, nx, mk, la, mlsOf n f⟩)])) .fail
    | none => .fail
  | _ => .fail
def ruiG : List PV → Tr PV
  | [p] => match bxOf p with
    | some (v, nx, mk, la, n, f) => .br (bxGd v nx mk la n f) (.leaf (.tup [numsP (uiL ⟨v, nx, mk, la, mlsOf n f⟩), int (chkE ⟨v, nx, mk, la, mlsOf n f⟩)])) .fail
    | none => .fail
  | _ => .fail
theorem chk_or (b : Bx) : chkE b = 0 ∨ chkE b = 2 := by
  unfold chkE
  cases bxOk b
  · exact .inr rfl
  · exact .inl rfl
theorem bx_eta (b : Bx) : (⟨b.v, b.nx, b.ma, b.la, b.l⟩ : Bx) = b := rfl
theorem up_ok : PureOK Tryd.prog (GG m t fr) 37 upG := by
  intro ps p hp
  unfold upG at hp
  split at hp
  · rename_i p0 x
    split at hp
    · rename_i v nx mk la n f hb
      have hbr := br_run hp
      clear hp
      obtain ⟨hc, hq⟩ := hbr
      simp only [Tr.run, Option.some.injEq] at hq
      subst hq
      obtain ⟨hle, hR⟩ := bxOf_le hb hc
      generalize hB : (⟨v, nx, mk, la, mlsOf n f⟩ : Bx) = b at hle hR
      obtain ⟨r1, r2, r3, r4, r5, r6⟩ := bxR_at hR
      have hv := up_raw_v m t fr b x
      have hcc := up_raw_c m t fr b x
      have hg := bxGd_of hR
      simp only [mls_mRow, bx_eta] at hv hcc
      rw [hg, are_mRow r5, Nat.ble_eq_true_of_le r6] at hcc
      simp only [decide_true, Bool.and_self, Bool.cond_self, cond_true] at hcc
      have hok := fn_cuts mixed (E21_ok (m := m) (t := t) (fr := fr)) (f := 37) (fn := Tryd.f37) (cuts := cut1 0 (cutOf (GG m t fr) 33 abOuts 0 abF)) (by kernel_rfl) (CutLaws.one (by omega) (by kernel_rfl) fun st e st' h => cutOf_ok E21_ok mixed (noCuts_ok (envOf_cuts ..) _) abF_ok h)
      rcases chk_or b with h | h
      · rw [h] at hv
        refine ((hok _ _ (Tr.run_vc hv hcc rfl rfl)).pre (.cons hle (.refl _))).post ?_
        unfold upL
        rw [h]
        exact .refl _
      · rw [h] at hv
        refine ((hok _ _ (Tr.run_vc hv hcc rfl rfl)).pre (.cons hle (.refl _))).post ?_
        unfold upL
        rw [h]
        exact PLe.tup (.cons (PLe.nil 1 _) (.refl _))
    · cases hp
  · cases hp
theorem rui_ok : PureOK Tryd.prog (GG m t fr) 23 ruiG := by
  intro ps p hp
  unfold ruiG at hp
  split at hp
  · split at hp
    · rename_i v nx mk la n f hb
      have hbr := br_run hp
      clear hp
      obtain ⟨hc, hq⟩ := hbr
      simp only [Tr.run, Option.some.injEq] at hq
      subst hq
      obtain ⟨hle, hR⟩ := bxOf_le hb hc
      generalize hB : (⟨v, nx, mk, la, mlsOf n f⟩ : Bx) = b at hle hR
      obtain ⟨r1, r2, r3, r4, r5, r6⟩ := bxR_at hR
      have hv := ui_raw_v m t fr b
      have hcc := ui_raw_c m t fr b
      have hg := bxGd_of hR
      simp only [mls_mRow, bx_eta] at hv hcc
      rw [hg, are_mRow r5, Nat.ble_eq_true_of_le r6] at hcc
      simp only [decide_true, Bool.and_self, Bool.cond_self, cond_true] at hcc
      have hok := fn_cuts mixed (E21_ok (m := m) (t := t) (fr := fr)) (f := 23) (fn := Tryd.f23) (cuts := cut1 0 (cutOf (GG m t fr) 24 uiOuts 0 uiF)) (by kernel_rfl) (CutLaws.one (by omega) (by kernel_rfl) fun st e st' h => cutOf_ok E21_ok mixed (noCuts_ok (envOf_cuts ..) _) uiF_ok h)
      rcases chk_or b with h | h
      · rw [h] at hv
        refine ((hok _ _ (Tr.run_vc hv hcc rfl rfl)).pre (.cons hle .nil)).post ?_
        unfold uiL
        rw [h]
        exact .refl _
      · rw [h] at hv
        refine ((hok _ _ (Tr.run_vc hv hcc rfl rfl)).pre (.cons hle .nil)).post ?_
        unfold uiL
        rw [h]
        exact PLe.tup (.cons (PLe.nil 1 _) (.refl _))
    · cases hp
  · cases hp
/-! ### where a mail stands -/
def fsI (l : List Int) (u : Int) : Nat := (l.takeWhile fun x => !(x == u)).length
theorem fs_lt {l : List Int} {u : Int} {j : Nat} (h : j < fsI l u) : (nu l j == u) = false := by
  have hp := List.takeWhile_prefix (fun x => !(x == u)) (l := l)
  have h1 : j < l.length := Nat.lt_of_lt_of_le h hp.length_le
  unfold fsI at h
  have e := hp.getElem h
  have := List.all_eq_true.1 (List.all_takeWhile (p := fun x => !(x == u)) (l := l)) _ (List.getElem_mem h)
  rw [nu_get h1, ← e]
  simpa using this
theorem fs_at {u : Int} : ∀ {l : List Int}, fsI l u < l.length → (nu l (fsI l u) == u) = true
  | [], h => by simp [fsI] at h
  | x :: r, h => by
    unfold fsI at h ⊢
    rw [List.takeWhile_cons] at h ⊢
    cases hx : x == u with
    | true => simpa [nu] using hx
    | false =>
      rw [hx] at h
      simp only [Bool.not_false, if_true, List.length_cons] at h ⊢
      have := fs_at (u := u) (l := r) (by unfold fsI; omega)
      unfold fsI at this
      simpa [nu] using this
theorem fs_in (l : List Int) (u : Int) : inI l u = decide (fsI l u < l.length) := by
  unfold inI
  refine decide_eq_decide.2 ⟨fun h => ?_, fun h => ?_⟩
  · obtain ⟨k, hk, rfl⟩ := List.mem_iff_getElem.1 h
    refine Classical.byContradiction fun hn => ?_
    have := fs_lt (l := l) (u := l[k]) (j := k) (by omega)
    rw [nu_get hk] at this
    simp at this
  · have := fs_at h
    rw [nu_get h] at this
    have := eq_of_beq this
    rw [← this]
    exact List.getElem_mem h
/-- the first one is the only one, in a list that rises -/
theorem fs_lb {l : List Int} (hl : l.Pairwise (· < ·)) {u : Int} (h : inI l u = true) : fsI l u = lbI l u := by
  have h1 := h
  rw [fs_in] at h1
  have h1 := of_decide_eq_true h1
  have h2 := eq_of_beq (fs_at h1)
  rw [lb_in hl] at h
  simp only [Bool.and_eq_true, decide_eq_true_eq] at h
  obtain ⟨h3, h4⟩ := h
  rw [nu_get h1] at h2
  rw [nu_get h3] at h4
  rcases Nat.lt_trichotomy (fsI l u) (lbI l u) with h5 | h5 | h5
  · have := List.pairwise_iff_getElem.1 hl _ _ h1 h3 h5
    omega
  · exact h5
  · have := List.pairwise_iff_getElem.1 hl _ _ h3 h1 h5
    omega
def plBad (l : List Ml) (x : Int) (i : Nat) : Option (Exit × Kept) := bif (ml l i).u == x then some (.ret, ([int ((i + 1 : Nat) : Int), int 0], [])) else none
theorem pl_LR (l : List Ml) (x : Int) (hn : l.length ≤ 4294967280) (k i : Nat) (hk : i + k = l.length) :
    LR Tryd.prog (E21 (GG m t fr)) 60 (GG m t fr) 26 plOuts .normal (theLoop 0 Tryd.f25) ([.lit (.int .u32 x), .gsl 6 l.length (mRow l), int l.length, int i], [])
      (scanR (plBad l x) (.exit 0, ([], [])) k i).1 (scanR (plBad l x) (.exit 0, ([], [])) k i).2 := by
  refine LR.scan2 (s := 0) (K := l.length) (st := fun j : Nat => ([.lit (.int .u32 x), .gsl 6 l.length (mRow l), int l.length, int j], [])) (fun j h1 hlt => ?_) (fun j r hb => ?_) ?_ (by simp) (by simp) k i (by omega) hk
  · have hv := pl_round_v m t fr l x l.length j
    have hc := pl_round_c m t fr l x l.length j
    rw [lt_cast, decide_eq_true hlt, Int.toNat_natCast, wrap_succ (by omega)] at hv
    rw [lt_cast, decide_eq_true hlt, Int.toNat_natCast, in_rng hlt] at hc
    unfold plBad
    cases hd : (ml l j).u == x <;> (rw [hd] at hv hc; exact Tr.run_vc hv hc rfl rfl)
  · unfold plBad at hb
    cases hd : (ml l j).u == x <;> (rw [hd] at hb; cases hb)
    exact ⟨by simp, by simp⟩
  · have hv := pl_round_v m t fr l x l.length l.length
    have hc := pl_round_c m t fr l x l.length l.length
    rw [lt_cast, decide_eq_false (by omega)] at hv hc
    exact Tr.run_vc hv hc rfl rfl
def fnBad (l : List Ml) (x : Int) (i : Nat) : Option (Exit × Kept) := bif (ml l i).u == x then some (.ret, ([.ptr 0 0, int 0], [msC (ml l i)])) else none
theorem fn_LR (l : List Ml) (x : Int) (hn : l.length ≤ 4294967280) (k i : Nat) (hk : i + k = l.length) :
    LR Tryd.prog (E21 (GG m t fr)) 60 (GG m t fr) 26 fnOuts .normal (theLoop 0 Tryd.f21) ([.lit (.int .u32 x), .ptr 0 0, .gsl 6 l.length (mRow l), int l.length, int i], [msC mlZ])
      (scanR (fnBad l x) (.exit 0, ([.ptr 0 0], [msC mlZ])) k i).1 (scanR (fnBad l x) (.exit 0, ([.ptr 0 0], [msC mlZ])) k i).2 := by
  refine LR.scan2 (s := 0) (K := l.length) (st := fun j : Nat => ([.lit (.int .u32 x), .ptr 0 0, .gsl 6 l.length (mRow l), int l.length, int j], [msC mlZ])) (fun j h1 hlt => ?_) (fun j r hb => ?_) ?_ (by simp) (by simp) k i (by omega) hk
  · have hv := fn_round_v m t fr l x l.length j
    have hc := fn_round_c m t fr l x l.length j
    rw [lt_cast, decide_eq_true hlt, Int.toNat_natCast, wrap_succ (by omega)] at hv
    rw [lt_cast, decide_eq_true hlt, Int.toNat_natCast, in_rng hlt] at hc
    unfold fnBad
    cases hd : (ml l j).u == x <;> (rw [hd] at hv hc; exact Tr.run_vc hv hc rfl rfl)
  · unfold fnBad at hb
    cases hd : (ml l j).u == x <;> (rw [hd] at hb; cases hb)
    exact ⟨by simp, by simp⟩
  · have hv := fn_round_v m t fr l x l.length l.length
    have hc := fn_round_c m t fr l x l.length l.length
    rw [lt_cast, decide_eq_false (by omega)] at hv hc
    exact Tr.run_vc hv hc rfl rfl
theorem at_scan {l : List Ml} {x : Int} {r : Nat → Exit × Kept} {z : Exit × Kept} : scanR (fun i => bif (ml l i).u == x then some (r i) else none) z l.length 0 = bif inI (usM l) x then r (fsI (usM l) x) else z := by
  rw [fs_in, us_len]
  by_cases h : fsI (usM l) x < l.length
  · rw [decide_eq_true h]
    refine scanR_at (j := fsI (usM l) x) (Nat.zero_le _) (by omega) ?_ fun j h1 h2 => ?_
    · rw [← us_at h, fs_at (by rw [us_len]; exact h)]
      rfl
    · rw [← us_at (by omega), fs_lt h2]
      rfl
  · rw [decide_eq_false h]
    refine scanR_all fun j h1 h2 => ?_
    rw [← us_at (by omega), fs_lt (by omega)]
    rfl
def plF : Kept → Tr (Exit × Kept)
  | ([.lit (.int .u32 x), p, .lit (.int .i64 u), .lit (.int .i64 0)], []) => match rowP 6 p with
    | some (n, f) => .br (areMls n f && (Nat.ble n 4294967280 && decide (u = n))) (.br (inI (usM (mlsOf n f)) x) (.leaf (.ret, ([int ((fsI (usM (mlsOf n f)) x + 1 : Nat) : Int), int 0], []))) (.leaf (.exit 0, ([], [])))) .fail
    | none => .fail
  | _ => .fail
theorem plF_ok (x : Kept) (e : Exit) (y : Kept) (h : (plF x).run = some (e, y)) : LR Tryd.prog (E21 (GG m t fr)) 60 (GG m t fr) 26 plOuts .normal (theLoop 0 Tryd.f25) x e y := by
  unfold plF at h
  split at h
  · rename_i x p u
    split at h
    · rename_i n f hq
      have hb := br_run h
      clear h
      obtain ⟨hc, h⟩ := hb
      simp only [Bool.and_eq_true, Nat.ble_eq, decide_eq_true_eq] at hc
      obtain ⟨hf, hn, rfl⟩ := hc
      have hlen := mls_len n f
      have hle := (rowP_le hq).trans (PLe.gsl rfl (mls_row hf))
      generalize hL : mlsOf n f = l at hlen hle h
      subst hlen
      have key := pl_LR (m := m) (t := t) (fr := fr) l x hn l.length 0 (by omega)
      have e1 : scanR (plBad l x) (.exit 0, ([], [])) l.length 0 = _ := at_scan
      rw [e1] at key
      cases hr : inI (usM l) x with
      | true =>
        rw [hr] at key h
        simp only [Tr.run, cond_true, Option.some.injEq, Prod.mk.injEq] at h
        obtain ⟨rfl, rfl⟩ := h
        exact .le ⟨.cons (.refl _) (PLeL.cons hle (.refl _)), .nil⟩ key
      | false =>
        rw [hr] at key h
        simp only [Tr.run, cond_false, Option.some.injEq, Prod.mk.injEq] at h
        obtain ⟨rfl, rfl⟩ := h
        exact .le ⟨.cons (.refl _) (PLeL.cons hle (.refl _)), .nil⟩ key
    · cases h
  · cases h
def fnF : Kept → Tr (Exit × Kept)
  | ([.lit (.int .u32 x), .ptr 0 0, p, .lit (.int .i64 u), .lit (.int .i64 0)], [.cells tM [.lit (.int .u32 0), .lit (.int .u8 0), .lit (.int .i64 0), .lit (.int .i64 0), .lit (.int .i64 0), .lit (.string s)]]) => match rowP 6 p with
    | some (n, f) => .br (Nat.beq tM 47 && (Nat.beq s.size 0 && (areMls n f && (Nat.ble n 4294967280 && decide (u = n))))) (.br (inI (usM (mlsOf n f)) x) (.leaf (.ret, ([.ptr 0 0, int 0], [msC (ml (mlsOf n f) (fsI (usM (mlsOf n f)) x))]))) (.leaf (.exit 0, ([.ptr 0 0], [msC mlZ])))) .fail
    | none => .fail
  | _ => .fail
theorem size_zero {s : ByteArray} (h : Nat.beq s.size 0 = true) : s = ⟨#[]⟩ := by
  have h := Nat.eq_of_beq_eq_true h
  refine ls_inj ?_
  have : (ls s).length = 0 := by rw [ls_len]; exact h
  rw [List.length_eq_zero_iff.1 this]
  rfl
theorem fnF_ok (x : Kept) (e : Exit) (y : Kept) (h : (fnF x).run = some (e, y)) : LR Tryd.prog (E21 (GG m t fr)) 60 (GG m t fr) 26 fnOuts .normal (theLoop 0 Tryd.f21) x e y := by
  unfold fnF at h
  split at h
  · rename_i x p u tM s
    split at h
    · rename_i n f hq
      have hb := br_run h
      clear h
      obtain ⟨hc, h⟩ := hb
      simp only [Bool.and_eq_true, Nat.ble_eq, decide_eq_true_eq] at hc
      obtain ⟨hM, hs, hf, hn, rfl⟩ := hc
      have hM := Nat.eq_of_beq_eq_true hM
      have hs := size_zero hs
      subst hM hs
      have hlen := mls_len n f
      have hle := (rowP_le hq).trans (PLe.gsl rfl (mls_row hf))
      generalize hL : mlsOf n f = l at hlen hle h
      subst hlen
      have key := fn_LR (m := m) (t := t) (fr := fr) l x hn l.length 0 (by omega)
      have e1 : scanR (fnBad l x) (.exit 0, ([.ptr 0 0], [msC mlZ])) l.length 0 = _ := at_scan
      rw [e1] at key
      cases hr : inI (usM l) x with
      | true =>
        rw [hr] at key h
        simp only [Tr.run, cond_true, Option.some.injEq, Prod.mk.injEq] at h
        obtain ⟨rfl, rfl⟩ := h
        exact LR.le2 (.cons (.refl _) (PLeL.cons (.refl _) (PLeL.cons hle (.refl _)))) (.refl _) key
      | false =>
        rw [hr] at key h
        simp only [Tr.run, cond_false, Option.some.injEq, Prod.mk.injEq] at h
        obtain ⟨rfl, rfl⟩ := h
        exact LR.le2 (.cons (.refl _) (PLeL.cons (.refl _) (PLeL.cons hle (.refl _)))) (.refl _) key
    · cases h
  · cases h
def bxPure : List (Nat × (List PV → Tr PV)) := (37, upG) :: (23, ruiG) :: bsPure
theorem bxPure_ok {m : Int} {t : TypeId} {fr : Nat × Nat} : TabOK Tryd.prog (GG m t fr) bxPure := (TabOK.cons up_ok (fn := Tryd.f37) (by kernel_rfl) (by kernel_rfl) (TabOK.cons rui_ok (fn := Tryd.f23) (by kernel_rfl) (by kernel_rfl) bsPure_ok))
noncomputable abbrev E22 (G : GT) : Env := envOf Tryd.prog G bxPure bvFull
theorem E22_ok : (E22 (GG m t fr)).ok Tryd.prog (GG m t fr) := envOf_ok mixed bxPure_ok bvFull_ok
theorem rpl_raw_v (m : Int) (t : TypeId) (fr : Nat × Nat) (b : Bx) (x : Int) : ((fnPure Tryd.prog ((E22 (GG m t fr)).withCuts (cut1 0 (cutOf (GG m t fr) 26 plOuts 0 plF))) 60 Tryd.f25 (GG m t fr) [bxP b, .lit (.int .u32 x)])).val =
 (bif (bne (chkE (.mk (Bx.v b) (Bx.nx b) (Bx.ma b) (Bx.la b) (mlsOf (List.length (Bx.l b)) (mRow (Bx.l b))))) (0 : Int)) then
 (.some (.tup [(.lit (.int .i64 (0 : Int))), (.lit (.int .i64 (2 : Int)))]))
 else bif (inI (usM (mlsOf (List.length (Bx.l b)) (mRow (Bx.l b)))) x) then
 (.some (.tup [(.lit (.int .i64 ((((fsI (usM (mlsOf (List.length (Bx.l b)) (mRow (Bx.l b)))) x) + 1) : Nat) : Int))), (.lit (.int .i64 (0 : Int)))]))
 else (.some (.tup [(.lit (.int .i64 (0 : Int))), (.lit (.int .i64 (3 : Int)))])) : Option PV) := by
  kernel_rfl
theorem rpl_raw_c (m : Int) (t : TypeId) (fr : Nat × Nat) (b : Bx) (x : Int) : ((fnPure Tryd.prog ((E22 (GG m t fr)).withCuts (cut1 0 (cutOf (GG m t fr) 26 plOuts 0 plF))) 60 Tryd.f25 (GG m t fr) [bxP b, .lit (.int .u32 x)])).conds =
 (bif (bxGd (Bx.v b) (Bx.nx b) (Bx.ma b) (Bx.la b) (List.length (Bx.l b)) (mRow (Bx.l b))) then
 bif (bne (chkE (.mk (Bx.v b) (Bx.nx b) (Bx.ma b) (Bx.la b) (mlsOf (List.length (Bx.l b)) (mRow (Bx.l b))))) (0 : Int)) then
 true
 else bif ((areMls (List.length (Bx.l b)) (mRow (Bx.l b))) && ((Nat.ble (List.length (Bx.l b)) (4294967280 : Nat)) && (decide ((((List.length (Bx.l b)) : Nat) : Int) = (((List.length (Bx.l b)) : Nat) : Int))))) then
 bif (inI (usM (mlsOf (List.length (Bx.l b)) (mRow (Bx.l b)))) x) then
 true
 else true
 else false
 else false : Bool) := by
  kernel_rfl
theorem rfn_raw_v (m : Int) (t : TypeId) (fr : Nat × Nat) (b : Bx) (x : Int) : ((fnPure Tryd.prog ((E22 (GG m t fr)).withCuts (cut1 0 (cutOf (GG m t fr) 26 fnOuts 0 fnF))) 60 Tryd.f21 (GG m t fr) [bxP b, .lit (.int .u32 x)])).val =
 (bif (bne (chkE (.mk (Bx.v b) (Bx.nx b) (Bx.ma b) (Bx.la b) (mlsOf (List.length (Bx.l b)) (mRow (Bx.l b))))) (0 : Int)) then
 (.some (.tup [(.agg [(.lit (.int .u32 (0 : Int))), (.lit (.int .u8 (0 : Int))), (.lit (.int .i64 (0 : Int))), (.lit (.int .i64 (0 : Int))), (.lit (.int .i64 (0 : Int))), (.lit (.string (.mk (List.toArray []))))]), (.lit (.int .i64 (2 : Int)))]))
 else bif (inI (usM (mlsOf (List.length (Bx.l b)) (mRow (Bx.l b)))) x) then
 (.some (.tup [(.agg [(.lit (.int .u32 (Ml.u (ml (mlsOf (List.length (Bx.l b)) (mRow (Bx.l b))) (fsI (usM (mlsOf (List.length (Bx.l b)) (mRow (Bx.l b)))) x))))), (.lit (.int .u8 (Ml.f (ml (mlsOf (List.length (Bx.l b)) (mRow (Bx.l b))) (fsI (usM (mlsOf (List.length (Bx.l b)) (mRow (Bx.l b)))) x))))), (.lit (.int .i64 (Ml.d (ml (mlsOf (List.length (Bx.l b)) (mRow (Bx.l b))) (fsI (usM (mlsOf (List.length (Bx.l b)) (mRow (Bx.l b)))) x))))), (.lit (.int .i64 (Ml.s (ml (mlsOf (List.length (Bx.l b)) (mRow (Bx.l b))) (fsI (usM (mlsOf (List.length (Bx.l b)) (mRow (Bx.l b)))) x))))), (.lit (.int .i64 (Ml.z (ml (mlsOf (List.length (Bx.l b)) (mRow (Bx.l b))) (fsI (usM (mlsOf (List.length (Bx.l b)) (mRow (Bx.l b)))) x))))), (.lit (.string (Ml.r (ml (mlsOf (List.length (Bx.l b)) (mRow (Bx.l b))) (fsI (usM (mlsOf (List.length (Bx.l b)) (mRow (Bx.l b)))) x)))))]), (.lit (.int .i64 (0 : Int)))]))
 else (.some (.tup [(.agg [(.lit (.int .u32 (0 : Int))), (.lit (.int .u8 (0 : Int))), (.lit (.int .i64 (0 : Int))), (.lit (.int .i64 (0 : Int))), (.lit (.int .i64 (0 : Int))), (.lit (.string (.mk (List.toArray []))))]), (.lit (.int .i64 (3 : Int)))])) : Option PV) := by
  kernel_rfl
theorem rfn_raw_c (m : Int) (t : TypeId) (fr : Nat × Nat) (b : Bx) (x : Int) : ((fnPure Tryd.prog ((E22 (GG m t fr)).withCuts (cut1 0 (cutOf (GG m t fr) 26 fnOuts 0 fnF))) 60 Tryd.f21 (GG m t fr) [bxP b, .lit (.int .u32 x)])).conds =
 (bif (bxGd (Bx.v b) (Bx.nx b) (Bx.ma b) (Bx.la b) (List.length (Bx.l b)) (mRow (Bx.l b))) then
 bif (bne (chkE (.mk (Bx.v b) (Bx.nx b) (Bx.ma b) (Bx.la b) (mlsOf (List.length (Bx.l b)) (mRow (Bx.l b))))) (0 : Int)) then
 true
 else bif ((areMls (List.length (Bx.l b)) (mRow (Bx.l b))) && ((Nat.ble (List.length (Bx.l b)) (4294967280 : Nat)) && (decide ((((List.length (Bx.l b)) : Nat) : Int) = (((List.length (Bx.l b)) : Nat) : Int))))) then
 bif (inI (usM (mlsOf (List.length (Bx.l b)) (mRow (Bx.l b)))) x) then
 true
 else true
 else false
 else false : Bool) := by
  kernel_rfl
theorem place_raw_v (m : Int) (t : TypeId) (fr : Nat × Nat) (b : Bx) (x : Int) : ((fnPure Tryd.prog (E22 (GG m t fr)) 60 Tryd.f24 (GG m t fr) [bxP b, .lit (.int .u32 x)])).val =
 (bif (bne (chkE (.mk (Bx.v b) (Bx.nx b) (Bx.ma b) (Bx.la b) (mlsOf (List.length (Bx.l b)) (mRow (Bx.l b))))) (0 : Int)) then
 (.some (.tup [(.lit (.int .i64 (0 : Int))), (.lit (.int .i64 (chkE (.mk (Bx.v b) (Bx.nx b) (Bx.ma b) (Bx.la b) (mlsOf (List.length (Bx.l b)) (mRow (Bx.l b)))))))]))
 else bif (!(inI (usM (mlsOf (List.length (Bx.l b)) (mRow (Bx.l b)))) x)) then
 (.some (.tup [(.lit (.int .i64 (0 : Int))), (.lit (.int .i64 (3 : Int)))]))
 else (.some (.tup [(.lit (.int .i64 (IntKind.wrap .i64 ((((lbI (usM (mlsOf (List.length (Bx.l b)) (mRow (Bx.l b)))) x) : Nat) : Int) + (1 : Int))))), (.lit (.int .i64 (0 : Int)))])) : Option PV) := by
  kernel_rfl
theorem place_raw_c (m : Int) (t : TypeId) (fr : Nat × Nat) (b : Bx) (x : Int) : ((fnPure Tryd.prog (E22 (GG m t fr)) 60 Tryd.f24 (GG m t fr) [bxP b, .lit (.int .u32 x)])).conds =
 (bif (bxGd (Bx.v b) (Bx.nx b) (Bx.ma b) (Bx.la b) (List.length (Bx.l b)) (mRow (Bx.l b))) then
 bif (bne (chkE (.mk (Bx.v b) (Bx.nx b) (Bx.ma b) (Bx.la b) (mlsOf (List.length (Bx.l b)) (mRow (Bx.l b))))) (0 : Int)) then
 true
 else bif (((areMls (List.length (Bx.l b)) (mRow (Bx.l b))) && (risI (usM (mlsOf (List.length (Bx.l b)) (mRow (Bx.l b)))))) && (Nat.ble (List.length (Bx.l b)) (4294967280 : Nat))) then
 bif (!(inI (usM (mlsOf (List.length (Bx.l b)) (mRow (Bx.l b)))) x)) then
 true
 else true
 else false
 else false : Bool) := by
  kernel_rfl
theorem find_raw_v (m : Int) (t : TypeId) (fr : Nat × Nat) (b : Bx) (x : Int) : ((fnPure Tryd.prog (E22 (GG m t fr)) 60 Tryd.f20 (GG m t fr) [bxP b, .lit (.int .u32 x)])).val =
 (bif (bne (chkE (.mk (Bx.v b) (Bx.nx b) (Bx.ma b) (Bx.la b) (mlsOf (List.length (Bx.l b)) (mRow (Bx.l b))))) (0 : Int)) then
 bif (bne (chkE (.mk (Bx.v b) (Bx.nx b) (Bx.ma b) (Bx.la b) (mlsOf (List.length (Bx.l b)) (mRow (Bx.l b))))) (0 : Int)) then
 (.some (.tup [(.agg [(.lit (.int .u32 (0 : Int))), (.lit (.int .u8 (0 : Int))), (.lit (.int .i64 (0 : Int))), (.lit (.int .i64 (0 : Int))), (.lit (.int .i64 (0 : Int))), (.lit (.string (.mk (List.toArray []))))]), (.lit (.int .i64 (chkE (.mk (Bx.v b) (Bx.nx b) (Bx.ma b) (Bx.la b) (mlsOf (List.length (Bx.l b)) (mRow (Bx.l b)))))))]))
 else (.some (.tup [(.agg [(.lit (.int .u32 (Ml.u (ml (Bx.l b) 0)))), (.lit (.int .u8 (Ml.f (ml (Bx.l b) 0)))), (.lit (.int .i64 (Ml.d (ml (Bx.l b) 0)))), (.lit (.int .i64 (Ml.s (ml (Bx.l b) 0)))), (.lit (.int .i64 (Ml.z (ml (Bx.l b) 0)))), (.lit (.string (Ml.r (ml (Bx.l b) 0))))]), (.lit (.int .i64 (0 : Int)))]))
 else bif (!(inI (usM (mlsOf (List.length (Bx.l b)) (mRow (Bx.l b)))) x)) then
 (.some (.tup [(.agg [(.lit (.int .u32 (0 : Int))), (.lit (.int .u8 (0 : Int))), (.lit (.int .i64 (0 : Int))), (.lit (.int .i64 (0 : Int))), (.lit (.int .i64 (0 : Int))), (.lit (.string (.mk (List.toArray []))))]), (.lit (.int .i64 (3 : Int)))]))
 else (.some (.tup [(.agg [(.lit (.int .u32 (Ml.u (ml (Bx.l b) (Int.toNat (IntKind.wrap .i64 ((IntKind.wrap .i64 ((((lbI (usM (mlsOf (List.length (Bx.l b)) (mRow (Bx.l b)))) x) : Nat) : Int) + (1 : Int))) - (1 : Int)))))))), (.lit (.int .u8 (Ml.f (ml (Bx.l b) (Int.toNat (IntKind.wrap .i64 ((IntKind.wrap .i64 ((((lbI (usM (mlsOf (List.length (Bx.l b)) (mRow (Bx.l b)))) x) : Nat) : Int) + (1 : Int))) - (1 : Int)))))))), (.lit (.int .i64 (Ml.d (ml (Bx.l b) (Int.toNat (IntKind.wrap .i64 ((IntKind.wrap .i64 ((((lbI (usM (mlsOf (List.length (Bx.l b)) (mRow (Bx.l b)))) x) : Nat) : Int) + (1 : Int))) - (1 : Int)))))))), (.lit (.int .i64 (Ml.s (ml (Bx.l b) (Int.toNat (IntKind.wrap .i64 ((IntKind.wrap .i64 ((((lbI (usM (mlsOf (List.length (Bx.l b)) (mRow (Bx.l b)))) x) : Nat) : Int) + (1 : Int))) - (1 : Int)))))))), (.lit (.int .i64 (Ml.z (ml (Bx.l b) (Int.toNat (IntKind.wrap .i64 ((IntKind.wrap .i64 ((((lbI (usM (mlsOf (List.length (Bx.l b)) (mRow (Bx.l b)))) x) : Nat) : Int) + (1 : Int))) - (1 : Int)))))))), (.lit (.string (Ml.r (ml (Bx.l b) (Int.toNat (IntKind.wrap .i64 ((IntKind.wrap .i64 ((((lbI (usM (mlsOf (List.length (Bx.l b)) (mRow (Bx.l b)))) x) : Nat) : Int) + (1 : Int))) - (1 : Int))))))))]), (.lit (.int .i64 (0 : Int)))])) : Option PV) := by
  kernel_rfl
theorem find_raw_c (m : Int) (t : TypeId) (fr : Nat × Nat) (b : Bx) (x : Int) : ((fnPure Tryd.prog (E22 (GG m t fr)) 60 Tryd.f20 (GG m t fr) [bxP b, .lit (.int .u32 x)])).conds =
 (bif (bxGd (Bx.v b) (Bx.nx b) (Bx.ma b) (Bx.la b) (List.length (Bx.l b)) (mRow (Bx.l b))) then
 bif (bne (chkE (.mk (Bx.v b) (Bx.nx b) (Bx.ma b) (Bx.la b) (mlsOf (List.length (Bx.l b)) (mRow (Bx.l b))))) (0 : Int)) then
 bif (bne (chkE (.mk (Bx.v b) (Bx.nx b) (Bx.ma b) (Bx.la b) (mlsOf (List.length (Bx.l b)) (mRow (Bx.l b))))) (0 : Int)) then
 true
 else false
 else bif (((areMls (List.length (Bx.l b)) (mRow (Bx.l b))) && (risI (usM (mlsOf (List.length (Bx.l b)) (mRow (Bx.l b)))))) && (Nat.ble (List.length (Bx.l b)) (4294967280 : Nat))) then
 bif (!(inI (usM (mlsOf (List.length (Bx.l b)) (mRow (Bx.l b)))) x)) then
 true
 else bif ((decide ((0 : Int) ≤ (IntKind.wrap .i64 ((IntKind.wrap .i64 ((((lbI (usM (mlsOf (List.length (Bx.l b)) (mRow (Bx.l b)))) x) : Nat) : Int) + (1 : Int))) - (1 : Int))))) && (Nat.blt (Int.toNat (IntKind.wrap .i64 ((IntKind.wrap .i64 ((((lbI (usM (mlsOf (List.length (Bx.l b)) (mRow (Bx.l b)))) x) : Nat) : Int) + (1 : Int))) - (1 : Int)))) (List.length (Bx.l b)))) then
 true
 else false
 else false
 else false : Bool) := by
  kernel_rfl
theorem rec_raw_v (m : Int) (t : TypeId) (fr : Nat × Nat) (b : Bx) : ((fnPure Tryd.prog (E22 (GG m t fr)) 60 Tryd.f26 (GG m t fr) [bxP b])).val =
 ((.some (.tup [(.gsl 1 (List.length (upL (.mk (Bx.v b) (Bx.nx b) (Bx.ma b) (Bx.la b) (mlsOf (List.length (Bx.l b)) (mRow (Bx.l b)))) (Bx.ma b))) (nRow (upL (.mk (Bx.v b) (Bx.nx b) (Bx.ma b) (Bx.la b) (mlsOf (List.length (Bx.l b)) (mRow (Bx.l b)))) (Bx.ma b)))), (.lit (.int .i64 (chkE (.mk (Bx.v b) (Bx.nx b) (Bx.ma b) (Bx.la b) (mlsOf (List.length (Bx.l b)) (mRow (Bx.l b)))))))])) : Option PV) := by
  kernel_rfl
theorem rec_raw_c (m : Int) (t : TypeId) (fr : Nat × Nat) (b : Bx) : ((fnPure Tryd.prog (E22 (GG m t fr)) 60 Tryd.f26 (GG m t fr) [bxP b])).conds =
 (bif (bxGd (Bx.v b) (Bx.nx b) (Bx.ma b) (Bx.la b) (List.length (Bx.l b)) (mRow (Bx.l b))) then
 bif (bxGd (Bx.v b) (Bx.nx b) (Bx.ma b) (Bx.la b) (List.length (Bx.l b)) (mRow (Bx.l b))) then
 true
 else false
 else false : Bool) := by
  kernel_rfl
theorem uids_raw_v (m : Int) (t : TypeId) (fr : Nat × Nat) (b : Bx) : ((fnPure Tryd.prog (E22 (GG m t fr)) 60 Tryd.f22 (GG m t fr) [bxP b])).val =
 ((.some (.tup [(.gsl 1 (List.length (upL (.mk (Bx.v b) (Bx.nx b) (Bx.ma b) (Bx.la b) (mlsOf (List.length (Bx.l b)) (mRow (Bx.l b)))) (0 : Int))) (nRow (upL (.mk (Bx.v b) (Bx.nx b) (Bx.ma b) (Bx.la b) (mlsOf (List.length (Bx.l b)) (mRow (Bx.l b)))) (0 : Int)))), (.lit (.int .i64 (chkE (.mk (Bx.v b) (Bx.nx b) (Bx.ma b) (Bx.la b) (mlsOf (List.length (Bx.l b)) (mRow (Bx.l b)))))))])) : Option PV) := by
  kernel_rfl
theorem uids_raw_c (m : Int) (t : TypeId) (fr : Nat × Nat) (b : Bx) : ((fnPure Tryd.prog (E22 (GG m t fr)) 60 Tryd.f22 (GG m t fr) [bxP b])).conds =
 (bif (bxGd (Bx.v b) (Bx.nx b) (Bx.ma b) (Bx.la b) (List.length (Bx.l b)) (mRow (Bx.l b))) then
 bif (bxGd (Bx.v b) (Bx.nx b) (Bx.ma b) (Bx.la b) (List.length (Bx.l b)) (mRow (Bx.l b))) then
 true
 else false
 else false : Bool) := by
  kernel_rfl
theorem rrec_raw_v (m : Int) (t : TypeId) (fr : Nat × Nat) (b : Bx) : ((fnPure Tryd.prog ((E22 (GG m t fr)).withCuts (cut1 0 (cutOf (GG m t fr) 31 rcOuts 0 rcF))) 60 Tryd.f27 (GG m t fr) [bxP b])).val =
 ((.some (.tup [(.gsl 1 (List.length (abI (Bx.ma b) (numsOf (List.length (uiL (.mk (Bx.v b) (Bx.nx b) (Bx.ma b) (Bx.la b) (mlsOf (List.length (Bx.l b)) (mRow (Bx.l b)))))) (nRow (uiL (.mk (Bx.v b) (Bx.nx b) (Bx.ma b) (Bx.la b) (mlsOf (List.length (Bx.l b)) (mRow (Bx.l b))))))))) (nRow (abI (Bx.ma b) (numsOf (List.length (uiL (.mk (Bx.v b) (Bx.nx b) (Bx.ma b) (Bx.la b) (mlsOf (List.length (Bx.l b)) (mRow (Bx.l b)))))) (nRow (uiL (.mk (Bx.v b) (Bx.nx b) (Bx.ma b) (Bx.la b) (mlsOf (List.length (Bx.l b)) (mRow (Bx.l b)))))))))), (.lit (.int .i64 (chkE (.mk (Bx.v b) (Bx.nx b) (Bx.ma b) (Bx.la b) (mlsOf (List.length (Bx.l b)) (mRow (Bx.l b)))))))])) : Option PV) := by
  kernel_rfl
theorem rrec_raw_c (m : Int) (t : TypeId) (fr : Nat × Nat) (b : Bx) : ((fnPure Tryd.prog ((E22 (GG m t fr)).withCuts (cut1 0 (cutOf (GG m t fr) 31 rcOuts 0 rcF))) 60 Tryd.f27 (GG m t fr) [bxP b])).conds =
 (bif (bxGd (Bx.v b) (Bx.nx b) (Bx.ma b) (Bx.la b) (List.length (Bx.l b)) (mRow (Bx.l b))) then
 bif (bxGd (Bx.v b) (Bx.nx b) (Bx.ma b) (Bx.la b) (List.length (Bx.l b)) (mRow (Bx.l b))) then
 bif ((areNums (List.length (uiL (.mk (Bx.v b) (Bx.nx b) (Bx.ma b) (Bx.la b) (mlsOf (List.length (Bx.l b)) (mRow (Bx.l b)))))) (nRow (uiL (.mk (Bx.v b) (Bx.nx b) (Bx.ma b) (Bx.la b) (mlsOf (List.length (Bx.l b)) (mRow (Bx.l b))))))) && ((Nat.ble (List.length (uiL (.mk (Bx.v b) (Bx.nx b) (Bx.ma b) (Bx.la b) (mlsOf (List.length (Bx.l b)) (mRow (Bx.l b)))))) (4294967280 : Nat)) && (decide ((((List.length (uiL (.mk (Bx.v b) (Bx.nx b) (Bx.ma b) (Bx.la b) (mlsOf (List.length (Bx.l b)) (mRow (Bx.l b)))))) : Nat) : Int) = (((List.length (uiL (.mk (Bx.v b) (Bx.nx b) (Bx.ma b) (Bx.la b) (mlsOf (List.length (Bx.l b)) (mRow (Bx.l b)))))) : Nat) : Int))))) then
 true
 else false
 else false
 else false : Bool) := by
  kernel_rfl
end
end Go.Proofs.YtlngnfkjpfokhaaDoor.Ev

/- A box is asked: contracts. No condition. -/
namespace Go.Proofs.YtlngnfkjpfokhaaDoor.Ev
open Go Go.RowKit Go.Proofs Go.Proofs.YtlngnfkjpfokhaaDoor.Str
set_option linter.unusedVariables false
set_option linter.unusedSimpArgs false
theorem ms_ris {nx : Int} : ∀ {l : List Ml} {a : Int}, msB nx a l = true → (usM l).Pairwise (· < ·) ∧ (∀ u ∈ usM l, a < u ∧ u < nx) ∧ ∀ x ∈ l, mFine x = true
  | [], a, h => ⟨.nil, by simp [usM], by simp⟩
  | x :: r, a, h => by
    simp only [msB, Bool.and_eq_true, decide_eq_true_eq] at h
    obtain ⟨⟨⟨h1, h2⟩, h3⟩, h4⟩ := h
    obtain ⟨i1, i2, i3⟩ := ms_ris h4
    refine ⟨?_, ?_, ?_⟩
    · show List.Pairwise _ (x.u :: usM r)
      rw [List.pairwise_cons]
      exact ⟨fun u hu => (i2 u hu).1, i1⟩
    · intro u hu
      have hu : u ∈ x.u :: usM r := hu
      rcases List.mem_cons.1 hu with rfl | hu
      · exact ⟨h1, h2⟩
      · have := i2 u hu
        omega
    · intro y hy
      rcases List.mem_cons.1 hy with rfl | hy
      · exact h3
      · exact i3 y hy
theorem ms_of {nx : Int} : ∀ {l : List Ml} {a : Int}, (usM l).Pairwise (· < ·) → (∀ u ∈ usM l, a < u ∧ u < nx) → (∀ x ∈ l, mFine x = true) → msB nx a l = true
  | [], a, _, _, _ => rfl
  | x :: r, a, h1, h2, h3 => by
    have h1 : List.Pairwise (· < ·) (x.u :: usM r) := h1
    rw [List.pairwise_cons] at h1
    have hx := h2 x.u (by simp [usM])
    have ih := ms_of (nx := nx) (l := r) (a := x.u) h1.2 (fun u hu => ⟨h1.1 u hu, (h2 u (by simp [usM] at hu ⊢; exact .inr hu)).2⟩) fun y hy => h3 y (by simp [hy])
    simp only [msB, Bool.and_eq_true, decide_eq_true_eq]
    exact ⟨⟨⟨hx.1, hx.2⟩, h3 x (by simp)⟩, ih⟩
structure BxOK (b : Bx) : Prop where
  v : b.v ≠ 0
  n1 : 1 ≤ b.nx
  n2 : b.nx ≤ 4294967296
  len : b.l.length ≤ 4096
  ma : b.ma ≤ b.la
  la : b.la < b.nx
  ris : (usM b.l).Pairwise (· < ·)
  pos : ∀ u ∈ usM b.l, 0 < u ∧ u < b.nx
  fine : ∀ x ∈ b.l, mFine x = true
theorem chk_at {b : Bx} (h : chkE b = 0) : BxOK b := by
  unfold chkE at h
  cases hk : bxOk b with
  | false => rw [hk] at h; cases h
  | true =>
    unfold bxOk at hk
    simp only [Bool.and_eq_true, decide_eq_true_eq, Nat.ble_eq, Bool.not_eq_true', beq_eq_false_iff_ne, ne_eq] at hk
    obtain ⟨⟨⟨⟨⟨⟨h1, h2⟩, h3⟩, h4⟩, h5⟩, h6⟩, h7⟩ := hk
    obtain ⟨a, b, c⟩ := ms_ris h7
    exact ⟨h1, h2, h3, h4, h5, h6, a, b, c⟩
theorem chk_of {b : Bx} (h : BxOK b) : chkE b = 0 := by
  have : bxOk b = true := by
    unfold bxOk
    have hv : (b.v == 0) = false := by simpa using h.v
    rw [hv, decide_eq_true h.n1, decide_eq_true h.n2, Nat.ble_eq_true_of_le h.len, decide_eq_true h.ma, decide_eq_true h.la, ms_of h.ris h.pos h.fine]
    rfl
  unfold chkE
  rw [this]
  rfl
def placeW (b : Bx) (x : Int) : Int := bif chkE b == 0 then (bif inI (usM b.l) x then 0 else 3) else chkE b
def placeN (b : Bx) (x : Int) : Int := bif chkE b == 0 then (bif inI (usM b.l) x then ((lbI (usM b.l) x + 1 : Nat) : Int) else 0) else 0
def placeM (b : Bx) (x : Int) : Ml := bif chkE b == 0 then (bif inI (usM b.l) x then ml b.l (lbI (usM b.l) x) else mlZ) else mlZ
section
variable {m : Int} {t : TypeId} {fr : Nat × Nat}
def placeG : List PV → Tr PV
  | [p, .lit (.int .u32 x)] => match bxOf p with
    | some (v, nx, mk, la, n, f) => .br (bxGd v nx mk la n f) (.leaf (.tup [int (placeN ⟨v, nx, mk, la, mlsOf n f⟩ x), int (placeW ⟨v, nx, mk, la, mlsOf n f⟩ x)])) .fail
    | none => .fail
  | _ => .fail
def findG : List PV → Tr PV
  | [p, .lit (.int .u32 x)] => match bxOf p with
    | some (v, nx, mk, la, n, f) => .br (bxGd v nx mk la n f) (.leaf (.tup [.agg (mC (placeM ⟨v, nx, mk, la, mlsOf n f⟩ x)), int (placeW ⟨v, nx, mk, la, mlsOf n f⟩ x)])) .fail
    | none => .fail
  | _ => .fail
theorem place_ok : PureOK Tryd.prog (GG m t fr) 24 placeG := by
  intro ps p hp
  unfold placeG at hp
  split at hp
  · rename_i p0 x
    split at hp
    · rename_i v nx mk la n f hb
      have hbr := br_run hp
      clear hp
      obtain ⟨hc, hq⟩ := hbr
      simp only [Tr.run, Option.some.injEq] at hq
      subst hq
      obtain ⟨hle, hR⟩ := bxOf_le hb hc
      generalize hB : (⟨v, nx, mk, la, mlsOf n f⟩ : Bx) = b at hle hR
      obtain ⟨r1, r2, r3, r4, r5, r6⟩ := bxR_at hR
      have hv := place_raw_v m t fr b x
      have hcc := place_raw_c m t fr b x
      simp only [mls_mRow, bx_eta] at hv hcc
      rw [bxGd_of hR, are_mRow r5, Nat.ble_eq_true_of_le r6] at hcc
      refine ((fn_pure mixed E22_ok (envOf_cuts ..) (fn := Tryd.f24) (by kernel_rfl)) _ _ ?_).pre (.cons hle (.refl _))
      unfold placeN placeW
      rcases chk_or b with h | h
      · have hk := chk_at h
        have hr : risI (usM b.l) = true := decide_eq_true hk.ris
        rw [h, hr] at hcc
        rw [h] at hv ⊢
        have hl := lb_le (usM b.l) x
        rw [us_len] at hl
        rw [wrap_succ (by omega)] at hv
        cases hi : inI (usM b.l) x <;> (rw [hi] at hv hcc; exact Tr.run_vc hv hcc rfl rfl)
      · rw [h] at hv hcc ⊢
        exact Tr.run_vc hv hcc rfl rfl
    · cases hp
  · cases hp
theorem rplace_ok : PureOK Tryd.prog (GG m t fr) 25 placeG := by
  intro ps p hp
  unfold placeG at hp
  split at hp
  · rename_i p0 x
    split at hp
    · rename_i v nx mk la n f hb
      have hbr := br_run hp
      clear hp
      obtain ⟨hc, hq⟩ := hbr
      simp only [Tr.run, Option.some.injEq] at hq
      subst hq
      obtain ⟨hle, hR⟩ := bxOf_le hb hc
      generalize hB : (⟨v, nx, mk, la, mlsOf n f⟩ : Bx) = b at hle hR
      obtain ⟨r1, r2, r3, r4, r5, r6⟩ := bxR_at hR
      have hv := rpl_raw_v m t fr b x
      have hcc := rpl_raw_c m t fr b x
      simp only [mls_mRow, bx_eta] at hv hcc
      rw [bxGd_of hR, are_mRow r5, Nat.ble_eq_true_of_le r6] at hcc
      simp only [decide_true, Bool.and_self, Bool.cond_self, cond_true] at hcc
      refine ((fn_cuts mixed E22_ok (fn := Tryd.f25) (cuts := cut1 0 (cutOf (GG m t fr) 26 plOuts 0 plF)) (by kernel_rfl) (CutLaws.one (by omega) (by kernel_rfl) fun st e st' h => cutOf_ok E21_ok mixed (noCuts_ok (envOf_cuts ..) _) plF_ok h)) _ _ ?_).pre (.cons hle (.refl _))
      unfold placeN placeW
      rcases chk_or b with h | h
      · have hk := chk_at h
        rw [h] at hv ⊢
        cases hi : inI (usM b.l) x with
        | true =>
          rw [fs_lb hk.ris hi] at hv
          rw [hi] at hv
          exact Tr.run_vc hv hcc rfl rfl
        | false =>
          rw [hi] at hv
          exact Tr.run_vc hv hcc rfl rfl
      · rw [h] at hv ⊢
        exact Tr.run_vc hv hcc rfl rfl
    · cases hp
  · cases hp
theorem find_ok : PureOK Tryd.prog (GG m t fr) 20 findG := by
  intro ps p hp
  unfold findG at hp
  split at hp
  · rename_i p0 x
    split at hp
    · rename_i v nx mk la n f hb
      have hbr := br_run hp
      clear hp
      obtain ⟨hc, hq⟩ := hbr
      simp only [Tr.run, Option.some.injEq] at hq
      subst hq
      obtain ⟨hle, hR⟩ := bxOf_le hb hc
      generalize hB : (⟨v, nx, mk, la, mlsOf n f⟩ : Bx) = b at hle hR
      obtain ⟨r1, r2, r3, r4, r5, r6⟩ := bxR_at hR
      have hv := find_raw_v m t fr b x
      have hcc := find_raw_c m t fr b x
      simp only [mls_mRow, bx_eta] at hv hcc
      rw [bxGd_of hR, are_mRow r5, Nat.ble_eq_true_of_le r6] at hcc
      refine ((fn_pure mixed E22_ok (envOf_cuts ..) (fn := Tryd.f20) (by kernel_rfl)) _ _ ?_).pre (.cons hle (.refl _))
      unfold placeM placeW
      rcases chk_or b with h | h
      · have hk := chk_at h
        have hr : risI (usM b.l) = true := decide_eq_true hk.ris
        have hl := lb_le (usM b.l) x
        rw [us_len] at hl
        rw [h, hr, wrap_succ (by omega), pred_wrap (by omega) (by omega), Int.toNat_natCast] at hcc
        rw [h, wrap_succ (by omega), pred_wrap (by omega) (by omega), Int.toNat_natCast] at hv
        rw [h]
        have e : lbI (usM b.l) x + 1 - 1 = lbI (usM b.l) x := by omega
        rw [e] at hv hcc
        cases hi : inI (usM b.l) x with
        | true =>
          have h1 := (lb_mail hk.ris hi).1
          rw [in_rng h1] at hcc
          rw [hi] at hv hcc
          exact Tr.run_vc hv hcc rfl rfl
        | false =>
          rw [hi] at hv hcc
          exact Tr.run_vc hv hcc rfl rfl
      · rw [h] at hv hcc ⊢
        exact Tr.run_vc hv hcc rfl rfl
    · cases hp
  · cases hp
theorem rfind_ok : PureOK Tryd.prog (GG m t fr) 21 findG := by
  intro ps p hp
  unfold findG at hp
  split at hp
  · rename_i p0 x
    split at hp
    · rename_i v nx mk la n f hb
      have hbr := br_run hp
      clear hp
      obtain ⟨hc, hq⟩ := hbr
      simp only [Tr.run, Option.some.injEq] at hq
      subst hq
      obtain ⟨hle, hR⟩ := bxOf_le hb hc
      generalize hB : (⟨v, nx, mk, la, mlsOf n f⟩ : Bx) = b at hle hR
      obtain ⟨r1, r2, r3, r4, r5, r6⟩ := bxR_at hR
      have hv := rfn_raw_v m t fr b x
      have hcc := rfn_raw_c m t fr b x
      simp only [mls_mRow, bx_eta] at hv hcc
      rw [bxGd_of hR, are_mRow r5, Nat.ble_eq_true_of_le r6] at hcc
      simp only [decide_true, Bool.and_self, Bool.cond_self, cond_true] at hcc
      refine ((fn_cuts mixed E22_ok (fn := Tryd.f21) (cuts := cut1 0 (cutOf (GG m t fr) 26 fnOuts 0 fnF)) (by kernel_rfl) (CutLaws.one (by omega) (by kernel_rfl) fun st e st' h => cutOf_ok E21_ok mixed (noCuts_ok (envOf_cuts ..) _) fnF_ok h)) _ _ ?_).pre (.cons hle (.refl _))
      unfold placeM placeW
      rcases chk_or b with h | h
      · have hk := chk_at h
        rw [h] at hv ⊢
        cases hi : inI (usM b.l) x with
        | true =>
          rw [fs_lb hk.ris hi] at hv
          rw [hi] at hv
          exact Tr.run_vc hv hcc rfl rfl
        | false =>
          rw [hi] at hv
          exact Tr.run_vc hv hcc rfl rfl
      · rw [h] at hv ⊢
        exact Tr.run_vc hv hcc rfl rfl
    · cases hp
  · cases hp
/-! ### numbers -/
theorem ab_zero {b : Bx} (h : BxOK b) : abI 0 (usM b.l) = usM b.l := by
  unfold abI
  rw [List.filter_eq_self]
  intro u hu
  exact decide_eq_true (h.pos u hu).1
theorem up_zero (b : Bx) : upL b 0 = uiL b := by
  unfold upL uiL
  rcases chk_or b with h | h
  · rw [h, ab_zero (chk_at h)]
  · rw [h]
    rfl
theorem us_u32 {l : List Ml} (h : l.all mlR = true) : (usM l).all u32N = true := by
  rw [List.all_eq_true] at h ⊢
  intro u hu
  simp only [usM, List.mem_map] at hu
  obtain ⟨x, hx, rfl⟩ := hu
  have := mlR_at (h x hx)
  unfold u32N
  simp [this.1, this.2.1]
theorem ui_u32 {b : Bx} (h : b.l.all mlR = true) : (uiL b).all u32N = true ∧ (uiL b).length ≤ b.l.length := by
  unfold uiL
  cases chkE b == 0
  · exact ⟨rfl, by simp⟩
  · exact ⟨us_u32 h, by simp [us_len]⟩
theorem uids_ok : PureOK Tryd.prog (GG m t fr) 22 ruiG := by
  intro ps p hp
  unfold ruiG at hp
  split at hp
  · split at hp
    · rename_i v nx mk la n f hb
      have hbr := br_run hp
      clear hp
      obtain ⟨hc, hq⟩ := hbr
      simp only [Tr.run, Option.some.injEq] at hq
      subst hq
      obtain ⟨hle, hR⟩ := bxOf_le hb hc
      generalize hB : (⟨v, nx, mk, la, mlsOf n f⟩ : Bx) = b at hle hR
      have hv := uids_raw_v m t fr b
      have hcc := uids_raw_c m t fr b
      simp only [mls_mRow, bx_eta] at hv hcc
      rw [bxGd_of hR] at hcc
      rw [up_zero] at hv
      exact ((fn_pure mixed E22_ok (envOf_cuts ..) (fn := Tryd.f22) (by kernel_rfl)) _ _ (Tr.run_vc hv hcc rfl rfl)).pre (.cons hle .nil)
    · cases hp
  · cases hp
def recG : List PV → Tr PV
  | [p] => match bxOf p with
    | some (v, nx, mk, la, n, f) => .br (bxGd v nx mk la n f) (.leaf (.tup [numsP (upL ⟨v, nx, mk, la, mlsOf n f⟩ mk), int (chkE ⟨v, nx, mk, la, mlsOf n f⟩)])) .fail
    | none => .fail
  | _ => .fail
theorem rec_ok : PureOK Tryd.prog (GG m t fr) 26 recG := by
  intro ps p hp
  unfold recG at hp
  split at hp
  · split at hp
    · rename_i v nx mk la n f hb
      have hbr := br_run hp
      clear hp
      obtain ⟨hc, hq⟩ := hbr
      simp only [Tr.run, Option.some.injEq] at hq
      subst hq
      obtain ⟨hle, hR⟩ := bxOf_le hb hc
      have e : mk = (⟨v, nx, mk, la, mlsOf n f⟩ : Bx).ma := rfl
      generalize hB : (⟨v, nx, mk, la, mlsOf n f⟩ : Bx) = b at hle hR e
      subst e
      have hv := rec_raw_v m t fr b
      have hcc := rec_raw_c m t fr b
      simp only [mls_mRow, bx_eta] at hv hcc
      rw [bxGd_of hR] at hcc
      exact ((fn_pure mixed E22_ok (envOf_cuts ..) (fn := Tryd.f26) (by kernel_rfl)) _ _ (Tr.run_vc hv hcc rfl rfl)).pre (.cons hle .nil)
    · cases hp
  · cases hp
theorem rrec_ok : PureOK Tryd.prog (GG m t fr) 27 recG := by
  intro ps p hp
  unfold recG at hp
  split at hp
  · split at hp
    · rename_i v nx mk la n f hb
      have hbr := br_run hp
      clear hp
      obtain ⟨hc, hq⟩ := hbr
      simp only [Tr.run, Option.some.injEq] at hq
      subst hq
      obtain ⟨hle, hR⟩ := bxOf_le hb hc
      have e : mk = (⟨v, nx, mk, la, mlsOf n f⟩ : Bx).ma := rfl
      generalize hB : (⟨v, nx, mk, la, mlsOf n f⟩ : Bx) = b at hle hR e
      subst e
      obtain ⟨r1, r2, r3, r4, r5, r6⟩ := bxR_at hR
      obtain ⟨u1, u2⟩ := ui_u32 r5
      have hv := rrec_raw_v m t fr b
      have hcc := rrec_raw_c m t fr b
      simp only [mls_mRow, nums_nRow, bx_eta] at hv hcc
      rw [bxGd_of hR, are_nRow u1, Nat.ble_eq_true_of_le (by omega)] at hcc
      simp only [decide_true, Bool.and_self, cond_true] at hcc
      have e2 : abI b.ma (uiL b) = upL b b.ma := by
        unfold uiL upL
        cases chkE b == 0
        · rfl
        · rfl
      rw [e2] at hv
      exact ((fn_cuts mixed E22_ok (fn := Tryd.f27) (cuts := cut1 0 (cutOf (GG m t fr) 31 rcOuts 0 rcF)) (by kernel_rfl) (CutLaws.one (by omega) (by kernel_rfl) fun st e st' h => cutOf_ok E21_ok mixed (noCuts_ok (envOf_cuts ..) _) rcF_ok h)) _ _ (Tr.run_vc hv hcc rfl rfl)).pre (.cons hle .nil)
    · cases hp
  · cases hp
end
end Go.Proofs.YtlngnfkjpfokhaaDoor.Ev
