/- JBox20: several texts in one. Condition: each part's own. -/
import Derived.Test.YtlngnfkjpfokhaaDoorJBox19
import Derived.Test.YtlngnfkjpfokhaaDoorJBox11
import Derived.Test.YtlngnfkjpfokhaaDoorJBox07
import Derived.Stop.LaidErr
/- BoxApart: the loop. No condition. -/
namespace Go.Proofs.YtlngnfkjpfokhaaDoor.Ev
open Go Go.RowKit Go.Proofs Go.Proofs.YtlngnfkjpfokhaaDoor.Str
set_option linter.unusedVariables false
set_option linter.unusedSimpArgs false
section
variable {m : Int} {t : TypeId} {fr : Nat × Nat}
def apOuts : Exit → Outs
  | .normal => { ks := [3, 4, 7, 57, 58, 59], rs := [.slot 3, .slot 4, .slot 7] }
  | .exit _ => { ks := [3, 7], rs := [.slot 3, .slot 7] }
  | _ => { ks := [6] }
noncomputable abbrev apRound (G : GT) := roundT Tryd.prog (E26 G) 60 G 74 apOuts .normal (theLoop 0 Tryd.f6)
def jkB (b : Bx) : Blk := rkB b.v b.nx b.ma b.la .junk
theorem ap_round_v (m : Int) (t : TypeId) (fr : Nat × Nat) (b x : Bx) (c : Ch) (us : List Int) (u i : Int) : ((apRound (GG m t fr) ([.ptr 0 0, .ptr 1 0, .ptr 2 0, .gsl 1 us.length (nRow us), int u, int i], [jkB b, chC c, jkB x]))).val =
 (bif (decide (i < u)) then
 bif (!(inI (numsOf (List.length (Ch.us c)) (nRow (Ch.us c))) (nu us (Int.toNat i)))) then
 (.some (.ret, ([(.lit (.bool false))], [])))
 else (.some (.normal, ([(.ptr 0 0), (.ptr 1 0), (.ptr 2 0), (.gsl 1 (List.length us) (nRow us)), (.lit (.int .i64 u)), (.lit (.int .i64 (IntKind.wrap .i64 (i + (1 : Int)))))], [(.cells 26 [(.lit (.int .u32 (Bx.v b))), (.lit (.int .u64 (Bx.nx b))), (.lit (.int .u32 (Bx.ma b))), (.lit (.int .u32 (Bx.la b))), .junk]), (.cells 33 [(.lit (.int .u8 (Ch.k c))), (.gsl 1 (List.length (Ch.us c)) (nRow (Ch.us c))), (.lit (.int .u8 (Ch.f c))), (.lit (.int .i64 (Ch.d c))), (.lit (.int .i64 (Ch.s c))), (.lit (.int .i64 (Ch.z c))), (.lit (.string (Ch.r c)))]), (.cells 26 [(.lit (.int .u32 (Bx.v x))), (.lit (.int .u64 (Bx.nx x))), (.lit (.int .u32 (Bx.ma x))), (.lit (.int .u32 (Bx.la x))), .junk])])))
 else (.some ((.exit 0), ([(.ptr 0 0), (.ptr 1 0)], [(.cells 26 [(.lit (.int .u32 (Bx.v b))), (.lit (.int .u64 (Bx.nx b))), (.lit (.int .u32 (Bx.ma b))), (.lit (.int .u32 (Bx.la b))), .junk]), (.cells 26 [(.lit (.int .u32 (Bx.v x))), (.lit (.int .u64 (Bx.nx x))), (.lit (.int .u32 (Bx.ma x))), (.lit (.int .u32 (Bx.la x))), .junk])]))) : Option (Exit × Kept)) := by
  kernel_rfl
theorem ap_round_c (m : Int) (t : TypeId) (fr : Nat × Nat) (b x : Bx) (c : Ch) (us : List Int) (u i : Int) : ((apRound (GG m t fr) ([.ptr 0 0, .ptr 1 0, .ptr 2 0, .gsl 1 us.length (nRow us), int u, int i], [jkB b, chC c, jkB x]))).conds =
 (bif (decide (i < u)) then
 bif ((decide ((0 : Int) ≤ i)) && (Nat.blt (Int.toNat i) (List.length us))) then
 bif ((areNums (List.length (Ch.us c)) (nRow (Ch.us c))) && (Nat.ble (List.length (Ch.us c)) (4294967280 : Nat))) then
 bif (!(inI (numsOf (List.length (Ch.us c)) (nRow (Ch.us c))) (nu us (Int.toNat i)))) then
 true
 else true
 else false
 else false
 else true : Bool) := by
  kernel_rfl
def apBad (c : Ch) (us : List Int) (i : Nat) : Option (Exit × Kept) := bif inI c.us (nu us i) then none else some (.ret, ([bool false], []))
theorem ap_LR (b x : Bx) (c : Ch) (us : List Int) (hc : c.us.all u32N = true) (hn : c.us.length ≤ 4294967280) (hu : us.length ≤ 4294967280) (k i : Nat) (hk : i + k = us.length) :
    LR Tryd.prog (E26 (GG m t fr)) 60 (GG m t fr) 74 apOuts .normal (theLoop 0 Tryd.f6) ([.ptr 0 0, .ptr 1 0, .ptr 2 0, .gsl 1 us.length (nRow us), int us.length, int i], [jkB b, chC c, jkB x])
      (scanR (apBad c us) (.exit 0, ([.ptr 0 0, .ptr 1 0], [jkB b, jkB x])) k i).1 (scanR (apBad c us) (.exit 0, ([.ptr 0 0, .ptr 1 0], [jkB b, jkB x])) k i).2 := by
  refine LR.scan2 (s := 0) (K := us.length) (st := fun j : Nat => ([.ptr 0 0, .ptr 1 0, .ptr 2 0, .gsl 1 us.length (nRow us), int us.length, int j], [jkB b, chC c, jkB x])) (fun j h1 hlt => ?_) (fun j r hb => ?_) ?_ (by simp) (by simp) k i (by omega) hk
  · have hv := ap_round_v m t fr b x c us us.length j
    have hcc := ap_round_c m t fr b x c us us.length j
    rw [lt_cast, decide_eq_true hlt, Int.toNat_natCast, nums_nRow, wrap_succ (by omega)] at hv
    rw [lt_cast, decide_eq_true hlt, Int.toNat_natCast, in_rng hlt, nums_nRow, are_nRow hc, Nat.ble_eq_true_of_le hn] at hcc
    simp only [Bool.and_self, Bool.cond_self, cond_true] at hcc
    unfold apBad
    cases hd : inI c.us (nu us j) <;> (rw [hd] at hv; exact Tr.run_vc hv hcc rfl rfl)
  · unfold apBad at hb
    cases hd : inI c.us (nu us j) <;> (rw [hd] at hb; cases hb)
    exact ⟨by simp, by simp⟩
  · have hv := ap_round_v m t fr b x c us us.length us.length
    have hcc := ap_round_c m t fr b x c us us.length us.length
    rw [lt_cast, decide_eq_false (by omega)] at hv hcc
    exact Tr.run_vc hv hcc rfl rfl
def apF : Kept → Tr (Exit × Kept)
  | ([.ptr 0 0, .ptr 1 0, .ptr 2 0, p, .lit (.int .i64 n), .lit (.int .i64 0)], [.cells tB [.lit (.int .u32 v), .lit (.int .u64 nx), .lit (.int .u32 ma), .lit (.int .u32 la), q1],
      .cells tC [.lit (.int .u8 k), q, .lit (.int .u8 f), .lit (.int .i64 d), .lit (.int .i64 s), .lit (.int .i64 z), .lit (.string r)], .cells tX [.lit (.int .u32 v'), .lit (.int .u64 nx'), .lit (.int .u32 ma'), .lit (.int .u32 la'), q2]]) => match rowP 1 p, rowP 1 q with
    | some (w, g), some (a, h) => .br (Nat.beq tB 26 && (Nat.beq tC 33 && (Nat.beq tX 26 && (areNums w g && (areNums a h && (Nat.ble w 4294967280 && (Nat.ble a 4294967280 && decide (n = w))))))))
      (.br (allIn (numsOf w g) (numsOf a h)) (.leaf (.exit 0, ([.ptr 0 0, .ptr 1 0], [jkB ⟨v, nx, ma, la, []⟩, jkB ⟨v', nx', ma', la', []⟩]))) .fail) .fail
    | _, _ => .fail
  | _ => .fail
theorem apF_ok (x : Kept) (e : Exit) (y : Kept) (h : (apF x).run = some (e, y)) : LR Tryd.prog (E26 (GG m t fr)) 60 (GG m t fr) 74 apOuts .normal (theLoop 0 Tryd.f6) x e y := by
  unfold apF at h
  split at h
  · rename_i p n tB v nx ma la q1 tC k q f d s z r tX v' nx' ma' la' q2
    split at h
    · rename_i w g a h0 hp hq
      have hb := br_run h
      clear h
      obtain ⟨hc, h⟩ := hb
      simp only [Bool.and_eq_true, Nat.ble_eq, decide_eq_true_eq] at hc
      obtain ⟨t1, t2, t3, hg, hh, hw, ha, rfl⟩ := hc
      have t1 := Nat.eq_of_beq_eq_true t1
      have t2 := Nat.eq_of_beq_eq_true t2
      have t3 := Nat.eq_of_beq_eq_true t3
      subst t1 t2 t3
      have hb := br_run h
      clear h
      obtain ⟨hin, h⟩ := hb
      simp only [Tr.run, Option.some.injEq, Prod.mk.injEq] at h
      obtain ⟨rfl, rfl⟩ := h
      have l1 := nums_len w g
      have l2 := nums_len a h0
      have key := ap_LR (m := m) (t := t) (fr := fr) ⟨v, nx, ma, la, []⟩ ⟨v', nx', ma', la', []⟩ ⟨k, numsOf a h0, f, d, s, z, r⟩ (numsOf w g) (nums_u32 hh) (by dsimp only; omega) (by omega) (numsOf w g).length 0 (Nat.zero_add _)
      unfold apBad at key
      dsimp only at key
      rw [all_scan, hin] at key
      have hple : PLe p (.gsl 1 (numsOf w g).length (nRow (numsOf w g))) := (rowP_le hp).trans (PLe.gsl l1.symm (nums_row hg))
      exact LR.le2 (.cons (.refl _) (.cons (.refl _) (.cons (.refl _) (.cons hple (.cons (PLe.of_eq (by rw [l1])) (.refl _))))))
        (BLeL.cons (BLe.cells _ (.cons (.refl _) (.cons (.refl _) (.cons (.refl _) (.cons (.refl _) (.cons (PLe.junk _) .nil)))))) (BLeL.cons (chC_le hq hh) (BLeL.cons (BLe.cells _ (.cons (.refl _) (.cons (.refl _) (.cons (.refl _) (.cons (.refl _) (.cons (PLe.junk _) .nil)))))) .nil))) key
    · cases h
  · cases h
theorem apart_raw_v (m : Int) (t : TypeId) (fr : Nat × Nat) (b : Bx) (c : Ch) (x : Int) : ((fnPure Tryd.prog ((E26 (GG m t fr)).withCuts (cut1 0 (cutOf (GG m t fr) 74 apOuts 0 apF))) 60 Tryd.f6 (GG m t fr) [bxP b, chP c, .lit (.int .u32 x)])).val =
 (bif (bne (Prod.snd (Prod.snd (doB (.mk (Bx.v b) (Bx.nx b) (Bx.ma b) (Bx.la b) (mlsOf (List.length (Bx.l b)) (mRow (Bx.l b)))) (.mk (Ch.k c) (numsOf (List.length (Ch.us c)) (nRow (Ch.us c))) (Ch.f c) (Ch.d c) (Ch.s c) (Ch.z c) (Ch.r c))))) (0 : Int)) then
 (.some (.lit (.bool true)))
 else bif ((Ch.k c) == (1 : Int)) then
 (.some (.lit (.bool true)))
 else bif (!(inI (numsOf (List.length (Ch.us c)) (nRow (Ch.us c))) x)) then
 bif (!(((Ml.u (placeM (.mk (Bx.v b) (Bx.nx b) (Bx.ma b) (Bx.la b) (mlsOf (List.length (Bx.l b)) (mRow (Bx.l b)))) x)) == (Ml.u (placeM (.mk (Bx.v (Prod.fst (doB (.mk (Bx.v b) (Bx.nx b) (Bx.ma b) (Bx.la b) (mlsOf (List.length (Bx.l b)) (mRow (Bx.l b)))) (.mk (Ch.k c) (numsOf (List.length (Ch.us c)) (nRow (Ch.us c))) (Ch.f c) (Ch.d c) (Ch.s c) (Ch.z c) (Ch.r c))))) (Bx.nx (Prod.fst (doB (.mk (Bx.v b) (Bx.nx b) (Bx.ma b) (Bx.la b) (mlsOf (List.length (Bx.l b)) (mRow (Bx.l b)))) (.mk (Ch.k c) (numsOf (List.length (Ch.us c)) (nRow (Ch.us c))) (Ch.f c) (Ch.d c) (Ch.s c) (Ch.z c) (Ch.r c))))) (Bx.ma (Prod.fst (doB (.mk (Bx.v b) (Bx.nx b) (Bx.ma b) (Bx.la b) (mlsOf (List.length (Bx.l b)) (mRow (Bx.l b)))) (.mk (Ch.k c) (numsOf (List.length (Ch.us c)) (nRow (Ch.us c))) (Ch.f c) (Ch.d c) (Ch.s c) (Ch.z c) (Ch.r c))))) (Bx.la (Prod.fst (doB (.mk (Bx.v b) (Bx.nx b) (Bx.ma b) (Bx.la b) (mlsOf (List.length (Bx.l b)) (mRow (Bx.l b)))) (.mk (Ch.k c) (numsOf (List.length (Ch.us c)) (nRow (Ch.us c))) (Ch.f c) (Ch.d c) (Ch.s c) (Ch.z c) (Ch.r c))))) (mlsOf (List.length (Bx.l (Prod.fst (doB (.mk (Bx.v b) (Bx.nx b) (Bx.ma b) (Bx.la b) (mlsOf (List.length (Bx.l b)) (mRow (Bx.l b)))) (.mk (Ch.k c) (numsOf (List.length (Ch.us c)) (nRow (Ch.us c))) (Ch.f c) (Ch.d c) (Ch.s c) (Ch.z c) (Ch.r c)))))) (mRow (Bx.l (Prod.fst (doB (.mk (Bx.v b) (Bx.nx b) (Bx.ma b) (Bx.la b) (mlsOf (List.length (Bx.l b)) (mRow (Bx.l b)))) (.mk (Ch.k c) (numsOf (List.length (Ch.us c)) (nRow (Ch.us c))) (Ch.f c) (Ch.d c) (Ch.s c) (Ch.z c) (Ch.r c)))))))) x))) && (((Ml.f (placeM (.mk (Bx.v b) (Bx.nx b) (Bx.ma b) (Bx.la b) (mlsOf (List.length (Bx.l b)) (mRow (Bx.l b)))) x)) == (Ml.f (placeM (.mk (Bx.v (Prod.fst (doB (.mk (Bx.v b) (Bx.nx b) (Bx.ma b) (Bx.la b) (mlsOf (List.length (Bx.l b)) (mRow (Bx.l b)))) (.mk (Ch.k c) (numsOf (List.length (Ch.us c)) (nRow (Ch.us c))) (Ch.f c) (Ch.d c) (Ch.s c) (Ch.z c) (Ch.r c))))) (Bx.nx (Prod.fst (doB (.mk (Bx.v b) (Bx.nx b) (Bx.ma b) (Bx.la b) (mlsOf (List.length (Bx.l b)) (mRow (Bx.l b)))) (.mk (Ch.k c) (numsOf (List.length (Ch.us c)) (nRow (Ch.us c))) (Ch.f c) (Ch.d c) (Ch.s c) (Ch.z c) (Ch.r c))))) (Bx.ma (Prod.fst (doB (.mk (Bx.v b) (Bx.nx b) (Bx.ma b) (Bx.la b) (mlsOf (List.length (Bx.l b)) (mRow (Bx.l b)))) (.mk (Ch.k c) (numsOf (List.length (Ch.us c)) (nRow (Ch.us c))) (Ch.f c) (Ch.d c) (Ch.s c) (Ch.z c) (Ch.r c))))) (Bx.la (Prod.fst (doB (.mk (Bx.v b) (Bx.nx b) (Bx.ma b) (Bx.la b) (mlsOf (List.length (Bx.l b)) (mRow (Bx.l b)))) (.mk (Ch.k c) (numsOf (List.length (Ch.us c)) (nRow (Ch.us c))) (Ch.f c) (Ch.d c) (Ch.s c) (Ch.z c) (Ch.r c))))) (mlsOf (List.length (Bx.l (Prod.fst (doB (.mk (Bx.v b) (Bx.nx b) (Bx.ma b) (Bx.la b) (mlsOf (List.length (Bx.l b)) (mRow (Bx.l b)))) (.mk (Ch.k c) (numsOf (List.length (Ch.us c)) (nRow (Ch.us c))) (Ch.f c) (Ch.d c) (Ch.s c) (Ch.z c) (Ch.r c)))))) (mRow (Bx.l (Prod.fst (doB (.mk (Bx.v b) (Bx.nx b) (Bx.ma b) (Bx.la b) (mlsOf (List.length (Bx.l b)) (mRow (Bx.l b)))) (.mk (Ch.k c) (numsOf (List.length (Ch.us c)) (nRow (Ch.us c))) (Ch.f c) (Ch.d c) (Ch.s c) (Ch.z c) (Ch.r c)))))))) x))) && ((((Ml.d (placeM (.mk (Bx.v b) (Bx.nx b) (Bx.ma b) (Bx.la b) (mlsOf (List.length (Bx.l b)) (mRow (Bx.l b)))) x)) == (Ml.d (placeM (.mk (Bx.v (Prod.fst (doB (.mk (Bx.v b) (Bx.nx b) (Bx.ma b) (Bx.la b) (mlsOf (List.length (Bx.l b)) (mRow (Bx.l b)))) (.mk (Ch.k c) (numsOf (List.length (Ch.us c)) (nRow (Ch.us c))) (Ch.f c) (Ch.d c) (Ch.s c) (Ch.z c) (Ch.r c))))) (Bx.nx (Prod.fst (doB (.mk (Bx.v b) (Bx.nx b) (Bx.ma b) (Bx.la b) (mlsOf (List.length (Bx.l b)) (mRow (Bx.l b)))) (.mk (Ch.k c) (numsOf (List.length (Ch.us c)) (nRow (Ch.us c))) (Ch.f c) (Ch.d c) (Ch.s c) (Ch.z c) (Ch.r c))))) (Bx.ma (Prod.fst (doB (.mk (Bx.v b) (Bx.nx b) (Bx.ma b) (Bx.la b) (mlsOf (List.length (Bx.l b)) (mRow (Bx.l b)))) (.mk (Ch.k c) (numsOf (List.length (Ch.us c)) (nRow (Ch.us c))) (Ch.f c) (Ch.d c) (Ch.s c) (Ch.z c) (Ch.r c))))) (Bx.la (Prod.fst (doB (.mk (Bx.v b) (Bx.nx b) (Bx.ma b) (Bx.la b) (mlsOf (List.length (Bx.l b)) (mRow (Bx.l b)))) (.mk (Ch.k c) (numsOf (List.length (Ch.us c)) (nRow (Ch.us c))) (Ch.f c) (Ch.d c) (Ch.s c) (Ch.z c) (Ch.r c))))) (mlsOf (List.length (Bx.l (Prod.fst (doB (.mk (Bx.v b) (Bx.nx b) (Bx.ma b) (Bx.la b) (mlsOf (List.length (Bx.l b)) (mRow (Bx.l b)))) (.mk (Ch.k c) (numsOf (List.length (Ch.us c)) (nRow (Ch.us c))) (Ch.f c) (Ch.d c) (Ch.s c) (Ch.z c) (Ch.r c)))))) (mRow (Bx.l (Prod.fst (doB (.mk (Bx.v b) (Bx.nx b) (Bx.ma b) (Bx.la b) (mlsOf (List.length (Bx.l b)) (mRow (Bx.l b)))) (.mk (Ch.k c) (numsOf (List.length (Ch.us c)) (nRow (Ch.us c))) (Ch.f c) (Ch.d c) (Ch.s c) (Ch.z c) (Ch.r c)))))))) x))) && (((Ml.s (placeM (.mk (Bx.v b) (Bx.nx b) (Bx.ma b) (Bx.la b) (mlsOf (List.length (Bx.l b)) (mRow (Bx.l b)))) x)) == (Ml.s (placeM (.mk (Bx.v (Prod.fst (doB (.mk (Bx.v b) (Bx.nx b) (Bx.ma b) (Bx.la b) (mlsOf (List.length (Bx.l b)) (mRow (Bx.l b)))) (.mk (Ch.k c) (numsOf (List.length (Ch.us c)) (nRow (Ch.us c))) (Ch.f c) (Ch.d c) (Ch.s c) (Ch.z c) (Ch.r c))))) (Bx.nx (Prod.fst (doB (.mk (Bx.v b) (Bx.nx b) (Bx.ma b) (Bx.la b) (mlsOf (List.length (Bx.l b)) (mRow (Bx.l b)))) (.mk (Ch.k c) (numsOf (List.length (Ch.us c)) (nRow (Ch.us c))) (Ch.f c) (Ch.d c) (Ch.s c) (Ch.z c) (Ch.r c))))) (Bx.ma (Prod.fst (doB (.mk (Bx.v b) (Bx.nx b) (Bx.ma b) (Bx.la b) (mlsOf (List.length (Bx.l b)) (mRow (Bx.l b)))) (.mk (Ch.k c) (numsOf (List.length (Ch.us c)) (nRow (Ch.us c))) (Ch.f c) (Ch.d c) (Ch.s c) (Ch.z c) (Ch.r c))))) (Bx.la (Prod.fst (doB (.mk (Bx.v b) (Bx.nx b) (Bx.ma b) (Bx.la b) (mlsOf (List.length (Bx.l b)) (mRow (Bx.l b)))) (.mk (Ch.k c) (numsOf (List.length (Ch.us c)) (nRow (Ch.us c))) (Ch.f c) (Ch.d c) (Ch.s c) (Ch.z c) (Ch.r c))))) (mlsOf (List.length (Bx.l (Prod.fst (doB (.mk (Bx.v b) (Bx.nx b) (Bx.ma b) (Bx.la b) (mlsOf (List.length (Bx.l b)) (mRow (Bx.l b)))) (.mk (Ch.k c) (numsOf (List.length (Ch.us c)) (nRow (Ch.us c))) (Ch.f c) (Ch.d c) (Ch.s c) (Ch.z c) (Ch.r c)))))) (mRow (Bx.l (Prod.fst (doB (.mk (Bx.v b) (Bx.nx b) (Bx.ma b) (Bx.la b) (mlsOf (List.length (Bx.l b)) (mRow (Bx.l b)))) (.mk (Ch.k c) (numsOf (List.length (Ch.us c)) (nRow (Ch.us c))) (Ch.f c) (Ch.d c) (Ch.s c) (Ch.z c) (Ch.r c)))))))) x))) && (((Ml.z (placeM (.mk (Bx.v b) (Bx.nx b) (Bx.ma b) (Bx.la b) (mlsOf (List.length (Bx.l b)) (mRow (Bx.l b)))) x)) == (Ml.z (placeM (.mk (Bx.v (Prod.fst (doB (.mk (Bx.v b) (Bx.nx b) (Bx.ma b) (Bx.la b) (mlsOf (List.length (Bx.l b)) (mRow (Bx.l b)))) (.mk (Ch.k c) (numsOf (List.length (Ch.us c)) (nRow (Ch.us c))) (Ch.f c) (Ch.d c) (Ch.s c) (Ch.z c) (Ch.r c))))) (Bx.nx (Prod.fst (doB (.mk (Bx.v b) (Bx.nx b) (Bx.ma b) (Bx.la b) (mlsOf (List.length (Bx.l b)) (mRow (Bx.l b)))) (.mk (Ch.k c) (numsOf (List.length (Ch.us c)) (nRow (Ch.us c))) (Ch.f c) (Ch.d c) (Ch.s c) (Ch.z c) (Ch.r c))))) (Bx.ma (Prod.fst (doB (.mk (Bx.v b) (Bx.nx b) (Bx.ma b) (Bx.la b) (mlsOf (List.length (Bx.l b)) (mRow (Bx.l b)))) (.mk (Ch.k c) (numsOf (List.length (Ch.us c)) (nRow (Ch.us c))) (Ch.f c) (Ch.d c) (Ch.s c) (Ch.z c) (Ch.r c))))) (Bx.la (Prod.fst (doB (.mk (Bx.v b) (Bx.nx b) (Bx.ma b) (Bx.la b) (mlsOf (List.length (Bx.l b)) (mRow (Bx.l b)))) (.mk (Ch.k c) (numsOf (List.length (Ch.us c)) (nRow (Ch.us c))) (Ch.f c) (Ch.d c) (Ch.s c) (Ch.z c) (Ch.r c))))) (mlsOf (List.length (Bx.l (Prod.fst (doB (.mk (Bx.v b) (Bx.nx b) (Bx.ma b) (Bx.la b) (mlsOf (List.length (Bx.l b)) (mRow (Bx.l b)))) (.mk (Ch.k c) (numsOf (List.length (Ch.us c)) (nRow (Ch.us c))) (Ch.f c) (Ch.d c) (Ch.s c) (Ch.z c) (Ch.r c)))))) (mRow (Bx.l (Prod.fst (doB (.mk (Bx.v b) (Bx.nx b) (Bx.ma b) (Bx.la b) (mlsOf (List.length (Bx.l b)) (mRow (Bx.l b)))) (.mk (Ch.k c) (numsOf (List.length (Ch.us c)) (nRow (Ch.us c))) (Ch.f c) (Ch.d c) (Ch.s c) (Ch.z c) (Ch.r c)))))))) x))) && true))) && (((Ml.r (placeM (.mk (Bx.v b) (Bx.nx b) (Bx.ma b) (Bx.la b) (mlsOf (List.length (Bx.l b)) (mRow (Bx.l b)))) x)) == (Ml.r (placeM (.mk (Bx.v (Prod.fst (doB (.mk (Bx.v b) (Bx.nx b) (Bx.ma b) (Bx.la b) (mlsOf (List.length (Bx.l b)) (mRow (Bx.l b)))) (.mk (Ch.k c) (numsOf (List.length (Ch.us c)) (nRow (Ch.us c))) (Ch.f c) (Ch.d c) (Ch.s c) (Ch.z c) (Ch.r c))))) (Bx.nx (Prod.fst (doB (.mk (Bx.v b) (Bx.nx b) (Bx.ma b) (Bx.la b) (mlsOf (List.length (Bx.l b)) (mRow (Bx.l b)))) (.mk (Ch.k c) (numsOf (List.length (Ch.us c)) (nRow (Ch.us c))) (Ch.f c) (Ch.d c) (Ch.s c) (Ch.z c) (Ch.r c))))) (Bx.ma (Prod.fst (doB (.mk (Bx.v b) (Bx.nx b) (Bx.ma b) (Bx.la b) (mlsOf (List.length (Bx.l b)) (mRow (Bx.l b)))) (.mk (Ch.k c) (numsOf (List.length (Ch.us c)) (nRow (Ch.us c))) (Ch.f c) (Ch.d c) (Ch.s c) (Ch.z c) (Ch.r c))))) (Bx.la (Prod.fst (doB (.mk (Bx.v b) (Bx.nx b) (Bx.ma b) (Bx.la b) (mlsOf (List.length (Bx.l b)) (mRow (Bx.l b)))) (.mk (Ch.k c) (numsOf (List.length (Ch.us c)) (nRow (Ch.us c))) (Ch.f c) (Ch.d c) (Ch.s c) (Ch.z c) (Ch.r c))))) (mlsOf (List.length (Bx.l (Prod.fst (doB (.mk (Bx.v b) (Bx.nx b) (Bx.ma b) (Bx.la b) (mlsOf (List.length (Bx.l b)) (mRow (Bx.l b)))) (.mk (Ch.k c) (numsOf (List.length (Ch.us c)) (nRow (Ch.us c))) (Ch.f c) (Ch.d c) (Ch.s c) (Ch.z c) (Ch.r c)))))) (mRow (Bx.l (Prod.fst (doB (.mk (Bx.v b) (Bx.nx b) (Bx.ma b) (Bx.la b) (mlsOf (List.length (Bx.l b)) (mRow (Bx.l b)))) (.mk (Ch.k c) (numsOf (List.length (Ch.us c)) (nRow (Ch.us c))) (Ch.f c) (Ch.d c) (Ch.s c) (Ch.z c) (Ch.r c)))))))) x))) && true))))) then
 (.some (.lit (.bool false)))
 else bif (bne (placeW (.mk (Bx.v b) (Bx.nx b) (Bx.ma b) (Bx.la b) (mlsOf (List.length (Bx.l b)) (mRow (Bx.l b)))) x) (placeW (.mk (Bx.v (Prod.fst (doB (.mk (Bx.v b) (Bx.nx b) (Bx.ma b) (Bx.la b) (mlsOf (List.length (Bx.l b)) (mRow (Bx.l b)))) (.mk (Ch.k c) (numsOf (List.length (Ch.us c)) (nRow (Ch.us c))) (Ch.f c) (Ch.d c) (Ch.s c) (Ch.z c) (Ch.r c))))) (Bx.nx (Prod.fst (doB (.mk (Bx.v b) (Bx.nx b) (Bx.ma b) (Bx.la b) (mlsOf (List.length (Bx.l b)) (mRow (Bx.l b)))) (.mk (Ch.k c) (numsOf (List.length (Ch.us c)) (nRow (Ch.us c))) (Ch.f c) (Ch.d c) (Ch.s c) (Ch.z c) (Ch.r c))))) (Bx.ma (Prod.fst (doB (.mk (Bx.v b) (Bx.nx b) (Bx.ma b) (Bx.la b) (mlsOf (List.length (Bx.l b)) (mRow (Bx.l b)))) (.mk (Ch.k c) (numsOf (List.length (Ch.us c)) (nRow (Ch.us c))) (Ch.f c) (Ch.d c) (Ch.s c) (Ch.z c) (Ch.r c))))) (Bx.la (Prod.fst (doB (.mk (Bx.v b) (Bx.nx b) (Bx.ma b) (Bx.la b) (mlsOf (List.length (Bx.l b)) (mRow (Bx.l b)))) (.mk (Ch.k c) (numsOf (List.length (Ch.us c)) (nRow (Ch.us c))) (Ch.f c) (Ch.d c) (Ch.s c) (Ch.z c) (Ch.r c))))) (mlsOf (List.length (Bx.l (Prod.fst (doB (.mk (Bx.v b) (Bx.nx b) (Bx.ma b) (Bx.la b) (mlsOf (List.length (Bx.l b)) (mRow (Bx.l b)))) (.mk (Ch.k c) (numsOf (List.length (Ch.us c)) (nRow (Ch.us c))) (Ch.f c) (Ch.d c) (Ch.s c) (Ch.z c) (Ch.r c)))))) (mRow (Bx.l (Prod.fst (doB (.mk (Bx.v b) (Bx.nx b) (Bx.ma b) (Bx.la b) (mlsOf (List.length (Bx.l b)) (mRow (Bx.l b)))) (.mk (Ch.k c) (numsOf (List.length (Ch.us c)) (nRow (Ch.us c))) (Ch.f c) (Ch.d c) (Ch.s c) (Ch.z c) (Ch.r c)))))))) x)) then
 (.some (.lit (.bool false)))
 else (.some (.lit (.bool ((Bx.nx (Prod.fst (doB (.mk (Bx.v b) (Bx.nx b) (Bx.ma b) (Bx.la b) (mlsOf (List.length (Bx.l b)) (mRow (Bx.l b)))) (.mk (Ch.k c) (numsOf (List.length (Ch.us c)) (nRow (Ch.us c))) (Ch.f c) (Ch.d c) (Ch.s c) (Ch.z c) (Ch.r c))))) == (Bx.nx b)))))
 else (.some (.lit (.bool ((Bx.nx (Prod.fst (doB (.mk (Bx.v b) (Bx.nx b) (Bx.ma b) (Bx.la b) (mlsOf (List.length (Bx.l b)) (mRow (Bx.l b)))) (.mk (Ch.k c) (numsOf (List.length (Ch.us c)) (nRow (Ch.us c))) (Ch.f c) (Ch.d c) (Ch.s c) (Ch.z c) (Ch.r c))))) == (Bx.nx b))))) : Option PV) := by
  kernel_rfl
theorem apart_raw_c (m : Int) (t : TypeId) (fr : Nat × Nat) (b : Bx) (c : Ch) (x : Int) : ((fnPure Tryd.prog ((E26 (GG m t fr)).withCuts (cut1 0 (cutOf (GG m t fr) 74 apOuts 0 apF))) 60 Tryd.f6 (GG m t fr) [bxP b, chP c, .lit (.int .u32 x)])).conds =
 (bif ((bxGd (Bx.v b) (Bx.nx b) (Bx.ma b) (Bx.la b) (List.length (Bx.l b)) (mRow (Bx.l b))) && (chGd (.mk (Ch.k c) (numsOf (List.length (Ch.us c)) (nRow (Ch.us c))) (Ch.f c) (Ch.d c) (Ch.s c) (Ch.z c) (Ch.r c)) (List.length (Ch.us c)) (nRow (Ch.us c)))) then
 bif ((bxGd (Bx.v b) (Bx.nx b) (Bx.ma b) (Bx.la b) (List.length (Bx.l b)) (mRow (Bx.l b))) && (chGd (.mk (Ch.k c) (numsOf (List.length (Ch.us c)) (nRow (Ch.us c))) (Ch.f c) (Ch.d c) (Ch.s c) (Ch.z c) (Ch.r c)) (List.length (Ch.us c)) (nRow (Ch.us c)))) then
 bif (bne (Prod.snd (Prod.snd (doB (.mk (Bx.v b) (Bx.nx b) (Bx.ma b) (Bx.la b) (mlsOf (List.length (Bx.l b)) (mRow (Bx.l b)))) (.mk (Ch.k c) (numsOf (List.length (Ch.us c)) (nRow (Ch.us c))) (Ch.f c) (Ch.d c) (Ch.s c) (Ch.z c) (Ch.r c))))) (0 : Int)) then
 true
 else bif ((Ch.k c) == (1 : Int)) then
 true
 else bif ((areNums (List.length (Ch.us c)) (nRow (Ch.us c))) && (Nat.ble (List.length (Ch.us c)) (4294967280 : Nat))) then
 bif (!(inI (numsOf (List.length (Ch.us c)) (nRow (Ch.us c))) x)) then
 bif (bxGd (Bx.v b) (Bx.nx b) (Bx.ma b) (Bx.la b) (List.length (Bx.l b)) (mRow (Bx.l b))) then
 bif (bxGd (Bx.v (Prod.fst (doB (.mk (Bx.v b) (Bx.nx b) (Bx.ma b) (Bx.la b) (mlsOf (List.length (Bx.l b)) (mRow (Bx.l b)))) (.mk (Ch.k c) (numsOf (List.length (Ch.us c)) (nRow (Ch.us c))) (Ch.f c) (Ch.d c) (Ch.s c) (Ch.z c) (Ch.r c))))) (Bx.nx (Prod.fst (doB (.mk (Bx.v b) (Bx.nx b) (Bx.ma b) (Bx.la b) (mlsOf (List.length (Bx.l b)) (mRow (Bx.l b)))) (.mk (Ch.k c) (numsOf (List.length (Ch.us c)) (nRow (Ch.us c))) (Ch.f c) (Ch.d c) (Ch.s c) (Ch.z c) (Ch.r c))))) (Bx.ma (Prod.fst (doB (.mk (Bx.v b) (Bx.nx b) (Bx.ma b) (Bx.la b) (mlsOf (List.length (Bx.l b)) (mRow (Bx.l b)))) (.mk (Ch.k c) (numsOf (List.length (Ch.us c)) (nRow (Ch.us c))) (Ch.f c) (Ch.d c) (Ch.s c) (Ch.z c) (Ch.r c))))) (Bx.la (Prod.fst (doB (.mk (Bx.v b) (Bx.nx b) (Bx.ma b) (Bx.la b) (mlsOf (List.length (Bx.l b)) (mRow (Bx.l b)))) (.mk (Ch.k c) (numsOf (List.length (Ch.us c)) (nRow (Ch.us c))) (Ch.f c) (Ch.d c) (Ch.s c) (Ch.z c) (Ch.r c))))) (List.length (Bx.l (Prod.fst (doB (.mk (Bx.v b) (Bx.nx b) (Bx.ma b) (Bx.la b) (mlsOf (List.length (Bx.l b)) (mRow (Bx.l b)))) (.mk (Ch.k c) (numsOf (List.length (Ch.us c)) (nRow (Ch.us c))) (Ch.f c) (Ch.d c) (Ch.s c) (Ch.z c) (Ch.r c)))))) (mRow (Bx.l (Prod.fst (doB (.mk (Bx.v b) (Bx.nx b) (Bx.ma b) (Bx.la b) (mlsOf (List.length (Bx.l b)) (mRow (Bx.l b)))) (.mk (Ch.k c) (numsOf (List.length (Ch.us c)) (nRow (Ch.us c))) (Ch.f c) (Ch.d c) (Ch.s c) (Ch.z c) (Ch.r c))))))) then
 bif (!(((Ml.u (placeM (.mk (Bx.v b) (Bx.nx b) (Bx.ma b) (Bx.la b) (mlsOf (List.length (Bx.l b)) (mRow (Bx.l b)))) x)) == (Ml.u (placeM (.mk (Bx.v (Prod.fst (doB (.mk (Bx.v b) (Bx.nx b) (Bx.ma b) (Bx.la b) (mlsOf (List.length (Bx.l b)) (mRow (Bx.l b)))) (.mk (Ch.k c) (numsOf (List.length (Ch.us c)) (nRow (Ch.us c))) (Ch.f c) (Ch.d c) (Ch.s c) (Ch.z c) (Ch.r c))))) (Bx.nx (Prod.fst (doB (.mk (Bx.v b) (Bx.nx b) (Bx.ma b) (Bx.la b) (mlsOf (List.length (Bx.l b)) (mRow (Bx.l b)))) (.mk (Ch.k c) (numsOf (List.length (Ch.us c)) (nRow (Ch.us c))) (Ch.f c) (Ch.d c) (Ch.s c) (Ch.z c) (Ch.r c))))) (Bx.ma (Prod.fst (doB (.mk (Bx.v b) (Bx.nx b) (Bx.ma b) (Bx.la b) (mlsOf (List.length (Bx.l b)) (mRow (Bx.l b)))) (.mk (Ch.k c) (numsOf (List.length (Ch.us c)) (nRow (Ch.us c))) (Ch.f c) (Ch.d c) (Ch.s c) (Ch.z c) (Ch.r c))))) (Bx.la (Prod.fst (doB (.mk (Bx.v b) (Bx.nx b) (Bx.ma b) (Bx.la b) (mlsOf (List.length (Bx.l b)) (mRow (Bx.l b)))) (.mk (Ch.k c) (numsOf (List.length (Ch.us c)) (nRow (Ch.us c))) (Ch.f c) (Ch.d c) (Ch.s c) (Ch.z c) (Ch.r c))))) (mlsOf (List.length (Bx.l (Prod.fst (doB (.mk (Bx.v b) (Bx.nx b) (Bx.ma b) (Bx.la b) (mlsOf (List.length (Bx.l b)) (mRow (Bx.l b)))) (.mk (Ch.k c) (numsOf (List.length (Ch.us c)) (nRow (Ch.us c))) (Ch.f c) (Ch.d c) (Ch.s c) (Ch.z c) (Ch.r c)))))) (mRow (Bx.l (Prod.fst (doB (.mk (Bx.v b) (Bx.nx b) (Bx.ma b) (Bx.la b) (mlsOf (List.length (Bx.l b)) (mRow (Bx.l b)))) (.mk (Ch.k c) (numsOf (List.length (Ch.us c)) (nRow (Ch.us c))) (Ch.f c) (Ch.d c) (Ch.s c) (Ch.z c) (Ch.r c)))))))) x))) && (((Ml.f (placeM (.mk (Bx.v b) (Bx.nx b) (Bx.ma b) (Bx.la b) (mlsOf (List.length (Bx.l b)) (mRow (Bx.l b)))) x)) == (Ml.f (placeM (.mk (Bx.v (Prod.fst (doB (.mk (Bx.v b) (Bx.nx b) (Bx.ma b) (Bx.la b) (mlsOf (List.length (Bx.l b)) (mRow (Bx.l b)))) (.mk (Ch.k c) (numsOf (List.length (Ch.us c)) (nRow (Ch.us c))) (Ch.f c) (Ch.d c) (Ch.s c) (Ch.z c) (Ch.r c))))) (Bx.nx (Prod.fst (doB (.mk (Bx.v b) (Bx.nx b) (Bx.ma b) (Bx.la b) (mlsOf (List.length (Bx.l b)) (mRow (Bx.l b)))) (.mk (Ch.k c) (numsOf (List.length (Ch.us c)) (nRow (Ch.us c))) (Ch.f c) (Ch.d c) (Ch.s c) (Ch.z c) (Ch.r c))))) (Bx.ma (Prod.fst (doB (.mk (Bx.v b) (Bx.nx b) (Bx.ma b) (Bx.la b) (mlsOf (List.length (Bx.l b)) (mRow (Bx.l b)))) (.mk (Ch.k c) (numsOf (List.length (Ch.us c)) (nRow (Ch.us c))) (Ch.f c) (Ch.d c) (Ch.s c) (Ch.z c) (Ch.r c))))) (Bx.la (Prod.fst (doB (.mk (Bx.v b) (Bx.nx b) (Bx.ma b) (Bx.la b) (mlsOf (List.length (Bx.l b)) (mRow (Bx.l b)))) (.mk (Ch.k c) (numsOf (List.length (Ch.us c)) (nRow (Ch.us c))) (Ch.f c) (Ch.d c) (Ch.s c) (Ch.z c) (Ch.r c))))) (mlsOf (List.length (Bx.l (Prod.fst (doB (.mk (Bx.v b) (Bx.nx b) (Bx.ma b) (Bx.la b) (mlsOf (List.length (Bx.l b)) (mRow (Bx.l b)))) (.mk (Ch.k c) (numsOf (List.length (Ch.us c)) (nRow (Ch.us c))) (Ch.f c) (Ch.d c) (Ch.s c) (Ch.z c) (Ch.r c)))))) (mRow (Bx.l (Prod.fst (doB (.mk (Bx.v b) (Bx.nx b) (Bx.ma b) (Bx.la b) (mlsOf (List.length (Bx.l b)) (mRow (Bx.l b)))) (.mk (Ch.k c) (numsOf (List.length (Ch.us c)) (nRow (Ch.us c))) (Ch.f c) (Ch.d c) (Ch.s c) (Ch.z c) (Ch.r c)))))))) x))) && ((((Ml.d (placeM (.mk (Bx.v b) (Bx.nx b) (Bx.ma b) (Bx.la b) (mlsOf (List.length (Bx.l b)) (mRow (Bx.l b)))) x)) == (Ml.d (placeM (.mk (Bx.v (Prod.fst (doB (.mk (Bx.v b) (Bx.nx b) (Bx.ma b) (Bx.la b) (mlsOf (List.length (Bx.l b)) (mRow (Bx.l b)))) (.mk (Ch.k c) (numsOf (List.length (Ch.us c)) (nRow (Ch.us c))) (Ch.f c) (Ch.d c) (Ch.s c) (Ch.z c) (Ch.r c))))) (Bx.nx (Prod.fst (doB (.mk (Bx.v b) (Bx.nx b) (Bx.ma b) (Bx.la b) (mlsOf (List.length (Bx.l b)) (mRow (Bx.l b)))) (.mk (Ch.k c) (numsOf (List.length (Ch.us c)) (nRow (Ch.us c))) (Ch.f c) (Ch.d c) (Ch.s c) (Ch.z c) (Ch.r c))))) (Bx.ma (Prod.fst (doB (.mk (Bx.v b) (Bx.nx b) (Bx.ma b) (Bx.la b) (mlsOf (List.length (Bx.l b)) (mRow (Bx.l b)))) (.mk (Ch.k c) (numsOf (List.length (Ch.us c)) (nRow (Ch.us c))) (Ch.f c) (Ch.d c) (Ch.s c) (Ch.z c) (Ch.r c))))) (Bx.la (Prod.fst (doB (.mk (Bx.v b) (Bx.nx b) (Bx.ma b) (Bx.la b) (mlsOf (List.length (Bx.l b)) (mRow (Bx.l b)))) (.mk (Ch.k c) (numsOf (List.length (Ch.us c)) (nRow (Ch.us c))) (Ch.f c) (Ch.d c) (Ch.s c) (Ch.z c) (Ch.r c))))) (mlsOf (List.length (Bx.l (Prod.fst (doB (.mk (Bx.v b) (Bx.nx b) (Bx.ma b) (Bx.la b) (mlsOf (List.length (Bx.l b)) (mRow (Bx.l b)))) (.mk (Ch.k c) (numsOf (List.length (Ch.us c)) (nRow (Ch.us c))) (Ch.f c) (Ch.d c) (Ch.s c) (Ch.z c) (Ch.r c)))))) (mRow (Bx.l (Prod.fst (doB (.mk (Bx.v b) (Bx.nx b) (Bx.ma b) (Bx.la b) (mlsOf (List.length (Bx.l b)) (mRow (Bx.l b)))) (.mk (Ch.k c) (numsOf (List.length (Ch.us c)) (nRow (Ch.us c))) (Ch.f c) (Ch.d c) (Ch.s c) (Ch.z c) (Ch.r c)))))))) x))) && (((Ml.s (placeM (.mk (Bx.v b) (Bx.nx b) (Bx.ma b) (Bx.la b) (mlsOf (List.length (Bx.l b)) (mRow (Bx.l b)))) x)) == (Ml.s (placeM (.mk (Bx.v (Prod.fst (doB (.mk (Bx.v b) (Bx.nx b) (Bx.ma b) (Bx.la b) (mlsOf (List.length (Bx.l b)) (mRow (Bx.l b)))) (.mk (Ch.k c) (numsOf (List.length (Ch.us c)) (nRow (Ch.us c))) (Ch.f c) (Ch.d c) (Ch.s c) (Ch.z c) (Ch.r c))))) (Bx.nx (Prod.fst (doB (.mk (Bx.v b) (Bx.nx b) (Bx.ma b) (Bx.la b) (mlsOf (List.length (Bx.l b)) (mRow (Bx.l b)))) (.mk (Ch.k c) (numsOf (List.length (Ch.us c)) (nRow (Ch.us c))) (Ch.f c) (Ch.d c) (Ch.s c) (Ch.z c) (Ch.r c))))) (Bx.ma (Prod.fst (doB (.mk (Bx.v b) (Bx.nx b) (Bx.ma b) (Bx.la b) (mlsOf (List.length (Bx.l b)) (mRow (Bx.l b)))) (.mk (Ch.k c) (numsOf (List.length (Ch.us c)) (nRow (Ch.us c))) (Ch.f c) (Ch.d c) (Ch.s c) (Ch.z c) (Ch.r c))))) (Bx.la (Prod.fst (doB (.mk (Bx.v b) (Bx.nx b) (Bx.ma b) (Bx.la b) (mlsOf (List.length (Bx.l b)) (mRow (Bx.l b)))) (.mk (Ch.k c) (numsOf (List.length (Ch.us c)) (nRow (Ch.us c))) (Ch.f c) (Ch.d c) (Ch.s c) (Ch.z c) (Ch.r c))))) (mlsOf (List.length (Bx.l (Prod.fst (doB (.mk (Bx.v b) (Bx.nx b) (Bx.ma b) (Bx.la b) (mlsOf (List.length (Bx.l b)) (mRow (Bx.l b)))) (.mk (Ch.k c) (numsOf (List.length (Ch.us c)) (nRow (Ch.us c))) (Ch.f c) (Ch.d c) (Ch.s c) (Ch.z c) (Ch.r c)))))) (mRow (Bx.l (Prod.fst (doB (.mk (Bx.v b) (Bx.nx b) (Bx.ma b) (Bx.la b) (mlsOf (List.length (Bx.l b)) (mRow (Bx.l b)))) (.mk (Ch.k c) (numsOf (List.length (Ch.us c)) (nRow (Ch.us c))) (Ch.f c) (Ch.d c) (Ch.s c) (Ch.z c) (Ch.r c)))))))) x))) && (((Ml.z (placeM (.mk (Bx.v b) (Bx.nx b) (Bx.ma b) (Bx.la b) (mlsOf (List.length (Bx.l b)) (mRow (Bx.l b)))) x)) == (Ml.z (placeM (.mk (Bx.v (Prod.fst (doB (.mk (Bx.v b) (Bx.nx b) (Bx.ma b) (Bx.la b) (mlsOf (List.length (Bx.l b)) (mRow (Bx.l b)))) (.mk (Ch.k c) (numsOf (List.length (Ch.us c)) (nRow (Ch.us c))) (Ch.f c) (Ch.d c) (Ch.s c) (Ch.z c) (Ch.r c))))) (Bx.nx (Prod.fst (doB (.mk (Bx.v b) (Bx.nx b) (Bx.ma b) (Bx.la b) (mlsOf (List.length (Bx.l b)) (mRow (Bx.l b)))) (.mk (Ch.k c) (numsOf (List.length (Ch.us c)) (nRow (Ch.us c))) (Ch.f c) (Ch.d c) (Ch.s c) (Ch.z c) (Ch.r c))))) (Bx.ma (Prod.fst (doB (.mk (Bx.v b) (Bx.nx b) (Bx.ma b) (Bx.la b) (mlsOf (List.length (Bx.l b)) (mRow (Bx.l b)))) (.mk (Ch.k c) (numsOf (List.length (Ch.us c)) (nRow (Ch.us c))) (Ch.f c) (Ch.d c) (Ch.s c) (Ch.z c) (Ch.r c))))) (Bx.la (Prod.fst (doB (.mk (Bx.v b) (Bx.nx b) (Bx.ma b) (Bx.la b) (mlsOf (List.length (Bx.l b)) (mRow (Bx.l b)))) (.mk (Ch.k c) (numsOf (List.length (Ch.us c)) (nRow (Ch.us c))) (Ch.f c) (Ch.d c) (Ch.s c) (Ch.z c) (Ch.r c))))) (mlsOf (List.length (Bx.l (Prod.fst (doB (.mk (Bx.v b) (Bx.nx b) (Bx.ma b) (Bx.la b) (mlsOf (List.length (Bx.l b)) (mRow (Bx.l b)))) (.mk (Ch.k c) (numsOf (List.length (Ch.us c)) (nRow (Ch.us c))) (Ch.f c) (Ch.d c) (Ch.s c) (Ch.z c) (Ch.r c)))))) (mRow (Bx.l (Prod.fst (doB (.mk (Bx.v b) (Bx.nx b) (Bx.ma b) (Bx.la b) (mlsOf (List.length (Bx.l b)) (mRow (Bx.l b)))) (.mk (Ch.k c) (numsOf (List.length (Ch.us c)) (nRow (Ch.us c))) (Ch.f c) (Ch.d c) (Ch.s c) (Ch.z c) (Ch.r c)))))))) x))) && true))) && (((Ml.r (placeM (.mk (Bx.v b) (Bx.nx b) (Bx.ma b) (Bx.la b) (mlsOf (List.length (Bx.l b)) (mRow (Bx.l b)))) x)) == (Ml.r (placeM (.mk (Bx.v (Prod.fst (doB (.mk (Bx.v b) (Bx.nx b) (Bx.ma b) (Bx.la b) (mlsOf (List.length (Bx.l b)) (mRow (Bx.l b)))) (.mk (Ch.k c) (numsOf (List.length (Ch.us c)) (nRow (Ch.us c))) (Ch.f c) (Ch.d c) (Ch.s c) (Ch.z c) (Ch.r c))))) (Bx.nx (Prod.fst (doB (.mk (Bx.v b) (Bx.nx b) (Bx.ma b) (Bx.la b) (mlsOf (List.length (Bx.l b)) (mRow (Bx.l b)))) (.mk (Ch.k c) (numsOf (List.length (Ch.us c)) (nRow (Ch.us c))) (Ch.f c) (Ch.d c) (Ch.s c) (Ch.z c) (Ch.r c))))) (Bx.ma (Prod.fst (doB (.mk (Bx.v b) (Bx.nx b) (Bx.ma b) (Bx.la b) (mlsOf (List.length (Bx.l b)) (mRow (Bx.l b)))) (.mk (Ch.k c) (numsOf (List.length (Ch.us c)) (nRow (Ch.us c))) (Ch.f c) (Ch.d c) (Ch.s c) (Ch.z c) (Ch.r c))))) (Bx.la (Prod.fst (doB (.mk (Bx.v b) (Bx.nx b) (Bx.ma b) (Bx.la b) (mlsOf (List.length (Bx.l b)) (mRow (Bx.l b)))) (.mk (Ch.k c) (numsOf (List.length (Ch.us c)) (nRow (Ch.us c))) (Ch.f c) (Ch.d c) (Ch.s c) (Ch.z c) (Ch.r c))))) (mlsOf (List.length (Bx.l (Prod.fst (doB (.mk (Bx.v b) (Bx.nx b) (Bx.ma b) (Bx.la b) (mlsOf (List.length (Bx.l b)) (mRow (Bx.l b)))) (.mk (Ch.k c) (numsOf (List.length (Ch.us c)) (nRow (Ch.us c))) (Ch.f c) (Ch.d c) (Ch.s c) (Ch.z c) (Ch.r c)))))) (mRow (Bx.l (Prod.fst (doB (.mk (Bx.v b) (Bx.nx b) (Bx.ma b) (Bx.la b) (mlsOf (List.length (Bx.l b)) (mRow (Bx.l b)))) (.mk (Ch.k c) (numsOf (List.length (Ch.us c)) (nRow (Ch.us c))) (Ch.f c) (Ch.d c) (Ch.s c) (Ch.z c) (Ch.r c)))))))) x))) && true))))) then
 true
 else bif (bne (placeW (.mk (Bx.v b) (Bx.nx b) (Bx.ma b) (Bx.la b) (mlsOf (List.length (Bx.l b)) (mRow (Bx.l b)))) x) (placeW (.mk (Bx.v (Prod.fst (doB (.mk (Bx.v b) (Bx.nx b) (Bx.ma b) (Bx.la b) (mlsOf (List.length (Bx.l b)) (mRow (Bx.l b)))) (.mk (Ch.k c) (numsOf (List.length (Ch.us c)) (nRow (Ch.us c))) (Ch.f c) (Ch.d c) (Ch.s c) (Ch.z c) (Ch.r c))))) (Bx.nx (Prod.fst (doB (.mk (Bx.v b) (Bx.nx b) (Bx.ma b) (Bx.la b) (mlsOf (List.length (Bx.l b)) (mRow (Bx.l b)))) (.mk (Ch.k c) (numsOf (List.length (Ch.us c)) (nRow (Ch.us c))) (Ch.f c) (Ch.d c) (Ch.s c) (Ch.z c) (Ch.r c))))) (Bx.ma (Prod.fst (doB (.mk (Bx.v b) (Bx.nx b) (Bx.ma b) (Bx.la b) (mlsOf (List.length (Bx.l b)) (mRow (Bx.l b)))) (.mk (Ch.k c) (numsOf (List.length (Ch.us c)) (nRow (Ch.us c))) (Ch.f c) (Ch.d c) (Ch.s c) (Ch.z c) (Ch.r c))))) (Bx.la (Prod.fst (doB (.mk (Bx.v b) (Bx.nx b) (Bx.ma b) (Bx.la b) (mlsOf (List.length (Bx.l b)) (mRow (Bx.l b)))) (.mk (Ch.k c) (numsOf (List.length (Ch.us c)) (nRow (Ch.us c))) (Ch.f c) (Ch.d c) (Ch.s c) (Ch.z c) (Ch.r c))))) (mlsOf (List.length (Bx.l (Prod.fst (doB (.mk (Bx.v b) (Bx.nx b) (Bx.ma b) (Bx.la b) (mlsOf (List.length (Bx.l b)) (mRow (Bx.l b)))) (.mk (Ch.k c) (numsOf (List.length (Ch.us c)) (nRow (Ch.us c))) (Ch.f c) (Ch.d c) (Ch.s c) (Ch.z c) (Ch.r c)))))) (mRow (Bx.l (Prod.fst (doB (.mk (Bx.v b) (Bx.nx b) (Bx.ma b) (Bx.la b) (mlsOf (List.length (Bx.l b)) (mRow (Bx.l b)))) (.mk (Ch.k c) (numsOf (List.length (Ch.us c)) (nRow (Ch.us c))) (Ch.f c) (Ch.d c) (Ch.s c) (Ch.z c) (Ch.r c)))))))) x)) then
 true
 else bif ((areNums (List.length (Prod.fst (Prod.snd (doB (.mk (Bx.v b) (Bx.nx b) (Bx.ma b) (Bx.la b) (mlsOf (List.length (Bx.l b)) (mRow (Bx.l b)))) (.mk (Ch.k c) (numsOf (List.length (Ch.us c)) (nRow (Ch.us c))) (Ch.f c) (Ch.d c) (Ch.s c) (Ch.z c) (Ch.r c)))))) (nRow (Prod.fst (Prod.snd (doB (.mk (Bx.v b) (Bx.nx b) (Bx.ma b) (Bx.la b) (mlsOf (List.length (Bx.l b)) (mRow (Bx.l b)))) (.mk (Ch.k c) (numsOf (List.length (Ch.us c)) (nRow (Ch.us c))) (Ch.f c) (Ch.d c) (Ch.s c) (Ch.z c) (Ch.r c))))))) && ((areNums (List.length (Ch.us c)) (nRow (Ch.us c))) && ((Nat.ble (List.length (Prod.fst (Prod.snd (doB (.mk (Bx.v b) (Bx.nx b) (Bx.ma b) (Bx.la b) (mlsOf (List.length (Bx.l b)) (mRow (Bx.l b)))) (.mk (Ch.k c) (numsOf (List.length (Ch.us c)) (nRow (Ch.us c))) (Ch.f c) (Ch.d c) (Ch.s c) (Ch.z c) (Ch.r c)))))) (4294967280 : Nat)) && ((Nat.ble (List.length (Ch.us c)) (4294967280 : Nat)) && (decide ((((List.length (Prod.fst (Prod.snd (doB (.mk (Bx.v b) (Bx.nx b) (Bx.ma b) (Bx.la b) (mlsOf (List.length (Bx.l b)) (mRow (Bx.l b)))) (.mk (Ch.k c) (numsOf (List.length (Ch.us c)) (nRow (Ch.us c))) (Ch.f c) (Ch.d c) (Ch.s c) (Ch.z c) (Ch.r c)))))) : Nat) : Int) = (((List.length (Prod.fst (Prod.snd (doB (.mk (Bx.v b) (Bx.nx b) (Bx.ma b) (Bx.la b) (mlsOf (List.length (Bx.l b)) (mRow (Bx.l b)))) (.mk (Ch.k c) (numsOf (List.length (Ch.us c)) (nRow (Ch.us c))) (Ch.f c) (Ch.d c) (Ch.s c) (Ch.z c) (Ch.r c)))))) : Nat) : Int))))))) then
 bif (allIn (numsOf (List.length (Prod.fst (Prod.snd (doB (.mk (Bx.v b) (Bx.nx b) (Bx.ma b) (Bx.la b) (mlsOf (List.length (Bx.l b)) (mRow (Bx.l b)))) (.mk (Ch.k c) (numsOf (List.length (Ch.us c)) (nRow (Ch.us c))) (Ch.f c) (Ch.d c) (Ch.s c) (Ch.z c) (Ch.r c)))))) (nRow (Prod.fst (Prod.snd (doB (.mk (Bx.v b) (Bx.nx b) (Bx.ma b) (Bx.la b) (mlsOf (List.length (Bx.l b)) (mRow (Bx.l b)))) (.mk (Ch.k c) (numsOf (List.length (Ch.us c)) (nRow (Ch.us c))) (Ch.f c) (Ch.d c) (Ch.s c) (Ch.z c) (Ch.r c))))))) (numsOf (List.length (Ch.us c)) (nRow (Ch.us c)))) then
 true
 else false
 else false
 else false
 else false
 else bif ((areNums (List.length (Prod.fst (Prod.snd (doB (.mk (Bx.v b) (Bx.nx b) (Bx.ma b) (Bx.la b) (mlsOf (List.length (Bx.l b)) (mRow (Bx.l b)))) (.mk (Ch.k c) (numsOf (List.length (Ch.us c)) (nRow (Ch.us c))) (Ch.f c) (Ch.d c) (Ch.s c) (Ch.z c) (Ch.r c)))))) (nRow (Prod.fst (Prod.snd (doB (.mk (Bx.v b) (Bx.nx b) (Bx.ma b) (Bx.la b) (mlsOf (List.length (Bx.l b)) (mRow (Bx.l b)))) (.mk (Ch.k c) (numsOf (List.length (Ch.us c)) (nRow (Ch.us c))) (Ch.f c) (Ch.d c) (Ch.s c) (Ch.z c) (Ch.r c))))))) && ((areNums (List.length (Ch.us c)) (nRow (Ch.us c))) && ((Nat.ble (List.length (Prod.fst (Prod.snd (doB (.mk (Bx.v b) (Bx.nx b) (Bx.ma b) (Bx.la b) (mlsOf (List.length (Bx.l b)) (mRow (Bx.l b)))) (.mk (Ch.k c) (numsOf (List.length (Ch.us c)) (nRow (Ch.us c))) (Ch.f c) (Ch.d c) (Ch.s c) (Ch.z c) (Ch.r c)))))) (4294967280 : Nat)) && ((Nat.ble (List.length (Ch.us c)) (4294967280 : Nat)) && (decide ((((List.length (Prod.fst (Prod.snd (doB (.mk (Bx.v b) (Bx.nx b) (Bx.ma b) (Bx.la b) (mlsOf (List.length (Bx.l b)) (mRow (Bx.l b)))) (.mk (Ch.k c) (numsOf (List.length (Ch.us c)) (nRow (Ch.us c))) (Ch.f c) (Ch.d c) (Ch.s c) (Ch.z c) (Ch.r c)))))) : Nat) : Int) = (((List.length (Prod.fst (Prod.snd (doB (.mk (Bx.v b) (Bx.nx b) (Bx.ma b) (Bx.la b) (mlsOf (List.length (Bx.l b)) (mRow (Bx.l b)))) (.mk (Ch.k c) (numsOf (List.length (Ch.us c)) (nRow (Ch.us c))) (Ch.f c) (Ch.d c) (Ch.s c) (Ch.z c) (Ch.r c)))))) : Nat) : Int))))))) then
 bif (allIn (numsOf (List.length (Prod.fst (Prod.snd (doB (.mk (Bx.v b) (Bx.nx b) (Bx.ma b) (Bx.la b) (mlsOf (List.length (Bx.l b)) (mRow (Bx.l b)))) (.mk (Ch.k c) (numsOf (List.length (Ch.us c)) (nRow (Ch.us c))) (Ch.f c) (Ch.d c) (Ch.s c) (Ch.z c) (Ch.r c)))))) (nRow (Prod.fst (Prod.snd (doB (.mk (Bx.v b) (Bx.nx b) (Bx.ma b) (Bx.la b) (mlsOf (List.length (Bx.l b)) (mRow (Bx.l b)))) (.mk (Ch.k c) (numsOf (List.length (Ch.us c)) (nRow (Ch.us c))) (Ch.f c) (Ch.d c) (Ch.s c) (Ch.z c) (Ch.r c))))))) (numsOf (List.length (Ch.us c)) (nRow (Ch.us c)))) then
 true
 else false
 else false
 else false
 else false
 else false : Bool) := by
  kernel_rfl
end
end Go.Proofs.YtlngnfkjpfokhaaDoor.Ev

/- BoxApart: the law. No condition. -/
namespace Go.Proofs.YtlngnfkjpfokhaaDoor.Ev
open Go Go.RowKit Go.Proofs Go.Proofs.YtlngnfkjpfokhaaDoor.Str
set_option linter.unusedVariables false
set_option linter.unusedSimpArgs false
theorem all_in {us l : List Int} (h : ∀ u ∈ us, inI l u = true) : allIn us l = true := by
  unfold allIn
  rw [List.all_eq_true]
  exact h
section
variable {m : Int} {t : TypeId} {fr : Nat × Nat}
def apartG : List PV → Tr PV
  | [p, q, .lit (.int .u32 x)] => match bxOf p, chOf q with
    | some (v, nx, mk, la, n, f), some (c, a, h) => .br (bxGd v nx mk la n f && chGd c a h) (.leaf (bool true)) .fail
    | _, _ => .fail
  | _ => .fail
theorem apart_ok : PureOK Tryd.prog (GG m t fr) 6 apartG := by
  intro ps p hp
  unfold apartG at hp
  split at hp
  · rename_i p0 q0 x
    split at hp
    · rename_i v nx mk la n f' c a h0 hb hb'
      have hbr := br_run hp
      clear hp
      obtain ⟨hc, hq⟩ := hbr
      simp only [Bool.and_eq_true] at hc
      obtain ⟨hc, hc'⟩ := hc
      simp only [Tr.run, Option.some.injEq] at hq
      subst hq
      obtain ⟨hle, hR⟩ := bxOf_le hb hc
      obtain ⟨hle', hR'⟩ := chOf_le hb' hc'
      generalize hB : (⟨v, nx, mk, la, mlsOf n f'⟩ : Bx) = b at hle hR
      obtain ⟨r1, r2, r3, r4, r5, r6⟩ := bxR_at hR
      obtain ⟨q1, q2, q3, q4⟩ := chR_at hR'
      have hv := apart_raw_v m t fr b c x
      have hcc := apart_raw_c m t fr b c x
      obtain ⟨d1, d2, d3⟩ := do_R hR hR'
      simp only [mls_mRow, nums_nRow, bx_eta, ch_eta, decide_true, cond_true, bxGd_of hR, chGd_of hR', bxGd_of d1, are_nRow d2, are_nRow q2, Nat.ble_eq_true_of_le d3, Nat.ble_eq_true_of_le q4, Bool.and_true, Bool.and_self] at hv hcc
      refine ((fn_cuts mixed (E26_ok (m := m) (t := t) (fr := fr)) (fn := Tryd.f6) (cuts := cut1 0 (cutOf (GG m t fr) 74 apOuts 0 apF)) (by kernel_rfl) (CutLaws.one (by omega) (by kernel_rfl) fun st e st' h => cutOf_ok E26_ok mixed (noCuts_ok (envOf_cuts ..) _) apF_ok h)) _ _ (?_ : _ = some (bool true))).pre (.cons hle (.cons hle' (.refl _)))
      by_cases hw : (doB b c).2.2 = 0
      · by_cases hk : c.k = 1
        · rw [hw, hk] at hv hcc
          exact Tr.run_vc hv hcc rfl rfl
        · have hk' : (c.k == 1) = false := by simpa using hk
          obtain ⟨s1, s2⟩ := do_told hw hk
          rw [hw, hk', s2, beq_self_eq_true] at hv
          rw [hw, hk', all_in s1] at hcc
          cases hi : inI c.us x with
          | true =>
            rw [hi] at hv hcc
            exact Tr.run_vc hv hcc rfl rfl
          | false =>
            obtain ⟨p1, p2⟩ := do_apart hR hR' hw hk hi
            rw [hi, p1, p2] at hv hcc
            simp only [beq_ba, beq_self_eq_true, bne_self_eq_false, decide_true, Bool.and_true, Bool.and_self, Bool.not_true, Bool.not_false, cond_true, cond_false] at hv hcc
            exact Tr.run_vc hv hcc rfl rfl
      · have hw' : bne (doB b c).2.2 0 = true := by simpa [bne] using hw
        rw [hw'] at hv hcc
        exact Tr.run_vc hv hcc rfl rfl
    · cases hp
  · cases hp
def apartSh : List ASh := [.agg bxAk, .agg chAk, .one (.sc (.int .u32))]
theorem apart_args {qs : List PV} (h : areArgs apartSh qs = true) (hb : argsBulk qs ≤ 1048576) : (apartG qs).run = some (bool true) := by
  obtain ⟨q0, r0, rfl, h0, h⟩ := args_cons h
  obtain ⟨q1, r1, rfl, h1, h⟩ := args_cons h
  obtain ⟨q2, r2, rfl, h2, h⟩ := args_cons h
  obtain rfl := args_nil h
  simp only [argsBulk] at hb
  obtain ⟨v, nx, ma, la, n, f, e, g⟩ := bx_arg (B := 1048576) h0 (by omega) (by omega)
  obtain ⟨c, a, h', e', g'⟩ := ch_arg (B := 1048576) h1 (by omega) (by omega)
  obtain ⟨y, rfl, a2, b2⟩ := ak_int (q := q2) h2
  simp only [apartG, e, e', g, g', Bool.and_self, Tr.run, cond_true]
end
end Go.Proofs.YtlngnfkjpfokhaaDoor.Ev

/- box: what the variables hold, from what the rows list. Condition: the rows' own. -/
namespace Go.Proofs.YtlngnfkjpfokhaaDoor.Ev
open Go Go.RowKit Go.Proofs Go.ChangeShapes Go.WideShapes Go.ChangeAt
theorem globsW {W : World} (_hS : W.ShapedOpen Tryd.prog) (hL : laidMetH Tryd.prog Rows.boxDoesUptoRow.laid W) : ∃ m t fr, Globs (GG m t fr) (Held W) ∧ Objs (GG m t fr) W := by
  have hL2 := laid_plain (l := Rows.boxDoesUptoRow.laid) (by kernel_rfl) hL
  have hd : Rows.laid_internal_strconv_uint64pow10 = Lib.tabData (H := Unit) .u64 Lib.pow10Tab := by kernel_rfl
  have hT := tab_of_reads (g := 0) (t := 127) (e := 23) (n := 20) (by kernel_rfl) (by kernel_rfl) Tryd.underlying127 Tryd.underlying23 (by kernel_rfl) (by kernel_rfl) (hd ▸ Lib.laidMet.reads hL2 (.tail _ (.tail _ (.head _))))
  have hob : ∃ t fr, W.heap[0]? = some (.cells ((Lib.pow10Tab.map fun z => Value.int .u64 z).toArray) t fr) := by
    unfold Lib.TabIs World.var? at hT
    have hg : Tryd.prog.globalNamed "internal/strconv.uint64pow10" = some 0 := by kernel_rfl
    rw [hg] at hT
    simp only [Option.bind_some] at hT
    split at hT
    · rename_i cs t fr hh
      simp only [Option.some.injEq] at hT
      subst hT
      exact ⟨t, fr, hh⟩
    · cases hT
  obtain ⟨t, fr, ho⟩ := hob
  refine ⟨0, t, fr, fun g cs hg => ?_, fun g o hg => ?_⟩
  · unfold GG gxTab at hg
    cases hg
  · unfold GG at hg
    dsimp only at hg
    split at hg
    · rename_i he
      obtain rfl := Nat.eq_of_beq_eq_true he
      cases hg
      exact ho
    · cases hg
end Go.Proofs.YtlngnfkjpfokhaaDoor.Ev

/- BoxDoes: contracts that don't branch; the law as evaluated. No condition. -/
namespace Go.Proofs.YtlngnfkjpfokhaaDoor.Ev
open Go Go.RowKit Go.Proofs Go.Proofs.YtlngnfkjpfokhaaDoor.Str
set_option linter.unusedVariables false
set_option linter.unusedSimpArgs false
section
variable {m : Int} {t : TypeId} {fr : Nat × Nat}
def mkB (v : Int) : Bx := bif v == 0 then bxZ else ⟨v, 1, 0, 0, []⟩
def mkE (v : Int) : Int := bif v == 0 then 1 else 0
def makeG : List PV → Tr PV
  | [.lit (.int .u32 v)] => .leaf (.tup [bxP (mkB v), int (mkE v)])
  | _ => .fail
def copyG : List PV → Tr PV
  | [p] => match bxOf p with
    | some (v, nx, mk, la, n, f) => .br (bxGd v nx mk la n f) (.leaf (bxP ⟨v, nx, mk, la, mlsOf n f⟩)) .fail
    | none => .fail
  | _ => .fail
theorem make_raw_v (m : Int) (t : TypeId) (fr : Nat × Nat) (v : Int) : ((fnPure Tryd.prog (E26 (GG m t fr)) 60 Tryd.f11 (GG m t fr) [.lit (.int .u32 v)])).val =
 (bif (v == (0 : Int)) then
 (.some (.tup [(.agg [(.lit (.int .u32 (0 : Int))), (.lit (.int .u64 (0 : Int))), (.lit (.int .u32 (0 : Int))), (.lit (.int .u32 (0 : Int))), (.lit (.slice .none 0 0))]), (.lit (.int .i64 (1 : Int)))]))
 else (.some (.tup [(.agg [(.lit (.int .u32 v)), (.lit (.int .u64 (1 : Int))), (.lit (.int .u32 (0 : Int))), (.lit (.int .u32 (0 : Int))), (.lit (.slice .none 0 0))]), (.lit (.int .i64 (0 : Int)))])) : Option PV) := by
  kernel_rfl
theorem make_raw_c (m : Int) (t : TypeId) (fr : Nat × Nat) (v : Int) : ((fnPure Tryd.prog (E26 (GG m t fr)) 60 Tryd.f11 (GG m t fr) [.lit (.int .u32 v)])).conds =
 (bif (v == (0 : Int)) then
 true
 else true : Bool) := by
  kernel_rfl
theorem rmake_raw_v (m : Int) (t : TypeId) (fr : Nat × Nat) (v : Int) : ((fnPure Tryd.prog (E26 (GG m t fr)) 60 Tryd.f12 (GG m t fr) [.lit (.int .u32 v)])).val =
 (bif (v == (0 : Int)) then
 (.some (.tup [(.agg [(.lit (.int .u32 (0 : Int))), (.lit (.int .u64 (0 : Int))), (.lit (.int .u32 (0 : Int))), (.lit (.int .u32 (0 : Int))), (.lit (.slice .none 0 0))]), (.lit (.int .i64 (1 : Int)))]))
 else (.some (.tup [(.agg [(.lit (.int .u32 v)), (.lit (.int .u64 (1 : Int))), (.lit (.int .u32 (0 : Int))), (.lit (.int .u32 (0 : Int))), (.lit (.slice .none 0 0))]), (.lit (.int .i64 (0 : Int)))])) : Option PV) := by
  kernel_rfl
theorem rmake_raw_c (m : Int) (t : TypeId) (fr : Nat × Nat) (v : Int) : ((fnPure Tryd.prog (E26 (GG m t fr)) 60 Tryd.f12 (GG m t fr) [.lit (.int .u32 v)])).conds =
 (bif (v == (0 : Int)) then
 true
 else true : Bool) := by
  kernel_rfl
theorem copy_raw_v (m : Int) (t : TypeId) (fr : Nat × Nat) (b : Bx) : ((fnPure Tryd.prog (E26 (GG m t fr)) 60 Tryd.f8 (GG m t fr) [bxP b])).val =
 ((.some (.agg [(.lit (.int .u32 (Bx.v b))), (.lit (.int .u64 (Bx.nx b))), (.lit (.int .u32 (Bx.ma b))), (.lit (.int .u32 (Bx.la b))), (.gsl 6 (0 + (List.length (Bx.l b))) (rowApp 0 (rowOf [] 6) (mRow (Bx.l b))))])) : Option PV) := by
  kernel_rfl
theorem copy_raw_c (m : Int) (t : TypeId) (fr : Nat × Nat) (b : Bx) : ((fnPure Tryd.prog (E26 (GG m t fr)) 60 Tryd.f8 (GG m t fr) [bxP b])).conds =
 (bif (Nat.ble ((0 + (List.length (Bx.l b))) * 48) (140737488355328 : Nat)) then
 true
 else false : Bool) := by
  kernel_rfl
theorem make_ok : PureOK Tryd.prog (GG m t fr) 11 makeG := by
  intro ps p hp
  unfold makeG at hp
  split at hp
  · rename_i v
    simp only [Tr.run, Option.some.injEq] at hp
    subst hp
    have hv := make_raw_v m t fr v
    have hcc := make_raw_c m t fr v
    simp only [Bool.cond_self] at hcc
    have hok := fn_pure mixed (E26_ok (m := m) (t := t) (fr := fr)) (envOf_cuts ..) (f := 11) (fn := Tryd.f11) (by kernel_rfl)
    have nilB : ∀ v n : Int, PLe (.agg [.lit (.int .u32 v), .lit (.int .u64 n), .lit (.int .u32 0), .lit (.int .u32 0), .lit (.slice none 0 0)]) (bxP ⟨v, n, 0, 0, []⟩) := fun v n => PLe.agg (.cons (.refl _) (.cons (.refl _) (.cons (.refl _) (.cons (.refl _) (.cons (PLe.nil 6 _) .nil)))))
    unfold mkB mkE
    cases hz : v == 0 with
    | true =>
      rw [hz] at hv
      exact (hok _ _ (Tr.run_vc hv hcc rfl rfl)).post (PLe.tup (.cons (nilB 0 0) (.refl _)))
    | false =>
      rw [hz] at hv
      exact (hok _ _ (Tr.run_vc hv hcc rfl rfl)).post (PLe.tup (.cons (nilB v 1) (.refl _)))
  · cases hp
theorem rmake_ok : PureOK Tryd.prog (GG m t fr) 12 makeG := by
  intro ps p hp
  unfold makeG at hp
  split at hp
  · rename_i v
    simp only [Tr.run, Option.some.injEq] at hp
    subst hp
    have hv := rmake_raw_v m t fr v
    have hcc := rmake_raw_c m t fr v
    simp only [Bool.cond_self] at hcc
    have hok := fn_pure mixed (E26_ok (m := m) (t := t) (fr := fr)) (envOf_cuts ..) (f := 12) (fn := Tryd.f12) (by kernel_rfl)
    have nilB : ∀ v n : Int, PLe (.agg [.lit (.int .u32 v), .lit (.int .u64 n), .lit (.int .u32 0), .lit (.int .u32 0), .lit (.slice none 0 0)]) (bxP ⟨v, n, 0, 0, []⟩) := fun v n => PLe.agg (.cons (.refl _) (.cons (.refl _) (.cons (.refl _) (.cons (.refl _) (.cons (PLe.nil 6 _) .nil)))))
    unfold mkB mkE
    cases hz : v == 0 with
    | true =>
      rw [hz] at hv
      exact (hok _ _ (Tr.run_vc hv hcc rfl rfl)).post (PLe.tup (.cons (nilB 0 0) (.refl _)))
    | false =>
      rw [hz] at hv
      exact (hok _ _ (Tr.run_vc hv hcc rfl rfl)).post (PLe.tup (.cons (nilB v 1) (.refl _)))
  · cases hp
theorem copyP_ok : PureOK Tryd.prog (GG m t fr) 8 copyG := by
  intro ps p hp
  unfold copyG at hp
  split at hp
  · rename_i p0
    split at hp
    · rename_i v nx mk la n f' hb
      have hbr := br_run hp
      clear hp
      obtain ⟨hc, hq⟩ := hbr
      simp only [Tr.run, Option.some.injEq] at hq
      subst hq
      obtain ⟨hle, hR⟩ := bxOf_le hb hc
      generalize hB : (⟨v, nx, mk, la, mlsOf n f'⟩ : Bx) = b at hle hR
      obtain ⟨r1, r2, r3, r4, r5, r6⟩ := bxR_at hR
      have hv := copy_raw_v m t fr b
      have hcc := copy_raw_c m t fr b
      rw [Nat.ble_eq_true_of_le (by omega)] at hcc
      simp only [app0, Nat.zero_add] at hv
      exact ((fn_pure mixed (E26_ok (m := m) (t := t) (fr := fr)) (envOf_cuts ..) (fn := Tryd.f8) (by kernel_rfl)) _ _ (Tr.run_vc hv hcc rfl rfl)).pre (.cons hle .nil)
    · cases hp
  · cases hp
def cbPure : List (Nat × (List PV → Tr PV)) := (11, makeG) :: (12, makeG) :: (8, copyG) :: caPure
theorem cbPure_ok {m : Int} {t : TypeId} {fr : Nat × Nat} : TabOK Tryd.prog (GG m t fr) cbPure := (TabOK.cons make_ok (fn := Tryd.f11) (by kernel_rfl) (by kernel_rfl) (TabOK.cons rmake_ok (fn := Tryd.f12) (by kernel_rfl) (by kernel_rfl) (TabOK.cons copyP_ok (fn := Tryd.f8) (by kernel_rfl) (by kernel_rfl) caPure_ok)))
noncomputable abbrev E27 (G : GT) : Env := envOf Tryd.prog G cbPure bvFull
theorem E27_ok : (E27 (GG m t fr)).ok Tryd.prog (GG m t fr) := envOf_ok mixed cbPure_ok bvFull_ok
end
end Go.Proofs.YtlngnfkjpfokhaaDoor.Ev
