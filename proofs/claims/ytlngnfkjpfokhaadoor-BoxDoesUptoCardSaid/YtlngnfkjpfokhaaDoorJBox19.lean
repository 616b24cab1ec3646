/- JBox19: several texts in one. Condition: each part's own. -/
import Derived.Test.YtlngnfkjpfokhaaDoorJBox18
import Derived.Test.YtlngnfkjpfokhaaDoorJBox11
/- The document's changes: the loops' cuts. No condition. -/
namespace Go.Proofs.YtlngnfkjpfokhaaDoor.Ev
open Go Go.RowKit Go.Proofs Go.Proofs.YtlngnfkjpfokhaaDoor.Str
set_option linter.unusedVariables false
set_option linter.unusedSimpArgs false
section
variable {m : Int} {t : TypeId} {fr : Nat × Nat}
def r1F : Kept → Tr (Exit × Kept)
  | ([.ptr 0 0, .ptr 1 0, .ptr 2 0, .own 3, p, .lit (.int .i64 u), .lit (.int .i64 0)], [.cells tC [.lit (.int .u8 k), q, .lit (.int .u8 f), .lit (.int .i64 d), .lit (.int .i64 s), .lit (.int .i64 z), .lit (.string r)],
      .cells tB [.lit (.int .u32 0), .lit (.int .u64 0), .lit (.int .u32 0), .lit (.int .u32 0), .lit (.slice none 0 0)], .cells tX [.lit (.int .u32 v), .lit (.int .u64 nx), .lit (.int .u32 ma), .lit (.int .u32 la), .own 4], .row tU 1 0 g1, .row tM 6 0 g2]) => match rowP 6 p, rowP 1 q with
    | some (n, g), some (a, h) => .br (Nat.beq tC 33 && (Nat.beq tB 26 && (Nat.beq tX 26 && (Nat.beq tU 22 && (Nat.beq tM 47 && (areMls n g && (areNums a h && (Nat.ble n 1000000000 && (Nat.ble a 4294967280 && decide (u = n))))))))))
      (.leaf (.exit 1, ([.ptr 0 0, .ptr 1 0, .own 2], [zBox (.lit (.slice none 0 0)), rkB v nx ma la (.own 3), goR (goneL (numsOf a h) (mlsOf n g)), msR (keepL (numsOf a h) (mlsOf n g))]))) .fail
    | _, _ => .fail
  | _ => .fail
theorem chC_le {k f d s z : Int} {r : ByteArray} {q : PV} {a : Nat} {h : Nat → List PV} (hq : rowP 1 q = some (a, h)) (hh : areNums a h = true) :
    BLe (.cells 33 [.lit (.int .u8 k), q, .lit (.int .u8 f), .lit (.int .i64 d), .lit (.int .i64 s), .lit (.int .i64 z), .lit (.string r)]) (chC ⟨k, numsOf a h, f, d, s, z, r⟩) :=
  .cells _ (.cons (.refl _) (.cons ((rowP_le hq).trans (PLe.gsl (nums_len a h).symm (nums_row hh))) (.refl _)))
theorem r1F_ok (x : Kept) (e : Exit) (y : Kept) (h : (r1F x).run = some (e, y)) : LR Tryd.prog (E23 (GG m t fr)) 60 (GG m t fr) 182 r1Outs .normal (theLoop 1 Tryd.f10) x e y := by
  unfold r1F at h
  split at h
  · rename_i p u tC k q f d s z r tB tX v nx ma la tU g1 tM g2
    split at h
    · rename_i n g a h0 hp hq
      have hb := br_run h
      clear h
      obtain ⟨hc, h⟩ := hb
      simp only [Bool.and_eq_true, Nat.ble_eq, decide_eq_true_eq] at hc
      obtain ⟨t1, t2, t3, t4, t5, hg, hh, hn, ha, rfl⟩ := hc
      have t1 := Nat.eq_of_beq_eq_true t1
      have t2 := Nat.eq_of_beq_eq_true t2
      have t3 := Nat.eq_of_beq_eq_true t3
      have t4 := Nat.eq_of_beq_eq_true t4
      have t5 := Nat.eq_of_beq_eq_true t5
      subst t1 t2 t3 t4 t5
      have l1 := mls_len n g
      have l2 := nums_len a h0
      have hple := (rowP_le hp).trans (PLe.gsl l1.symm (mls_row hg))
      simp only [Tr.run, Option.some.injEq, Prod.mk.injEq] at h
      obtain ⟨rfl, rfl⟩ := h
      have key := r1_LR (m := m) (t := t) (fr := fr) ⟨v, nx, ma, la, []⟩ ⟨k, numsOf a h0, f, d, s, z, r⟩ (mlsOf n g) (nums_u32 hh) (by omega) (by dsimp only; omega) (mlsOf n g).length 0 (Nat.zero_add _)
      exact LR.le2 (.cons (.refl _) (.cons (.refl _) (.cons (.refl _) (.cons (.refl _) (.cons hple (.cons (PLe.of_eq (by rw [l1])) (.refl _))))))) (BLeL.cons (chC_le hq hh) (BLeL.cons (.refl _) (BLeL.cons (.refl _) (BLeL.cons (.row _ _ (by simp [goneL]) fun i hi => by omega) (BLeL.cons (.row _ _ (by simp [keepL]) fun i hi => by omega) .nil))))) key
    · cases h
  · cases h
def r3F : Kept → Tr (Exit × Kept)
  | ([.ptr 0 0, .ptr 1 0, .ptr 2 0, p, q', .lit (.int .i64 u), .lit (.int .i64 0)], [.cells tC [.lit (.int .u8 k), q, .lit (.int .u8 f), .lit (.int .i64 d), .lit (.int .i64 s), .lit (.int .i64 z), .lit (.string r)],
      .cells tB [.lit (.int .u32 0), .lit (.int .u64 0), .lit (.int .u32 0), .lit (.int .u32 0), .lit (.slice none 0 0)], .cells tX [.lit (.int .u32 v), .lit (.int .u64 nx), .lit (.int .u32 ma), .lit (.int .u32 la), .own 3], .row tM 6 n g]) => match rowP 1 p, rowP 1 q, rowP 1 q' with
    | some (b, w), some (a, h), some (a', h') => .br (Nat.beq tC 33 && (Nat.beq tB 26 && (Nat.beq tX 26 && (Nat.beq tM 47 && (areMls n g && (areNums a h && (areNums a' h' && (decide (numsOf a' h' = numsOf a h) && (areNums b w && (Nat.ble b 4294967280 && (Nat.ble a 4294967280 && decide (u = a))))))))))))
      (.br (allIn (numsOf a h) (numsOf b w)) (.leaf (.exit 3, ([.ptr 0 0, .ptr 1 0, .ptr 2 0], [chC ⟨k, numsOf a h, f, d, s, z, r⟩, zBox (.lit (.slice none 0 0)), rkB v nx ma la (.own 3), msR (mlsOf n g)])))
        (.leaf (.ret, ([.ptr 0 0, .lit (.slice none 0 0), int 3], [rkB v nx ma la (.own 1), msR (mlsOf n g)])))) .fail
    | _, _, _ => .fail
  | _ => .fail
theorem r3F_ok (x : Kept) (e : Exit) (y : Kept) (h : (r3F x).run = some (e, y)) : LR Tryd.prog (E23 (GG m t fr)) 60 (GG m t fr) 182 r3Outs .normal (theLoop 3 Tryd.f10) x e y := by
  unfold r3F at h
  split at h
  · rename_i p q' u tC k q f d s z r tB tX v nx ma la tM n g
    split at h
    · rename_i b w a h0 a' h' hp hq hq'
      have hb := br_run h
      clear h
      obtain ⟨hc, h⟩ := hb
      simp only [Bool.and_eq_true, Nat.ble_eq, decide_eq_true_eq] at hc
      obtain ⟨t1, t2, t3, t5, hg, hh, hh', he, hw, hbn, ha, rfl⟩ := hc
      have t1 := Nat.eq_of_beq_eq_true t1
      have t2 := Nat.eq_of_beq_eq_true t2
      have t3 := Nat.eq_of_beq_eq_true t3
      have t5 := Nat.eq_of_beq_eq_true t5
      subst t1 t2 t3 t5
      have l1 := mls_len n g
      have l2 := nums_len a h0
      have l3 := nums_len b w
      have l4 := nums_len a' h'
      have hple := (rowP_le hp).trans (PLe.gsl l3.symm (nums_row hw))
      have hqle : PLe q' (.gsl 1 (numsOf a h0).length (nRow (numsOf a h0))) := by
        rw [← he]
        exact (rowP_le hq').trans (PLe.gsl l4.symm (nums_row hh'))
      have key := r3_LR (m := m) (t := t) (fr := fr) ⟨v, nx, ma, la, []⟩ ⟨k, numsOf a h0, f, d, s, z, r⟩ (mlsOf n g) (numsOf b w) (nums_u32 hw) (by omega) (by dsimp only; omega) (numsOf a h0).length 0 (Nat.zero_add _)
      unfold r3Bad at key
      dsimp only at key
      rw [all_scan] at key
      have hB := BLeL.cons (chC_le (k := k) (f := f) (d := d) (s := s) (z := z) (r := r) hq hh) (BLeL.cons (BLe.refl (zBox (.lit (.slice none 0 0)))) (BLeL.cons (BLe.refl (rkB v nx ma la (.own 3))) (BLeL.cons (BLe.row 47 6 l1.symm (mls_row hg)) .nil)))
      cases hr : allIn (numsOf a h0) (numsOf b w) with
      | true =>
        rw [hr] at key h
        simp only [Tr.run, cond_true, Option.some.injEq, Prod.mk.injEq] at h
        obtain ⟨rfl, rfl⟩ := h
        exact LR.le2 (.cons (.refl _) (.cons (.refl _) (.cons (.refl _) (.cons hple (.cons hqle (.cons (PLe.of_eq (by rw [l2])) (.refl _))))))) hB key
      | false =>
        rw [hr] at key h
        simp only [Tr.run, cond_false, Option.some.injEq, Prod.mk.injEq] at h
        obtain ⟨rfl, rfl⟩ := h
        exact LR.le2 (.cons (.refl _) (.cons (.refl _) (.cons (.refl _) (.cons hple (.cons hqle (.cons (PLe.of_eq (by rw [l2])) (.refl _))))))) hB key
    · cases h
  · cases h
def r5F : Kept → Tr (Exit × Kept)
  | ([.ptr 0 0, .ptr 1 0, .ptr 2 0, .own 3, .lit (.int .i64 u), .lit (.int .i64 0)], [.cells tC [.lit (.int .u8 k), q, .lit (.int .u8 f), .lit (.int .i64 d), .lit (.int .i64 s), .lit (.int .i64 z), .lit (.string r)],
      .cells tB [.lit (.int .u32 0), .lit (.int .u64 0), .lit (.int .u32 0), .lit (.int .u32 0), .lit (.slice none 0 0)], .cells tX [.lit (.int .u32 v), .lit (.int .u64 nx), .lit (.int .u32 ma), .lit (.int .u32 la), .own 3], .row tM 6 n g]) => match rowP 1 q with
    | some (a, h) => .br (Nat.beq tC 33 && (Nat.beq tB 26 && (Nat.beq tX 26 && (Nat.beq tM 47 && (areMls n g && (areNums a h && (is234 k && (Nat.ble n 1000000000 && (Nat.ble a 4294967280 && decide (u = n))))))))))
      (.leaf (.exit 5, ([.ptr 0 0, .ptr 1 0, .ptr 2 0], [chC ⟨k, numsOf a h, f, d, s, z, r⟩, zBox (.lit (.slice none 0 0)), rkB v nx ma la (.own 3), msR (markL k f (numsOf a h) (mlsOf n g))]))) .fail
    | none => .fail
  | _ => .fail
theorem r5F_ok (x : Kept) (e : Exit) (y : Kept) (h : (r5F x).run = some (e, y)) : LR Tryd.prog (E23 (GG m t fr)) 60 (GG m t fr) 182 r5Outs .normal (theLoop 5 Tryd.f10) x e y := by
  unfold r5F at h
  split at h
  · rename_i u tC k q f d s z r tB tX v nx ma la tM n g
    split at h
    · rename_i a h0 hq
      have hb := br_run h
      clear h
      obtain ⟨hc, h⟩ := hb
      simp only [Bool.and_eq_true, Nat.ble_eq, decide_eq_true_eq] at hc
      obtain ⟨t1, t2, t3, t5, hg, hh, h234, hn, ha, rfl⟩ := hc
      have t1 := Nat.eq_of_beq_eq_true t1
      have t2 := Nat.eq_of_beq_eq_true t2
      have t3 := Nat.eq_of_beq_eq_true t3
      have t5 := Nat.eq_of_beq_eq_true t5
      subst t1 t2 t3 t5
      have l1 := mls_len n g
      have l2 := nums_len a h0
      simp only [Tr.run, Option.some.injEq, Prod.mk.injEq] at h
      obtain ⟨rfl, rfl⟩ := h
      have key := r5_LR (m := m) (t := t) (fr := fr) ⟨v, nx, ma, la, []⟩ ⟨k, numsOf a h0, f, d, s, z, r⟩ (mlsOf n g) h234 (nums_u32 hh) (by omega) (by dsimp only; omega) (mlsOf n g).length 0 (Nat.zero_add _)
      dsimp only at key
      rw [mkU_zero] at key
      have hB := BLeL.cons (chC_le (k := k) (f := f) (d := d) (s := s) (z := z) (r := r) hq hh) (BLeL.cons (BLe.refl (zBox (.lit (.slice none 0 0)))) (BLeL.cons (BLe.refl (rkB v nx ma la (.own 3))) (BLeL.cons (BLe.row 47 6 l1.symm (mls_row hg)) .nil)))
      exact LR.le2 (.cons (.refl _) (.cons (.refl _) (.cons (.refl _) (.cons (.refl _) (.cons (PLe.of_eq (by rw [l1])) (.refl _)))))) hB key
    · cases h
  · cases h
noncomputable def bwFull (G : GT) : List (Nat × (List PV → Mem → Tr (PV × Mem))) := (8, fnEv Tryd.prog (E23 G) 60 Tryd.f8) :: bvFull
theorem bwFull_ok : FullOK Tryd.prog (GG m t fr) (bwFull (GG m t fr)) := FullOK.cons copy_ok (fn := Tryd.f8) (by kernel_rfl) (by kernel_rfl) bvFull_ok
noncomputable abbrev E24 (G : GT) : Env := envOf Tryd.prog G byPure (bwFull G)
theorem E24_ok : (E24 (GG m t fr)).ok Tryd.prog (GG m t fr) := envOf_ok mixed byPure_ok bwFull_ok
noncomputable abbrev rdCuts (G : GT) := cutAlso 5 (cutOf G 182 r5Outs 5 r5F) (cutAlso 3 (cutOf G 182 r3Outs 3 r3F) (cut1 1 (cutOf G 182 r1Outs 1 r1F)))
theorem rdo_raw_v (m : Int) (t : TypeId) (fr : Nat × Nat) (b : Bx) (c : Ch) : ((fnPure Tryd.prog ((E24 (GG m t fr)).withCuts (rdCuts (GG m t fr))) 60 Tryd.f10 (GG m t fr) [bxP b, chP c])).val =
 (bif (bne (chkE (.mk (Bx.v b) (Bx.nx b) (Bx.ma b) (Bx.la b) (mlsOf (List.length (Bx.l b)) (mRow (Bx.l b))))) (0 : Int)) then
 (.some (.tup [(.agg [(.lit (.int .u32 (0 : Int))), (.lit (.int .u64 (0 : Int))), (.lit (.int .u32 (0 : Int))), (.lit (.int .u32 (0 : Int))), (.lit (.slice .none 0 0))]), (.lit (.slice .none 0 0)), (.lit (.int .i64 (2 : Int)))]))
 else bif (bne (rightE (.mk (Ch.k c) (numsOf (List.length (Ch.us c)) (nRow (Ch.us c))) (Ch.f c) (Ch.d c) (Ch.s c) (Ch.z c) (Ch.r c))) (0 : Int)) then
 (.some (.tup [(.agg [(.lit (.int .u32 (Bx.v b))), (.lit (.int .u64 (Bx.nx b))), (.lit (.int .u32 (Bx.ma b))), (.lit (.int .u32 (Bx.la b))), (.gsl 6 (0 + (List.length (Bx.l b))) (rowApp 0 (rowOf [] 6) (mRow (Bx.l b))))]), (.lit (.slice .none 0 0)), (.lit (.int .i64 (2 : Int)))]))
 else bif ((Ch.k c) == (1 : Int)) then
 bif (decide ((Bx.nx b) > (4294967295 : Int))) then
 (.some (.tup [(.agg [(.lit (.int .u32 (Bx.v b))), (.lit (.int .u64 (Bx.nx b))), (.lit (.int .u32 (Bx.ma b))), (.lit (.int .u32 (Bx.la b))), (.gsl 6 (0 + (List.length (Bx.l b))) (rowApp 0 (rowOf [] 6) (mRow (Bx.l b))))]), (.lit (.slice .none 0 0)), (.lit (.int .i64 (8 : Int)))]))
 else bif (decide ((((List.length (Bx.l b)) : Nat) : Int) ≥ (4096 : Int))) then
 (.some (.tup [(.agg [(.lit (.int .u32 (Bx.v b))), (.lit (.int .u64 (Bx.nx b))), (.lit (.int .u32 (Bx.ma b))), (.lit (.int .u32 (Bx.la b))), (.gsl 6 (0 + (List.length (Bx.l b))) (rowApp 0 (rowOf [] 6) (mRow (Bx.l b))))]), (.lit (.slice .none 0 0)), (.lit (.int .i64 (8 : Int)))]))
 else (.some (.tup [(.agg [(.lit (.int .u32 (Bx.v b))), (.lit (.int .u64 (IntKind.wrap .u64 ((Bx.nx b) + (1 : Int))))), (.lit (.int .u32 (Bx.ma b))), (.lit (.int .u32 (Bx.la b))), (.gsl 6 ((0 + (List.length (Bx.l b))) + 1) (rowApp (0 + (List.length (Bx.l b))) (rowApp 0 (rowOf [] 6) (mRow (Bx.l b))) (rowOf [(.lit (.int .u32 (IntKind.wrap .u32 (Bx.nx b)))), (.lit (.int .u8 (Ch.f c))), (.lit (.int .i64 (Ch.d c))), (.lit (.int .i64 (Ch.s c))), (.lit (.int .i64 (Ch.z c))), (.lit (.string (Ch.r c)))] 6)))]), (.gsl 1 1 (rowOf [(.lit (.int .u32 (IntKind.wrap .u32 (Bx.nx b))))] 1)), (.lit (.int .i64 (0 : Int)))]))
 else bif ((Ch.k c) == (5 : Int)) then
 (.some (.tup [(.agg [(.lit (.int .u32 (Bx.v b))), (.lit (.int .u64 (Bx.nx b))), (.lit (.int .u32 (Bx.ma b))), (.lit (.int .u32 (Bx.la b))), (.gsl 6 (List.length (keepL (numsOf (List.length (Ch.us c)) (nRow (Ch.us c))) (mlsOf (List.length (Bx.l b)) (mRow (Bx.l b))))) (mRow (keepL (numsOf (List.length (Ch.us c)) (nRow (Ch.us c))) (mlsOf (List.length (Bx.l b)) (mRow (Bx.l b))))))]), (.gsl 1 (List.length (goneL (numsOf (List.length (Ch.us c)) (nRow (Ch.us c))) (mlsOf (List.length (Bx.l b)) (mRow (Bx.l b))))) (nRow (goneL (numsOf (List.length (Ch.us c)) (nRow (Ch.us c))) (mlsOf (List.length (Bx.l b)) (mRow (Bx.l b)))))), (.lit (.int .i64 (0 : Int)))]))
 else bif ((Ch.k c) == (6 : Int)) then
 (.some (.tup [(.agg [(.lit (.int .u32 (Bx.v b))), (.lit (.int .u64 (Bx.nx b))), (.lit (.int .u32 (Bx.la b))), (.lit (.int .u32 (IntKind.wrap .u32 (IntKind.wrap .u64 ((Bx.nx b) - (1 : Int)))))), (.gsl 6 (0 + (List.length (Bx.l b))) (rowApp 0 (rowOf [] 6) (mRow (Bx.l b))))]), (.lit (.slice .none 0 0)), (.lit (.int .i64 (0 : Int)))]))
 else bif (allIn (numsOf (List.length (Ch.us c)) (nRow (Ch.us c))) (numsOf (List.length (uiL (.mk (Bx.v b) (Bx.nx b) (Bx.ma b) (Bx.la b) (mlsOf (List.length (Bx.l b)) (mRow (Bx.l b)))))) (nRow (uiL (.mk (Bx.v b) (Bx.nx b) (Bx.ma b) (Bx.la b) (mlsOf (List.length (Bx.l b)) (mRow (Bx.l b)))))))) then
 (.some (.tup [(.agg [(.lit (.int .u32 (Bx.v b))), (.lit (.int .u64 (Bx.nx b))), (.lit (.int .u32 (Bx.ma b))), (.lit (.int .u32 (Bx.la b))), (.gsl 6 (List.length (markL (Ch.k c) (Ch.f c) (numsOf (List.length (Ch.us (.mk (Ch.k c) (numsOf (List.length (Ch.us c)) (nRow (Ch.us c))) (Ch.f c) (Ch.d c) (Ch.s c) (Ch.z c) (Ch.r c)))) (nRow (Ch.us (.mk (Ch.k c) (numsOf (List.length (Ch.us c)) (nRow (Ch.us c))) (Ch.f c) (Ch.d c) (Ch.s c) (Ch.z c) (Ch.r c))))) (mlsOf (List.length (mlsOf (0 + (List.length (Bx.l b))) (rowApp 0 (rowOf [] 6) (mRow (Bx.l b))))) (mRow (mlsOf (0 + (List.length (Bx.l b))) (rowApp 0 (rowOf [] 6) (mRow (Bx.l b)))))))) (mRow (markL (Ch.k c) (Ch.f c) (numsOf (List.length (Ch.us (.mk (Ch.k c) (numsOf (List.length (Ch.us c)) (nRow (Ch.us c))) (Ch.f c) (Ch.d c) (Ch.s c) (Ch.z c) (Ch.r c)))) (nRow (Ch.us (.mk (Ch.k c) (numsOf (List.length (Ch.us c)) (nRow (Ch.us c))) (Ch.f c) (Ch.d c) (Ch.s c) (Ch.z c) (Ch.r c))))) (mlsOf (List.length (mlsOf (0 + (List.length (Bx.l b))) (rowApp 0 (rowOf [] 6) (mRow (Bx.l b))))) (mRow (mlsOf (0 + (List.length (Bx.l b))) (rowApp 0 (rowOf [] 6) (mRow (Bx.l b)))))))))]), (.gsl 1 (0 + (List.length (Ch.us (.mk (Ch.k c) (numsOf (List.length (Ch.us (.mk (Ch.k c) (numsOf (List.length (Ch.us c)) (nRow (Ch.us c))) (Ch.f c) (Ch.d c) (Ch.s c) (Ch.z c) (Ch.r c)))) (nRow (Ch.us (.mk (Ch.k c) (numsOf (List.length (Ch.us c)) (nRow (Ch.us c))) (Ch.f c) (Ch.d c) (Ch.s c) (Ch.z c) (Ch.r c))))) (Ch.f c) (Ch.d c) (Ch.s c) (Ch.z c) (Ch.r c))))) (rowApp 0 (rowOf [] 1) (nRow (Ch.us (.mk (Ch.k c) (numsOf (List.length (Ch.us (.mk (Ch.k c) (numsOf (List.length (Ch.us c)) (nRow (Ch.us c))) (Ch.f c) (Ch.d c) (Ch.s c) (Ch.z c) (Ch.r c)))) (nRow (Ch.us (.mk (Ch.k c) (numsOf (List.length (Ch.us c)) (nRow (Ch.us c))) (Ch.f c) (Ch.d c) (Ch.s c) (Ch.z c) (Ch.r c))))) (Ch.f c) (Ch.d c) (Ch.s c) (Ch.z c) (Ch.r c)))))), (.lit (.int .i64 (0 : Int)))]))
 else (.some (.tup [(.agg [(.lit (.int .u32 (Bx.v b))), (.lit (.int .u64 (Bx.nx b))), (.lit (.int .u32 (Bx.ma b))), (.lit (.int .u32 (Bx.la b))), (.gsl 6 (List.length (mlsOf (0 + (List.length (Bx.l b))) (rowApp 0 (rowOf [] 6) (mRow (Bx.l b))))) (mRow (mlsOf (0 + (List.length (Bx.l b))) (rowApp 0 (rowOf [] 6) (mRow (Bx.l b))))))]), (.lit (.slice .none 0 0)), (.lit (.int .i64 (3 : Int)))])) : Option PV) := by
  kernel_rfl
theorem rdo_raw_c (m : Int) (t : TypeId) (fr : Nat × Nat) (b : Bx) (c : Ch) : ((fnPure Tryd.prog ((E24 (GG m t fr)).withCuts (rdCuts (GG m t fr))) 60 Tryd.f10 (GG m t fr) [bxP b, chP c])).conds =
 (bif (bxGd (Bx.v b) (Bx.nx b) (Bx.ma b) (Bx.la b) (List.length (Bx.l b)) (mRow (Bx.l b))) then
 bif (bne (chkE (.mk (Bx.v b) (Bx.nx b) (Bx.ma b) (Bx.la b) (mlsOf (List.length (Bx.l b)) (mRow (Bx.l b))))) (0 : Int)) then
 true
 else bif (Nat.ble ((0 + (List.length (Bx.l b))) * 48) (140737488355328 : Nat)) then
 bif (chGd (.mk (Ch.k c) (numsOf (List.length (Ch.us c)) (nRow (Ch.us c))) (Ch.f c) (Ch.d c) (Ch.s c) (Ch.z c) (Ch.r c)) (List.length (Ch.us c)) (nRow (Ch.us c))) then
 bif (bne (rightE (.mk (Ch.k c) (numsOf (List.length (Ch.us c)) (nRow (Ch.us c))) (Ch.f c) (Ch.d c) (Ch.s c) (Ch.z c) (Ch.r c))) (0 : Int)) then
 true
 else bif ((Ch.k c) == (1 : Int)) then
 bif (decide ((Bx.nx b) > (4294967295 : Int))) then
 true
 else bif (decide ((((List.length (Bx.l b)) : Nat) : Int) ≥ (4096 : Int))) then
 true
 else bif (Nat.ble (((0 + (List.length (Bx.l b))) + 1) * 48) (140737488355328 : Nat)) then
 true
 else false
 else bif ((Ch.k c) == (5 : Int)) then
 bif ((areMls (List.length (Bx.l b)) (mRow (Bx.l b))) && ((areNums (List.length (Ch.us c)) (nRow (Ch.us c))) && ((Nat.ble (List.length (Bx.l b)) (1000000000 : Nat)) && ((Nat.ble (List.length (Ch.us c)) (4294967280 : Nat)) && (decide ((((List.length (Bx.l b)) : Nat) : Int) = (((List.length (Bx.l b)) : Nat) : Int))))))) then
 true
 else false
 else bif ((Ch.k c) == (6 : Int)) then
 true
 else bif (bxGd (Bx.v b) (Bx.nx b) (Bx.ma b) (Bx.la b) (List.length (Bx.l b)) (mRow (Bx.l b))) then
 bif (bxGd (Bx.v b) (Bx.nx b) (Bx.ma b) (Bx.la b) (List.length (Bx.l b)) (mRow (Bx.l b))) then
 bif ((areMls (0 + (List.length (Bx.l b))) (rowApp 0 (rowOf [] 6) (mRow (Bx.l b)))) && ((areNums (List.length (Ch.us c)) (nRow (Ch.us c))) && ((areNums (List.length (Ch.us c)) (nRow (Ch.us c))) && ((decide ((numsOf (List.length (Ch.us c)) (nRow (Ch.us c))) = (numsOf (List.length (Ch.us c)) (nRow (Ch.us c))))) && ((areNums (List.length (uiL (.mk (Bx.v b) (Bx.nx b) (Bx.ma b) (Bx.la b) (mlsOf (List.length (Bx.l b)) (mRow (Bx.l b)))))) (nRow (uiL (.mk (Bx.v b) (Bx.nx b) (Bx.ma b) (Bx.la b) (mlsOf (List.length (Bx.l b)) (mRow (Bx.l b))))))) && ((Nat.ble (List.length (uiL (.mk (Bx.v b) (Bx.nx b) (Bx.ma b) (Bx.la b) (mlsOf (List.length (Bx.l b)) (mRow (Bx.l b)))))) (4294967280 : Nat)) && ((Nat.ble (List.length (Ch.us c)) (4294967280 : Nat)) && (decide ((((List.length (Ch.us c)) : Nat) : Int) = (((List.length (Ch.us c)) : Nat) : Int)))))))))) then
 bif (allIn (numsOf (List.length (Ch.us c)) (nRow (Ch.us c))) (numsOf (List.length (uiL (.mk (Bx.v b) (Bx.nx b) (Bx.ma b) (Bx.la b) (mlsOf (List.length (Bx.l b)) (mRow (Bx.l b)))))) (nRow (uiL (.mk (Bx.v b) (Bx.nx b) (Bx.ma b) (Bx.la b) (mlsOf (List.length (Bx.l b)) (mRow (Bx.l b)))))))) then
 bif ((areMls (List.length (mlsOf (0 + (List.length (Bx.l b))) (rowApp 0 (rowOf [] 6) (mRow (Bx.l b))))) (mRow (mlsOf (0 + (List.length (Bx.l b))) (rowApp 0 (rowOf [] 6) (mRow (Bx.l b)))))) && ((areNums (List.length (Ch.us (.mk (Ch.k c) (numsOf (List.length (Ch.us c)) (nRow (Ch.us c))) (Ch.f c) (Ch.d c) (Ch.s c) (Ch.z c) (Ch.r c)))) (nRow (Ch.us (.mk (Ch.k c) (numsOf (List.length (Ch.us c)) (nRow (Ch.us c))) (Ch.f c) (Ch.d c) (Ch.s c) (Ch.z c) (Ch.r c))))) && ((is234 (Ch.k c)) && ((Nat.ble (List.length (mlsOf (0 + (List.length (Bx.l b))) (rowApp 0 (rowOf [] 6) (mRow (Bx.l b))))) (1000000000 : Nat)) && ((Nat.ble (List.length (Ch.us (.mk (Ch.k c) (numsOf (List.length (Ch.us c)) (nRow (Ch.us c))) (Ch.f c) (Ch.d c) (Ch.s c) (Ch.z c) (Ch.r c)))) (4294967280 : Nat)) && (decide ((((List.length (mlsOf (0 + (List.length (Bx.l b))) (rowApp 0 (rowOf [] 6) (mRow (Bx.l b))))) : Nat) : Int) = (((List.length (mlsOf (0 + (List.length (Bx.l b))) (rowApp 0 (rowOf [] 6) (mRow (Bx.l b))))) : Nat) : Int)))))))) then
 bif (Nat.ble ((0 + (List.length (Ch.us (.mk (Ch.k c) (numsOf (List.length (Ch.us (.mk (Ch.k c) (numsOf (List.length (Ch.us c)) (nRow (Ch.us c))) (Ch.f c) (Ch.d c) (Ch.s c) (Ch.z c) (Ch.r c)))) (nRow (Ch.us (.mk (Ch.k c) (numsOf (List.length (Ch.us c)) (nRow (Ch.us c))) (Ch.f c) (Ch.d c) (Ch.s c) (Ch.z c) (Ch.r c))))) (Ch.f c) (Ch.d c) (Ch.s c) (Ch.z c) (Ch.r c))))) * 4) (140737488355328 : Nat)) then
 true
 else false
 else false
 else true
 else false
 else false
 else false
 else false
 else false
 else false : Bool) := by
  kernel_rfl
end
end Go.Proofs.YtlngnfkjpfokhaaDoor.Ev

/- What a change leaves right: plain facts. No condition. -/
namespace Go.Proofs.YtlngnfkjpfokhaaDoor.Ev
open Go Go.RowKit Go.Proofs Go.Proofs.YtlngnfkjpfokhaaDoor.Str
set_option linter.unusedVariables false
set_option linter.unusedSimpArgs false
theorem wrap8 (x : BitVec 8) : IntKind.wrap .u8 ((x.toNat : Nat) : Int) = ((x.toNat : Nat) : Int) := by
  have := x.isLt
  simp [IntKind.wrap, IntKind.bits, IntKind.signed]
  omega
theorem of8 (x : BitVec 8) : BitVec.ofInt 8 ((x.toNat : Nat) : Int) = x := by
  rw [BitVec.ofInt_natCast, BitVec.ofNat_toNat, BitVec.setWidth_eq]
theorem to8 {a : Int} (h : u8B a = true) : (((BitVec.ofInt 8 a).toNat : Nat) : Int) = a := by
  unfold u8B at h
  simp only [Bool.and_eq_true, decide_eq_true_eq] at h
  obtain ⟨n, rfl⟩ := Int.eq_ofNat_of_zero_le h.1
  rw [BitVec.ofInt_natCast, BitVec.toNat_ofNat, Nat.mod_eq_of_lt (by omega)]
theorem turn_3 (had f : Int) : turnF 3 had f = (((BitVec.ofInt 8 had ||| BitVec.ofInt 8 f).toNat : Nat) : Int) := by
  unfold turnF
  exact wrap8 _
theorem turn_4 (had f : Int) : turnF 4 had f = (((BitVec.ofInt 8 had &&& ~~~ BitVec.ofInt 8 f).toNat : Nat) : Int) := by
  unfold turnF
  exact wrap8 _
theorem turn_le {k had f : Int} (hk : k = 2 ∨ k = 3 ∨ k = 4) (hh : u8B had = true) (hf : u8B f = true) (h1 : had ≤ 31) (h2 : f ≤ 31) : turnF k had f ≤ 31 := by
  have e1 := to8 hh
  have e2 := to8 hf
  rcases hk with rfl | rfl | rfl
  · exact h2
  · rw [turn_3, BitVec.toNat_or]
    have : (BitVec.ofInt 8 had).toNat ||| (BitVec.ofInt 8 f).toNat < 2 ^ 5 := Nat.or_lt_two_pow (by omega) (by omega)
    omega
  · rw [turn_4, BitVec.toNat_and]
    have : (BitVec.ofInt 8 had).toNat &&& (~~~ BitVec.ofInt 8 f).toNat ≤ (BitVec.ofInt 8 had).toNat := Nat.and_le_left
    omega
/-- what is added is there -/
theorem and_add (x y : BitVec 8) : (x ||| y) &&& y = y := by
  refine BitVec.eq_of_getLsbD_eq fun i hi => ?_
  simp only [BitVec.getLsbD_and, BitVec.getLsbD_or]
  cases x.getLsbD i <;> cases y.getLsbD i <;> rfl
/-- what is removed is not -/
theorem and_rem (x y : BitVec 8) : (x &&& ~~~ y) &&& y = 0#8 := by
  refine BitVec.eq_of_getLsbD_eq fun i hi => ?_
  simp only [BitVec.getLsbD_and, BitVec.getLsbD_not, BitVec.getLsbD_zero]
  cases x.getLsbD i <;> cases y.getLsbD i <;> simp
theorem ok_kind {c : Ch} (h : rightE c = 0) : c.k = 1 ∨ c.k = 2 ∨ c.k = 3 ∨ c.k = 4 ∨ c.k = 5 ∨ c.k = 6 := by
  unfold rightE at h
  cases hk : okCh c with
  | false => rw [hk] at h; cases h
  | true =>
    unfold okCh at hk
    by_cases k1 : c.k = 1
    · exact .inl k1
    · by_cases k2 : c.k = 2
      · exact .inr (.inl k2)
      · by_cases k3 : c.k = 3
        · exact .inr (.inr (.inl k3))
        · by_cases k4 : c.k = 4
          · exact .inr (.inr (.inr (.inl k4)))
          · by_cases k5 : c.k = 5
            · exact .inr (.inr (.inr (.inr (.inl k5))))
            · by_cases k6 : c.k = 6
              · exact .inr (.inr (.inr (.inr (.inr k6))))
              · have n1 : (c.k == 1) = false := by simpa using k1
                have n2 : (c.k == 2) = false := by simpa using k2
                have n3 : (c.k == 3) = false := by simpa using k3
                have n4 : (c.k == 4) = false := by simpa using k4
                have n5 : (c.k == 5) = false := by simpa using k5
                have n6 : (c.k == 6) = false := by simpa using k6
                rw [n1, n2, n3, n4, n5, n6] at hk
                cases hk
theorem ok_fine {c : Ch} (h : rightE c = 0) (k1 : c.k = 1) : fineB c.f c.d c.s c.z c.r = true := by
  unfold rightE at h
  cases hk : okCh c with
  | false => rw [hk] at h; cases h
  | true =>
    unfold okCh at hk
    have n1 : (c.k == 1) = true := by simpa using k1
    rw [n1] at hk
    simp only [cond_true, Bool.and_eq_true] at hk
    exact hk.1
theorem ok_flag {c : Ch} (h : rightE c = 0) (hk : c.k = 2 ∨ c.k = 3 ∨ c.k = 4) : c.f ≤ 31 := by
  unfold rightE at h
  cases ho : okCh c with
  | false => rw [ho] at h; cases h
  | true =>
    unfold okCh at ho
    rcases hk with k | k | k <;> rw [k] at ho
    · replace ho : (decide (c.f ≤ 31) && (posE c.us == 0 && (inZ c && rZ c))) = true := ho
      simp only [Bool.and_eq_true, decide_eq_true_eq] at ho
      exact ho.1
    · replace ho : (decide (c.f ≤ 31) && (posE c.us == 0 && (inZ c && rZ c))) = true := ho
      simp only [Bool.and_eq_true, decide_eq_true_eq] at ho
      exact ho.1
    · replace ho : (decide (c.f ≤ 31) && (posE c.us == 0 && (inZ c && rZ c))) = true := ho
      simp only [Bool.and_eq_true, decide_eq_true_eq] at ho
      exact ho.1
/-- the ways of a change -/
inductive DoCase (b : Bx) (c : Ch) : Prop where
  | bad (h : chkE b ≠ 0) (e : doB b c = (bxZ, [], 2))
  | wrong (h : chkE b = 0) (hr : rightE c ≠ 0) (e : doB b c = (b, [], 2))
  | full (h : chkE b = 0) (hr : rightE c = 0) (k : c.k = 1) (e : doB b c = (b, [], 8))
  | app (h : chkE b = 0) (hr : rightE c = 0) (k : c.k = 1) (h1 : b.nx ≤ 4294967295) (h2 : b.l.length ≠ 4096) (e : doB b c = (⟨b.v, b.nx + 1, b.ma, b.la, b.l ++ [nMl b c]⟩, [b.nx], 0))
  | exp (h : chkE b = 0) (hr : rightE c = 0) (k : c.k = 5) (e : doB b c = (⟨b.v, b.nx, b.ma, b.la, keepL c.us b.l⟩, goneL c.us b.l, 0))
  | sel (h : chkE b = 0) (hr : rightE c = 0) (k : c.k = 6) (e : doB b c = (⟨b.v, b.nx, b.la, b.nx - 1, b.l⟩, [], 0))
  | mark (h : chkE b = 0) (hr : rightE c = 0) (k : c.k = 2 ∨ c.k = 3 ∨ c.k = 4) (ha : allIn c.us (usM b.l) = true) (e : doB b c = (⟨b.v, b.nx, b.ma, b.la, markL c.k c.f c.us b.l⟩, c.us, 0))
  | none (h : chkE b = 0) (hr : rightE c = 0) (k : c.k = 2 ∨ c.k = 3 ∨ c.k = 4) (ha : allIn c.us (usM b.l) = false) (e : doB b c = (b, [], 3))
theorem do_case (b : Bx) (c : Ch) : DoCase b c := by
  by_cases h : chkE b = 0
  · have h0 : (chkE b == 0) = true := by simpa using h
    by_cases hr : rightE c = 0
    · have r0 : (rightE c == 0) = true := by simpa using hr
      rcases ok_kind hr with k | k | k | k | k | k
      · cases hf : fullB b with
        | true => exact .full h hr k (by unfold doB; rw [h0, r0, k, hf]; rfl)
        | false =>
          have hf' := hf
          unfold fullB at hf
          simp only [Bool.or_eq_false_iff, decide_eq_false_iff_not] at hf
          exact .app h hr k (by omega) hf.2 (by unfold doB; rw [h0, r0, k, hf']; rfl)
      · cases ha : allIn c.us (usM b.l) with
        | true => exact .mark h hr (.inl k) ha (by unfold doB; rw [h0, r0, k, ha]; rfl)
        | false => exact .none h hr (.inl k) ha (by unfold doB; rw [h0, r0, k, ha]; rfl)
      · cases ha : allIn c.us (usM b.l) with
        | true => exact .mark h hr (.inr (.inl k)) ha (by unfold doB; rw [h0, r0, k, ha]; rfl)
        | false => exact .none h hr (.inr (.inl k)) ha (by unfold doB; rw [h0, r0, k, ha]; rfl)
      · cases ha : allIn c.us (usM b.l) with
        | true => exact .mark h hr (.inr (.inr k)) ha (by unfold doB; rw [h0, r0, k, ha]; rfl)
        | false => exact .none h hr (.inr (.inr k)) ha (by unfold doB; rw [h0, r0, k, ha]; rfl)
      · exact .exp h hr k (by unfold doB; rw [h0, r0, k]; rfl)
      · exact .sel h hr k (by unfold doB; rw [h0, r0, k]; rfl)
    · have r0 : (rightE c == 0) = false := by simpa using hr
      exact .wrong h hr (by unfold doB; rw [h0, r0]; rfl)
  · have h0 : (chkE b == 0) = false := by simpa using h
    exact .bad h (by unfold doB; rw [h0]; rfl)
theorem keep_R {us : List Int} {l : List Ml} (h : l.all mlR = true) : (keepL us l).all mlR = true := by
  rw [List.all_eq_true] at h ⊢
  intro x hx
  exact h x (List.mem_filter.1 hx).1
theorem keep_us {us : List Int} (l : List Ml) : (usM (keepL us l)).Sublist (usM l) := List.Sublist.map _ List.filter_sublist
theorem gone_us (us : List Int) (l : List Ml) : ∀ u ∈ goneL us l, u ∈ us := by
  intro u hu
  unfold goneL at hu
  obtain ⟨x, hx, rfl⟩ := List.mem_map.1 hu
  have := (List.mem_filter.1 hx).2
  unfold delB inI at this
  simp only [Bool.and_eq_true, decide_eq_true_eq] at this
  exact this.1
theorem gone_R {us : List Int} {l : List Ml} (h : us.all u32N = true) : (goneL us l).all u32N = true := by
  rw [List.all_eq_true] at h ⊢
  exact fun u hu => h u (gone_us us l u hu)
theorem bxR_mk {v nx ma la : Int} {l : List Ml} (h1 : u32N v = true) (h2 : 0 ≤ nx ∧ nx ≤ 4294967296) (h3 : u32N ma = true) (h4 : u32N la = true) (h5 : l.all mlR = true) (h6 : l.length ≤ 4294967280) : bxR ⟨v, nx, ma, la, l⟩ = true := by
  unfold bxR
  dsimp only
  have : u64B nx = true := by
    unfold u64B
    simp only [Bool.and_eq_true, decide_eq_true_eq]
    omega
  rw [h1, this, h3, h4, h5, Nat.ble_eq_true_of_le h6]
  rfl
theorem u32_mk {a : Int} (h0 : 0 ≤ a) (h1 : a < 4294967296) : u32N a = true := by
  unfold u32N
  rw [decide_eq_true h0, decide_eq_true h1]
  rfl
/-- what comes is fit to be told -/
theorem do_R {b : Bx} {c : Ch} (hb : bxR b = true) (hc : chR c = true) : bxR (doB b c).1 = true ∧ (doB b c).2.1.all u32N = true ∧ (doB b c).2.1.length ≤ 4294967280 := by
  obtain ⟨r1, r2, r3, r4, r5, r6⟩ := bxR_at hb
  obtain ⟨q1, q2, q3, q4⟩ := chR_at hc
  have hz : bxR bxZ = true := by decide
  cases do_case b c with
  | bad h e => rw [e]; exact ⟨hz, rfl, Nat.zero_le _⟩
  | wrong h hr e => rw [e]; exact ⟨hb, rfl, Nat.zero_le _⟩
  | full h hr k e => rw [e]; exact ⟨hb, rfl, Nat.zero_le _⟩
  | none h hr k ha e => rw [e]; exact ⟨hb, rfl, Nat.zero_le _⟩
  | app h hr k h1 h2 e =>
    have hk := chk_at h
    have n1 := hk.n1
    have hlen := hk.len
    have hu : u32N b.nx = true := u32_mk (by omega) (by omega)
    rw [e]
    refine ⟨bxR_mk r1 ⟨by omega, by omega⟩ r3 r4 ?_ (by simp only [List.length_append, List.length_singleton]; omega), by simp [hu], by simp⟩
    rw [List.all_append, r5]
    simp only [List.all_cons, List.all_nil, Bool.and_true, Bool.true_and]
    unfold mlR nMl
    dsimp only
    unfold u32N at hu
    rw [hu, q3]
    rfl
  | exp h hr k e =>
    have hk := chk_at h
    have n1 := hk.n1
    have n2 := hk.n2
    have hlen := hk.len
    rw [e]
    have k1 : (keepL c.us b.l).length ≤ b.l.length := List.length_filter_le _ _
    have k2 : (goneL c.us b.l).length ≤ b.l.length := by
      unfold goneL
      rw [List.length_map]
      exact List.length_filter_le _ _
    exact ⟨bxR_mk r1 ⟨by omega, by omega⟩ r3 r4 (keep_R r5) (by omega), gone_R q2, by dsimp only; omega⟩
  | sel h hr k e =>
    have hk := chk_at h
    have n1 := hk.n1
    have n2 := hk.n2
    rw [e]
    exact ⟨bxR_mk r1 ⟨by omega, by omega⟩ r4 (u32_mk (by omega) (by omega)) r5 r6, rfl, Nat.zero_le _⟩
  | mark h hr k ha e =>
    have hk := chk_at h
    have n1 := hk.n1
    have n2 := hk.n2
    rw [e]
    exact ⟨bxR_mk r1 ⟨by omega, by omega⟩ r3 r4 (mark_R q3 r5) (by rw [mark_len]; exact r6), q2, q4⟩
theorem fine_flag {f f' d s z : Int} {r : ByteArray} (h : fineB f d s z r = true) (hf : f' ≤ 31) : fineB f' d s z r = true := by
  unfold fineB at h ⊢
  simp only [Bool.and_eq_true] at h
  rw [h.1.2, h.2, decide_eq_true hf]
  rfl
theorem fine_le {x : Ml} (h : mFine x = true) : x.f ≤ 31 := by
  unfold mFine fineB at h
  simp only [Bool.and_eq_true, decide_eq_true_eq] at h
  exact h.1.1
/-- a box stays right -/
theorem do_OK {b : Bx} {c : Ch} (hb : bxR b = true) (hc : chR c = true) (h0 : (doB b c).2.2 = 0) : BxOK (doB b c).1 := by
  obtain ⟨r1, r2, r3, r4, r5, r6⟩ := bxR_at hb
  obtain ⟨q1, q2, q3, q4⟩ := chR_at hc
  cases do_case b c with
  | bad h e => rw [e] at h0; cases h0
  | wrong h hr e => rw [e] at h0; cases h0
  | full h hr k e => rw [e] at h0; cases h0
  | none h hr k ha e => rw [e] at h0; cases h0
  | app h hr k h1 h2 e =>
    have hk := chk_at h
    have n1 := hk.n1
    have hlen := hk.len
    have hla := hk.la
    rw [e]
    refine ⟨hk.v, by dsimp only; omega, by dsimp only; omega, by simp only [List.length_append, List.length_singleton]; omega, hk.ma, by dsimp only; omega, ?_, ?_, ?_⟩
    · show List.Pairwise _ (usM (b.l ++ [nMl b c]))
      unfold usM
      rw [List.map_append, List.pairwise_append]
      refine ⟨hk.ris, by simp, fun x hx y hy => ?_⟩
      simp only [List.map_cons, List.map_nil, List.mem_singleton] at hy
      subst hy
      exact (hk.pos x hx).2
    · intro u hu
      have hu : u ∈ usM (b.l ++ [nMl b c]) := hu
      unfold usM at hu
      rw [List.map_append, List.mem_append] at hu
      rcases hu with hu | hu
      · have := hk.pos u hu
        dsimp only
        omega
      · simp only [List.map_cons, List.map_nil, List.mem_singleton] at hu
        subst hu
        show 0 < b.nx ∧ b.nx < b.nx + 1
        omega
    · intro x hx
      have hx : x ∈ b.l ++ [nMl b c] := hx
      rcases List.mem_append.1 hx with hx | hx
      · exact hk.fine x hx
      · rw [List.mem_singleton.1 hx]
        exact ok_fine hr k
  | exp h hr k e =>
    have hk := chk_at h
    rw [e]
    have k1 : (keepL c.us b.l).length ≤ b.l.length := List.length_filter_le _ _
    have hlen := hk.len
    exact ⟨hk.v, hk.n1, hk.n2, by dsimp only; omega, hk.ma, hk.la, hk.ris.sublist (keep_us _), fun u hu => hk.pos u ((keep_us _).subset hu), fun x hx => hk.fine x (List.mem_filter.1 hx).1⟩
  | sel h hr k e =>
    have hk := chk_at h
    have h1 := hk.la
    rw [e]
    exact ⟨hk.v, hk.n1, hk.n2, hk.len, by dsimp only; omega, by dsimp only; omega, hk.ris, hk.pos, hk.fine⟩
  | mark h hr k ha e =>
    have hk := chk_at h
    rw [e]
    refine ⟨hk.v, hk.n1, hk.n2, by dsimp only; rw [mark_len]; exact hk.len, hk.ma, hk.la, by dsimp only; rw [mark_us]; exact hk.ris, by dsimp only; rw [mark_us]; exact hk.pos, fun x hx => ?_⟩
    have hx : x ∈ markL c.k c.f c.us b.l := hx
    unfold markL at hx
    obtain ⟨y, hy, rfl⟩ := List.mem_map.1 hx
    have hf := hk.fine y hy
    cases inI c.us y.u with
    | false => exact hf
    | true =>
      have hy8 : u8B y.f = true := by
        have := List.all_eq_true.1 r5 y hy
        unfold mlR at this
        simp only [Bool.and_eq_true] at this
        exact this.2
      exact fine_flag hf (turn_le k hy8 q3 (fine_le hf) (ok_flag hr k))
/-- the mail of a number -/
theorem place_ml {b : Bx} (h : BxOK b) (x : Int) : placeM b x = (b.l.find? fun y => decide (y.u = x)).getD mlZ := by
  unfold placeM
  rw [chk_of h]
  show (bif inI (usM b.l) x then ml b.l (lbI (usM b.l) x) else mlZ) = _
  cases hi : inI (usM b.l) x with
  | true =>
    obtain ⟨h1, h2⟩ := lb_mail h.ris hi
    have : b.l.find? (fun y => decide (y.u = x)) = some (ml b.l (lbI (usM b.l) x)) := by
      rw [List.find?_eq_some_iff_getElem]
      refine ⟨by simp [h2], lbI (usM b.l) x, h1, by simp [ml, h1], fun j hj => ?_⟩
      simp only [Bool.not_eq_true', decide_eq_false_iff_not]
      intro he
      have hj' : j < b.l.length := by omega
      have := u_inj h.ris hj' h1 (by rw [h2, ← he]; simp [ml, hj'])
      omega
    rw [this]
    rfl
  | false =>
    have : b.l.find? (fun y => decide (y.u = x)) = none := by
      rw [List.find?_eq_none]
      intro y hy
      simp only [decide_eq_true_eq]
      intro he
      unfold inI at hi
      rw [decide_eq_false_iff_not] at hi
      exact hi (by rw [← he]; exact List.mem_map.2 ⟨y, hy, rfl⟩)
    rw [this]
    rfl
theorem place_w {b : Bx} (h : BxOK b) (x : Int) : placeW b x = bif (b.l.find? fun y => decide (y.u = x)).isSome then 0 else 3 := by
  unfold placeW
  rw [chk_of h]
  show (bif inI (usM b.l) x then 0 else 3) = _
  have : inI (usM b.l) x = (b.l.find? fun y => decide (y.u = x)).isSome := by
    rw [Bool.eq_iff_iff, List.find?_isSome]
    unfold inI usM
    simp only [decide_eq_true_eq, List.mem_map]
  rw [this]
theorem find_keep {us : List Int} {x : Int} (hx : inI us x = false) : ∀ (l : List Ml), (keepL us l).find? (fun y => decide (y.u = x)) = l.find? fun y => decide (y.u = x)
  | [] => rfl
  | y :: r => by
    have ih := find_keep hx r
    unfold keepL at ih ⊢
    by_cases he : y.u = x
    · have : (!delB us y) = true := by
        unfold delB
        rw [he, hx]
        rfl
      rw [List.filter_cons, this, if_pos rfl, List.find?_cons, List.find?_cons, decide_eq_true he]
    · rw [List.filter_cons, List.find?_cons, decide_eq_false he]
      split
      · rw [List.find?_cons, decide_eq_false he]
        exact ih
      · exact ih
theorem find_mark {k f : Int} {us : List Int} {x : Int} (hx : inI us x = false) : ∀ (l : List Ml), (markL k f us l).find? (fun y => decide (y.u = x)) = l.find? fun y => decide (y.u = x)
  | [] => rfl
  | y :: r => by
    have ih := find_mark (k := k) (f := f) hx r
    unfold markL at ih ⊢
    have hu : (bif inI us y.u then mk1 k f y else y).u = y.u := by cases inI us y.u <;> rfl
    rw [List.map_cons, List.find?_cons, List.find?_cons, hu]
    by_cases he : y.u = x
    · rw [decide_eq_true he, he, hx]
      rfl
    · rw [decide_eq_false he]
      exact ih
/-- others stay -/
theorem do_apart {b : Bx} {c : Ch} {x : Int} (hb : bxR b = true) (hc : chR c = true) (h0 : (doB b c).2.2 = 0) (h1 : c.k ≠ 1) (hx : inI c.us x = false) : placeM (doB b c).1 x = placeM b x ∧ placeW (doB b c).1 x = placeW b x := by
  have hok := do_OK hb hc h0
  have fin : BxOK b → (doB b c).1.l.find? (fun y => decide (y.u = x)) = b.l.find? (fun y => decide (y.u = x)) → placeM (doB b c).1 x = placeM b x ∧ placeW (doB b c).1 x = placeW b x := by
    intro hk he
    rw [place_ml hok, place_ml hk, place_w hok, place_w hk, he]
    exact ⟨rfl, rfl⟩
  cases do_case b c with
  | bad h e => rw [e] at h0; cases h0
  | wrong h hr e => rw [e] at h0; cases h0
  | full h hr k e => rw [e] at h0; cases h0
  | none h hr k ha e => rw [e] at h0; cases h0
  | app h hr k _ _ e => exact absurd k h1
  | exp h hr k e => exact fin (chk_at h) (by rw [e]; exact find_keep hx _)
  | sel h hr k e => exact fin (chk_at h) (by rw [e])
  | mark h hr k ha e => exact fin (chk_at h) (by rw [e]; exact find_mark hx _)
/-- what is told is among one's own, and the next number stays -/
theorem do_told {b : Bx} {c : Ch} (h0 : (doB b c).2.2 = 0) (h1 : c.k ≠ 1) : (∀ u ∈ (doB b c).2.1, inI c.us u = true) ∧ (doB b c).1.nx = b.nx := by
  cases do_case b c with
  | bad h e => rw [e] at h0; cases h0
  | wrong h hr e => rw [e] at h0; cases h0
  | full h hr k e => rw [e] at h0; cases h0
  | none h hr k ha e => rw [e] at h0; cases h0
  | app h hr k _ _ e => exact absurd k h1
  | exp h hr k e =>
    rw [e]
    exact ⟨fun u hu => decide_eq_true (gone_us _ _ u hu), rfl⟩
  | sel h hr k e => rw [e]; exact ⟨fun u hu => (by cases hu), rfl⟩
  | mark h hr k ha e => rw [e]; exact ⟨fun u hu => decide_eq_true hu, rfl⟩
end Go.Proofs.YtlngnfkjpfokhaaDoor.Ev

/- The document's box, changed: the contract. No condition. -/
namespace Go.Proofs.YtlngnfkjpfokhaaDoor.Ev
open Go Go.RowKit Go.Proofs Go.Proofs.YtlngnfkjpfokhaaDoor.Str
set_option linter.unusedVariables false
set_option linter.unusedSimpArgs false
theorem app0 (f g : Nat → List PV) : rowApp 0 f g = g := by
  funext i
  have := app_hi 0 i f g
  rwa [Nat.zero_add] at this
theorem ui_at {b : Bx} (h : chkE b = 0) : uiL b = usM b.l := by
  unfold uiL
  rw [h]
  rfl
theorem k234 {c : Ch} (h : c.k = 2 ∨ c.k = 3 ∨ c.k = 4) : is234 c.k = true ∧ (c.k == 1) = false ∧ (c.k == 5) = false ∧ (c.k == 6) = false := by
  rcases h with h | h | h <;> rw [h] <;> exact ⟨rfl, rfl, rfl, rfl⟩
section
variable {m : Int} {t : TypeId} {fr : Nat × Nat}
theorem rdo_ok : PureOK Tryd.prog (GG m t fr) 10 doG := by
  intro ps p hp
  unfold doG at hp
  split at hp
  · rename_i p0 q0
    split at hp
    · rename_i v nx mk la n f c a h0 hb hb'
      have hbr := br_run hp
      clear hp
      obtain ⟨hc, hq⟩ := hbr
      simp only [Bool.and_eq_true] at hc
      simp only [Tr.run, Option.some.injEq] at hq
      subst hq
      obtain ⟨hle, hR⟩ := bxOf_le hb hc.1
      obtain ⟨hle', hR'⟩ := chOf_le hb' hc.2
      generalize hB : (⟨v, nx, mk, la, mlsOf n f⟩ : Bx) = b at hle hR
      obtain ⟨r1, r2, r3, r4, r5, r6⟩ := bxR_at hR
      obtain ⟨q1, q2, q3, q4⟩ := chR_at hR'
      have hv := rdo_raw_v m t fr b c
      have hcc := rdo_raw_c m t fr b c
      simp only [app0, Nat.zero_add, mls_mRow, nums_nRow, bx_eta, ch_eta] at hv hcc
      have hgb := bxGd_of hR
      have hgc := chGd_of hR'
      rw [hgb, hgc, are_mRow r5, are_nRow q2, Nat.ble_eq_true_of_le q4, Nat.ble_eq_true_of_le (show b.l.length * 48 ≤ 140737488355328 by omega), Nat.ble_eq_true_of_le (show c.us.length * 4 ≤ 140737488355328 by omega)] at hcc
      simp only [decide_true, Bool.and_true, Bool.true_and] at hcc
      have hok := fn_cuts mixed (E24_ok (m := m) (t := t) (fr := fr)) (f := 10) (fn := Tryd.f10) (cuts := rdCuts (GG m t fr)) (by kernel_rfl)
        (CutLaws.add (by omega) (by kernel_rfl) (fun st e st' h => cutOf_ok E23_ok mixed (noCuts_ok (envOf_cuts ..) _) r5F_ok h)
          (CutLaws.add (by omega) (by kernel_rfl) (fun st e st' h => cutOf_ok E23_ok mixed (noCuts_ok (envOf_cuts ..) _) r3F_ok h)
            (CutLaws.one (by omega) (by kernel_rfl) fun st e st' h => cutOf_ok E23_ok mixed (noCuts_ok (envOf_cuts ..) _) r1F_ok h)))
      have fin : ∀ {x : PV} {y : Bx × List Int × Int}, (fnPure Tryd.prog ((E24 (GG m t fr)).withCuts (rdCuts (GG m t fr))) 60 Tryd.f10 (GG m t fr) [bxP b, chP c]).run = some x → doB b c = y → PLe x (doP y) → PureAt Tryd.prog (GG m t fr) 10 [p0, q0] (doP (doB b c)) := by
        intro x y h1 h2 h3
        rw [h2]
        exact ((hok _ _ h1).pre (.cons hle (.cons hle' .nil))).post h3
      have nilN : PLe (.lit (.slice none 0 0)) (numsP []) := PLe.nil 1 _
      have nilB : PLe (.agg [.lit (.int .u32 0), .lit (.int .u64 0), .lit (.int .u32 0), .lit (.int .u32 0), .lit (.slice none 0 0)]) (bxP bxZ) := PLe.agg (.cons (.refl _) (.cons (.refl _) (.cons (.refl _) (.cons (.refl _) (.cons (PLe.nil 6 _) .nil)))))
      cases do_case b c with
      | bad h e =>
        have h' : bne (chkE b) 0 = true := by simpa [bne] using h
        rw [h'] at hv hcc
        exact fin (Tr.run_vc hv hcc rfl rfl) e (PLe.tup (.cons nilB (.cons nilN (.refl _))))
      | wrong h hr e =>
        have hr' : bne (rightE c) 0 = true := by simpa [bne] using hr
        rw [h, hr'] at hv hcc
        exact fin (Tr.run_vc hv hcc rfl rfl) e (PLe.tup (.cons (.refl _) (.cons nilN (.refl _))))
      | full h hr k e =>
        rw [h, hr, k] at hv hcc
        have hk := chk_at h
        have hlen := hk.len
        cases f1 : decide (b.nx > 4294967295) with
        | true =>
          rw [f1] at hv hcc
          exact fin (Tr.run_vc hv hcc rfl rfl) e (PLe.tup (.cons (.refl _) (.cons nilN (.refl _))))
        | false =>
          have f2 : decide (((b.l.length : Nat) : Int) ≥ 4096) = true := by
            have hu : fullB b = true := by
              cases hu : fullB b with
              | true => rfl
              | false =>
                exfalso
                have h0 : (chkE b == 0) = true := by simpa using h
                have r0 : (rightE c == 0) = true := by simpa using hr
                have : (doB b c).2.2 = 0 := by
                  unfold doB
                  rw [h0, r0, k, hu]
                  rfl
                rw [e] at this
                cases this
            unfold fullB at hu
            rw [f1] at hu
            simp only [Bool.false_or, decide_eq_true_eq] at hu
            exact decide_eq_true (by omega)
          rw [f1, f2] at hv hcc
          exact fin (Tr.run_vc hv hcc rfl rfl) e (PLe.tup (.cons (.refl _) (.cons nilN (.refl _))))
      | app h hr k h1 h2 e =>
        have hk := chk_at h
        have hlen := hk.len
        have hn1 := hk.n1
        rw [h, hr, k, decide_eq_false (show ¬ b.nx > 4294967295 by omega), decide_eq_false (show ¬ ((b.l.length : Nat) : Int) ≥ 4096 by omega)] at hv hcc
        rw [Nat.ble_eq_true_of_le (by omega)] at hcc
        rw [wrap_u64' (by omega) (by omega), wrap_u32' (by omega) (by omega)] at hv
        exact fin (Tr.run_vc hv hcc rfl rfl) e (PLe.tup (.cons (PLe.agg (.cons (.refl _) (.cons (.refl _) (.cons (.refl _) (.cons (.refl _) (.cons (PLe.gsl (by simp) fun i hi => mrow_push b.l (nMl b c) i hi) .nil)))))) (.cons (PLe.gsl rfl fun i hi => by
          have : i = 0 := by omega
          subst this
          rfl) (.refl _))))
      | exp h hr k e =>
        have hk := chk_at h
        have hlen := hk.len
        rw [h, hr, k] at hv hcc
        rw [Nat.ble_eq_true_of_le (show b.l.length ≤ 1000000000 by omega)] at hcc
        exact fin (Tr.run_vc hv hcc rfl rfl) e (PLe.tup (.cons (.refl _) (.cons (.refl _) (.refl _))))
      | sel h hr k e =>
        have hk := chk_at h
        have hn1 := hk.n1
        have hn2 := hk.n2
        rw [h, hr, k, wrap_u64' (a := b.nx - 1) (by omega) (by omega), wrap_u32' (a := b.nx - 1) (by omega) (by omega)] at hv
        rw [h, hr, k] at hcc
        exact fin (Tr.run_vc hv hcc rfl rfl) e (PLe.tup (.cons (.refl _) (.cons nilN (.refl _))))
      | mark h hr k ha e =>
        obtain ⟨e1, e2, e3, e4⟩ := k234 k
        have hk := chk_at h
        have hlen := hk.len
        have hu := us_u32 r5
        rw [ui_at h] at hv hcc
        rw [h, hr, e2, e3, e4, ha] at hv hcc
        rw [are_nRow hu, us_len, Nat.ble_eq_true_of_le (show b.l.length ≤ 4294967280 by omega), Nat.ble_eq_true_of_le (show b.l.length ≤ 1000000000 by omega), e1] at hcc
        exact fin (Tr.run_vc hv hcc rfl rfl) e (PLe.tup (.cons (.refl _) (.cons (.refl _) (.refl _))))
      | none h hr k ha e =>
        obtain ⟨e1, e2, e3, e4⟩ := k234 k
        have hk := chk_at h
        have hlen := hk.len
        have hu := us_u32 r5
        rw [ui_at h] at hv hcc
        rw [h, hr, e2, e3, e4, ha] at hv hcc
        rw [are_nRow hu, us_len, Nat.ble_eq_true_of_le (show b.l.length ≤ 4294967280 by omega)] at hcc
        exact fin (Tr.run_vc hv hcc rfl rfl) e (PLe.tup (.cons (.refl _) (.cons nilN (.refl _))))
    · cases hp
  · cases hp
end
end Go.Proofs.YtlngnfkjpfokhaaDoor.Ev

/- Box: answers that the document gives. No condition. -/
namespace Go.Proofs.YtlngnfkjpfokhaaDoor.Ev
open Go Go.RowKit Go.Proofs Go.Proofs.YtlngnfkjpfokhaaDoor.Str
set_option linter.unusedVariables false
set_option linter.unusedSimpArgs false
section
variable {m : Int} {t : TypeId} {fr : Nat × Nat}
def bzPure : List (Nat × (List PV → Tr PV)) := (10, doG) :: byPure
theorem bzPure_ok {m : Int} {t : TypeId} {fr : Nat × Nat} : TabOK Tryd.prog (GG m t fr) bzPure := (TabOK.cons rdo_ok (fn := Tryd.f10) (by kernel_rfl) (by kernel_rfl) byPure_ok)
noncomputable abbrev E25 (G : GT) : Env := envOf Tryd.prog G bzPure (bwFull G)
theorem E25_ok : (E25 (GG m t fr)).ok Tryd.prog (GG m t fr) := envOf_ok mixed bzPure_ok bwFull_ok
theorem lives_raw_v (m : Int) (t : TypeId) (fr : Nat × Nat) : ((fnPure Tryd.prog (E25 (GG m t fr)) 60 Tryd.f13 (GG m t fr) [])).val =
 ((.some (.lit (.bool true))) : Option PV) := by
  kernel_rfl
theorem lives_raw_c (m : Int) (t : TypeId) (fr : Nat × Nat) : ((fnPure Tryd.prog (E25 (GG m t fr)) 60 Tryd.f13 (GG m t fr) [])).conds =
 (true : Bool) := by
  kernel_rfl
end
end Go.Proofs.YtlngnfkjpfokhaaDoor.Ev

/- Box: the laws, as evaluated. No condition. -/
namespace Go.Proofs.YtlngnfkjpfokhaaDoor.Ev
open Go Go.RowKit Go.Proofs Go.Proofs.YtlngnfkjpfokhaaDoor.Str
set_option linter.unusedVariables false
set_option linter.unusedSimpArgs false
section
variable {m : Int} {t : TypeId} {fr : Nat × Nat}
def bxLivesG : List PV → Tr PV
  | [] => .leaf (bool true)
  | _ => .fail
theorem bxLives_ok : PureOK Tryd.prog (GG m t fr) 13 bxLivesG := by
  intro ps p hp
  unfold bxLivesG at hp
  split at hp
  · simp only [Tr.run, Option.some.injEq] at hp
    subst hp
    exact (fn_pure mixed (E25_ok (m := m) (t := t) (fr := fr)) (envOf_cuts ..) (fn := Tryd.f13) (by kernel_rfl)) _ _ (Tr.run_vc (lives_raw_v m t fr) (lives_raw_c m t fr) rfl rfl)
  · cases hp
def caPure : List (Nat × (List PV → Tr PV)) := (13, bxLivesG) :: bzPure
theorem caPure_ok {m : Int} {t : TypeId} {fr : Nat × Nat} : TabOK Tryd.prog (GG m t fr) caPure := (TabOK.cons bxLives_ok (fn := Tryd.f13) (by kernel_rfl) (by kernel_rfl) bzPure_ok)
noncomputable abbrev E26 (G : GT) : Env := envOf Tryd.prog G caPure (bwFull G)
theorem E26_ok : (E26 (GG m t fr)).ok Tryd.prog (GG m t fr) := envOf_ok mixed caPure_ok bwFull_ok
end
end Go.Proofs.YtlngnfkjpfokhaaDoor.Ev

/- Box: what the laws are given. No condition. -/
namespace Go.Proofs.YtlngnfkjpfokhaaDoor.Ev
open Go Go.RowKit Go.Proofs Go.Proofs.YtlngnfkjpfokhaaDoor.Str
set_option linter.unusedVariables false
set_option linter.unusedSimpArgs false
def mlSc : List Sc := [.int .u32, .int .u8, .int .i64, .int .i64, .int .i64, .str]
def bxAk : List Ak := [.sc (.int .u32), .sc (.int .u64), .sc (.int .u32), .sc (.int .u32), .sl mlSc]
def chAk : List Ak := [.sc (.int .u8), .sl [.int .u32], .sc (.int .u8), .sc (.int .i64), .sc (.int .i64), .sc (.int .i64), .sc .str]
theorem ak_int {k : IntKind} {q : PV} (h : isAk (.sc (.int k)) q = true) : ∃ n, q = .lit (.int k n) ∧ k.min ≤ n ∧ n ≤ k.max := by
  obtain ⟨v, rfl, hv⟩ := ak_sc h
  obtain ⟨n, rfl, h1, h2⟩ := sc_int hv
  exact ⟨n, rfl, h1, h2⟩
theorem u32_of {n : Int} (h1 : IntKind.u32.min ≤ n) (h2 : n ≤ IntKind.u32.max) : u32N n = true := by
  simp [IntKind.min, IntKind.max, IntKind.bits, IntKind.signed] at h1 h2
  exact u32_mk (by omega) (by omega)
theorem u8_of {n : Int} (h1 : IntKind.u8.min ≤ n) (h2 : n ≤ IntKind.u8.max) : u8B n = true := by
  simp [IntKind.min, IntKind.max, IntKind.bits, IntKind.signed] at h1 h2
  unfold u8B
  rw [decide_eq_true h1, decide_eq_true (show n < 256 by omega)]
  rfl
theorem u64_of {n : Int} (h1 : IntKind.u64.min ≤ n) (h2 : n ≤ IntKind.u64.max) : u64B n = true := by
  simp [IntKind.min, IntKind.max, IntKind.bits, IntKind.signed] at h1 h2
  unfold u64B
  simp only [Bool.and_eq_true, decide_eq_true_eq]
  omega
theorem ml_sc {l : List PV} (h : areSc mlSc l = true) : isMl l = true := by
  unfold mlSc at h
  obtain ⟨v0, r0, rfl, h0, h⟩ := sc_cons h
  obtain ⟨v1, r1, rfl, h1, h⟩ := sc_cons h
  obtain ⟨v2, r2, rfl, h2, h⟩ := sc_cons h
  obtain ⟨v3, r3, rfl, h3, h⟩ := sc_cons h
  obtain ⟨v4, r4, rfl, h4, h⟩ := sc_cons h
  obtain ⟨v5, r5, rfl, h5, h⟩ := sc_cons h
  obtain rfl := sc_nil h
  obtain ⟨n0, rfl, a0, b0⟩ := sc_int h0
  obtain ⟨n1, rfl, a1, b1⟩ := sc_int h1
  obtain ⟨n2, rfl, _, _⟩ := sc_int h2
  obtain ⟨n3, rfl, _, _⟩ := sc_int h3
  obtain ⟨n4, rfl, _, _⟩ := sc_int h4
  obtain ⟨s, rfl⟩ := sc_str h5
  have e0 := u32N_at (u32_of a0 b0)
  unfold isMl
  dsimp only
  rw [decide_eq_true e0.1, decide_eq_true e0.2, u8_of a1 b1]
  rfl
theorem num_sc {l : List PV} (h : areSc [.int .u32] l = true) : isNum l = true := by
  obtain ⟨v0, r0, rfl, h0, h⟩ := sc_cons h
  obtain rfl := sc_nil h
  obtain ⟨n0, rfl, a0, b0⟩ := sc_int h0
  exact u32_of a0 b0
theorem scs_pos {s : Sc} {l : List Sc} {ps : List PV} (h : areSc (s :: l) ps = true) : 1 ≤ scs0Bulk ps := by
  obtain ⟨v, r, rfl, _, _⟩ := sc_cons h
  have : 1 ≤ scBulk (.lit v) := by
    cases v <;> simp [scBulk]
  simp only [scs0Bulk]
  omega
theorem row0_bulk {s : Sc} {l : List Sc} {n : Nat} {f : Nat → List PV} (h : ∀ i, i < n → areSc (s :: l) (f i) = true) : n ≤ ((List.range n).map fun i => scs0Bulk (f i)).sum := by
  have key : ∀ L : List Nat, (∀ i ∈ L, i < n) → L.length ≤ (L.map fun i => scs0Bulk (f i)).sum := by
    intro L
    induction L with
    | nil => intro _; simp
    | cons i L ih =>
      intro hL
      have h1 := scs_pos (h i (hL i (by simp)))
      have h2 := ih fun j hj => hL j (by simp [hj])
      simp only [List.map_cons, List.sum_cons, List.length_cons]
      omega
  have := key (List.range n) fun i hi => List.mem_range.1 hi
  simpa using this
theorem row_bulk {s : Sc} {l : List Sc} {n : Nat} {f : Nat → List PV} (h : ∀ i, i < n → areSc (s :: l) (f i) = true) : n ≤ ((List.range n).map fun i => scsBulk (f i)).sum :=
  Nat.le_trans (row0_bulk h) (sum_le fun i => scs0_le (f i))
theorem le_sum {n : Nat} {a : Nat → Nat} {i : Nat} (h : i < n) : a i ≤ ((List.range n).map a).sum := by
  have key : ∀ L : List Nat, i ∈ L → a i ≤ (L.map a).sum := by
    intro L
    induction L with
    | nil => intro h; cases h
    | cons j L ih =>
      intro hi
      simp only [List.map_cons, List.sum_cons]
      rcases List.mem_cons.1 hi with rfl | hi
      · omega
      · have := ih hi
        omega
  exact key _ (List.mem_range.2 h)
theorem bx_arg {q : PV} {B : Nat} (h : isArg (.agg bxAk) q = true) (hb : argBulk q ≤ B) (hB : B ≤ 4294967280) : ∃ v nx ma la n f, bxOf q = some (v, nx, ma, la, n, f) ∧ bxGd v nx ma la n f = true := by
  obtain ⟨qs, rfl, h⟩ := arg_agg h
  obtain ⟨q0, r0, rfl, h0, h⟩ := aks_cons h
  obtain ⟨q1, r1, rfl, h1, h⟩ := aks_cons h
  obtain ⟨q2, r2, rfl, h2, h⟩ := aks_cons h
  obtain ⟨q3, r3, rfl, h3, h⟩ := aks_cons h
  obtain ⟨q4, r4, rfl, h4, h⟩ := aks_cons h
  obtain rfl := aks_nil h
  obtain ⟨v, rfl, a0, b0⟩ := ak_int h0
  obtain ⟨nx, rfl, a1, b1⟩ := ak_int h1
  obtain ⟨ma, rfl, a2, b2⟩ := ak_int h2
  obtain ⟨la, rfl, a3, b3⟩ := ak_int h3
  obtain ⟨n, f, rfl, h4'⟩ := ak_sl h4
  have hn := row_bulk (l := [.int .u8, .int .i64, .int .i64, .int .i64, .str]) h4'
  simp only [argBulk, aksBulk, akBulk, scBulk] at hb
  refine ⟨v, nx, ma, la, n, f, rfl, ?_⟩
  unfold bxGd
  have : areMls n f = true := by
    unfold areMls
    rw [List.all_eq_true]
    exact fun i hi => ml_sc (h4' i (List.mem_range.1 hi))
  rw [u32_of a0 b0, u64_of a1 b1, u32_of a2 b2, u32_of a3 b3, this, Nat.ble_eq_true_of_le (by omega)]
  rfl
theorem ch_arg {q : PV} {B : Nat} (h : isArg (.agg chAk) q = true) (hb : argBulk q ≤ B) (hB : B ≤ 4294967280) : ∃ c n g, chOf q = some (c, n, g) ∧ chGd c n g = true := by
  obtain ⟨qs, rfl, h⟩ := arg_agg h
  obtain ⟨q0, r0, rfl, h0, h⟩ := aks_cons h
  obtain ⟨q1, r1, rfl, h1, h⟩ := aks_cons h
  obtain ⟨q2, r2, rfl, h2, h⟩ := aks_cons h
  obtain ⟨q3, r3, rfl, h3, h⟩ := aks_cons h
  obtain ⟨q4, r4, rfl, h4, h⟩ := aks_cons h
  obtain ⟨q5, r5, rfl, h5, h⟩ := aks_cons h
  obtain ⟨q6, r6, rfl, h6, h⟩ := aks_cons h
  obtain rfl := aks_nil h
  obtain ⟨k, rfl, a0, b0⟩ := ak_int h0
  obtain ⟨n, g, rfl, h1'⟩ := ak_sl h1
  obtain ⟨f, rfl, a2, b2⟩ := ak_int h2
  obtain ⟨d, rfl, _, _⟩ := ak_int h3
  obtain ⟨s, rfl, _, _⟩ := ak_int h4
  obtain ⟨z, rfl, _, _⟩ := ak_int h5
  obtain ⟨w, rfl, hw⟩ := ak_sc h6
  obtain ⟨r, rfl⟩ := sc_str hw
  have hn := row_bulk (l := []) h1'
  simp only [argBulk, aksBulk, akBulk, scBulk] at hb
  refine ⟨⟨k, numsOf n g, f, d, s, z, r⟩, n, g, rfl, ?_⟩
  unfold chGd
  have : areNums n g = true := by
    unfold areNums
    rw [List.all_eq_true]
    exact fun i hi => num_sc (h1' i (List.mem_range.1 hi))
  rw [this, Nat.ble_eq_true_of_le (by omega)]
  dsimp only
  rw [u8_of a0 b0, u8_of a2 b2]
  rfl
end Go.Proofs.YtlngnfkjpfokhaaDoor.Ev
