/- JTopTallied17: several texts in one. Condition: each part's own. -/
import Derived.Test.YtcdghinmmhcfcaaGreatDoorJTopTallied15
import Derived.Test.YtcdghinmmhcfcaaGreatDoorJTopTallied16
/- tally: what is asked of a tally that is looked at. No condition. -/
namespace Go.Proofs.YtcdghinmmhcfcaaGreatDoor.Ev
open Go Go.RowKit Go.Proofs Go.Proofs.YtcdghinmmhcfcaaGreatDoor.Str
set_option linter.unusedVariables false
set_option linter.unusedSimpArgs false
section
variable {m : Int} {t : TypeId} {fr : Nat × Nat}
theorem wants_raw (m : Int) (t : TypeId) (fr : Nat × Nat) (w k : Int) (cs : List PV) : (fnPure Tryz.prog (E12 (GG m t fr)) 60 Tryz.f71 (GG m t fr) [.gptr (.lit (.int .u8 w) :: cs), .lit (.int .u8 k)]).run2 =
 ((.some ((.lit (.bool (bne (IntKind.wrap .u8 (((BitVec.toNat (HAnd.hAnd (BitVec.ofInt 8 w) (BitVec.ofInt 8 k))) : Nat) : Int)) (0 : Int)))), [])) : Option (PV × List Bool)) := by
  kernel_rfl
theorem has_raw2 (m : Int) (t : TypeId) (fr : Nat × Nat) (w many least most c : Int) (q : PV) : (fnPure Tryz.prog (E12 (GG m t fr)) 60 Tryz.f70 (GG m t fr) [.gptr [.lit (.int .u8 w), int many, .lit (.int .u32 least), .lit (.int .u32 most), q, .lit (.int .u64 c)]]).run2 =
 ((.some ((.agg [(.lit (.bool (decide (least > (0 : Int))))), (.lit (.bool (decide (most > (0 : Int))))), (.lit (.bool (decide (c > (0 : Int))))), (.lit (.bool (decide (many > (0 : Int)))))]), [])) : Option (PV × List Bool)) := by
  kernel_rfl
def wb (w k : Int) : Bool := bne (IntKind.wrap .u8 (((BitVec.toNat (HAnd.hAnd (BitVec.ofInt 8 w) (BitVec.ofInt 8 k))) : Nat) : Int)) (0 : Int)
def wantsG : List PV → Tr PV
  | [.gptr (.lit (.int .u8 w) :: _), .lit (.int .u8 k)] => .leaf (bool (wb w k))
  | _ => .fail
theorem wants_ok : PureOK Tryz.prog (GG m t fr) 71 wantsG := by
  refine PureOK.of (fn_pure mixed E12_ok (envOf_cuts ..) (fn := Tryz.f71) (by kernel_rfl)) fun ps p hp => ?_
  unfold wantsG at hp
  split at hp
  · rename_i w cs k
    simp only [Tr.run, Option.some.injEq] at hp
    subst hp
    exact ⟨_, Tr.run_of (wants_raw m t fr w k cs) (by simp), PLe.of_eq rfl⟩
  · cases hp
def posB (x : Int) : Bool := decide (x > 0)
def hasTG : List PV → Tr PV
  | [.gptr [.lit (.int .u8 _), .lit (.int .i64 many), .lit (.int .u32 least), .lit (.int .u32 most), _, .lit (.int .u64 c)]] => .leaf (.agg [bool (posB least), bool (posB most), bool (posB c), bool (posB many)])
  | _ => .fail
theorem hasT_ok : PureOK Tryz.prog (GG m t fr) 70 hasTG := by
  refine PureOK.of (fn_pure mixed E12_ok (envOf_cuts ..) (fn := Tryz.f70) (by kernel_rfl)) fun ps p hp => ?_
  unfold hasTG at hp
  split at hp
  · rename_i w many least most q c
    simp only [Tr.run, Option.some.injEq] at hp
    subst hp
    exact ⟨_, Tr.run_of (has_raw2 m t fr w many least most c q) (by simp), PLe.of_eq rfl⟩
  · cases hp
def taPure : List (Nat × (List PV → Tr PV)) := (71, wantsG) :: (70, hasTG) :: wrPure
theorem taPure_ok {m : Int} {t : TypeId} {fr : Nat × Nat} : TabOK Tryz.prog (GG m t fr) taPure := (TabOK.cons wants_ok (fn := Tryz.f71) (by kernel_rfl) (by kernel_rfl) (TabOK.cons hasT_ok (fn := Tryz.f70) (by kernel_rfl) (by kernel_rfl) wrPure_ok))
noncomputable abbrev E13 (G : GT) : Env := envOf Tryz.prog G taPure nbFull
theorem E13_ok : (E13 (GG m t fr)).ok Tryz.prog (GG m t fr) := envOf_ok mixed taPure_ok nbFull_ok
def evOuts : Exit → Outs
  | .normal => { ks := [0, 5, 25, 26] }
  | .exit _ => { ks := [5] }
  | _ => { ks := [2, 3] }
noncomputable abbrev evRound (G : GT) := roundT Tryz.prog (E13 G) 60 G 52 evOuts .normal (theLoop 0 Tryz.f44)
def evK (w : Int) (cs : List PV) (h0 h1 h2 h3 s : Bool) (i : Int) : Kept := ([.gptr (.lit (.int .u8 w) :: cs), bool s, .agg [bool h0, bool h1, bool h2, bool h3], int i], [])
theorem ev_r0 (m : Int) (t : TypeId) (fr : Nat × Nat) (w : Int) (cs : List PV) (h0 h1 h2 h3 s : Bool) : (evRound (GG m t fr) (evK w cs h0 h1 h2 h3 s 0)).run2 =
 (bif h0 then
 bif (!(wb w (1 : Int))) then
 (.some ((.ret, ([(.lit (.bool false)), (.lit (.bool s))], [])), [true, true, true, true]))
 else bif s then
 bif (wb w (1 : Int)) then
 bif (!h0) then
 (.some ((.ret, ([(.lit (.bool false)), (.lit (.bool s))], [])), [true]))
 else (.some ((.normal, ([(.gptr ((.lit (.int .u8 w)) :: cs)), (.lit (.bool s)), (.agg [(.lit (.bool h0)), (.lit (.bool h1)), (.lit (.bool h2)), (.lit (.bool h3))]), (.lit (.int .i64 (1 : Int)))], [])), [true]))
 else (.some ((.normal, ([(.gptr ((.lit (.int .u8 w)) :: cs)), (.lit (.bool s)), (.agg [(.lit (.bool h0)), (.lit (.bool h1)), (.lit (.bool h2)), (.lit (.bool h3))]), (.lit (.int .i64 (1 : Int)))], [])), [true]))
 else (.some ((.normal, ([(.gptr ((.lit (.int .u8 w)) :: cs)), (.lit (.bool s)), (.agg [(.lit (.bool h0)), (.lit (.bool h1)), (.lit (.bool h2)), (.lit (.bool h3))]), (.lit (.int .i64 (1 : Int)))], [])), [true]))
 else bif s then
 bif (wb w (1 : Int)) then
 bif (!h0) then
 (.some ((.ret, ([(.lit (.bool false)), (.lit (.bool s))], [])), [true]))
 else (.some ((.normal, ([(.gptr ((.lit (.int .u8 w)) :: cs)), (.lit (.bool s)), (.agg [(.lit (.bool h0)), (.lit (.bool h1)), (.lit (.bool h2)), (.lit (.bool h3))]), (.lit (.int .i64 (1 : Int)))], [])), [true]))
 else (.some ((.normal, ([(.gptr ((.lit (.int .u8 w)) :: cs)), (.lit (.bool s)), (.agg [(.lit (.bool h0)), (.lit (.bool h1)), (.lit (.bool h2)), (.lit (.bool h3))]), (.lit (.int .i64 (1 : Int)))], [])), [true]))
 else (.some ((.normal, ([(.gptr ((.lit (.int .u8 w)) :: cs)), (.lit (.bool s)), (.agg [(.lit (.bool h0)), (.lit (.bool h1)), (.lit (.bool h2)), (.lit (.bool h3))]), (.lit (.int .i64 (1 : Int)))], [])), [true])) : Option ((Exit × Kept) × List Bool)) := by
  kernel_rfl
theorem ev_r1 (m : Int) (t : TypeId) (fr : Nat × Nat) (w : Int) (cs : List PV) (h0 h1 h2 h3 s : Bool) : (evRound (GG m t fr) (evK w cs h0 h1 h2 h3 s 1)).run2 =
 (bif h1 then
 bif (!(wb w (2 : Int))) then
 (.some ((.ret, ([(.lit (.bool false)), (.lit (.bool s))], [])), [true, true, true, true]))
 else bif s then
 bif (wb w (2 : Int)) then
 bif (!h1) then
 (.some ((.ret, ([(.lit (.bool false)), (.lit (.bool s))], [])), [true]))
 else (.some ((.normal, ([(.gptr ((.lit (.int .u8 w)) :: cs)), (.lit (.bool s)), (.agg [(.lit (.bool h0)), (.lit (.bool h1)), (.lit (.bool h2)), (.lit (.bool h3))]), (.lit (.int .i64 (2 : Int)))], [])), [true]))
 else (.some ((.normal, ([(.gptr ((.lit (.int .u8 w)) :: cs)), (.lit (.bool s)), (.agg [(.lit (.bool h0)), (.lit (.bool h1)), (.lit (.bool h2)), (.lit (.bool h3))]), (.lit (.int .i64 (2 : Int)))], [])), [true]))
 else (.some ((.normal, ([(.gptr ((.lit (.int .u8 w)) :: cs)), (.lit (.bool s)), (.agg [(.lit (.bool h0)), (.lit (.bool h1)), (.lit (.bool h2)), (.lit (.bool h3))]), (.lit (.int .i64 (2 : Int)))], [])), [true]))
 else bif s then
 bif (wb w (2 : Int)) then
 bif (!h1) then
 (.some ((.ret, ([(.lit (.bool false)), (.lit (.bool s))], [])), [true]))
 else (.some ((.normal, ([(.gptr ((.lit (.int .u8 w)) :: cs)), (.lit (.bool s)), (.agg [(.lit (.bool h0)), (.lit (.bool h1)), (.lit (.bool h2)), (.lit (.bool h3))]), (.lit (.int .i64 (2 : Int)))], [])), [true]))
 else (.some ((.normal, ([(.gptr ((.lit (.int .u8 w)) :: cs)), (.lit (.bool s)), (.agg [(.lit (.bool h0)), (.lit (.bool h1)), (.lit (.bool h2)), (.lit (.bool h3))]), (.lit (.int .i64 (2 : Int)))], [])), [true]))
 else (.some ((.normal, ([(.gptr ((.lit (.int .u8 w)) :: cs)), (.lit (.bool s)), (.agg [(.lit (.bool h0)), (.lit (.bool h1)), (.lit (.bool h2)), (.lit (.bool h3))]), (.lit (.int .i64 (2 : Int)))], [])), [true])) : Option ((Exit × Kept) × List Bool)) := by
  kernel_rfl
theorem ev_r2 (m : Int) (t : TypeId) (fr : Nat × Nat) (w : Int) (cs : List PV) (h0 h1 h2 h3 s : Bool) : (evRound (GG m t fr) (evK w cs h0 h1 h2 h3 s 2)).run2 =
 (bif h2 then
 bif (!(wb w (4 : Int))) then
 (.some ((.ret, ([(.lit (.bool false)), (.lit (.bool s))], [])), [true, true, true, true]))
 else bif s then
 bif (wb w (4 : Int)) then
 bif (!h2) then
 (.some ((.ret, ([(.lit (.bool false)), (.lit (.bool s))], [])), [true]))
 else (.some ((.normal, ([(.gptr ((.lit (.int .u8 w)) :: cs)), (.lit (.bool s)), (.agg [(.lit (.bool h0)), (.lit (.bool h1)), (.lit (.bool h2)), (.lit (.bool h3))]), (.lit (.int .i64 (3 : Int)))], [])), [true]))
 else (.some ((.normal, ([(.gptr ((.lit (.int .u8 w)) :: cs)), (.lit (.bool s)), (.agg [(.lit (.bool h0)), (.lit (.bool h1)), (.lit (.bool h2)), (.lit (.bool h3))]), (.lit (.int .i64 (3 : Int)))], [])), [true]))
 else (.some ((.normal, ([(.gptr ((.lit (.int .u8 w)) :: cs)), (.lit (.bool s)), (.agg [(.lit (.bool h0)), (.lit (.bool h1)), (.lit (.bool h2)), (.lit (.bool h3))]), (.lit (.int .i64 (3 : Int)))], [])), [true]))
 else bif s then
 bif (wb w (4 : Int)) then
 bif (!h2) then
 (.some ((.ret, ([(.lit (.bool false)), (.lit (.bool s))], [])), [true]))
 else (.some ((.normal, ([(.gptr ((.lit (.int .u8 w)) :: cs)), (.lit (.bool s)), (.agg [(.lit (.bool h0)), (.lit (.bool h1)), (.lit (.bool h2)), (.lit (.bool h3))]), (.lit (.int .i64 (3 : Int)))], [])), [true]))
 else (.some ((.normal, ([(.gptr ((.lit (.int .u8 w)) :: cs)), (.lit (.bool s)), (.agg [(.lit (.bool h0)), (.lit (.bool h1)), (.lit (.bool h2)), (.lit (.bool h3))]), (.lit (.int .i64 (3 : Int)))], [])), [true]))
 else (.some ((.normal, ([(.gptr ((.lit (.int .u8 w)) :: cs)), (.lit (.bool s)), (.agg [(.lit (.bool h0)), (.lit (.bool h1)), (.lit (.bool h2)), (.lit (.bool h3))]), (.lit (.int .i64 (3 : Int)))], [])), [true])) : Option ((Exit × Kept) × List Bool)) := by
  kernel_rfl
theorem ev_r3 (m : Int) (t : TypeId) (fr : Nat × Nat) (w : Int) (cs : List PV) (h0 h1 h2 h3 s : Bool) : (evRound (GG m t fr) (evK w cs h0 h1 h2 h3 s 3)).run2 =
 (bif h3 then
 bif (!(wb w (8 : Int))) then
 (.some ((.ret, ([(.lit (.bool false)), (.lit (.bool s))], [])), [true, true, true, true]))
 else bif s then
 bif (wb w (8 : Int)) then
 bif (!h3) then
 (.some ((.ret, ([(.lit (.bool false)), (.lit (.bool s))], [])), [true]))
 else (.some ((.normal, ([(.gptr ((.lit (.int .u8 w)) :: cs)), (.lit (.bool s)), (.agg [(.lit (.bool h0)), (.lit (.bool h1)), (.lit (.bool h2)), (.lit (.bool h3))]), (.lit (.int .i64 (4 : Int)))], [])), [true]))
 else (.some ((.normal, ([(.gptr ((.lit (.int .u8 w)) :: cs)), (.lit (.bool s)), (.agg [(.lit (.bool h0)), (.lit (.bool h1)), (.lit (.bool h2)), (.lit (.bool h3))]), (.lit (.int .i64 (4 : Int)))], [])), [true]))
 else (.some ((.normal, ([(.gptr ((.lit (.int .u8 w)) :: cs)), (.lit (.bool s)), (.agg [(.lit (.bool h0)), (.lit (.bool h1)), (.lit (.bool h2)), (.lit (.bool h3))]), (.lit (.int .i64 (4 : Int)))], [])), [true]))
 else bif s then
 bif (wb w (8 : Int)) then
 bif (!h3) then
 (.some ((.ret, ([(.lit (.bool false)), (.lit (.bool s))], [])), [true]))
 else (.some ((.normal, ([(.gptr ((.lit (.int .u8 w)) :: cs)), (.lit (.bool s)), (.agg [(.lit (.bool h0)), (.lit (.bool h1)), (.lit (.bool h2)), (.lit (.bool h3))]), (.lit (.int .i64 (4 : Int)))], [])), [true]))
 else (.some ((.normal, ([(.gptr ((.lit (.int .u8 w)) :: cs)), (.lit (.bool s)), (.agg [(.lit (.bool h0)), (.lit (.bool h1)), (.lit (.bool h2)), (.lit (.bool h3))]), (.lit (.int .i64 (4 : Int)))], [])), [true]))
 else (.some ((.normal, ([(.gptr ((.lit (.int .u8 w)) :: cs)), (.lit (.bool s)), (.agg [(.lit (.bool h0)), (.lit (.bool h1)), (.lit (.bool h2)), (.lit (.bool h3))]), (.lit (.int .i64 (4 : Int)))], [])), [true])) : Option ((Exit × Kept) × List Bool)) := by
  kernel_rfl
theorem ev_r4 (m : Int) (t : TypeId) (fr : Nat × Nat) (w : Int) (cs : List PV) (h0 h1 h2 h3 s : Bool) : (evRound (GG m t fr) (evK w cs h0 h1 h2 h3 s 4)).run2 =
 ((.some (((.exit 0), ([(.lit (.bool s))], [])), [])) : Option ((Exit × Kept) × List Bool)) := by
  kernel_rfl
/-- one of what a tally has: it is wanted; and if it is wanted, and anything is there, it is there -/
def evOk (h w s : Bool) : Bool := !(h && !w || s && w && !h)
def evA (w : Int) (h0 h1 h2 h3 s : Bool) : Bool := evOk h0 (wb w 1) s && (evOk h1 (wb w 2) s && (evOk h2 (wb w 4) s && evOk h3 (wb w 8) s))
def evEnd (w : Int) (cs : List PV) (h0 h1 h2 h3 s : Bool) (i : Int) (ok : Bool) : Exit × Kept := bif ok then (.normal, evK w cs h0 h1 h2 h3 s i) else (.ret, ([bool false, bool s], []))
theorem ev_s0 (w : Int) (cs : List PV) (h0 h1 h2 h3 s : Bool) : (evRound (GG m t fr) (evK w cs h0 h1 h2 h3 s 0)).run = some (evEnd w cs h0 h1 h2 h3 s 1 (evOk h0 (wb w 1) s)) := by
  have h := ev_r0 m t fr w cs h0 h1 h2 h3 s
  generalize wb w 1 = b at h ⊢
  cases h0 <;> cases b <;> cases s <;> exact Tr.run_of h rfl
theorem ev_s1 (w : Int) (cs : List PV) (h0 h1 h2 h3 s : Bool) : (evRound (GG m t fr) (evK w cs h0 h1 h2 h3 s 1)).run = some (evEnd w cs h0 h1 h2 h3 s 2 (evOk h1 (wb w 2) s)) := by
  have h := ev_r1 m t fr w cs h0 h1 h2 h3 s
  generalize wb w 2 = b at h ⊢
  cases h1 <;> cases b <;> cases s <;> exact Tr.run_of h rfl
theorem ev_s2 (w : Int) (cs : List PV) (h0 h1 h2 h3 s : Bool) : (evRound (GG m t fr) (evK w cs h0 h1 h2 h3 s 2)).run = some (evEnd w cs h0 h1 h2 h3 s 3 (evOk h2 (wb w 4) s)) := by
  have h := ev_r2 m t fr w cs h0 h1 h2 h3 s
  generalize wb w 4 = b at h ⊢
  cases h2 <;> cases b <;> cases s <;> exact Tr.run_of h rfl
theorem ev_s3 (w : Int) (cs : List PV) (h0 h1 h2 h3 s : Bool) : (evRound (GG m t fr) (evK w cs h0 h1 h2 h3 s 3)).run = some (evEnd w cs h0 h1 h2 h3 s 4 (evOk h3 (wb w 8) s)) := by
  have h := ev_r3 m t fr w cs h0 h1 h2 h3 s
  generalize wb w 8 = b at h ⊢
  cases h3 <;> cases b <;> cases s <;> exact Tr.run_of h rfl
def evF : Kept → Tr (Exit × Kept)
  | ([.gptr (.lit (.int .u8 w) :: cs), .lit (.bool s), .agg [.lit (.bool h0), .lit (.bool h1), .lit (.bool h2), .lit (.bool h3)], .lit (.int .i64 0)], []) => .br (evA w h0 h1 h2 h3 s) (.leaf (.exit 0, ([bool s], []))) (.leaf (.ret, ([bool false, bool s], [])))
  | _ => .fail
theorem evF_ok (k : Kept) (e : Exit) (y : Kept) (h : (evF k).run = some (e, y)) : LR Tryz.prog (E13 (GG m t fr)) 60 (GG m t fr) 52 evOuts .normal (theLoop 0 Tryz.f44) k e y := by
  unfold evF at h
  split at h
  · rename_i w cs s h0 h1 h2 h3
    have no : ∀ {i : Int} {ok : Bool} {i' : Int}, ok = false → (evRound (GG m t fr) (evK w cs h0 h1 h2 h3 s i)).run = some (evEnd w cs h0 h1 h2 h3 s i' ok) →
        LR Tryz.prog (E13 (GG m t fr)) 60 (GG m t fr) 52 evOuts .normal (theLoop 0 Tryz.f44) (evK w cs h0 h1 h2 h3 s i) .ret ([bool false, bool s], []) := by
      intro i ok i' hk hr
      subst hk
      exact .last hr (by simp) (by simp)
    have s0 := ev_s0 (m := m) (t := t) (fr := fr) w cs h0 h1 h2 h3 s
    have s1 := ev_s1 (m := m) (t := t) (fr := fr) w cs h0 h1 h2 h3 s
    have s2 := ev_s2 (m := m) (t := t) (fr := fr) w cs h0 h1 h2 h3 s
    have s3 := ev_s3 (m := m) (t := t) (fr := fr) w cs h0 h1 h2 h3 s
    have s4 := Tr.run_of (ev_r4 m t fr w cs h0 h1 h2 h3 s) rfl
    simp only [Tr.run, evA] at h
    change LR _ _ _ _ _ _ _ _ (evK w cs h0 h1 h2 h3 s 0) _ _
    cases c0 : evOk h0 (wb w 1) s with
    | false =>
      simp only [c0, Bool.false_and, cond_false, Option.some.injEq, Prod.mk.injEq] at h
      obtain ⟨rfl, rfl⟩ := h
      exact no c0 s0
    | true =>
      rw [c0] at s0
      refine .more s0 ?_
      cases c1 : evOk h1 (wb w 2) s with
      | false =>
        simp only [c0, c1, Bool.false_and, Bool.true_and, cond_false, Option.some.injEq, Prod.mk.injEq] at h
        obtain ⟨rfl, rfl⟩ := h
        exact no c1 s1
      | true =>
        rw [c1] at s1
        refine .more s1 ?_
        cases c2 : evOk h2 (wb w 4) s with
        | false =>
          simp only [c0, c1, c2, Bool.false_and, Bool.true_and, cond_false, Option.some.injEq, Prod.mk.injEq] at h
          obtain ⟨rfl, rfl⟩ := h
          exact no c2 s2
        | true =>
          rw [c2] at s2
          refine .more s2 ?_
          cases c3 : evOk h3 (wb w 8) s with
          | false =>
            simp only [c0, c1, c2, c3, Bool.true_and, cond_false, Option.some.injEq, Prod.mk.injEq] at h
            obtain ⟨rfl, rfl⟩ := h
            exact no c3 s3
          | true =>
            rw [c3] at s3
            refine .more s3 ?_
            simp only [c0, c1, c2, c3, Bool.true_and, cond_true, Option.some.injEq, Prod.mk.injEq] at h
            obtain ⟨rfl, rfl⟩ := h
            exact .last s4 (by simp) (by simp)
  · cases h
noncomputable abbrev evCut (G : GT) := cutOf G 52 evOuts 0 evF
theorem even_raw (m : Int) (t : TypeId) (fr : Nat × Nat) (w many least most c : Int) (q : PV) : (fnPure Tryz.prog ((E13 (GG m t fr)).withCuts (cut1 0 (evCut (GG m t fr)))) 60 Tryz.f44 (GG m t fr) [.gptr [.lit (.int .u8 w), int many, .lit (.int .u32 least), .lit (.int .u32 most), q, .lit (.int .u64 c)]]).run2 =
 (bif (posB least) then
 bif (evA w (posB least) (posB most) (posB c) (posB many) true) then
 (.some ((.tup [(.lit (.bool true)), (.lit (.bool true))]), [true, true, true, true, true, true, true]))
 else (.some ((.tup [(.lit (.bool false)), (.lit (.bool true))]), [true, true, true, true, true, true, true]))
 else bif (posB most) then
 bif (evA w (posB least) (posB most) (posB c) (posB many) true) then
 (.some ((.tup [(.lit (.bool true)), (.lit (.bool true))]), [true, true, true, true, true, true]))
 else (.some ((.tup [(.lit (.bool false)), (.lit (.bool true))]), [true, true, true, true, true, true]))
 else bif (posB c) then
 bif (evA w (posB least) (posB most) (posB c) (posB many) true) then
 (.some ((.tup [(.lit (.bool true)), (.lit (.bool true))]), [true, true, true, true, true]))
 else (.some ((.tup [(.lit (.bool false)), (.lit (.bool true))]), [true, true, true, true, true]))
 else bif (evA w (posB least) (posB most) (posB c) (posB many) (posB many)) then
 (.some ((.tup [(.lit (.bool true)), (.lit (.bool (posB many)))]), [true, true, true, true]))
 else (.some ((.tup [(.lit (.bool false)), (.lit (.bool (posB many)))]), [true, true, true, true])) : Option (PV × List Bool)) := by
  kernel_rfl
theorem agrees_raw (m : Int) (t : TypeId) (fr : Nat × Nat) (w many least most c : Int) (n : Nat) (l : List Sp) : (fnPure Tryz.prog (E13 (GG m t fr)) 60 Tryz.f45 (GG m t fr) [.gptr [.lit (.int .u8 w), int many, .lit (.int .u32 least), .lit (.int .u32 most), .gsl 2 n (sRow l), .lit (.int .u64 c)]]).run2 =
 (bif (!(wb w (8 : Int))) then
 bif (!(wb w (1 : Int))) then
 bif (!(wb w (2 : Int))) then
 (.some ((.lit (.bool true)), [true, true, true, true, true, true, true, true, true, true, true, true, true, true, true, true, true, true, true, true, true, true, true, true, true, true, true, true, true, true, true, true, true, true, true]))
 else (.some ((.lit (.bool (most == (Prod.snd (sp l (Int.toNat (IntKind.wrap .i64 (((n : Nat) : Int) - (1 : Int))))))))), [((decide ((0 : Int) ≤ (IntKind.wrap .i64 (((n : Nat) : Int) - (1 : Int))))) && (Nat.blt (Int.toNat (IntKind.wrap .i64 (((n : Nat) : Int) - (1 : Int)))) n)), true, true, true, true, true, true, true, true, true, true, true, true, true, true, true, true, true, true, true, true, true, true]))
 else bif (least == (Prod.fst (sp l 0))) then
 bif (!(wb w (2 : Int))) then
 (.some ((.lit (.bool true)), [true, true, true, true, true, true, true, true, true, true, true, true, true, (Nat.blt 0 n), true, true, true, true, true, true, true, true, true, true]))
 else (.some ((.lit (.bool (most == (Prod.snd (sp l (Int.toNat (IntKind.wrap .i64 (((n : Nat) : Int) - (1 : Int))))))))), [((decide ((0 : Int) ≤ (IntKind.wrap .i64 (((n : Nat) : Int) - (1 : Int))))) && (Nat.blt (Int.toNat (IntKind.wrap .i64 (((n : Nat) : Int) - (1 : Int)))) n)), (Nat.blt 0 n), true, true, true, true, true, true, true, true, true, true]))
 else (.some ((.lit (.bool false)), [(Nat.blt 0 n), true, true, true, true, true, true, true, true, true, true]))
 else bif ((IntKind.wrap .u64 many) == c) then
 bif (!(wb w (1 : Int))) then
 bif (!(wb w (2 : Int))) then
 (.some ((.lit (.bool true)), [true, true, true, true, true, true, true, true, true, true, true, true, true, true, true, true, true, true, true, true, true, true, true, true, true]))
 else (.some ((.lit (.bool (most == (Prod.snd (sp l (Int.toNat (IntKind.wrap .i64 (((n : Nat) : Int) - (1 : Int))))))))), [((decide ((0 : Int) ≤ (IntKind.wrap .i64 (((n : Nat) : Int) - (1 : Int))))) && (Nat.blt (Int.toNat (IntKind.wrap .i64 (((n : Nat) : Int) - (1 : Int)))) n)), true, true, true, true, true, true, true, true, true, true, true, true]))
 else bif (least == (Prod.fst (sp l 0))) then
 bif (!(wb w (2 : Int))) then
 (.some ((.lit (.bool true)), [true, true, true, true, true, true, true, true, true, true, true, true, true, (Nat.blt 0 n)]))
 else (.some ((.lit (.bool (most == (Prod.snd (sp l (Int.toNat (IntKind.wrap .i64 (((n : Nat) : Int) - (1 : Int))))))))), [((decide ((0 : Int) ≤ (IntKind.wrap .i64 (((n : Nat) : Int) - (1 : Int))))) && (Nat.blt (Int.toNat (IntKind.wrap .i64 (((n : Nat) : Int) - (1 : Int)))) n)), (Nat.blt 0 n)]))
 else (.some ((.lit (.bool false)), [(Nat.blt 0 n)]))
 else (.some ((.lit (.bool false)), [])) : Option (PV × List Bool)) := by
  kernel_rfl
theorem fits_raw (m : Int) (t : TypeId) (fr : Nat × Nat) (w many least most c : Int) (q : PV) : (fnPure Tryz.prog (E13 (GG m t fr)) 60 Tryz.f46 (GG m t fr) [.gptr [.lit (.int .u8 w), int many, .lit (.int .u32 least), .lit (.int .u32 most), q, .lit (.int .u64 c)]]).run2 =
 (bif (wb w (1 : Int)) then
 bif (wb w (2 : Int)) then
 bif (wb w (1 : Int)) then
 bif (decide ((IntKind.wrap .u64 least) > (IntKind.wrap .u64 most))) then
 (.some ((.lit (.bool false)), []))
 else bif (!(wb w (8 : Int))) then
 (.some ((.lit (.bool true)), []))
 else bif (decide ((IntKind.wrap .u64 many) ≤ (IntKind.wrap .u64 ((IntKind.wrap .u64 ((IntKind.wrap .u64 most) - (IntKind.wrap .u64 least))) + (1 : Int))))) then
 bif (!(wb w (2 : Int))) then
 (.some ((.lit (.bool true)), [true, true, true, true, true, true]))
 else bif ((IntKind.wrap .u64 least) == (IntKind.wrap .u64 most)) then
 (.some ((.lit (.bool true)), [true, true, true, true, true]))
 else (.some ((.lit (.bool (decide (many > (1 : Int))))), []))
 else (.some ((.lit (.bool false)), []))
 else bif (decide ((IntKind.wrap .u64 least) > (IntKind.wrap .u64 most))) then
 (.some ((.lit (.bool false)), []))
 else bif (!(wb w (8 : Int))) then
 (.some ((.lit (.bool true)), []))
 else bif (decide ((IntKind.wrap .u64 many) ≤ (IntKind.wrap .u64 ((IntKind.wrap .u64 ((IntKind.wrap .u64 most) - (IntKind.wrap .u64 least))) + (1 : Int))))) then
 (.some ((.lit (.bool true)), [true, true, true, true, true, true]))
 else (.some ((.lit (.bool false)), []))
 else bif (wb w (1 : Int)) then
 bif (decide ((IntKind.wrap .u64 least) > (4294967295 : Int))) then
 (.some ((.lit (.bool false)), []))
 else bif (!(wb w (8 : Int))) then
 (.some ((.lit (.bool true)), []))
 else bif (decide ((IntKind.wrap .u64 many) ≤ (IntKind.wrap .u64 ((IntKind.wrap .u64 ((4294967295 : Int) - (IntKind.wrap .u64 least))) + (1 : Int))))) then
 bif (!(wb w (2 : Int))) then
 (.some ((.lit (.bool true)), [true, true, true, true, true, true]))
 else bif ((IntKind.wrap .u64 least) == (4294967295 : Int)) then
 (.some ((.lit (.bool true)), [true, true, true, true, true]))
 else (.some ((.lit (.bool (decide (many > (1 : Int))))), []))
 else (.some ((.lit (.bool false)), []))
 else bif (decide ((IntKind.wrap .u64 least) > (4294967295 : Int))) then
 (.some ((.lit (.bool false)), []))
 else bif (!(wb w (8 : Int))) then
 (.some ((.lit (.bool true)), []))
 else bif (decide ((IntKind.wrap .u64 many) ≤ (IntKind.wrap .u64 ((IntKind.wrap .u64 ((4294967295 : Int) - (IntKind.wrap .u64 least))) + (1 : Int))))) then
 (.some ((.lit (.bool true)), [true, true, true, true, true, true]))
 else (.some ((.lit (.bool false)), []))
 else bif (wb w (2 : Int)) then
 bif (wb w (1 : Int)) then
 bif (decide ((1 : Int) > (IntKind.wrap .u64 most))) then
 (.some ((.lit (.bool false)), []))
 else bif (!(wb w (8 : Int))) then
 (.some ((.lit (.bool true)), []))
 else bif (decide ((IntKind.wrap .u64 many) ≤ (IntKind.wrap .u64 ((IntKind.wrap .u64 ((IntKind.wrap .u64 most) - (1 : Int))) + (1 : Int))))) then
 bif (!(wb w (2 : Int))) then
 (.some ((.lit (.bool true)), [true, true, true, true, true, true]))
 else bif ((1 : Int) == (IntKind.wrap .u64 most)) then
 (.some ((.lit (.bool true)), [true, true, true, true, true]))
 else (.some ((.lit (.bool (decide (many > (1 : Int))))), []))
 else (.some ((.lit (.bool false)), []))
 else bif (decide ((1 : Int) > (IntKind.wrap .u64 most))) then
 (.some ((.lit (.bool false)), []))
 else bif (!(wb w (8 : Int))) then
 (.some ((.lit (.bool true)), []))
 else bif (decide ((IntKind.wrap .u64 many) ≤ (IntKind.wrap .u64 ((IntKind.wrap .u64 ((IntKind.wrap .u64 most) - (1 : Int))) + (1 : Int))))) then
 (.some ((.lit (.bool true)), [true, true, true, true, true, true]))
 else (.some ((.lit (.bool false)), []))
 else bif (wb w (1 : Int)) then
 bif (!(wb w (8 : Int))) then
 (.some ((.lit (.bool true)), []))
 else bif (decide ((IntKind.wrap .u64 many) ≤ (4294967295 : Int))) then
 bif (!(wb w (2 : Int))) then
 (.some ((.lit (.bool true)), [true, true, true, true, true, true]))
 else (.some ((.lit (.bool (decide (many > (1 : Int))))), []))
 else (.some ((.lit (.bool false)), []))
 else bif (!(wb w (8 : Int))) then
 (.some ((.lit (.bool true)), []))
 else bif (decide ((IntKind.wrap .u64 many) ≤ (4294967295 : Int))) then
 (.some ((.lit (.bool true)), [true, true, true, true, true, true]))
 else (.some ((.lit (.bool false)), [])) : Option (PV × List Bool)) := by
  kernel_rfl
end
end Go.Proofs.YtcdghinmmhcfcaaGreatDoor.Ev

/- tally: what is asked of a tally that is looked at, as contracts. No condition. -/
namespace Go.Proofs.YtcdghinmmhcfcaaGreatDoor.Ev
open Go Go.RowKit Go.Proofs Go.Proofs.YtcdghinmmhcfcaaGreatDoor.Str
set_option linter.unusedVariables false
set_option linter.unusedSimpArgs false
section
variable {m : Int} {t : TypeId} {fr : Nat × Nat}
def evS (many least most c : Int) : Bool := posB least || (posB most || (posB c || posB many))
def evenG : List PV → Tr PV
  | [.gptr [.lit (.int .u8 w), .lit (.int .i64 many), .lit (.int .u32 least), .lit (.int .u32 most), _, .lit (.int .u64 c)]] => .leaf (.tup [bool (evA w (posB least) (posB most) (posB c) (posB many) (evS many least most c)), bool (evS many least most c)])
  | _ => .fail
theorem even_ok : PureOK Tryz.prog (GG m t fr) 44 evenG := by
  refine PureOK.of (fn_cuts mixed E13_ok (fn := Tryz.f44) (cuts := cut1 0 (evCut (GG m t fr))) (by kernel_rfl) (CutLaws.one (by omega) (by kernel_rfl) fun st e st' h => cutOf_ok E13_ok mixed (noCuts_ok (envOf_cuts ..) _) evF_ok h)) fun ps p hp => ?_
  unfold evenG at hp
  split at hp
  · rename_i w many least most q c
    simp only [Tr.run, Option.some.injEq] at hp
    subst hp
    have h := even_raw m t fr w many least most c q
    unfold evS
    generalize posB least = a at h ⊢
    generalize posB most = b at h ⊢
    generalize posB c = d at h ⊢
    generalize posB many = e at h ⊢
    cases a with
    | true =>
      simp only [Bool.true_or] at h ⊢
      generalize evA w true b d e true = z at h ⊢
      cases z <;> exact ⟨_, Tr.run_of h rfl, PLe.of_eq rfl⟩
    | false =>
      cases b with
      | true =>
        simp only [Bool.true_or, Bool.false_or] at h ⊢
        generalize evA w false true d e true = z at h ⊢
        cases z <;> exact ⟨_, Tr.run_of h rfl, PLe.of_eq rfl⟩
      | false =>
        cases d with
        | true =>
          simp only [Bool.true_or, Bool.false_or] at h ⊢
          generalize evA w false false true e true = z at h ⊢
          cases z <;> exact ⟨_, Tr.run_of h rfl, PLe.of_eq rfl⟩
        | false =>
          simp only [Bool.false_or] at h ⊢
          generalize evA w false false false e e = z at h ⊢
          cases z <;> exact ⟨_, Tr.run_of h rfl, PLe.of_eq rfl⟩
  · cases hp
def agB (w many least most : Int) (l : List Sp) (c : Int) : Bool := (!(wb w 8) || (IntKind.u64.wrap many == c)) && ((!(wb w 1) || (least == (sp l 0).1)) && (!(wb w 2) || (most == (sp l (l.length - 1)).2)))
def agreesG : List PV → Tr PV
  | [.gptr [.lit (.int .u8 w), .lit (.int .i64 many), .lit (.int .u32 least), .lit (.int .u32 most), .gsl 2 n f, .lit (.int .u64 c)]] => .br (areSps n f && Nat.blt 0 n && Nat.ble n 4294967280) (.leaf (bool (agB w many least most (spsOf n f) c))) .fail
  | _ => .fail
theorem PLe.gptr {ps qs : List PV} (h : PLeL ps qs) : PLe (.gptr ps) (.gptr qs) := fun C m v hr => by
  cases hr with
  | gptr m cs b o g hc h' =>
    refine .gptr _ _ b o g (fun j hj => hc j (by rw [h.1]; exact hj)) fun j p hp => ?_
    have hlt := (List.getElem?_eq_some_iff.1 hp).1
    have hlt2 : j < ps.length := by rw [h.1]; exact hlt
    have hq : ps[j]? = some ps[j] := List.getElem?_eq_getElem hlt2
    exact h.2 j _ _ hq hp C _ _ (h' j _ hq)
theorem agrees_ok : PureOK Tryz.prog (GG m t fr) 45 agreesG := by
  intro ps p hp
  unfold agreesG at hp
  split at hp
  · rename_i w many least most n f c
    obtain ⟨hc, hp⟩ := br_run hp
    simp only [Bool.and_eq_true, Nat.blt_eq, Nat.ble_eq] at hc
    obtain ⟨⟨hf, h0⟩, hn⟩ := hc
    simp only [Tr.run, Option.some.injEq] at hp
    subst hp
    have hL := sps_len n f
    refine PureAt.pre (qs := [.gptr [.lit (.int .u8 w), int many, .lit (.int .u32 least), .lit (.int .u32 most), .gsl 2 n (sRow (spsOf n f)), .lit (.int .u64 c)]]) ?_ (PLeL.cons (PLe.gptr (PLeL.cons (.refl _) (PLeL.cons (.refl _) (PLeL.cons (.refl _) (PLeL.cons (.refl _) (PLeL.cons (PLe.gsl rfl (sps_row hf)) (.refl _))))))) .nil)
    have h := agrees_raw m t fr w many least most c n (spsOf n f)
    have hw : IntKind.i64.wrap ((n : Int) - 1) = ((n - 1 : Nat) : Int) := by
      have e : (n : Int) - 1 = ((n - 1 : Nat) : Int) := by omega
      rw [e]
      exact wrap_nat (by omega)
    have b1 : Nat.blt 0 n = true := by rw [Nat.blt_eq]; exact h0
    have b2 : Nat.blt (n - 1) n = true := by rw [Nat.blt_eq]; omega
    have b3 : decide ((0 : Int) ≤ ((n - 1 : Nat) : Int)) = true := by simp
    rw [hw, Int.toNat_natCast, b1, b2, b3] at h
    have hE := fn_pure mixed (E13_ok (m := m) (t := t) (fr := fr)) (envOf_cuts ..) (f := 45) (fn := Tryz.f45) (by kernel_rfl)
    unfold agB
    rw [hL]
    generalize wb w 8 = x8 at h ⊢
    generalize wb w 1 = x1 at h ⊢
    generalize wb w 2 = x2 at h ⊢
    generalize (IntKind.u64.wrap many == c) = y8 at h ⊢
    generalize (least == (sp (spsOf n f) 0).1) = y1 at h ⊢
    generalize (most == (sp (spsOf n f) (n - 1)).2) = y2 at h ⊢
    cases x8 <;> cases x1 <;> cases x2 <;> cases y8 <;> cases y1 <;> exact hE _ _ (Tr.run_of h rfl)
  · cases hp
def leB (a b : Int) : Bool := decide (a ≤ b)
def gtB (a b : Int) : Bool := decide (a > b)
def fiB (w many least most : Int) : Bool :=
  bif gtB (bif wb w 1 then least else 1) (bif wb w 2 then most else 4294967295) then false else bif !(wb w 8) then true else
    leB (IntKind.u64.wrap many) ((bif wb w 2 then most else 4294967295) - (bif wb w 1 then least else 1) + 1) && (!(wb w 1 && wb w 2) || (least == most || gtB many 1))
def fitsG : List PV → Tr PV
  | [.gptr [.lit (.int .u8 w), .lit (.int .i64 many), .lit (.int .u32 least), .lit (.int .u32 most), _, .lit (.int .u64 c)]] => .br (u32N least && u32N most) (.leaf (bool (fiB w many least most))) .fail
  | _ => .fail
theorem wrap_u64 {x : Int} (h : 0 ≤ x ∧ x < 18446744073709551616) : IntKind.u64.wrap x = x := by
  have e : IntKind.u64.wrap x = x % 18446744073709551616 := by simp [IntKind.wrap, IntKind.signed, IntKind.bits]
  rw [e]
  omega
theorem fits_ok : PureOK Tryz.prog (GG m t fr) 46 fitsG := by
  refine PureOK.of (fn_pure mixed E13_ok (envOf_cuts ..) (fn := Tryz.f46) (by kernel_rfl)) fun ps p hp => ?_
  unfold fitsG at hp
  split at hp
  · rename_i w many least most q c
    obtain ⟨hc, hp⟩ := br_run hp
    simp only [Bool.and_eq_true, u32N, decide_eq_true_eq] at hc
    obtain ⟨⟨l0, l1⟩, m0, m1⟩ := hc
    simp only [Tr.run, Option.some.injEq] at hp
    subst hp
    have h := fits_raw m t fr w many least most c q
    rw [wrap_u64 (x := least) (by omega), wrap_u64 (x := most) (by omega)] at h
    unfold fiB
    generalize wb w 1 = x1 at h ⊢
    generalize wb w 2 = x2 at h ⊢
    cases x1
    · cases x2
      · simp only [cond_true, cond_false, Bool.and_false, Bool.false_and, Bool.not_false, Bool.true_or, Bool.and_true] at h ⊢
        have e1 : gtB (1 : Int) 4294967295 = false := rfl
        rw [e1, cond_false]
        generalize wb w 8 = x8 at h ⊢
        have e2 : (4294967295 : Int) - 1 + 1 = 4294967295 := rfl
        rw [e2]
        unfold leB
        generalize decide (IntKind.u64.wrap many ≤ 4294967295) = y at h ⊢
        cases x8 <;> cases y <;> exact ⟨_, Tr.run_of h rfl, PLe.of_eq rfl⟩
      simp only [cond_true, cond_false, Bool.and_false, Bool.false_and, Bool.not_false, Bool.true_or, Bool.and_true] at h ⊢
      unfold leB gtB
      by_cases hd : 1 > most
      · rw [decide_eq_true hd] at h ⊢
        exact ⟨_, Tr.run_of h rfl, PLe.of_eq rfl⟩
      · rw [wrap_u64 (x := most - 1) (by omega), wrap_u64 (x := most - 1 + 1) (by omega), decide_eq_false hd] at h
        rw [decide_eq_false hd]
        generalize wb w 8 = x8 at h ⊢
        generalize decide (IntKind.u64.wrap many ≤ most - 1 + 1) = y at h ⊢
        cases x8 <;> cases y <;> exact ⟨_, Tr.run_of h rfl, PLe.of_eq rfl⟩
    · cases x2
      · simp only [cond_true, cond_false, Bool.and_false, Bool.false_and, Bool.not_false, Bool.true_or, Bool.and_true] at h ⊢
        unfold leB gtB
        by_cases hd : least > 4294967295
        · rw [decide_eq_true hd] at h ⊢
          exact ⟨_, Tr.run_of h rfl, PLe.of_eq rfl⟩
        · rw [wrap_u64 (x := 4294967295 - least) (by omega), wrap_u64 (x := 4294967295 - least + 1) (by omega), decide_eq_false hd] at h
          rw [decide_eq_false hd]
          generalize wb w 8 = x8 at h ⊢
          generalize decide (IntKind.u64.wrap many ≤ 4294967295 - least + 1) = y at h ⊢
          cases x8 <;> cases y <;> exact ⟨_, Tr.run_of h rfl, PLe.of_eq rfl⟩
      simp only [cond_true, cond_false, Bool.and_false, Bool.false_and, Bool.not_false, Bool.not_true, Bool.true_or, Bool.false_or, Bool.and_true] at h ⊢
      unfold leB gtB
      by_cases hd : least > most
      · rw [decide_eq_true hd] at h ⊢
        exact ⟨_, Tr.run_of h rfl, PLe.of_eq rfl⟩
      · rw [wrap_u64 (x := most - least) (by omega), wrap_u64 (x := most - least + 1) (by omega), decide_eq_false hd] at h
        rw [decide_eq_false hd]
        generalize wb w 8 = x8 at h ⊢
        generalize decide (IntKind.u64.wrap many ≤ most - least + 1) = y at h ⊢
        generalize (least == most) = z at h ⊢
        cases x8 <;> cases y <;> cases z <;> exact ⟨_, Tr.run_of h rfl, PLe.of_eq rfl⟩
  · cases hp
end
end Go.Proofs.YtcdghinmmhcfcaaGreatDoor.Ev

/- tally: whether spans are as they are packed. No condition. -/
namespace Go.Proofs.YtcdghinmmhcfcaaGreatDoor.Ev
open Go Go.RowKit Go.Proofs Go.Proofs.YtcdghinmmhcfcaaGreatDoor.Str
set_option linter.unusedVariables false
set_option linter.unusedSimpArgs false
section
variable {m : Int} {t : TypeId} {fr : Nat × Nat}
def tcPure : List (Nat × (List PV → Tr PV)) := (44, evenG) :: (45, agreesG) :: (46, fitsG) :: taPure
theorem tcPure_ok {m : Int} {t : TypeId} {fr : Nat × Nat} : TabOK Tryz.prog (GG m t fr) tcPure := (TabOK.cons even_ok (fn := Tryz.f44) (by kernel_rfl) (by kernel_rfl) (TabOK.cons agrees_ok (fn := Tryz.f45) (by kernel_rfl) (by kernel_rfl) (TabOK.cons fits_ok (fn := Tryz.f46) (by kernel_rfl) (by kernel_rfl) taPure_ok)))
noncomputable abbrev E14 (G : GT) : Env := envOf Tryz.prog G tcPure nbFull
theorem E14_ok : (E14 (GG m t fr)).ok Tryz.prog (GG m t fr) := envOf_ok mixed tcPure_ok nbFull_ok
def pdOuts : Exit → Outs
  | .normal => { ks := [0, 3, 11, 12, 13], rs := [.slot 0], pin := true }
  | .exit _ => { ks := [0, 3], rs := [.slot 0], pin := true }
  | _ => { ks := [2], rs := [.slot 0], pin := true }
noncomputable abbrev pdRound (G : GT) := roundT Tryz.prog (E14 G) 60 G 71 pdOuts .normal (theLoop 0 Tryz.f43)
def bkB (w many least most : Int) (q : PV) (c : Int) : Blk := .cells 76 [.lit (.int .u8 w), int many, .lit (.int .u32 least), .lit (.int .u32 most), q, .lit (.int .u64 c)]
theorem pd_round (m : Int) (t : TypeId) (fr : Nat × Nat) (w many least most c : Int) (n0 : Nat) (f0 : Nat → List PV) (l : List Sp) (n n' : Nat) (u i : Int) : (pdRound (GG m t fr) ([.ptr 0 0, .gsl 2 n' (sRow l), .gsl 2 n (sRow l), int u, int i], [bkB w many least most (.gsl 2 n0 f0) c])).run2 =
 (bif (decide (i < u)) then
 bif ((Prod.fst (sp l (Int.toNat i))) == (0 : Int)) then
 (.some ((.ret, ([(.lit (.bool false))], [(.cells 76 [(.lit (.int .u8 w)), (.lit (.int .i64 many)), (.lit (.int .u32 least)), (.lit (.int .u32 most)), (.gsl 2 n0 f0), (.lit (.int .u64 c))])])), [true, true, true, true, true, true, true, ((decide ((0 : Int) ≤ i)) && (Nat.blt (Int.toNat i) n))]))
 else bif (decide ((Prod.fst (sp l (Int.toNat i))) > (Prod.snd (sp l (Int.toNat i))))) then
 (.some ((.ret, ([(.lit (.bool false))], [(.cells 76 [(.lit (.int .u8 w)), (.lit (.int .i64 many)), (.lit (.int .u32 least)), (.lit (.int .u32 most)), (.gsl 2 n0 f0), (.lit (.int .u64 c))])])), [true, true, true, ((decide ((0 : Int) ≤ i)) && (Nat.blt (Int.toNat i) n))]))
 else bif (decide (i > (0 : Int))) then
 bif (decide ((IntKind.wrap .u64 (Prod.fst (sp l (Int.toNat i)))) < (IntKind.wrap .u64 ((IntKind.wrap .u64 (Prod.snd (sp l (Int.toNat (IntKind.wrap .i64 (i - (1 : Int))))))) + (2 : Int))))) then
 (.some ((.ret, ([(.lit (.bool false))], [(.cells 76 [(.lit (.int .u8 w)), (.lit (.int .i64 many)), (.lit (.int .u32 least)), (.lit (.int .u32 most)), (.gsl 2 n0 f0), (.lit (.int .u64 c))])])), [((decide ((0 : Int) ≤ (IntKind.wrap .i64 (i - (1 : Int))))) && (Nat.blt (Int.toNat (IntKind.wrap .i64 (i - (1 : Int)))) n')), ((decide ((0 : Int) ≤ i)) && (Nat.blt (Int.toNat i) n))]))
 else (.some ((.normal, ([(.ptr 0 0), (.gsl 2 n' (sRow l)), (.gsl 2 n (sRow l)), (.lit (.int .i64 u)), (.lit (.int .i64 (IntKind.wrap .i64 (i + (1 : Int)))))], [(.cells 76 [(.lit (.int .u8 w)), (.lit (.int .i64 many)), (.lit (.int .u32 least)), (.lit (.int .u32 most)), (.gsl 2 n0 f0), (.lit (.int .u64 (IntKind.wrap .u64 (c + (IntKind.wrap .u64 ((IntKind.wrap .u64 (IntKind.wrap .u32 ((Prod.snd (sp l (Int.toNat i))) - (Prod.fst (sp l (Int.toNat i)))))) + (1 : Int)))))))])])), [((decide ((0 : Int) ≤ (IntKind.wrap .i64 (i - (1 : Int))))) && (Nat.blt (Int.toNat (IntKind.wrap .i64 (i - (1 : Int)))) n')), ((decide ((0 : Int) ≤ i)) && (Nat.blt (Int.toNat i) n))]))
 else (.some ((.normal, ([(.ptr 0 0), (.gsl 2 n' (sRow l)), (.gsl 2 n (sRow l)), (.lit (.int .i64 u)), (.lit (.int .i64 (IntKind.wrap .i64 (i + (1 : Int)))))], [(.cells 76 [(.lit (.int .u8 w)), (.lit (.int .i64 many)), (.lit (.int .u32 least)), (.lit (.int .u32 most)), (.gsl 2 n0 f0), (.lit (.int .u64 (IntKind.wrap .u64 (c + (IntKind.wrap .u64 ((IntKind.wrap .u64 (IntKind.wrap .u32 ((Prod.snd (sp l (Int.toNat i))) - (Prod.fst (sp l (Int.toNat i)))))) + (1 : Int)))))))])])), [((decide ((0 : Int) ≤ i)) && (Nat.blt (Int.toNat i) n))]))
 else (.some (((.exit 0), ([(.ptr 0 0), (.gsl 2 n' (sRow l))], [(.cells 76 [(.lit (.int .u8 w)), (.lit (.int .i64 many)), (.lit (.int .u32 least)), (.lit (.int .u32 most)), (.gsl 2 n0 f0), (.lit (.int .u64 c))])])), [])) : Option ((Exit × Kept) × List Bool)) := by
  kernel_rfl
def qdOuts : Exit → Outs
  | .normal => { ks := [0, 4, 7, 8, 9] }
  | .exit _ => { ks := [0, 4] }
  | _ => { ks := [2, 3] }
noncomputable abbrev qdRound (G : GT) := roundT Tryz.prog (E14 G) 60 G 69 qdOuts .normal (theLoop 0 Tryz.f47)
theorem qd_round (m : Int) (t : TypeId) (fr : Nat × Nat) (c : Int) (l : List Sp) (n n' : Nat) (u i : Int) : (qdRound (GG m t fr) ([.gsl 2 n' (sRow l), .lit (.int .u64 c), .gsl 2 n (sRow l), int u, int i], [])).run2 =
 (bif (decide (i < u)) then
 bif ((Prod.fst (sp l (Int.toNat i))) == (0 : Int)) then
 (.some ((.ret, ([(.lit (.int .u64 (0 : Int))), (.lit (.bool false))], [])), [true, true, true, true, true, true, true, ((decide ((0 : Int) ≤ i)) && (Nat.blt (Int.toNat i) n))]))
 else bif (decide ((Prod.fst (sp l (Int.toNat i))) > (Prod.snd (sp l (Int.toNat i))))) then
 (.some ((.ret, ([(.lit (.int .u64 (0 : Int))), (.lit (.bool false))], [])), [true, true, true, ((decide ((0 : Int) ≤ i)) && (Nat.blt (Int.toNat i) n))]))
 else bif (decide (i > (0 : Int))) then
 bif (decide ((Prod.fst (sp l (Int.toNat i))) ≤ (Prod.snd (sp l (Int.toNat (IntKind.wrap .i64 (i - (1 : Int)))))))) then
 (.some ((.ret, ([(.lit (.int .u64 (0 : Int))), (.lit (.bool false))], [])), [true, true, true, true, true, true, true, ((decide ((0 : Int) ≤ (IntKind.wrap .i64 (i - (1 : Int))))) && (Nat.blt (Int.toNat (IntKind.wrap .i64 (i - (1 : Int)))) n')), ((decide ((0 : Int) ≤ i)) && (Nat.blt (Int.toNat i) n))]))
 else bif (decide ((IntKind.wrap .u32 ((Prod.fst (sp l (Int.toNat i))) - (Prod.snd (sp l (Int.toNat (IntKind.wrap .i64 (i - (1 : Int)))))))) < (2 : Int))) then
 (.some ((.ret, ([(.lit (.int .u64 (0 : Int))), (.lit (.bool false))], [])), [((decide ((0 : Int) ≤ (IntKind.wrap .i64 (i - (1 : Int))))) && (Nat.blt (Int.toNat (IntKind.wrap .i64 (i - (1 : Int)))) n')), ((decide ((0 : Int) ≤ (IntKind.wrap .i64 (i - (1 : Int))))) && (Nat.blt (Int.toNat (IntKind.wrap .i64 (i - (1 : Int)))) n')), ((decide ((0 : Int) ≤ i)) && (Nat.blt (Int.toNat i) n))]))
 else (.some ((.normal, ([(.gsl 2 n' (sRow l)), (.lit (.int .u64 (IntKind.wrap .u64 (c + (IntKind.wrap .u64 ((IntKind.wrap .u64 (IntKind.wrap .u32 ((Prod.snd (sp l (Int.toNat i))) - (Prod.fst (sp l (Int.toNat i)))))) + (1 : Int))))))), (.gsl 2 n (sRow l)), (.lit (.int .i64 u)), (.lit (.int .i64 (IntKind.wrap .i64 (i + (1 : Int)))))], [])), [((decide ((0 : Int) ≤ (IntKind.wrap .i64 (i - (1 : Int))))) && (Nat.blt (Int.toNat (IntKind.wrap .i64 (i - (1 : Int)))) n')), ((decide ((0 : Int) ≤ (IntKind.wrap .i64 (i - (1 : Int))))) && (Nat.blt (Int.toNat (IntKind.wrap .i64 (i - (1 : Int)))) n')), ((decide ((0 : Int) ≤ i)) && (Nat.blt (Int.toNat i) n))]))
 else (.some ((.normal, ([(.gsl 2 n' (sRow l)), (.lit (.int .u64 (IntKind.wrap .u64 (c + (IntKind.wrap .u64 ((IntKind.wrap .u64 (IntKind.wrap .u32 ((Prod.snd (sp l (Int.toNat i))) - (Prod.fst (sp l (Int.toNat i)))))) + (1 : Int))))))), (.gsl 2 n (sRow l)), (.lit (.int .i64 u)), (.lit (.int .i64 (IntKind.wrap .i64 (i + (1 : Int)))))], [])), [((decide ((0 : Int) ≤ i)) && (Nat.blt (Int.toNat i) n))]))
 else (.some (((.exit 0), ([(.gsl 2 n' (sRow l)), (.lit (.int .u64 c))], [])), [])) : Option ((Exit × Kept) × List Bool)) := by
  kernel_rfl
end
end Go.Proofs.YtcdghinmmhcfcaaGreatDoor.Ev

/- tally: whether spans are as they are packed: the loops. No condition. -/
namespace Go.Proofs.YtcdghinmmhcfcaaGreatDoor.Ev
open Go Go.RowKit Go.Proofs Go.Proofs.YtcdghinmmhcfcaaGreatDoor.Str
set_option linter.unusedVariables false
set_option linter.unusedSimpArgs false
/-- spans as they are packed, from one on -/
def pdX (p : Option Sp) (x : Sp) : Bool := !(x.1 == 0) && (decide (x.1 ≤ x.2) && gapM p x)
def pdB : Option Sp → List Sp → Bool
  | _, [] => true
  | p, x :: r => pdX p x && pdB (some x) r
theorem wrap_u32 {x : Int} (h : 0 ≤ x ∧ x < 4294967296) : IntKind.u32.wrap x = x := by
  have e : IntKind.u32.wrap x = x % 4294967296 := by simp [IntKind.wrap, IntKind.signed, IntKind.bits]
  rw [e]
  omega
theorem wrap_u32m {x : Int} (h : x < 0 ∧ -4294967296 ≤ x) : IntKind.u32.wrap x = x + 4294967296 := by
  have e : IntKind.u32.wrap x = x % 4294967296 := by simp [IntKind.wrap, IntKind.signed, IntKind.bits]
  rw [e]
  omega
theorem u32B_iff {x : Sp} : u32B x = true ↔ (0 ≤ x.1 ∧ x.1 < 4294967296) ∧ 0 ≤ x.2 ∧ x.2 < 4294967296 := by
  unfold u32B
  simp
theorem pre_at {l : List Sp} {i : Nat} (hi : 0 < i) (hn : i ≤ 4294967280) : IntKind.i64.wrap ((i : Int) - 1) = ((i - 1 : Nat) : Int) := by
  have e : (i : Int) - 1 = ((i - 1 : Nat) : Int) := by omega
  rw [e]
  exact wrap_nat (by omega)
/-- the span ahead -/
def preP (l : List Sp) : Nat → Option Sp
  | 0 => none
  | i + 1 => some (sp l i)
section
variable {m : Int} {t : TypeId} {fr : Nat × Nat}
def pdIn (w many least most : Int) (n0 : Nat) (f0 : Nat → List PV) (l : List Sp) (i : Nat) (c : Int) : Kept := ([.ptr 0 0, .gsl 2 l.length (sRow l), .gsl 2 l.length (sRow l), int l.length, int i], [bkB w many least most (.gsl 2 n0 f0) c])
theorem pd_step (w many least most c : Int) (n0 : Nat) (f0 : Nat → List PV) (l : List Sp) (hu : l.all u32B = true) (hn : l.length ≤ 4294967280) (i : Nat) (hi : i < l.length) (hc : 0 ≤ c ∧ c ≤ (i : Int) * 4294967296) :
    (pdRound (GG m t fr) (pdIn w many least most n0 f0 l i c)).run = some (bif pdX (preP l i) (sp l i) then (.normal, pdIn w many least most n0 f0 l (i + 1) (c + ((sp l i).2 - (sp l i).1 + 1))) else (.ret, ([bool false], [bkB w many least most (.gsl 2 n0 f0) c]))) := by
  have h := pd_round m t fr w many least most c n0 f0 l l.length l.length l.length i
  have hd : decide ((i : Int) < (l.length : Int)) = true := by simp; omega
  have hw : IntKind.i64.wrap ((i : Int) + 1) = ((i + 1 : Nat) : Int) := wrap_succ (by omega)
  have b2 : Nat.blt i l.length = true := by rw [Nat.blt_eq]; exact hi
  have b3 : ∀ k : Nat, decide ((0 : Int) ≤ (k : Int)) = true := fun k => by simp
  have hx : u32B (sp l i) = true := by
    have e : sp l i = l[i] := by simp [sp, hi]
    rw [e]
    exact List.all_eq_true.1 hu _ (List.getElem_mem hi)
  have hxu := u32B_iff.1 hx
  rw [hd, hw, Int.toNat_natCast, b2, b3] at h
  simp only [cond_true] at h
  unfold pdX
  cases c1 : (sp l i).1 == 0 with
  | true =>
    rw [c1] at h
    exact Tr.run_of h rfl
  | false =>
    rw [c1, cond_false] at h
    by_cases c2 : (sp l i).1 > (sp l i).2
    · rw [decide_eq_true c2] at h
      have : decide ((sp l i).1 ≤ (sp l i).2) = false := decide_eq_false (by omega)
      rw [this]
      exact Tr.run_of h rfl
    · rw [decide_eq_false c2, cond_false] at h
      have e1 : decide ((sp l i).1 ≤ (sp l i).2) = true := decide_eq_true (by omega)
      rw [wrap_u32 (x := (sp l i).2 - (sp l i).1) (by omega), wrap_u64 (x := (sp l i).2 - (sp l i).1) (by omega), wrap_u64 (x := (sp l i).2 - (sp l i).1 + 1) (by omega), wrap_u64 (x := c + ((sp l i).2 - (sp l i).1 + 1)) (by omega)] at h
      rw [e1]
      cases i with
      | zero => exact Tr.run_of h rfl
      | succ k =>
        have d1 : decide (((k + 1 : Nat) : Int) > 0) = true := decide_eq_true (by omega)
        have hp : u32B (sp l k) = true := by
          have hk : k < l.length := by omega
          have e : sp l k = l[k] := by simp [sp, hk]
          rw [e]
          exact List.all_eq_true.1 hu _ (List.getElem_mem hk)
        have hpu := u32B_iff.1 hp
        have b4 : Nat.blt (k + 1 - 1) l.length = true := by rw [Nat.blt_eq]; omega
        rw [d1, pre_at (l := l) (Nat.succ_pos k) (by omega), Int.toNat_natCast, b3, b4] at h
        simp only [cond_true, Nat.succ_eq_add_one, Nat.add_sub_cancel] at h
        rw [wrap_u64 (x := (sp l (k + 1)).1) (by omega), wrap_u64 (x := (sp l k).2) (by omega), wrap_u64 (x := (sp l k).2 + 2) (by omega)] at h
        show _ = some (bif (!false) && (true && decide ((sp l k).2 + 2 ≤ (sp l (k + 1)).1)) then _ else _)
        by_cases c3 : (sp l (k + 1)).1 < (sp l k).2 + 2
        · rw [decide_eq_true c3] at h
          rw [decide_eq_false (by omega)]
          exact Tr.run_of h rfl
        · rw [decide_eq_false c3] at h
          rw [decide_eq_true (by omega)]
          exact Tr.run_of h rfl
theorem sumS_le : ∀ (l : List Sp), l.all u32B = true → sumS l ≤ (l.length : Int) * 4294967296
  | [], _ => by simp [sumS]
  | x :: l, h => by
    simp only [List.all_cons, Bool.and_eq_true] at h
    have ih := sumS_le l h.2
    have hx := u32B_iff.1 h.1
    rw [sumS, List.length_cons]
    push_cast
    omega
def pdEnd (w many least most : Int) (n0 : Nat) (f0 : Nat → List PV) (l : List Sp) (c : Int) (ok : Bool) : Exit × Kept :=
  bif ok then (.exit 0, ([.ptr 0 0, .gsl 2 l.length (sRow l)], [bkB w many least most (.gsl 2 n0 f0) c])) else (.ret, ([bool false], [.cells 76 [.lit (.int .u8 w), int many, .lit (.int .u32 least), .lit (.int .u32 most), .gsl 2 n0 f0, .junk]]))
theorem pd_LR (w many least most : Int) (n0 : Nat) (f0 : Nat → List PV) (l : List Sp) (hu : l.all u32B = true) (hn : l.length ≤ 4294967280) : ∀ (s : List Sp) (i : Nat) (c : Int), l.drop i = s → i ≤ l.length → (0 ≤ c ∧ c ≤ (i : Int) * 4294967296) →
    LR Tryz.prog (E14 (GG m t fr)) 60 (GG m t fr) 71 pdOuts .normal (theLoop 0 Tryz.f43) (pdIn w many least most n0 f0 l i c) (pdEnd w many least most n0 f0 l (c + sumS s) (pdB (preP l i) s)).1 (pdEnd w many least most n0 f0 l (c + sumS s) (pdB (preP l i) s)).2
  | [], i, c, hr, hi, hc => by
    have h := pd_round m t fr w many least most c n0 f0 l l.length l.length l.length i
    have hlen := List.drop_eq_nil_iff.1 hr
    have hd : decide ((i : Int) < (l.length : Int)) = false := by simp; omega
    rw [hd] at h
    have e : c + sumS [] = c := by simp [sumS]
    rw [e]
    exact .last (Tr.run_of h rfl) (by simp [pdEnd, pdB]) (by simp [pdEnd, pdB])
  | x :: s, i, c, hr, hi, hc => by
    obtain ⟨hlt, hx, hdr⟩ := sp_drop hr
    have h := pd_step (m := m) (t := t) (fr := fr) w many least most c n0 f0 l hu hn i hlt hc
    rw [hx] at h
    have hxu : u32B x = true := by
      have e : sp l i = l[i] := by simp [sp, hlt]
      rw [← hx, e]
      exact List.all_eq_true.1 hu _ (List.getElem_mem hlt)
    have hxu := u32B_iff.1 hxu
    cases hb : pdX (preP l i) x with
    | false =>
      rw [hb] at h
      have e : pdB (preP l i) (x :: s) = false := by rw [pdB, hb]; rfl
      rw [e]
      show LR _ _ _ _ _ _ _ _ _ .ret ([bool false], _)
      refine .out (.last h (by simp) (by simp)) ⟨.refl _, BLeL.cons (.cells _ (PLeL.cons (.refl _) (PLeL.cons (.refl _) (PLeL.cons (.refl _) (PLeL.cons (.refl _) (PLeL.cons (.refl _) (PLeL.cons (PLe.junk _) .nil))))))) .nil⟩
    | true =>
      rw [hb] at h
      have e : pdB (preP l i) (x :: s) = pdB (preP l (i + 1)) s := by
        rw [pdB, hb, Bool.true_and]
        show _ = pdB (some (sp l i)) s
        rw [hx]
      have e2 : c + sumS (x :: s) = (c + (x.2 - x.1 + 1)) + sumS s := by rw [sumS]; omega
      rw [e, e2]
      have hle : x.1 ≤ x.2 := by
        unfold pdX at hb
        simp only [Bool.and_eq_true, decide_eq_true_eq] at hb
        exact hb.2.1
      exact .more h (pd_LR w many least most n0 f0 l hu hn s (i + 1) _ hdr (by omega) (by push_cast; omega))
def pdF : Kept → Tr (Exit × Kept)
  | ([.ptr 0 0, .gsl 2 n f, .gsl 2 n' f', .lit (.int .i64 u), .lit (.int .i64 0)], [.cells ty [.lit (.int .u8 w), .lit (.int .i64 many), .lit (.int .u32 least), .lit (.int .u32 most), .gsl 2 n0 f0, .lit (.int .u64 0)]]) => match Nat.beq ty 76 with
    | true => .br (areSps n f && (areSps n' f' && decide (n = n') && decide (spsOf n f = spsOf n' f')) && decide (u = (n : Int)) && Nat.ble n 4294967280)
      (.br (pdB none (spsOf n f)) (.leaf (.exit 0, ([.ptr 0 0, .gsl 2 n (sRow (spsOf n f))], [bkB w many least most (.gsl 2 n0 f0) (sumS (spsOf n f))]))) (.leaf (.ret, ([bool false], [.cells 76 [.lit (.int .u8 w), int many, .lit (.int .u32 least), .lit (.int .u32 most), .gsl 2 n0 f0, .junk]])))) .fail
    | false => .fail
  | _ => .fail
theorem pdF_ok (k : Kept) (e : Exit) (y : Kept) (h : (pdF k).run = some (e, y)) : LR Tryz.prog (E14 (GG m t fr)) 60 (GG m t fr) 71 pdOuts .normal (theLoop 0 Tryz.f43) k e y := by
  unfold pdF at h
  split at h
  · rename_i n f n' f' u ty w many least most n0 f0
    split at h
    · rename_i hty
      obtain rfl := Nat.eq_of_beq_eq_true hty
      have hb := br_run h
      clear h
      obtain ⟨hc, h⟩ := hb
      simp only [Bool.and_eq_true, decide_eq_true_eq, Nat.ble_eq] at hc
      obtain ⟨⟨⟨hf, ⟨hf', rfl⟩, hff⟩, rfl⟩, hn⟩ := hc
      have hL := sps_len n f
      have key := pd_LR (m := m) (t := t) (fr := fr) w many least most n0 f0 (spsOf n f) (sps_u32 hf) (by omega) (spsOf n f) 0 0 rfl (Nat.zero_le _) (by simp)
      rw [Int.zero_add] at key
      have hin : KLe ([.ptr 0 0, .gsl 2 n f, .gsl 2 n f', int (n : Int), int 0], [.cells 76 [.lit (.int .u8 w), .lit (.int .i64 many), .lit (.int .u32 least), .lit (.int .u32 most), .gsl 2 n0 f0, .lit (.int .u64 0)]]) (pdIn w many least most n0 f0 (spsOf n f) 0 0) := by
        refine ⟨PLeL.cons (.refl _) (PLeL.cons (PLe.gsl hL.symm (sps_row hf)) (PLeL.cons (PLe.gsl hL.symm ?_) (PLeL.cons (PLe.of_eq ?_) (.refl _)))), .refl _⟩
        · rw [hff]
          exact sps_row hf'
        · rw [hL]
      simp only [Tr.run] at h
      change LR _ _ _ _ _ _ _ _ _ (pdEnd w many least most n0 f0 (spsOf n f) (sumS (spsOf n f)) (pdB none (spsOf n f))).1 (pdEnd w many least most n0 f0 (spsOf n f) (sumS (spsOf n f)) (pdB none (spsOf n f))).2 at key
      cases hb : pdB none (spsOf n f) with
      | true =>
        rw [hb] at h key
        simp only [cond_true, Option.some.injEq, Prod.mk.injEq] at h
        obtain ⟨rfl, rfl⟩ := h
        refine .le hin (.out key ?_)
        refine ⟨PLeL.cons (.refl _) (PLeL.cons (PLe.gsl hL fun _ _ => rfl) .nil), .refl _⟩
      | false =>
        rw [hb] at h key
        simp only [cond_false, Option.some.injEq, Prod.mk.injEq] at h
        obtain ⟨rfl, rfl⟩ := h
        exact .le hin key
    · cases h
  · cases h
noncomputable abbrev pdCut (G : GT) := cutOf G 71 pdOuts 0 pdF
end
end Go.Proofs.YtcdghinmmhcfcaaGreatDoor.Ev
