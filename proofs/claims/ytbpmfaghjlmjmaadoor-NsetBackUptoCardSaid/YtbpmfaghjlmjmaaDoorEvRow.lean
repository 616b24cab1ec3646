/- Functions that give back a new row, that their caller may write. No condition. -/
import Derived.Test.YtbpmfaghjlmjmaaDoorEvSpot
namespace Go.Proofs.YtbpmfaghjlmjmaaDoor.Ev
open Go Go.RowKit
set_option linter.unusedVariables false
set_option linter.unusedSimpArgs false
/-- a function that writes nothing that was there, and gives back a row of its own make -/
def RowAt (P : Program) (G : GT) (f : FuncId) (ps : List PV) (e : TypeId) (sz n : Nat) (h : Nat → List PV) : Prop :=
  ∀ (w : World) (C : Nat → Nat → Value → Prop), Known C w → Globs G C → Objs G w → ∀ (args : Array Value), RepL C ps args →
    Calls P f args w fun
      | .returned v, w' => Keeps (· < w.heap.size) w w' ∧ ∃ xs, w'.ownsRow w.heap.size e sz v n xs ∧ (∀ x ∈ xs, x.oneCell' = true) ∧ (∀ i, i < n → (h i).length = sz) ∧
          ∀ (i j : Nat) (p : PV), i < n → (h i)[j]? = some p → ∃ x, xs[i * sz + j]? = some x ∧ Rep (fun b o y => Grown C w w' b o y ∧ blkOf v ≠ some b) (fun _ => none) p x
      | _, _ => False
def RowOK (P : Program) (G : GT) (f : FuncId) (g : List PV → Tr (TypeId × Nat × Nat × (Nat → List PV))) : Prop := ∀ ps e sz n h, (g ps).run = some (e, sz, n, h) → RowAt P G f ps e sz n h
theorem RowOK.of {P : Program} {G : GT} {f : FuncId} {g g' : List PV → Tr (TypeId × Nat × Nat × (Nat → List PV))} (h : RowOK P G f g) (hg : ∀ ps e sz n k, (g' ps).run = some (e, sz, n, k) → ∃ k', (g ps).run = some (e, sz, n, k') ∧ ∀ i, i < n → k' i = k i) : RowOK P G f g' := by
  intro ps e sz n k hk w C hK hG hO args hr
  obtain ⟨k', h1, h2⟩ := hg ps e sz n k hk
  refine (h ps e sz n k' h1 w C hK hG hO args hr).mono ?_
  rintro (v | _) w' hq
  · obtain ⟨q1, xs, q2, q3, q4, q5⟩ := hq
    refine ⟨q1, xs, q2, q3, fun i hi => by rw [← h2 i hi]; exact q4 i hi, fun i j p hi hp => q5 i j p hi (by rw [h2 i hi]; exact hp)⟩
  all_goals exact hq.elim
/-- .. as it is evaluated -/
def fnRow (P : Program) (E : Env) (n : Nat) (fn : Func) (G : GT) (ps : List PV) : Tr (TypeId × Nat × Nat × (Nat → List PV)) := (fnEv P E n fn ps ⟨[], 0, G⟩).bind fun r => match r.1 with
  | .own i => match look r.2.blks i with
    | some (.row e sz k h) => .leaf (e, sz, k, h)
    | _ => .fail
  | _ => .fail
theorem row_of_ev {P : Program} {E : Env} {n : Nat} {G : GT} (hE : E.ok P G) (hmo : P.follows .mixedOrders = true) {f : FuncId} {fn : Func} (hf : P.funcs[f]? = some fn) (hc : ∀ c, fn.body = some c → CutsOK .none P G E c) : RowOK P G f (fnRow P E n fn G) := by
  intro ps e sz k h hp w C hK hG hO args hr
  obtain ⟨⟨q, M'⟩, hq, hp⟩ := Tr.of_bind hp
  dsimp only at hp
  split at hp
  · rename_i i
    split at hp
    · rename_i e1 sz1 k1 h1 hlk
      simp only [Tr.run, Option.some.injEq, Prod.mk.injEq] at hp
      obtain ⟨rfl, rfl, rfl, rfl⟩ := hp
      have hcell : ∀ b o v, C b o v → Cell ⟨w, C, (· < w.heap.size), G⟩ w ⟨[], 0, G⟩ (fun _ => none) b o v := fun b o v h => ⟨fun ⟨id, u, hs, _⟩ => (by cases hs), hK b o v h, fun _ => h⟩
      have hM : MRel ⟨w, C, (· < w.heap.size), G⟩ ⟨[], 0, G⟩ (fun _ => none) w :=
        ⟨fun id b hb => (by cases hb), fun _ _ => rfl, fun i j v v' b hi => (by cases hi), fun k hk => hk, Keeps.refl _ _, fun g cs hg => (hG g cs hg).mono hcell fun _ _ h => h, rfl, fun g o hg => ⟨(Array.getElem?_eq_some_iff.1 (hO g o hg)).1, hO g o hg⟩⟩
      refine Calls.mono (fnEv_wp hE hmo hf hc (β := ⟨w, C, (· < w.heap.size), G⟩) rfl hM hr.1 (fun i p v hp hv => (hr.2 i p v hp hv).mono hcell fun _ _ h => h) hq) ?_
      intro e' w' he
      cases e' with
      | panicked _ => exact he.elim
      | outgrown => exact he.elim
      | returned v =>
        obtain ⟨m', -, hM', hrep⟩ := he
        refine ⟨hM'.below, ?_⟩
        cases hrep with
        | own _ _ _ hv _ =>
          have hb := hM'.blk i _ hlk
          cases hb with
          | row _ _ _ _ v' xs hm ho h1 hl hr1 =>
            rw [hv] at hm
            cases hm
            refine ⟨xs, ho, h1, hl, fun i' j p hi hj => ?_⟩
            obtain ⟨x, hx, hxr⟩ := hr1 i' j p hi hj
            refine ⟨x, hx, hxr.mono (fun b o y hy => ⟨?_, fun hbv => hy.1 ⟨i, _, liv_of hlk, hv, hbv⟩⟩) fun _ _ h => h⟩
            rcases Nat.lt_or_ge b w.heap.size with h | h
            · exact .inl (hy.2.2 h)
            · exact .inr ⟨h, hy.2.1⟩
    · cases hp
  · cases hp
/-- .. for a caller that has memory of its own: one row more -/
def rowFn (g : List PV → Tr (TypeId × Nat × Nat × (Nat → List PV))) (ps : List PV) (M : Mem) : Tr (PV × Mem) := match PV.closL ps with
  | true => (g ps).bind fun r => .leaf (.own M.nid, M.new (.row r.1 r.2.1 r.2.2.1 r.2.2.2))
  | false => .fail
theorem row_fn {P : Program} {G : GT} {f : FuncId} {g : List PV → Tr (TypeId × Nat × Nat × (Nat → List PV))} (hg : RowOK P G f g) : FnOK P G f (rowFn g) := by
  intro β hG M m w ps args hM hlen hrep p M' hp
  unfold rowFn at hp
  split at hp
  · rename_i hcl
    obtain ⟨⟨e, sz, n, h⟩, h1, hp⟩ := Tr.of_bind hp
    simp only [Tr.run, Option.some.injEq, Prod.mk.injEq] at hp
    obtain ⟨rfl, rfl⟩ := hp
    refine (hg ps e sz n h h1 w (Cell β w M m) (fun b o v h => h.2.1) (fun g cs hgc => hM.glob g cs (by rw [hM.gl, hG]; exact hgc)) (by rw [← hG]; exact hM.objs') args ⟨hlen, fun i p v hp hv => (hrep i p v hp hv).clos (closL_get hcl hp)⟩).mono ?_
    rintro (v | _) w' hq
    · obtain ⟨hk, xs, ho, h1x, hl, hr⟩ := hq
      have hbv : ∀ k, blkOf v = some k → w.heap.size ≤ k := by
        intro k hk'
        rcases ho.2 with ⟨rfl, _⟩ | ⟨b, cap, cur, rfl, hb, _⟩
        · cases hk'
        · cases hk'
          exact hb
      have hone : v.oneCell' = true := by
        rcases ho.2 with ⟨rfl, _⟩ | ⟨b, cap, cur, rfl, _⟩ <;> rfl
      obtain ⟨k1, k2⟩ := hM.grow (.row e sz n h) v (w' := w') ⟨hk.os, hk.tape, hk.output, hk.size, fun k hk' => hk.block k (hM.kLt hk')⟩ hk.block hbv fun he =>
        .row e sz n h v xs (upd_same ..) ⟨ho.1, ho.2.imp id fun ⟨g, cap, cur, e1, e2, r⟩ => ⟨g, cap, cur, e1, Nat.le_trans hM.below.size e2, r⟩⟩ h1x hl fun i j p hi hj => by
          obtain ⟨x, hx, hxr⟩ := hr i j p hi hj
          refine ⟨x, hx, hxr.mono (fun b o y hy => ?_) fun _ _ h => h⟩
          obtain ⟨hy | ⟨hyb, hyc⟩, hyn⟩ := hy
          · exact he.cell b o y hy
          · refine ⟨fun ⟨id, u, hs, hm, hbu⟩ => ?_, hyc, fun hlt => absurd hM.below.size (by omega)⟩
            by_cases hid : id = M.nid
            · subst hid
              rw [upd_same] at hm
              cases hm
              exact hyn hbu
            · rw [upd_other _ _ _ _ hid] at hm
              simp only [Mem.new, liv_cons, if_neg (Ne.symm hid)] at hs
              have := hM.livLt hs hm hbu
              omega
      exact ⟨_, k2, k1, .own _ _ _ (upd_same ..) hone⟩
    all_goals exact hq.elim
  · cases hp
end Go.Proofs.YtbpmfaghjlmjmaaDoor.Ev
