/- The evaluator: functions that write one's own block of plain cells, which they are pointed to. -/
import Derived.Test.YtbpmfaghjlmjmaaDoorEvStd
namespace Go.Proofs.YtbpmfaghjlmjmaaDoor.Ev
open Go Go.RowKit Go.Proofs
set_option linter.unusedVariables false
/-- plain values: what they tell needs no memory -/
def RepF (p : PV) (v : Value) : Prop := Rep (fun _ _ _ => False) (fun _ => none) p v
/-- a function whose first argument points to a block of plain cells: what it gives back, and what the block holds then -/
def SpotAt (P : Program) (G : GT) (f : FuncId) (ty : TypeId) (cs ps : List PV) (p : PV) (cs' : List PV) : Prop :=
  ∀ (w : World) (C : Nat → Nat → Value → Prop), Known C w → Globs G C → Objs G w → ∀ (b : Nat) (vs args : Array Value), (∀ o v, ¬ C b o v) → (∀ g o, G.obj g = some o → g ≠ b) →
    w.heap[b]? = some (.cells vs ty (0, 0)) → cs.length = vs.size → (∀ v ∈ vs, v.oneCell' = true) → (∀ (i : Nat) (q : PV) (v : Value), cs[i]? = some q → vs[i]? = some v → RepF q v) →
    args.size = ps.length + 1 → args[0]? = some (.pointer (some ⟨b, 0, none⟩)) → (∀ (i : Nat) (q : PV) (v : Value), ps[i]? = some q → args[i + 1]? = some v → RepF q v) →
    Calls P f args w fun
      | .returned v, w' => Keeps (fun k => k < w.heap.size ∧ k ≠ b) w w' ∧ RepF p v ∧ ∃ vs', w'.heap[b]? = some (.cells vs' ty (0, 0)) ∧ cs'.length = vs'.size ∧ (∀ v ∈ vs', v.oneCell' = true) ∧
          ∀ (i : Nat) (q : PV) (v : Value), cs'[i]? = some q → vs'[i]? = some v → RepF q v
      | _, _ => False
def SpotOK (P : Program) (G : GT) (f : FuncId) (ty : TypeId) (g : List PV → List PV → Tr (PV × List PV)) : Prop := ∀ cs ps p cs', (g cs ps).run = some (p, cs') → SpotAt P G f ty cs ps p cs'
/-- a function's end, told by that one block -/
def fnSpot (P : Program) (E : Env) (n : Nat) (fn : Func) (G : GT) (ty : TypeId) (cs ps : List PV) : Tr (PV × List PV) := match PV.flatL cs && PV.flatL ps with
  | true => (fnEv P E n fn (.ptr 0 0 :: ps) ⟨[(0, .cells ty cs)], 1, G⟩).bind fun r => match look r.2.blks 0 with
    | some (.cells ty' cs') => match Nat.beq ty' ty && r.1.flat && PV.flatL cs' with
      | true => .leaf (r.1, cs')
      | false => .fail
    | _ => .fail
  | false => .fail
theorem spot_of_ev {P : Program} {E : Env} {n : Nat} {G : GT} (hE : E.ok P G) (hmo : P.follows .mixedOrders = true) {f : FuncId} {fn : Func} (hf : P.funcs[f]? = some fn) (hc : ∀ c, fn.body = some c → CutsOK .pin P G E c) (ty : TypeId) : SpotOK P G f ty (fnSpot P E n fn G ty) := by
  intro cs ps p cs' hp w C hK hG hO b vs args hCb hGb hb hlen h1 hcs hsz ha0 hargs
  unfold fnSpot at hp
  split at hp
  · rename_i hflat
    simp only [Bool.and_eq_true] at hflat
    obtain ⟨⟨q, M'⟩, hq, hp2⟩ := Tr.of_bind hp
    clear hp
    split at hp2
    · rename_i ty' cs2 hl2
      split at hp2
      · rename_i hchk
        simp only [Bool.and_eq_true] at hchk
        obtain ⟨⟨hty, hqf⟩, hcf⟩ := hchk
        obtain rfl := Nat.eq_of_beq_eq_true hty
        simp only [Tr.run, Option.some.injEq, Prod.mk.injEq] at hp2
        obtain ⟨rfl, rfl⟩ := hp2
        let β : Base := ⟨w, C, fun k => k < w.heap.size ∧ k ≠ b, G⟩
        let M0 : Mem := ⟨[(0, .cells ty' cs)], 1, G⟩
        let m0 : Nat → Option Value := fun i => match i with
          | 0 => some (.pointer (some ⟨b, 0, none⟩))
          | _ + 1 => none
        have hm1 : ∀ {i : Nat} {u : Value}, m0 i = some u → i = 0 ∧ u = .pointer (some ⟨b, 0, none⟩) := by
          intro i u h
          cases i with
          | zero => cases h; exact ⟨rfl, rfl⟩
          | succ i => cases h
        have hcell : ∀ b' o v, C b' o v → Cell β w M0 m0 b' o v := by
          intro b' o v h
          refine ⟨?_, hK b' o v h, fun _ => h⟩
          rintro ⟨id, u, hs, hu, hbu⟩
          obtain ⟨rfl, rfl⟩ := hm1 hu
          cases hbu
          exact hCb o v h
        have hM : MRel β M0 m0 w := by
          refine ⟨fun id bb hbb => ?_, fun id hid => ?_, fun i j v v' b' hi hj hv hv' _ _ => ?_, fun k hk => hk.1, Keeps.refl _ _, fun g cs hg => (hG g cs hg).mono hcell fun _ _ h => h, rfl, fun g o hg => ⟨⟨(Array.getElem?_eq_some_iff.1 (hO g o hg)).1, hGb g o hg⟩, hO g o hg⟩⟩
          · cases id with
            | zero =>
              cases hbb
              exact .cells ty' cs b vs rfl hb hlen h1 (fun i p v hp hv => (hcs i p v hp hv).mono (fun _ _ _ h => h.elim) fun _ _ h => by cases h) fun hx => hx.2 rfl
            | succ id => cases hbb
          · cases id with
            | zero => exact absurd hid (Nat.not_succ_le_zero 0)
            | succ id => rfl
          · rw [(hm1 hv).1, (hm1 hv').1]
        refine Calls.mono (fnEv_wp hE hmo hf hc (β := β) rfl hM (by simp [hsz]) (fun i p v hp hv => ?_) hq) ?_
        · cases i with
          | zero =>
            simp only [List.getElem?_cons_zero, Option.some.injEq] at hp
            subst hp
            rw [ha0] at hv
            cases hv
            exact .ptr _ 0 0 b rfl
          | succ i =>
            simp only [List.getElem?_cons_succ] at hp
            exact (hargs i p v hp hv).mono (fun _ _ _ h => h.elim) fun _ _ h => by cases h
        · intro e w' he
          cases e with
          | panicked _ => exact he.elim
          | outgrown => exact he.elim
          | returned v =>
            obtain ⟨m', hE', hM', hrep⟩ := he
            have hm' := hE' _ rfl
            refine ⟨hM'.below, hrep.flat hqf, ?_⟩
            have hbr := hM'.blk 0 _ hl2
            cases hbr with
            | cells _ _ b2 vs2 hm2 hb2 hl2 h12 hr2 hB2 =>
              rw [hm'] at hm2
              cases hm2
              exact ⟨vs2, hb2, hl2, h12, fun i p v hp hv => (hr2 i p v hp hv).flat (flatL_get hcf hp)⟩
      · cases hp2
    · cases hp2
  · cases hp
/-- such a function, in one's own memory -/
def spotG (ty : TypeId) (g : List PV → List PV → Tr (PV × List PV)) (ps : List PV) (M : Mem) : Tr (PV × Mem) := match ps with
  | .ptr id 0 :: qs => match look M.blks id with
    | some (.cells ty' cs) => match Nat.beq ty' ty && PV.flatL cs && PV.flatL qs with
      | true => (g cs qs).bind fun r => match PV.flat r.1 && PV.flatL r.2 with
        | true => .leaf (r.1, ⟨setL M.blks id (.cells ty r.2), M.nid, M.glob⟩)
        | false => .fail
      | false => .fail
    | _ => .fail
  | _ => .fail
theorem spot_fn {P : Program} {G : GT} {f : FuncId} {ty : TypeId} {g : List PV → List PV → Tr (PV × List PV)} (hg : SpotOK P G f ty g) : FnOK P G f (spotG ty g) := by
  intro β hβ M m w ps args h hlen hreps p M' hp
  unfold spotG at hp
  split at hp
  · rename_i id qs
    split at hp
    · rename_i ty' cs hl
      split at hp
      · rename_i hchk
        simp only [Bool.and_eq_true] at hchk
        obtain ⟨⟨hty, hcf⟩, hqf⟩ := hchk
        obtain rfl := Nat.eq_of_beq_eq_true hty
        obtain ⟨⟨q, cs'⟩, hq, hp⟩ := Tr.of_bind hp
        dsimp only at hp
        split at hp
        · rename_i hchk2
          simp only [Bool.and_eq_true] at hchk2
          simp only [Tr.run, Option.some.injEq, Prod.mk.injEq] at hp
          obtain ⟨rfl, rfl⟩ := hp
          have hbr := h.blk id _ hl
          cases hbr with
          | cells _ _ b vs hm hb hl1 h1 hr hB =>
            have hlive : Live M m b := ⟨id, _, by rw [liv_of hl]; rfl, hm, rfl⟩
            have hsz : 0 < args.size := by rw [← hlen]; simp
            have ha0 : args[0]? = some (.pointer (some ⟨b, 0, none⟩)) := by
              have hx : args[0]? = some args[0] := Array.getElem?_eq_getElem hsz
              have hr0 := hreps 0 _ _ rfl hx
              generalize args[0] = v0 at hr0 hx
              cases hr0 with
              | ptr _ _ _ b2 hm2 =>
                rw [hm] at hm2
                cases hm2
                exact hx
            have hc := hg cs qs q cs' hq w (fun b' o v => w.cell? ⟨b', o, none⟩ = some v ∧ b' ≠ b) (fun _ _ _ h => h.1)
              (fun g cs hgc => (h.glob g cs (by rw [h.gl, hβ]; exact hgc)).mono (fun b' o v hx => ⟨hx.2.1, fun e => hx.1 (e ▸ hlive)⟩) fun _ _ h => h)
              (by rw [← hβ]; exact h.objs') b vs args (fun o v h => h.2 rfl) (fun g o hgo e => hB (e ▸ (h.objs g o (by rw [hβ]; exact hgo)).1)) hb hl1 h1
              (fun i p v hp hv => (hr i p v hp hv).flat (flatL_get hcf hp)) (by rw [← hlen]; rfl) ha0
              (fun i p v hp hv => (hreps (i + 1) p v (by simpa using hp) hv).flat (flatL_get hqf hp))
            refine Calls.mono hc ?_
            intro e w' he
            cases e with
            | panicked _ => exact he.elim
            | outgrown => exact he.elim
            | returned v =>
              obtain ⟨hk, hv, vs', hb', hl', h1', hr'⟩ := he
              have hblt : b < w.heap.size := (Array.getElem?_eq_some_iff.1 hb).1
              have hblt' : b < w'.heap.size := (Array.getElem?_eq_some_iff.1 hb').1
              let w1 : World := { w' with heap := w'.heap.setIfInBounds b (.cells vs ty' (0, 0)) }
              have hget : ∀ k, k ≠ b → w1.heap[k]? = w'.heap[k]? := fun k hkb => Array.getElem?_setIfInBounds_ne (fun e => hkb e.symm)
              have hgb : w1.heap[b]? = some (.cells vs ty' (0, 0)) := by
                show (w'.heap.setIfInBounds b _)[b]? = _
                rw [Array.getElem?_setIfInBounds_self_of_lt hblt']
              have hk1 : Keeps (· < w.heap.size) w w1 := by
                refine ⟨hk.os, hk.tape, hk.output, ?_, fun k hkk => ?_⟩
                · show w.heap.size ≤ (w'.heap.setIfInBounds b _).size
                  rw [Array.size_setIfInBounds]
                  exact hk.size
                · by_cases e : k = b
                  · subst e
                    rw [hgb, hb]
                  · rw [hget k e]
                    exact hk.block k ⟨hkk, e⟩
              obtain ⟨hM1, hE1⟩ := h.keep hk1
              have hsz1 : w1.heap.size = w'.heap.size := Array.size_setIfInBounds ..
              obtain ⟨hM2, hE2⟩ := hM1.write id (.cells ty' cs) (.cells ty' cs') hl rfl rfl _ hm (w' := w')
                ⟨rfl, rfl, rfl, by rw [hsz1]; exact Nat.le_refl _, fun k hkk => (hget k fun e => hB (e ▸ hkk)).symm⟩
                (fun k hkb => (hget k fun e => hkb (by rw [e]; rfl)).symm)
                (fun _ => .cells ty' cs' b vs' hm hb' hl' h1' (fun i p v hp hv => (hr' i p v hp hv).mono (fun _ _ _ h => h.elim) fun _ _ h => by cases h) hB)
              exact ⟨m, hE1.trans hE2, hM2, hv.mono (fun _ _ _ h => h.elim) fun _ _ h => by cases h⟩
        · cases hp
      · cases hp
    · cases hp
  · cases hp
/-- a weaker telling of it -/
theorem SpotOK.of {P : Program} {G : GT} {f : FuncId} {ty : TypeId} {g h : List PV → List PV → Tr (PV × List PV)} (hg : SpotOK P G f ty g) (hle : ∀ cs ps p cs', (h cs ps).run = some (p, cs') → (g cs ps).run = some (p, cs')) : SpotOK P G f ty h :=
  fun cs ps p cs' hp => hg cs ps p cs' (hle cs ps p cs' hp)
theorem FullOK.cons {P : Program} {G : GT} {l : List (Nat × (List PV → Mem → Tr (PV × Mem)))} {f : Nat} {g : List PV → Mem → Tr (PV × Mem)} {fn : Func} (h : FnOK P G f g) (hf : P.funcs[f]? = some fn) (hc : canEnter fn = true) (hl : FullOK P G l) : FullOK P G ((f, g) :: l) := fun f' g' hm => by
  rcases List.mem_cons.1 hm with e | hm
  · cases e
    exact ⟨h, enters_of hf hc⟩
  · exact hl f' g' hm
end Go.Proofs.YtbpmfaghjlmjmaaDoor.Ev
