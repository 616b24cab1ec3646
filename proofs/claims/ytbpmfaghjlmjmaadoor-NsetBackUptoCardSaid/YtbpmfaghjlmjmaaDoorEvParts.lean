/- The parts of a value: its cells; a struct and a row built out of parts. No condition. -/
import Derived.Test.YtbpmfaghjlmjmaaDoorEvMem
namespace Go.Proofs.YtbpmfaghjlmjmaaDoor.Ev
open Go Go.RowKit
set_option linter.unusedVariables false
set_option linter.unusedSimpArgs false

def aggT (P : Program) (t : TypeId) : Option Bool := match P.underlying t with
  | some (.struct _) | some (.array _ _) => some true
  | some _ => some false
  | none => none
def sizeT (P : Program) (t : TypeId) : Option Nat := (P.info? t).map (·.size)
theorem run_aggT {P : Program} {t : TypeId} {b : Bool} (h : aggT P t = some b) (w : World) : (isAgg t).run P w = .ok b w := by
  unfold aggT at h
  cases hd : P.underlying t with
  | none => rw [hd] at h; cases h
  | some d =>
    rw [hd] at h
    unfold isAgg
    rw [Sem.run_bind, run_underlying hd w]
    cases d <;> simp_all
theorem run_sizeT {P : Program} {t : TypeId} {n : Nat} (h : sizeT P t = some n) (w : World) : (sizeOf t).run P w = .ok n w := by
  unfold sizeT at h
  cases hi : P.info? t with
  | none => simp [hi] at h
  | some i =>
    simp only [hi, Option.map_some, Option.some.injEq] at h
    subst h
    simp [sizeOf, typeInfo, hi]
/-- the cells of a value -/
def pcells : PV → Option (List PV)
  | .agg ps => some ps
  | .lit (.agg vs) => some (vs.toList.map PV.lit)
  | .tup _ => none
  | .junk => none
  | p => some [p]
/-- a value of one cell -/
def one : PV → Bool
  | .lit v => v.oneCell'
  | .agg _ => false
  | .tup _ => false
  | .junk => false
  | _ => true
theorem one_ok {C : Nat → Nat → Value → Prop} {m : Nat → Option Value} {p : PV} {v : Value} (h : Rep C m p v) (ho : one p = true) : v.oneCell' = true := by
  cases h with
  | lit m v => exact ho
  | agg => cases ho
  | tup => cases ho
  | junk => cases ho
  | own m id v hm h1 => exact h1
  | _ => rfl
theorem cells_one {v : Value} (h : v.oneCell' = true) : v.cells = #[v] := by
  cases v <;> first | rfl | cases h
theorem pcells_ok {C : Nat → Nat → Value → Prop} {m : Nat → Option Value} {p : PV} {v : Value} {cs : List PV} (h : Rep C m p v) (hc : pcells p = some cs) (h1 : cs.all one = true) :
    cs.length = v.cells.size ∧ (∀ (i : Nat) (q : PV) (u : Value), cs[i]? = some q → v.cells[i]? = some u → Rep C m q u) ∧ ∀ u ∈ v.cells, u.oneCell' = true := by
  have key : ∀ (ps : List PV) (vs : Array Value), ps.length = vs.size → (∀ (i : Nat) (q : PV) (u : Value), ps[i]? = some q → vs[i]? = some u → Rep C m q u) → ps.all one = true → ∀ u ∈ vs, u.oneCell' = true := by
    intro ps vs hl hr h1 u hu
    obtain ⟨i, hi, rfl⟩ := Array.mem_iff_getElem.1 hu
    have hp : ps[i]? = some ps[i] := List.getElem?_eq_getElem (by omega)
    exact one_ok (hr i _ _ hp (Array.getElem?_eq_getElem hi)) (List.all_eq_true.1 h1 _ (List.mem_of_getElem? hp))
  have single : pcells p = some [p] → cs.length = v.cells.size ∧ (∀ (i : Nat) (q : PV) (u : Value), cs[i]? = some q → v.cells[i]? = some u → Rep C m q u) ∧ ∀ u ∈ v.cells, u.oneCell' = true := by
    intro he
    rw [he] at hc
    cases hc
    have hv := one_ok h (by simpa using h1)
    rw [cells_one hv]
    refine ⟨rfl, fun i q u hq hu => ?_, fun u hu => ?_⟩
    · match i with
      | 0 =>
        simp at hq hu
        subst hq
        subst hu
        exact h
      | i + 1 => simp at hq
    · simp at hu
      subst hu
      exact hv
  cases h with
  | agg m ps vs hl hr =>
    cases hc
    exact ⟨hl, hr, key _ _ hl hr h1⟩
  | lit m v =>
    cases v with
    | agg vs =>
      cases hc
      have hr : ∀ (i : Nat) (q : PV) (u : Value), (vs.toList.map PV.lit)[i]? = some q → vs[i]? = some u → Rep C m q u := by
        intro i q u hq hu
        simp only [List.getElem?_map, Array.getElem?_toList] at hq
        rw [hu] at hq
        cases hq
        exact .lit _ _
      exact ⟨by simp only [List.length_map, Array.length_toList]; rfl, hr, key (vs.toList.map PV.lit) vs (by simp) hr h1⟩
    | _ => exact single rfl
  | tup => cases hc
  | junk => cases hc
  | _ => exact single rfl

def zeroT (P : Program) (t : TypeId) : Option Value := (P.info? t).bind (·.zero)
theorem run_zeroT {P : Program} {t : TypeId} {z : Value} (h : zeroT P t = some z) (w : World) : (zeroValue t).run P w = .ok z w := by
  unfold zeroT at h
  cases hi : P.info? t with
  | none => simp [hi] at h
  | some i =>
    have hz : i.zero = some z := by simpa [hi] using h
    simp [zeroValue, typeInfo, hi, hz]
theorem foldSet : ∀ (l : List Value) (s off : Nat) (cs : Array Value), off + s + l.length ≤ cs.size →
    ((l.zipIdx s).foldl (fun cs x => cs.setIfInBounds (off + x.2) x.1) cs).size = cs.size ∧
    ∀ k : Nat, ((l.zipIdx s).foldl (fun cs x => cs.setIfInBounds (off + x.2) x.1) cs)[k]? = if off + s ≤ k ∧ k < off + s + l.length then l[k - (off + s)]? else cs[k]?
  | [], s, off, cs, h => by
    refine ⟨rfl, fun k => ?_⟩
    have : ¬ (off + s ≤ k ∧ k < off + s + ([] : List Value).length) := by
      simp only [List.length_nil]
      omega
    rw [if_neg this]
    rfl
  | v :: l, s, off, cs, h => by
    simp only [List.length_cons] at h
    obtain ⟨h1, h2⟩ := foldSet l (s + 1) off (cs.setIfInBounds (off + s) v) (by simp; omega)
    simp only [List.zipIdx_cons, List.foldl_cons]
    refine ⟨by rw [h1]; simp, fun k => ?_⟩
    rw [h2 k]
    simp only [List.length_cons]
    by_cases c1 : off + s = k
    · subst c1
      rw [if_neg (by omega), if_pos (by omega)]
      have : off + s < cs.size := by omega
      simp [this]
    · rw [Array.getElem?_setIfInBounds_ne c1]
      by_cases c2 : off + (s + 1) ≤ k ∧ k < off + (s + 1) + l.length
      · rw [if_pos c2, if_pos (by omega)]
        have : k - (off + s) = (k - (off + (s + 1))) + 1 := by omega
        rw [this, List.getElem?_cons_succ]
      · rw [if_neg c2, if_neg (by omega)]
/-- parts put into cells -/
def fillP (pl : Nat → Option (Nat × Nat)) : List (Nat × PV) → List PV → Option (List PV)
  | [], cs => some cs
  | (i, p) :: r, cs => match pl i, pcells p with
    | some (off, size), some ps => match ps.all one && Nat.beq ps.length size && Nat.ble (off + ps.length) cs.length with
      | true => fillP pl r (cs.take off ++ ps ++ cs.drop (off + ps.length))
      | false => none
    | _, _ => none
theorem fillP_ok {C : Nat → Nat → Value → Prop} {m : Nat → Option Value} (pl : Nat → Option (Nat × Nat)) : ∀ (pp : List (Nat × PV)) (vv : List (Nat × Value)) (cs cs' : List PV) (vs : Array Value), pp.length = vv.length →
    (∀ (k : Nat) (x : Nat × PV) (y : Nat × Value), pp[k]? = some x → vv[k]? = some y → x.1 = y.1 ∧ Rep C m x.2 y.2) → cs.length = vs.size → (∀ (i : Nat) (q : PV) (u : Value), cs[i]? = some q → vs[i]? = some u → Rep C m q u) → (∀ u ∈ vs, u.oneCell' = true) →
    fillP pl pp cs = some cs' → ∃ vs', Instr.fill pl vs vv = some vs' ∧ cs'.length = vs'.size ∧ (∀ (i : Nat) (q : PV) (u : Value), cs'[i]? = some q → vs'[i]? = some u → Rep C m q u) ∧ (∀ u ∈ vs', u.oneCell' = true)
  | [], [], cs, cs', vs, _, _, hl, hr, h1, hf => by
    cases hf
    exact ⟨vs, rfl, hl, hr, h1⟩
  | [], _ :: _, _, _, _, h, _, _, _, _, _ => by cases h
  | _ :: _, [], _, _, _, h, _, _, _, _, _ => by cases h
  | (i, p) :: r, (i', v) :: vr, cs, cs', vs, hlen, hpp, hl, hr, h1, hf => by
    obtain ⟨hi, hrep⟩ := hpp 0 _ _ rfl rfl
    dsimp only at hi hrep
    subst hi
    unfold fillP at hf
    split at hf
    · rename_i off size ps hpl hps
      split at hf
      · rename_i hb
        simp only [Bool.and_eq_true] at hb
        have hsz := Nat.eq_of_beq_eq_true hb.1.2
        have hle := Nat.le_of_ble_eq_true hb.2
        obtain ⟨c1, c2, c3⟩ := pcells_ok hrep hps hb.1.1
        obtain ⟨f1, f2⟩ := foldSet v.cells.toList 0 off vs (by simp; omega)
        unfold Instr.fill
        rw [hpl]
        dsimp only
        rw [if_neg (by simp; omega)]
        have e : v.cells.zipIdx.foldl (fun cs (x : Value × Nat) => cs.setIfInBounds (off + x.2) x.1) vs = (v.cells.toList.zipIdx 0).foldl (fun cs x => cs.setIfInBounds (off + x.2) x.1) vs := by
          rw [← Array.foldl_toList, Array.toList_zipIdx]
        refine fillP_ok pl r vr _ cs' _ (by simpa using hlen) (fun k x y hx hy => hpp (k + 1) x y hx hy) ?_ ?_ ?_ hf
        · rw [e, f1]
          simp
          omega
        · intro j q u hq hu
          rw [e, f2] at hu
          simp only [List.getElem?_append, List.length_append, List.length_take, List.getElem?_take, List.getElem?_drop, Nat.add_zero, Array.length_toList, Array.getElem?_toList] at hq hu
          rw [Nat.min_eq_left (by omega)] at hq
          by_cases k1 : j < off
          · have k2 : j < off + ps.length := by omega
            rw [if_neg (by omega)] at hu
            simp only [k1, k2, if_true] at hq
            exact hr j q u hq hu
          · by_cases k2 : j < off + ps.length
            · rw [if_pos (by omega)] at hu
              simp only [k1, k2, if_true, if_false] at hq
              exact c2 _ q u hq hu
            · rw [if_neg (by omega)] at hu
              simp only [k1, k2, if_false] at hq
              have : off + ps.length + (j - (off + ps.length)) = j := by omega
              rw [this] at hq
              exact hr j q u hq hu
        · intro u hu
          obtain ⟨j, hg⟩ := Array.mem_iff_getElem?.1 hu
          rw [e] at hg
          rw [f2] at hg
          split at hg
          · exact c3 _ (by simpa using List.mem_of_getElem? hg)
          · exact h1 _ (Array.mem_of_getElem? hg)
      · cases hf
    · cases hf
theorem fillP_len {pl : Nat → Option (Nat × Nat)} : ∀ {pp : List (Nat × PV)} {cs cs' : List PV}, fillP pl pp cs = some cs' → cs'.length = cs.length
  | [], cs, cs', h => by
    cases h
    rfl
  | (i, p) :: r, cs, cs', h => by
    unfold fillP at h
    split at h
    · rename_i off size ps hpl hps
      split at h
      · rename_i hb
        simp only [Bool.and_eq_true] at hb
        have hle := Nat.le_of_ble_eq_true hb.2
        rw [fillP_len h]
        simp only [List.length_append, List.length_take, List.length_drop]
        omega
      · cases h
    · cases h

/-- where a struct's fields lie, and how many cells each has -/
def placesS (P : Program) : List Field → Option (List (Nat × Nat))
  | [] => some []
  | f :: r => match sizeT P f.type, placesS P r with
    | some n, some l => some ((f.offset, n) :: l)
    | _, _ => none
theorem placesS_run {P : Program} (w : World) : ∀ {fs : List Field} {l : List (Nat × Nat)}, placesS P fs = some l → (fs.mapM fun f => do pure (f.offset, ← sizeOf f.type) : Sem (List (Nat × Nat))).run P w = .ok l w
  | [], l, h => by
    cases h
    simp [Sem.run_pure]
  | f :: r, l, h => by
    unfold placesS at h
    split at h
    · rename_i n l' hn hl
      cases h
      rw [List.mapM_cons]
      simp only [Sem.run_bind, run_sizeT hn, Result.andThen_ok, Sem.run_pure, placesS_run w hl]
    · cases h
/-- a struct's or an array's value out of its parts -/
def buildP (P : Program) (t : TypeId) (parts : List (Nat × PV)) : Option (List PV) := match zeroT P t with
  | some z => match pcells (.lit z) with
    | some cs => match cs.all one with
      | true => match P.underlying t with
        | some (.struct fs) => match placesS P fs.toList with
          | some l => fillP (fun i => l.toArray[i]?) parts cs
          | none => none
        | some (.array _ e) => match sizeT P e with
          | some n => fillP (fun i => some (i * n, n)) parts cs
          | none => none
        | _ => none
      | false => none
    | none => none
  | none => none
theorem pcells_lit {v : Value} {cs : List PV} (h : pcells (.lit v) = some cs) (h1 : cs.all one = true) {C : Nat → Nat → Value → Prop} {m : Nat → Option Value} :
    cs.length = v.cells.size ∧ (∀ (i : Nat) (q : PV) (u : Value), cs[i]? = some q → v.cells[i]? = some u → Rep C m q u) ∧ ∀ u ∈ v.cells, u.oneCell' = true :=
  pcells_ok (.lit m v) h h1
theorem buildP_ok {P : Program} {C : Nat → Nat → Value → Prop} {m : Nat → Option Value} {t : TypeId} {pp : List (Nat × PV)} {vv : Array (Nat × Value)} {cs : List PV} (h : buildP P t pp = some cs) (hlen : pp.length = vv.size)
    (hpp : ∀ (k : Nat) (x : Nat × PV) (y : Nat × Value), pp[k]? = some x → vv[k]? = some y → x.1 = y.1 ∧ Rep C m x.2 y.2) (w : World) : ∃ vs, (Instr.build t vv).run P w = .ok (.agg vs) w ∧ Rep C m (.agg cs) (.agg vs) := by
  unfold buildP at h
  split at h
  · rename_i z hz
    split at h
    · rename_i c0 hc0
      split at h
      · rename_i h1
        obtain ⟨g1, g2, g3⟩ := pcells_lit (C := C) (m := m) hc0 h1
        have hzr := run_zeroT hz w
        split at h
        · rename_i fs hu
          split at h
          · rename_i l hl
            obtain ⟨vs, f1, f2, f3, f4⟩ := fillP_ok (C := C) (m := m) _ pp vv.toList c0 cs z.cells (by simpa using hlen) (fun k x y hx hy => hpp k x y hx (by simpa using hy)) g1 g2 g3 h
            refine ⟨vs, ?_, .agg _ _ vs f2 f3⟩
            unfold Instr.build
            simp only [Sem.run_bind, hzr, Result.andThen_ok, run_underlying hu]
            rw [Array.mapM_eq_mapM_toList]
            simp only [Sem.run_map, placesS_run w hl, Result.andThen_ok, f1, Sem.run_pure]
          · cases h
        · rename_i k e hu
          split at h
          · rename_i n hn
            obtain ⟨vs, f1, f2, f3, f4⟩ := fillP_ok (C := C) (m := m) _ pp vv.toList c0 cs z.cells (by simpa using hlen) (fun k x y hx hy => hpp k x y hx (by simpa using hy)) g1 g2 g3 h
            refine ⟨vs, ?_, .agg _ _ vs f2 f3⟩
            unfold Instr.build
            simp only [Sem.run_bind, hzr, Result.andThen_ok, run_underlying hu, run_sizeT hn, f1, Sem.run_pure]
          · cases h
        · cases h
      · cases h
    · cases h
  · cases h
end Go.Proofs.YtbpmfaghjlmjmaaDoor.Ev
