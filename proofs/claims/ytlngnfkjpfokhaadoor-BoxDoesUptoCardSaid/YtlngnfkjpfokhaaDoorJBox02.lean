/- JBox02: several texts in one. Condition: each part's own. -/
import Derived.Test.YtlngnfkjpfokhaaDoorJBox01
import Derived.Laws.OwnMore
import Derived.Great.BuildSlice
/- The evaluator's operations that write: new variables, new rows, stores. No condition. -/
namespace Go.Proofs.YtlngnfkjpfokhaaDoor.Ev
open Go Go.RowKit
set_option linter.unusedVariables false
set_option linter.unusedSimpArgs false

/-- a new variable that holds these cells -/
def newVarM (st : St) (t : TypeId) (d : Option Nat) (cs : List PV) : Tr St := match cs.all one with
  | true => { st with mem := st.mem.new (.cells t cs) }.put d (.ptr st.mem.nid 0)
  | false => .fail
/-- which operations write -/
def isMem (o : Oper) : Bool := match o.op with
  | .alloc _ => true
  | .box _ _ => true
  | .store _ _ _ => true
  | .buildSlice _ _ _ => true
  | .makeSlice _ _ _ => true
  | _ => false
/-- the parts of a row: an element's cells -/
def rowOf (cs : List PV) (sz i : Nat) : List PV := (cs.drop (i * sz)).take sz
/-- an element of a row is written -/
def rowSetO (f : Nat → List PV) (i j : Nat) (ps : List PV) (k : Nat) : List PV := match Nat.beq k i with
  | true => (f i).take j ++ ps ++ (f i).drop (j + ps.length)
  | false => f k
/-- one text for another: told so that it can be read again before one knows which element is asked for -/
def rowSet (f : Nat → List PV) (i j : Nat) (ps : List PV) (k : Nat) : List PV := match ps with
  | [.lit (.string w)] => match j with
    | 0 => match f k with
      | [.lit (.string v)] => [.lit (.string (bif Nat.beq k i then w else v))]
      | _ => rowSetO f i 0 [.lit (.string w)] k
    | j + 1 => rowSetO f i (j + 1) [.lit (.string w)] k
  | ps => rowSetO f i j ps k
theorem rowSet_eq (f : Nat → List PV) (i j : Nat) (ps : List PV) (k : Nat) : rowSet f i j ps k = rowSetO f i j ps k := by
  unfold rowSet
  split
  · rename_i w
    split
    · split
      · rename_i v hv
        unfold rowSetO
        cases h : Nat.beq k i with
        | true =>
          have := Nat.eq_of_beq_eq_true h
          subst this
          rw [hv]
          rfl
        | false => exact hv.symm
      · rfl
    · rfl
  · rfl
def buildRow (P : Program) (st : St) (t : TypeId) (n : Nat) (parts : List (Nat × PV)) (d : Option Nat) : Tr St := match P.underlying t with
  | some (.slice e) => match P.info? e with
    | some ie => match ie.zero with
      | some z => match pcells (.lit z) with
        | some zc => match zc.all one && Nat.beq zc.length ie.size && Nat.blt 0 ie.size && Nat.ble (n * ie.size) 16777216 with
          | true => match fillP (fun i => some (i * ie.size, ie.size)) parts (List.replicate (n * ie.size) .junk) with
            | some cs => match PV.closL cs with
              | true => { st with mem := st.mem.new (.row e ie.size n (rowOf cs ie.size)) }.put d (.own st.mem.nid)
              | false => .fail
            | none => .fail
          | false => .fail
        | none => .fail
      | none => .fail
    | none => .fail
  | _ => .fail
def makeRow (P : Program) (st : St) (t : TypeId) (x y : PV) (d : Option Nat) : Tr St := match P.underlying t with
  | some (.slice e) => match P.info? e with
    | some ie => match ie.zero with
      | some z => match pcells (.lit z) with
        | some zc => match zc.all one && Nat.beq zc.length ie.size && Nat.blt 0 ie.bytes && PV.closL zc, x, y with
          | true, .lit (.int _ l), .lit (.int _ c) => .br (decide (0 ≤ l) && decide (l = c) && Nat.ble (ie.bytes * l.toNat) 140737488355328) ({ st with mem := st.mem.new (.row e ie.size l.toNat fun _ => zc) }.put d (.own st.mem.nid)) .fail
          | _, _, _ => .fail
        | none => .fail
      | none => .fail
    | none => .fail
  | _ => .fail
/-- operations that write -/
def opMem (P : Program) (st : St) (o : Oper) : Tr St := match o.op with
  | .alloc t => match zeroT P t with
    | some z => match pcells (.lit z) with
      | some cs => newVarM st t o.dst cs
      | none => .fail
    | none => .fail
  | .box t x => match pcells (st.val x) with
    | some cs => newVarM st t o.dst cs
    | none => .fail
  | .store t x y => match st.val x with
    | .ptr id off => match look st.mem.blks id with
      | some (.cells ty cs) => match pcells (st.val y) with
        | some ps => match ps.all one && (sizeT P t == some ps.length) && Nat.ble (off + ps.length) cs.length with
          | true => { st with mem := ⟨setL st.mem.blks id (.cells ty (cs.take off ++ ps ++ cs.drop (off + ps.length))), st.mem.nid, st.mem.glob⟩ }.put o.dst (.lit undef)
          | false => .fail
        | none => .fail
      | _ => .fail
    | .optr id sz i j => match look st.mem.blks id with
      | some (.row e sz' n f) => match pcells (st.val y) with
        | some ps => match ps.all one && PV.closL ps && (sizeT P t == some ps.length) && Nat.beq sz' sz && Nat.ble (j + ps.length) sz with
          | true => .br (Nat.blt i n) ({ st with mem := ⟨setL st.mem.blks id (.row e sz' n (rowSet f i j ps)), st.mem.nid, st.mem.glob⟩ }.put o.dst (.lit undef)) .fail
          | false => .fail
        | none => .fail
      | _ => .fail
    | _ => .fail
  | .buildSlice t n parts => buildRow P st t n (parts.toList.map fun x => (x.1, st.val x.2)) o.dst
  | .makeSlice t l c => makeRow P st t (st.val l) (st.val c) o.dst
  | _ => .fail
section
variable {P : Program} {β : Base} {st st' : St} {m : Nat → Option Value} {a : Act} {w : World}
theorem put_mem {st st' : St} {d : Option Nat} {p : PV} (h : (st.put d p).run = some st') : st'.mem = st.mem := by
  cases d with
  | none =>
    simp only [St.put, Tr.run, Option.some.injEq] at h
    rw [h]
  | some d =>
    simp only [St.put] at h
    split at h
    · simp only [Tr.run, Option.some.injEq] at h
      rw [← h]
    · cases h
theorem newVarM_ok (h : Rel β st m a w) {t : TypeId} {d : Option Nat} {cs : List PV} {p : PV} {v : Value} (hr : Rep (Cell β w st.mem m) m p v) (hc : pcells p = some cs) (hp : (newVarM st t d cs).run = some st') :
    ∃ m', Ext β st.mem m w st'.mem m' (w.alloc (.cells v.cells t)) ∧ Rel β st' m' (a.put d (.pointer (some ⟨w.heap.size, 0, none⟩))) (w.alloc (.cells v.cells t)) := by
  unfold newVarM at hp
  split at hp
  · rename_i h1
    obtain ⟨hl, hrs, h1s⟩ := pcells_ok hr hc h1
    obtain ⟨hM, hE⟩ := h.mem.alloc t cs v.cells hl h1s hrs
    have h2 := (h.turn hE hM).put (d := d) (p := .ptr st.mem.nid 0) (v := .pointer (some ⟨w.heap.size, 0, none⟩)) (.ptr _ _ _ _ (upd_same ..)) hp
    refine ⟨_, ?_, h2⟩
    have hm : st'.mem = st.mem.new (.cells t cs) := by
      cases d with
      | none =>
        simp only [St.put, Tr.run, Option.some.injEq] at hp
        rw [← hp]
      | some d =>
        simp only [St.put] at hp
        split at hp
        · simp only [Tr.run, Option.some.injEq] at hp
          rw [← hp]
        · cases hp
    rw [hm]
    exact hE
  · cases hp
theorem storeRow {w : World} {b e sz n cap B : Nat} {xs : List Value} (ho : w.ownsRow B e sz (.slice (some ⟨b, 0, none⟩) n cap) n xs) (o : Nat) (us : Array Value) (h1 : ∀ u ∈ us, u.oneCell' = true) (hle : o + us.size ≤ n * sz) (P : Program) :
    ∃ vs, (storeCells ⟨b, o, none⟩ us.toList).run P w = .ok () (w.setRow b vs) ∧ (w.setRow b vs).ownsRow B e sz (.slice (some ⟨b, 0, none⟩) n cap) n (xs.take o ++ us.toList ++ xs.drop (o + us.size)) ∧ True := by
  have hxl := ho.1
  rcases ho.2 with ⟨h', _⟩ | ⟨g, cap', cur, h', hbg, hg, hnc, hcm, hcs, htake⟩
  · cases h'
  · cases h'
    have hcur : n * sz ≤ cur.size := by
      rw [hcs]
      exact Nat.mul_le_mul_right _ hnc
    refine ⟨(cur.toList.take o ++ us.toList ++ cur.toList.drop (o + us.size)).toArray, ?_, ⟨?_, .inr ⟨b, cap, (cur.toList.take o ++ us.toList ++ cur.toList.drop (o + us.size)).toArray, rfl, hbg, setRow_heap w b cur _ e (0, 0) hg, hnc, hcm, ?_, ?_⟩⟩, trivial⟩
    · have := run_storeCells_at P b o e us.toList 0 cur w hg (by simp; omega) (fun u hu => h1 u (by simpa using hu))
      simpa using this
    · simp only [List.length_append, List.length_take, List.length_drop, Array.length_toList]
      omega
    · simp only [List.size_toArray, List.length_append, List.length_take, List.length_drop, Array.length_toList]
      omega
    · refine List.ext_getElem? fun k => ?_
      have hk : ∀ j, j < n * sz → xs[j]? = cur[j]? := by
        intro j hj
        rw [← htake, List.getElem?_take, if_pos hj]
        simp
      simp only [List.getElem?_take, List.getElem?_append, List.length_append, List.length_take, List.getElem?_drop, Array.length_toList, Array.getElem?_toList]
      rw [Nat.min_eq_left (by omega), Nat.min_eq_left (by omega)]
      by_cases c0 : k < n * sz
      · rw [if_pos c0]
        by_cases c1 : k < o
        · have c2 : k < o + us.size := by omega
          simp only [c1, c2, if_true]
          exact (hk k c0).symm
        · by_cases c2 : k < o + us.size
          · simp only [c1, c2, if_true, if_false]
          · simp only [c1, c2, if_false]
            rw [hk _ (by omega)]
      · rw [if_neg c0]
        have c2 : ¬ k < o + us.size := by omega
        simp only [c2, if_false]
        rw [List.getElem?_eq_none (by omega)]
theorem buildCells {P : Program} {C : Nat → Nat → Value → Prop} {m : Nat → Option Value} {e : TypeId} {ie : TypeInfo} {z : Value} {zc : List PV} {n : Nat} {pp : List (Nat × PV)} {cs : List PV} {hie : P.info? e = some ie} (hz : ie.zero = some z) (hzc : pcells (.lit z) = some zc)
    (hc : (zc.all one && Nat.beq zc.length ie.size && Nat.blt 0 ie.size && Nat.ble (n * ie.size) 16777216) = true) (vv : Array (Nat × Value)) (hcs : fillP (fun i => some (i * ie.size, ie.size)) pp (List.replicate (n * ie.size) .junk) = some cs) (hlen : pp.length = vv.toList.length)
    (hpp : ∀ (k : Nat) (x : Nat × PV) (y : Nat × Value), pp[k]? = some x → vv.toList[k]? = some y → x.1 = y.1 ∧ Rep C m x.2 y.2) :
    ∃ vs, (∀ (t : TypeId) (n' : Nat), P.underlying t = some (.slice e) → n * ie.size ≤ 16777216 → ∀ w : World, (Instr.buildSlice t n vv).run P w = .ok (.slice (some ⟨w.heap.size, 0, none⟩) n n) (w.alloc (.cells vs e))) ∧ cs.length = vs.size ∧
      (∀ (i : Nat) (q : PV) (u : Value), cs[i]? = some q → vs[i]? = some u → Rep C m q u) ∧ (∀ u ∈ vs, u.oneCell' = true) := by
  simp only [Bool.and_eq_true, Nat.blt_eq] at hc
  obtain ⟨⟨⟨hz1, hzl⟩, hpos⟩, hle⟩ := hc
  have hzl := Nat.eq_of_beq_eq_true hzl
  obtain ⟨g1, g2, g3⟩ := pcells_lit (C := C) (m := m) hzc hz1
  let zero : Array Value := (Array.range (n * ie.size)).map (z.cells[· % z.cells.size]!)
  have hzs : z.cells.size = ie.size := by omega
  have hzone : ∀ u ∈ zero, u.oneCell' = true := by
    intro u hu
    simp only [zero, Array.mem_map, Array.mem_range] at hu
    obtain ⟨k, hk, rfl⟩ := hu
    have hlt : k % z.cells.size < z.cells.size := Nat.mod_lt _ (by omega)
    rw [getElem!_pos z.cells (k % z.cells.size) hlt]
    exact g3 _ (Array.getElem_mem hlt)
  obtain ⟨vs, f1, f2, f3, f4⟩ := fillP_ok (C := C) (m := m) (fun i => some (i * ie.size, ie.size)) _ vv.toList _ cs zero hlen hpp (by simp [zero]) (fun i q u hq hu => by
    rw [List.getElem?_replicate] at hq
    split at hq
    · cases hq
      exact .junk _ _
    · cases hq) hzone hcs
  refine ⟨vs, fun t n' hu _ w => ?_, f2, f3, f4⟩
  have hle := Nat.le_of_ble_eq_true hle
  have hsz : ¬ n * ie.size > 2 ^ 24 := by omega
  by_cases h0 : n * ie.size = 0
  · have hz0 : zero = #[] := by simp [zero, h0]
    rw [hz0] at f1
    have hr0 : (Array.range 0 : Array Nat) = #[] := rfl
    simp [Instr.buildSlice, run_underlying hu, sizeOf, typeInfo, zeroValue, hie, hz, h0, newRow, hr0] at f1 ⊢
    rw [f1]
    simp [newObj, Sem.run]
  · exact run_buildSlice w t e n _ vs ie z hu hie hz hsz h0 f1
theorem keeps_grown {β : Base} {M : Mem} {m : Nat → Option Value} {w w' : World} (h : MRel β M m w) (hg : w.grownBy w' none) : Keeps β.K w w' :=
  ⟨hg.os, hg.tape, hg.output, hg.size, fun k hk => hg.block k (h.kLt hk) (by simp)⟩
theorem buildRow_ok (h : Rel β st m a w) {o : Oper} {t : TypeId} {n : Nat} {parts : Array (Nat × Operand)} (ho : o.op = .buildSlice t n parts) (hp : (buildRow P st t n (parts.toList.map fun x => (x.1, st.val x.2)) o.dst).run = some st') {K : Act → World → Prop} {Q : Exit → Act → World → Prop}
    (hK : ∀ m' v w', Ext β st.mem m w st'.mem m' w' → Rel β st' m' (a.put o.dst v) w' → K (a.put o.dst v) w') : o.wp P a w K Q := by
  unfold buildRow at hp
  split at hp
  · rename_i e hu
    split at hp
    · rename_i ie hie
      split at hp
      · rename_i z hz
        split at hp
        · rename_i zc hzc
          split at hp
          · rename_i hc
            simp only [Bool.and_eq_true, Nat.blt_eq] at hc
            obtain ⟨⟨⟨hz1, hzl⟩, hpos⟩, hle⟩ := hc
            have hzl := Nat.eq_of_beq_eq_true hzl
            have hle := Nat.le_of_ble_eq_true hle
            split at hp
            · rename_i cs hcs
              split at hp
              · rename_i hcl
                obtain ⟨g1, g2, g3⟩ := pcells_lit (C := Cell β w st.mem m) (m := m) hzc hz1
                let zero : Array Value := (Array.range (n * ie.size)).map (z.cells[· % z.cells.size]!)
                have hzs : z.cells.size = ie.size := by omega
                have hzone : ∀ u ∈ zero, u.oneCell' = true := by
                  intro u hu
                  simp only [zero, Array.mem_map, Array.mem_range] at hu
                  obtain ⟨k, hk, rfl⟩ := hu
                  have hlt : k % z.cells.size < z.cells.size := Nat.mod_lt _ (by omega)
                  rw [getElem!_pos z.cells (k % z.cells.size) hlt]
                  exact g3 _ (Array.getElem_mem hlt)
                obtain ⟨vs, f1, f2, f3, f4⟩ := fillP_ok (C := Cell β w st.mem m) (m := m) (fun i => some (i * ie.size, ie.size)) _ (parts.map fun x => (x.1, a.eval x.2)).toList _ cs zero (by simp) (fun k x y hx hy => by
                  simp only [List.getElem?_map, Array.toList_map, Array.getElem?_toList] at hx hy
                  cases hk : parts[k]? with
                  | none => rw [hk] at hx; cases hx
                  | some q =>
                    rw [hk] at hx hy
                    cases hx
                    cases hy
                    exact ⟨rfl, h.val _⟩) (by simp [zero]) (fun i q u hq hu => by
                  rw [List.getElem?_replicate] at hq
                  split at hq
                  · cases hq
                    exact .junk _ _
                  · cases hq) hzone hcs
                have hlen : vs.size = n * ie.size := by
                  rw [← f2, fillP_len hcs]
                  simp
                have hrun : (Instr.buildSlice t n (parts.map fun x => (x.1, a.eval x.2))).run P w = .ok (.slice (some ⟨w.heap.size, 0, none⟩) n n) (w.alloc (.cells vs e)) := by
                  have hsz : ¬ n * ie.size > 2 ^ 24 := by omega
                  by_cases h0 : n * ie.size = 0
                  · have hz0 : zero = #[] := by simp [zero, h0]
                    rw [hz0] at f1
                    have hr0 : (Array.range 0 : Array Nat) = #[] := rfl
                    simp [Instr.buildSlice, run_underlying hu, sizeOf, typeInfo, zeroValue, hie, hz, h0, newRow, hr0] at f1 ⊢
                    rw [f1]
                    simp [newObj, Sem.run]
                  · exact run_buildSlice w t e n _ vs ie z hu hie hz hsz h0 f1
                have hown : (w.alloc (.cells vs e)).ownsRow 0 e ie.size (.slice (some ⟨w.heap.size, 0, none⟩) n n) n vs.toList := by
                  refine ⟨by rw [Array.length_toList, hlen], .inr ⟨w.heap.size, n, vs, rfl, Nat.zero_le _, heap_alloc_new w _, Nat.le_refl _, ?_, hlen, ?_⟩⟩
                  · have : n * 1 ≤ n * ie.size := Nat.mul_le_mul_left _ hpos
                    simp only [maxLen]
                    omega
                  · exact List.take_of_length_le (by rw [Array.length_toList, hlen]; exact Nat.le_refl _)
                have hcl' : cs.length = n * ie.size := by rw [f2, hlen]
                obtain ⟨hM, hE⟩ := h.mem.grow (.row e ie.size n (rowOf cs ie.size)) (.slice (some ⟨w.heap.size, 0, none⟩) n n) (Keeps.of_below ((Below.refl w.heap.size w).alloc (Nat.le_refl _) (.cells vs e)) fun _ => h.mem.kLt) (fun k hk => heap_alloc_old w _ hk)
                  (fun k hk => by simp only [blkOf, Option.some.injEq] at hk; omega) fun he => by
                  refine .row e ie.size n _ _ vs.toList (upd_same ..) hown (fun k hk hkk => by simp only [blkOf, Option.some.injEq] at hk; subst hk; exact h.mem.notK hkk) (fun u hu => f4 u (by simpa using hu)) (fun i hi => ?_) fun i j q hi hq => ?_
                  · unfold rowOf
                    rw [List.length_take, List.length_drop, hcl']
                    have := Nat.mul_le_mul_right ie.size (Nat.succ_le_of_lt hi)
                    rw [Nat.succ_mul] at this
                    omega
                  · unfold rowOf at hq
                    rw [List.getElem?_take] at hq
                    split at hq
                    · rw [List.getElem?_drop] at hq
                      have hlt : i * ie.size + j < vs.size := by
                        rw [← f2]
                        exact (List.getElem?_eq_some_iff.1 hq).1
                      refine ⟨vs[i * ie.size + j], by simp [hlt], ?_⟩
                      have := f3 _ q _ hq (Array.getElem?_eq_getElem hlt)
                      exact (this.clos (m' := fun _ => none) (closL_get hcl hq)).mono he.cell fun _ _ h => h
                    · cases hq
                have h2 := (h.turn hE hM).put (d := o.dst) (p := .own st.mem.nid) (v := .slice (some ⟨w.heap.size, 0, none⟩) n n) (.own _ _ _ (upd_same ..) rfl) hp
                have hx : (execOp a.eval o).run P w = .ok (.value (.slice (some ⟨w.heap.size, 0, none⟩) n n)) (w.alloc (.cells vs e)) := by
                  unfold execOp
                  rw [ho]
                  dsimp only
                  rw [Sem.run_bind]
                  erw [hrun]
                  rfl
                unfold Oper.wp
                rw [hx, Oper.upon_value]
                refine hK _ _ _ ?_ h2
                rw [put_mem hp]
                exact hE
              · cases hp
            · cases hp
          · cases hp
        · cases hp
      · cases hp
    · cases hp
  · cases hp
theorem makeRow_ok (h : Rel β st m a w) {o : Oper} {t : TypeId} {l c : Operand} (ho : o.op = .makeSlice t l c) (hp : (makeRow P st t (st.val l) (st.val c) o.dst).run = some st') {K : Act → World → Prop} {Q : Exit → Act → World → Prop}
    (hK : ∀ m' v w', Ext β st.mem m w st'.mem m' w' → Rel β st' m' (a.put o.dst v) w' → K (a.put o.dst v) w') : o.wp P a w K Q := by
  have hx := h.val l
  have hy := h.val c
  generalize st.val l = q at hx hp
  generalize st.val c = r at hy hp
  unfold makeRow at hp
  split at hp
  · rename_i e hu
    split at hp
    · rename_i ie hie
      split at hp
      · rename_i z hz
        split at hp
        · rename_i zc hzc
          split at hp
          · rename_i kl l kc c hc
            simp only [Bool.and_eq_true, Nat.blt_eq] at hc
            obtain ⟨⟨⟨hz1, hzl⟩, hpos⟩, hcl⟩ := hc
            have hzl := Nat.eq_of_beq_eq_true hzl
            simp only [Tr.run] at hp
            cases hb : (decide (0 ≤ l) && decide (l = c) && Nat.ble (ie.bytes * l.toNat) 140737488355328) with
            | false => rw [hb] at hp; cases hp
            | true =>
              rw [hb] at hp
              simp only [cond_true] at hp
              simp only [Bool.and_eq_true, decide_eq_true_eq] at hb
              obtain ⟨⟨h0, hlc⟩, hle⟩ := hb
              subst hlc
              have hle := Nat.le_of_ble_eq_true hle
              have h1 := litOf_rep hx rfl
              have h2 := litOf_rep hy rfl
              obtain ⟨g1, g2, g3⟩ := pcells_lit (C := Cell β w st.mem m) (m := m) hzc hz1
              have hcast : l = ((l.toNat : Nat) : Int) := by omega
              have hmax : l.toNat ≤ maxLen := by
                have : 1 * l.toNat ≤ ie.bytes * l.toNat := Nat.mul_le_mul_right _ hpos
                simp only [maxLen]
                omega
              obtain ⟨w', hrun, hown, hgr⟩ := run_make_full (P := P) w 0 t e ie z ie.size hu hie hz rfl kl kc l.toNat (by omega) hmax (Nat.zero_le _)
              rw [← hcast] at hrun
              have hzs : z.cells.size = ie.size := by omega
              obtain ⟨hM, hE⟩ := h.mem.grow (.row e ie.size l.toNat fun _ => zc) (.slice (some ⟨w.heap.size, 0, none⟩) l.toNat l.toNat) (keeps_grown h.mem hgr) (fun k hk => hgr.block k hk (by simp)) (fun k hk => by simp only [blkOf, Option.some.injEq] at hk; omega) fun he => by
                have hget : ∀ k, k < l.toNat * ie.size → (madeCells z.cells (l.toNat * ie.size)).toList[k]? = z.cells[k % z.cells.size]? := by
                  intro k hk
                  have hp0 : 0 < z.cells.size := by
                    rcases Nat.eq_zero_or_pos ie.size with h0 | h0
                    · rw [h0, Nat.mul_zero] at hk; omega
                    · omega
                  have hlt : k % z.cells.size < z.cells.size := Nat.mod_lt _ hp0
                  simp [madeCells, hk, getElem!_pos z.cells (k % z.cells.size) hlt]
                refine .row e ie.size l.toNat _ _ _ (upd_same ..) hown (fun k hk hkk => by simp only [blkOf, Option.some.injEq] at hk; subst hk; exact h.mem.notK hkk) (fun u hu => ?_) (fun i hi => by rw [g1, hzs]) fun i j q hi hq => ?_
                · obtain ⟨k, hk, rfl⟩ := List.mem_iff_getElem.1 hu
                  rw [Array.length_toList, size_madeCells] at hk
                  have := hget k hk
                  rw [List.getElem?_eq_getElem (by simpa [size_madeCells] using hk)] at this
                  exact g3 _ (Array.mem_of_getElem? this.symm)
                · have hj : j < ie.size := by
                    rw [← hzs, ← g1]
                    exact (List.getElem?_eq_some_iff.1 hq).1
                  have hlt : i * ie.size + j < l.toNat * ie.size := by
                    have := Nat.mul_le_mul_right ie.size (Nat.succ_le_of_lt hi)
                    rw [Nat.succ_mul] at this
                    omega
                  have hmod : (i * ie.size + j) % z.cells.size = j := by
                    rw [hzs, Nat.mul_comm, Nat.mul_add_mod, Nat.mod_eq_of_lt hj]
                  have hjz : j < z.cells.size := by omega
                  refine ⟨z.cells[j], by rw [hget _ hlt, hmod, Array.getElem?_eq_getElem hjz], ?_⟩
                  have := g2 j q _ hq (Array.getElem?_eq_getElem hjz)
                  exact (this.clos (m' := fun _ => none) (closL_get hcl hq)).mono he.cell fun _ _ h => h
              have h3 := (h.turn hE hM).put (d := o.dst) (p := .own st.mem.nid) (v := .slice (some ⟨w.heap.size, 0, none⟩) l.toNat l.toNat) (.own _ _ _ (upd_same ..) rfl) hp
              have hx : (execOp a.eval o).run P w = .ok (.value (.slice (some ⟨w.heap.size, 0, none⟩) l.toNat l.toNat)) w' := by
                unfold execOp
                rw [ho]
                dsimp only
                rw [h1, h2, Sem.run_bind, hrun]
                rfl
              unfold Oper.wp
              rw [hx, Oper.upon_value]
              refine hK _ _ _ ?_ h3
              rw [put_mem hp]
              exact hE
          · cases hp
        · cases hp
      · cases hp
    · cases hp
  · cases hp
theorem opMem_ok (h : Rel β st m a w) {o : Oper} (hp : (opMem P st o).run = some st') {K : Act → World → Prop} {Q : Exit → Act → World → Prop}
    (hK : ∀ m' v w', Ext β st.mem m w st'.mem m' w' → Rel β st' m' (a.put o.dst v) w' → K (a.put o.dst v) w') : o.wp P a w K Q := by
  unfold opMem at hp
  split at hp
  · rename_i t ho
    split at hp
    · rename_i z hz
      split at hp
      · rename_i cs hc
        obtain ⟨m', hext, hrel⟩ := newVarM_ok (p := .lit z) (v := z) h (.lit _ _) hc hp
        have hrun : (execOp a.eval o).run P w = .ok (.value (.pointer (some ⟨w.heap.size, 0, none⟩))) (w.alloc (.cells z.cells t)) := by
          unfold execOp
          rw [ho]
          simp [Instr.alloc, run_zeroT hz, newVar, newRow, newObj, Sem.run]
        unfold Oper.wp
        rw [hrun, Oper.upon_value]
        exact hK m' _ _ hext hrel
      · cases hp
    · cases hp
  · rename_i t x ho
    split at hp
    · rename_i cs hc
      obtain ⟨m', hext, hrel⟩ := newVarM_ok (p := st.val x) (v := a.eval x) h (h.val x) hc hp
      have hrun : (execOp a.eval o).run P w = .ok (.value (.pointer (some ⟨w.heap.size, 0, none⟩))) (w.alloc (.cells (a.eval x).cells t)) := by
        unfold execOp
        rw [ho]
        simp [Instr.box, newVar, newRow, newObj, Sem.run]
      unfold Oper.wp
      rw [hrun, Oper.upon_value]
      exact hK m' _ _ hext hrel
    · cases hp
  · rename_i ty' x y ho
    have hx := h.val x
    generalize st.val x = q at hx hp
    split at hp
    · rename_i id off
      split at hp
      · rename_i ty cs hlk
        split at hp
        · rename_i ps hps
          split at hp
          · rename_i hb
            simp only [Bool.and_eq_true, beq_iff_eq] at hb
            obtain ⟨⟨h1, hsz⟩, hle⟩ := hb
            have hle := Nat.le_of_ble_eq_true hle
            obtain ⟨hl, hrs, h1s⟩ := pcells_ok (h.val y) hps h1
            generalize hv : a.eval x = v at hx
            cases hx with
            | ptr m id off b hm =>
              have hbk := h.mem.blk id _ hlk
              cases hbk with
              | cells ty cs b' vs hm' hb' hlen h1v hr hB =>
                rw [hm] at hm'
                cases hm'
                have hst := run_storeCells_at P b off ty (a.eval y).cells.toList 0 vs w hb' (by simp; omega) (fun u hu => h1s u (by simpa using hu))
                have hlr : (a.eval y).cells.size = ps.length := hl.symm
                obtain ⟨hM, hE⟩ := h.mem.write id _ (.cells ty (cs.take off ++ ps ++ cs.drop (off + ps.length))) hlk rfl rfl _ hm (w' := w.setRow b (vs.toList.take (off + 0) ++ (a.eval y).cells.toList ++ vs.toList.drop (off + 0 + (a.eval y).cells.toList.length)).toArray)
                  ⟨rfl, rfl, rfl, by simp [World.setRow], fun k hk => setRow_other w b k _ (fun e => hB (e ▸ hk))⟩ (fun k hk => setRow_other w b k _ (fun e => hk (by simp [blkOf, e]))) fun he => by
                    refine .cells ty _ b _ hm (setRow_heap w b vs _ ty (0, 0) hb') ?_ ?_ ?_ hB
                    · simp; omega
                    · intro u hu
                      simp only [List.mem_toArray, List.mem_append] at hu
                      rcases hu with (hu | hu) | hu
                      · exact h1v u (by simpa using List.mem_of_mem_take hu)
                      · exact h1s u (by simpa using hu)
                      · exact h1v u (by simpa using List.mem_of_mem_drop hu)
                    · intro i q u hq hu
                      simp only [Nat.add_zero, List.getElem?_toArray, List.getElem?_append, List.length_append, List.length_take, List.getElem?_take, List.getElem?_drop, Array.length_toList, Array.getElem?_toList] at hq hu
                      rw [Nat.min_eq_left (by omega)] at hq
                      rw [Nat.min_eq_left (by omega), hlr] at hu
                      by_cases c1 : i < off
                      · have c2 : i < off + ps.length := by omega
                        simp only [c1, c2, if_true] at hq hu
                        exact (hr i q u hq hu).ext he
                      · by_cases c2 : i < off + ps.length
                        · simp only [c1, c2, if_true, if_false] at hq hu
                          exact (hrs _ q u hq hu).ext he
                        · simp only [c1, c2, if_false] at hq hu
                          exact (hr _ q u hq hu).ext he
                have h2 := (h.turn hE hM).put (d := o.dst) (p := .lit undef) (v := undef) (.lit _ _) hp
                have hrun : (execOp a.eval o).run P w = .ok .skip (w.setRow b (vs.toList.take (off + 0) ++ (a.eval y).cells.toList ++ vs.toList.drop (off + 0 + (a.eval y).cells.toList.length)).toArray) := by
                  unfold execOp
                  rw [ho]
                  dsimp only
                  rw [hv]
                  have hst' : (storeVar ty' ⟨b, off, none⟩ (a.eval y)).run P w = .ok () (w.setRow b (vs.toList.take (off + 0) ++ (a.eval y).cells.toList ++ vs.toList.drop (off + 0 + (a.eval y).cells.toList.length)).toArray) := by
                    unfold storeVar
                    rw [Sem.run_bind, run_sizeT hsz, Result.andThen_ok]
                    rw [if_neg (by omega)]
                    exact hst
                  simp [Instr.storeAt, Instr.sureAddr, hst']
                unfold Oper.wp
                rw [hrun, Oper.upon_skip]
                refine hK _ _ _ ?_ h2
                rw [put_mem hp]
                exact hE
          · cases hp
        · cases hp
      · cases hp
    · rename_i id sz i j
      split at hp
      · rename_i e sz' n f hlk
        split at hp
        · rename_i ps hps
          split at hp
          · rename_i hb
            simp only [Bool.and_eq_true, beq_iff_eq] at hb
            obtain ⟨⟨⟨⟨h1, hcl⟩, hsz⟩, hsz'⟩, hle⟩ := hb
            have hle := Nat.le_of_ble_eq_true hle
            have := Nat.eq_of_beq_eq_true hsz'
            subst this
            obtain ⟨hl, hrs, h1s⟩ := pcells_ok (h.val y) hps h1
            simp only [Tr.run] at hp
            cases hin : Nat.blt i n with
            | false => rw [hin] at hp; cases hp
            | true =>
              rw [hin] at hp
              simp only [cond_true] at hp
              have hi : i < n := by simpa [Nat.blt_eq] using hin
              generalize hv : a.eval x = v at hx
              cases hx with
              | optr m id sz i j b n' cap hm =>
                have hbk := h.mem.blk id _ hlk
                cases hbk with
                | row e sz n f v' xs hm' ho' hKr h1' hl' hr =>
                  rw [hm] at hm'
                  cases hm'
                  have hnn : n' = n := by
                    rcases ho'.2 with ⟨h', _⟩ | ⟨g, cap', cur, h', _⟩
                    · cases h'
                    · cases h'
                      rfl
                  have hnn := hnn.symm
                  subst hnn
                  obtain ⟨vs, h2a, h2b, h2c⟩ := storeRow ho' (i * sz' + j) (a.eval y).cells (fun u hu => h1s u hu) (by
                    have : i * sz' + sz' ≤ n * sz' := by
                      have := Nat.mul_le_mul_right sz' (Nat.succ_le_of_lt hi)
                      rw [Nat.succ_mul] at this
                      exact this
                    omega) P
                  have hlr : (a.eval y).cells.size = ps.length := hl.symm
                  obtain ⟨hM, hE⟩ := h.mem.write id _ (.row e sz' n (rowSet f i j ps)) hlk rfl rfl _ hm (w' := w.setRow b vs)
                    ⟨rfl, rfl, rfl, by simp [World.setRow], fun k hk => setRow_other w b k _ (fun e => hKr b rfl (e ▸ hk))⟩ (fun k hk => setRow_other w b k _ (fun e => hk (by simp [blkOf, e]))) fun he => by
                      refine .row e sz' n _ _ _ hm h2b hKr ?_ ?_ ?_
                      · intro u hu
                        simp only [List.mem_append] at hu
                        rcases hu with (hu | hu) | hu
                        · exact h1' u (List.mem_of_mem_take hu)
                        · exact h1s u (by simpa using hu)
                        · exact h1' u (List.mem_of_mem_drop hu)
                      · intro k hk
                        rw [rowSet_eq]
                        unfold rowSetO
                        split
                        · rw [List.length_append, List.length_append, List.length_take, List.length_drop, hl' i hi]
                          omega
                        · exact hl' k hk
                      · intro k jj q hk hq
                        have hxl := ho'.1
                        rw [rowSet_eq] at hq
                        unfold rowSetO at hq
                        cases hki : Nat.beq k i with
                        | true =>
                          have := Nat.eq_of_beq_eq_true hki
                          subst this
                          rw [hki] at hq
                          dsimp only at hq
                          have hfl := hl' k hk
                          simp only [List.getElem?_append, List.length_append, List.length_take, List.getElem?_take, List.getElem?_drop, Array.length_toList, Array.getElem?_toList] at hq ⊢
                          rw [Nat.min_eq_left (by omega)] at hq
                          have hin2 : k * sz' + sz' ≤ n * sz' := by
                            have := Nat.mul_le_mul_right sz' (Nat.succ_le_of_lt hk)
                            rw [Nat.succ_mul] at this
                            exact this
                          rw [Nat.min_eq_left (by omega), hlr]
                          by_cases c1 : jj < j
                          · have c2 : jj < j + ps.length := by omega
                            have d1 : k * sz' + jj < k * sz' + j := by omega
                            have d2 : k * sz' + jj < k * sz' + j + ps.length := by omega
                            simp only [c1, c2, d1, d2, if_true] at hq ⊢
                            obtain ⟨u, hu, hru⟩ := hr k jj q hk hq
                            exact ⟨u, hu, hru.mono he.cell fun _ _ h => h⟩
                          · by_cases c2 : jj < j + ps.length
                            · have d1 : ¬ k * sz' + jj < k * sz' + j := by omega
                              have d2 : k * sz' + jj < k * sz' + j + ps.length := by omega
                              simp only [c1, c2, d1, d2, if_true, if_false] at hq ⊢
                              have e1 : k * sz' + jj - (k * sz' + j) = jj - j := by omega
                              rw [e1]
                              have hlt : jj - j < (a.eval y).cells.size := by omega
                              refine ⟨(a.eval y).cells[jj - j], by rw [Array.getElem?_eq_getElem hlt], ?_⟩
                              have := hrs (jj - j) q _ hq (Array.getElem?_eq_getElem hlt)
                              exact (this.clos (m' := fun _ => none) (closL_get hcl hq)).mono he.cell fun _ _ h => h
                            · have d1 : ¬ k * sz' + jj < k * sz' + j := by omega
                              have d2 : ¬ k * sz' + jj < k * sz' + j + ps.length := by omega
                              simp only [c1, c2, d1, d2, if_false] at hq ⊢
                              have e1 : j + ps.length + (jj - (j + ps.length)) = jj := by omega
                              rw [e1] at hq
                              have e2 : k * sz' + j + ps.length + (k * sz' + jj - (k * sz' + j + ps.length)) = k * sz' + jj := by omega
                              rw [e2]
                              obtain ⟨u, hu, hru⟩ := hr k jj q hk hq
                              exact ⟨u, hu, hru.mono he.cell fun _ _ h => h⟩
                        | false =>
                          rw [hki] at hq
                          dsimp only at hq
                          have hne : k ≠ i := fun e => by subst e; simp at hki
                          obtain ⟨u, hu, hru⟩ := hr k jj q hk hq
                          refine ⟨u, ?_, hru.mono he.cell fun _ _ h => h⟩
                          have hfl := hl' k hk
                          have hjj : jj < sz' := by
                            rw [← hfl]
                            exact (List.getElem?_eq_some_iff.1 hq).1
                          have hin2 : i * sz' + sz' ≤ n * sz' := by
                            have := Nat.mul_le_mul_right sz' (Nat.succ_le_of_lt hi)
                            rw [Nat.succ_mul] at this
                            exact this
                          simp only [List.getElem?_append, List.length_append, List.length_take, List.getElem?_take, List.getElem?_drop, Array.length_toList, Array.getElem?_toList]
                          rw [Nat.min_eq_left (by omega), hlr]
                          rcases Nat.lt_or_ge k i with hlt | hge
                          · have : k * sz' + sz' ≤ i * sz' := by
                              have := Nat.mul_le_mul_right sz' (Nat.succ_le_of_lt hlt)
                              rw [Nat.succ_mul] at this
                              exact this
                            have d1 : k * sz' + jj < i * sz' + j := by omega
                            have d2 : k * sz' + jj < i * sz' + j + ps.length := by omega
                            simp only [d1, d2, if_true]
                            exact hu
                          · have : i * sz' + sz' ≤ k * sz' := by
                              have := Nat.mul_le_mul_right sz' (Nat.succ_le_of_lt (Nat.lt_of_le_of_ne hge (Ne.symm hne)))
                              rw [Nat.succ_mul] at this
                              exact this
                            have d2 : ¬ k * sz' + jj < i * sz' + j + ps.length := by omega
                            simp only [d2, if_false]
                            have e2 : i * sz' + j + ps.length + (k * sz' + jj - (i * sz' + j + ps.length)) = k * sz' + jj := by omega
                            rw [e2]
                            exact hu
                  have h2 := (h.turn hE hM).put (d := o.dst) (p := .lit undef) (v := undef) (.lit _ _) hp
                  have hrun : (execOp a.eval o).run P w = .ok .skip (w.setRow b vs) := by
                    unfold execOp
                    rw [ho]
                    dsimp only
                    rw [hv]
                    have hst' : (storeVar ty' ⟨b, i * sz' + j, none⟩ (a.eval y)).run P w = .ok () (w.setRow b vs) := by
                      unfold storeVar
                      rw [Sem.run_bind, run_sizeT hsz, Result.andThen_ok]
                      rw [if_neg (by omega)]
                      exact h2a
                    simp [Instr.storeAt, Instr.sureAddr, hst']
                  unfold Oper.wp
                  rw [hrun, Oper.upon_skip]
                  refine hK _ _ _ ?_ h2
                  rw [put_mem hp]
                  exact hE
          · cases hp
        · cases hp
      · cases hp
    · cases hp
  · rename_i t n parts ho
    exact buildRow_ok h ho hp hK
  · rename_i t l c ho
    exact makeRow_ok h ho hp hK
  · cases hp
end

end Go.Proofs.YtlngnfkjpfokhaaDoor.Ev
