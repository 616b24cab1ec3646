/- JBox04: several texts in one. Condition: each part's own. -/
import Derived.Test.YtlngnfkjpfokhaaDoorJBox03
import Derived.Orders
/- Regions whose operations may come in more than one order: all come to the same. No condition. -/
namespace Go.Proofs.YtlngnfkjpfokhaaDoor.Ev
open Go Go.RowKit
set_option linter.unusedVariables false
set_option linter.unusedSimpArgs false

/-- only these slots are kept -/
def keep (ks : List Nat) (l : List (Nat × PV)) : List (Nat × PV) := ks.filterMap fun k => (look l k).map fun p => (k, p)
theorem look_keep (l : List (Nat × PV)) : ∀ (ks : List Nat) (i : Nat) (p : PV), look (keep ks l) i = some p → look l i = some p
  | [], i, p, h => by cases h
  | k :: ks, i, p, h => by
    unfold keep at h
    rw [List.filterMap_cons] at h
    cases hk : look l k with
    | none =>
      rw [hk] at h
      exact look_keep l ks i p h
    | some q =>
      rw [hk] at h
      dsimp only [Option.map_some] at h
      rw [look_cons] at h
      by_cases hi : k = i
      · subst hi
        rw [if_pos rfl] at h
        rw [hk]
        exact h
      · rw [if_neg hi] at h
        exact look_keep l ks i p h
theorem keep_congr {ks : List Nat} {l l' : List (Nat × PV)} (h : ∀ k ∈ ks, look l k = look l' k) : keep ks l = keep ks l' := by
  induction ks with
  | nil => rfl
  | cons k ks ih =>
    have h0 := h k List.mem_cons_self
    have ih := ih fun i hi => h i (List.mem_cons_of_mem _ hi)
    unfold keep at ih ⊢
    rw [List.filterMap_cons, List.filterMap_cons, h0, ih]
def tmpsOf (o : Oper) : List Nat := o.op.operands.toList.filterMap fun | .tmp t => some t | _ => none
def St.only (st : St) (ks : List Nat) : St := ⟨st.n, keep ks st.slots, st.mem⟩
def St.bare (st : St) (G : GT) (ks : List Nat) : St := ⟨st.n, keep ks st.slots, ⟨[], 0, G⟩⟩

/-- a function that writes nothing, and what it is called with -/
def pureOf (E : Env) (st : St) (c : Call) : Option (FuncId × (List PV → Tr PV) × List PV) := match c.callee with
  | .value f => match st.val f with
    | .clo id caps => match E.pureAt id (c.args.toList.map st.val ++ caps) with
      | some g => some (id, g, c.args.toList.map st.val ++ caps)
      | none => none
    | _ => none
  | _ => none
/-- a new row that nobody writes -/
def buildGsl (P : Program) (t : TypeId) (n : Nat) (parts : List (Nat × PV)) : Tr PV := match P.underlying t with
  | some (.slice e) => match P.info? e with
    | some ie => match ie.zero with
      | some z => match pcells (.lit z) with
        | some zc => match zc.all one && Nat.beq zc.length ie.size && Nat.blt 0 ie.size && Nat.ble (n * ie.size) 16777216 with
          | true => match fillP (fun i => some (i * ie.size, ie.size)) parts (List.replicate (n * ie.size) .junk) with
            | some cs => match PV.closL cs with
              | true => .leaf (.gsl ie.size n (rowOf cs ie.size))
              | false => .fail
            | none => .fail
          | false => .fail
        | none => .fail
      | none => .fail
    | none => .fail
  | _ => .fail
/-- an operation that hangs on no place of one's own -/
def freeOp (P : Program) (E : Env) (st : St) (o : Oper) : Tr PV := match o.op with
  | .call c => match isApp o with
    | true => .fail
    | false => match isCall o with
      | true => match pureOf E st c with
        | some (_, g, ps) => g ps
        | none => .fail
      | false => opVal P st o
  | .buildSlice t n parts => buildGsl P t n (parts.toList.map fun x => (x.1, st.val x.2))
  | _ => match isMem o with
    | true => .fail
    | false => opVal P st o
/-- an operation that reads one's own places -/
def readOp (P : Program) (E : Env) (st : St) (o : Oper) : Tr PV := match o.op with
  | .call c => match isApp o with
    | true => .fail
    | false => match isCall o with
      | true => match pureOf E st c with
        | some (_, g, ps) => (g (PV.subL st.mem.viewAtom ps)).bind fun p => match p.flat with
          | true => .leaf p
          | false => .fail
        | none => .fail
      | false => opVal P st o
  | _ => match isMem o with
    | true => .fail
    | false => opVal P st o

section
variable {P : Program} {E : Env} {β : Base} {st st' : St} {m : Nat → Option Value} {a : Act} {w : World}
theorem Rel.only (h : Rel β st m a w) (ks : List Nat) : Rel β (st.only ks) m a w := ⟨h.size, h.defers, fun i p hp => h.slots i p (look_keep _ _ _ _ hp), h.mem⟩
/-- the beginning is now -/
def Base.now (β : Base) (w : World) (M : Mem) (m : Nat → Option Value) : Base := ⟨w, Cell β w M m, (· < w.heap.size), β.G⟩
theorem now_cell {M : Mem} {b o : Nat} {v : Value} (h : Cell (β.now w M m) w ⟨[], 0, M.glob⟩ (fun _ => none) b o v) : Cell β w M m b o v :=
  h.2.2 (World.block_lt_of_cell? w ⟨b, o, none⟩ h.2.1)
theorem Rel.bare (h : Rel β st m a w) (ks : List Nat) (hc : ∀ k ∈ ks, ∀ p, look st.slots k = some p → p.clos = true) : Rel (β.now w st.mem m) (st.bare st.mem.glob ks) (fun _ => none) a w := by
  have hcell : ∀ b o v, Cell β w st.mem m b o v → Cell (β.now w st.mem m) w ⟨[], 0, st.mem.glob⟩ (fun _ => none) b o v := fun b o v h => ⟨fun ⟨id, u, hs, _⟩ => (by cases hs), h.2.1, fun _ => h⟩
  refine ⟨h.size, h.defers, fun i p hp => ?_, ⟨fun id b hb => (by cases hb), fun _ _ => rfl, fun i j v v' b hi => (by cases hi), fun k hk => hk, Keeps.refl _ _, fun g cs hg => (h.mem.glob g cs hg).mono hcell fun _ _ h => h, h.mem.gl, fun g o hg => ⟨(Array.getElem?_eq_some_iff.1 (h.mem.objs' g o hg)).1, h.mem.objs' g o hg⟩⟩⟩
  have hl := look_keep _ _ _ _ hp
  have hik : i ∈ ks := by
    have : ∀ (ks : List Nat), look (keep ks st.slots) i = some p → i ∈ ks := by
      intro ks
      induction ks with
      | nil => intro h; cases h
      | cons k ks ih =>
        intro h
        unfold keep at h
        rw [List.filterMap_cons] at h
        cases hk : look st.slots k with
        | none =>
          rw [hk] at h
          exact List.mem_cons_of_mem _ (ih h)
        | some q =>
          rw [hk] at h
          dsimp only [Option.map_some] at h
          rw [look_cons] at h
          by_cases hi : k = i
          · subst hi
            exact List.mem_cons_self
          · rw [if_neg hi] at h
            exact List.mem_cons_of_mem _ (ih h)
    exact this ks hp
  obtain ⟨v, hv, hr⟩ := h.slots i p hl
  exact ⟨v, hv, (hr.clos (m' := fun _ => none) (hc i hik p hl)).mono hcell fun _ _ h => h⟩
theorem pureOf_ok (hE : E.ok P β.G) (h : Rel β st m a w) {c : Call} {id : FuncId} {g : List PV → Tr PV} {ps : List PV} (hp : pureOf E st c = some (id, g, ps)) (o : Oper) (ho : o.op = .call c) :
    PureOK P β.G id g ∧ ∃ args : Array Value, ps.length = args.size ∧ (∀ (i : Nat) (p : PV) (v : Value), ps[i]? = some p → args[i]? = some v → Rep (Cell β w st.mem m) m p v) ∧
      ∀ {K : Act → World → Prop} {Q : Exit → Act → World → Prop}, Calls P id args w (fun
        | .returned v, w' => K (a.put o.dst v) w'
        | _, _ => False) → o.wp P a w K Q := by
  unfold pureOf at hp
  split at hp
  · rename_i f hcal
    have hx := h.val f
    generalize st.val f = q at hx hp
    split at hp
    · rename_i id' caps
      split at hp
      · rename_i g' hg
        cases hp
        obtain ⟨hfn, hent⟩ := hE.pureAt hg
        refine ⟨hfn, ?_⟩
        generalize hv : a.eval f = v at hx
        cases hx with
        | clo m f ps vs hl hr =>
          have hres : (resolve a.eval c o.type).run P w = .ok { target := .fn (.func id) vs, args := #[] ++ c.args.map a.eval } w := by
            unfold resolve
            rw [hcal]
            dsimp only
            rw [hv]
            rfl
          refine ⟨#[] ++ c.args.map a.eval ++ vs, by simp [hl], ?_, ?_⟩
          · intro i p v hp hv
            rw [List.getElem?_append] at hp
            simp only [Array.empty_append, Array.getElem?_append, Array.size_map, List.length_map, Array.length_toList] at hp hv
            split at hp
            · rename_i hlt
              rw [if_pos hlt] at hv
              simp only [List.getElem?_map, Array.getElem?_map, Array.getElem?_toList] at hp hv
              cases hc : c.args[i]? with
              | none => rw [hc] at hp; cases hp
              | some x =>
                rw [hc] at hp hv
                simp only [Option.map_some, Option.some.injEq] at hp hv
                subst hp
                subst hv
                exact h.val x
            · rename_i hlt
              rw [if_neg hlt] at hv
              exact hr _ p v hp hv
          · intro K Q hc
            unfold Oper.wp execOp
            rw [ho]
            dsimp only
            rw [Sem.run_bind, hres, Result.andThen_ok]
            dsimp only [invoke]
            rw [hent, Oper.upon_enter]
            refine Calls.mono hc ?_
            intro e w' he
            cases e with
            | returned v => exact he
            | panicked _ => exact he.elim
            | outgrown => exact he.elim
      · cases hp
    · cases hp
  · cases hp
/-- what a quiet operation comes to -/
theorem freeOp_ok (hE : E.ok P β.G) (h : Rel β st m a w) {o : Oper} {ks : List Nat} (hc : ∀ k ∈ ks, ∀ p, look st.slots k = some p → p.clos = true) {p : PV} (hp : (freeOp P E (st.bare st.mem.glob ks) o).run = some p) {K : Act → World → Prop} {Q : Exit → Act → World → Prop}
    (hK : ∀ v w', Keeps (· < w.heap.size) w w' → Rep (Cell β w' st.mem m) m p v → K (a.put o.dst v) w') : o.wp P a w K Q := by
  have hb := h.bare ks hc
  have hcell : ∀ b o v, Cell (β.now w st.mem m) w ⟨[], 0, st.mem.glob⟩ (fun _ => none) b o v → Cell β w st.mem m b o v := fun b o v h => now_cell h
  have val : ∀ p, (opVal P (st.bare st.mem.glob ks) o).run = some p → (∀ v w', Keeps (· < w.heap.size) w w' → Rep (Cell β w' st.mem m) m p v → K (a.put o.dst v) w') → o.wp P a w K Q := by
    intro p hp hK
    obtain ⟨v, hv, hr⟩ := opVal_ok hb hp
    unfold Oper.wp
    rw [hv, Oper.upon_value]
    exact hK v w (Keeps.refl _ _) (hr.mono hcell fun _ _ h => by cases h)
  unfold freeOp at hp
  split at hp
  · rename_i c ho
    split at hp
    · cases hp
    · split at hp
      · split at hp
        · rename_i id g ps hpo
          have hE' : E.ok P (β.now w st.mem m).G := hE
          obtain ⟨hfn, args, hl, hr, hcall⟩ := pureOf_ok hE' hb hpo o ho
          refine hcall (Calls.mono (hfn ps p hp w (Cell β w st.mem m) (fun _ _ _ h => h.2.1) (fun g cs hg => h.mem.glob g cs (by rw [h.mem.gl]; exact hg)) h.mem.objs' args ⟨hl, fun i p v hp hv => ?_⟩) ?_)
          · exact ((hr i p v hp hv).mono hcell fun _ _ h => h)
          · intro e w' he
            cases e with
            | returned v => exact hK v w' he.1 (he.2.grown h.mem he.1 fun _ _ _ h => h)
            | panicked _ => exact he.elim
            | outgrown => exact he.elim
        · cases hp
      · exact val p hp hK
  · rename_i t n parts ho
    unfold buildGsl at hp
    split at hp
    · rename_i e hu
      split at hp
      · rename_i ie hie
        split at hp
        · rename_i z hz
          split at hp
          · rename_i zc hzc
            split at hp
            · rename_i hcd
              split at hp
              · rename_i cs hcs
                split at hp
                · rename_i hcl
                  simp only [Tr.run, Option.some.injEq] at hp
                  subst hp
                  obtain ⟨vs, f1, f2, f3, f4⟩ := buildCells (C := Cell β w st.mem m) (m := m) (hie := hie) hz hzc hcd (parts.map fun x => (x.1, a.eval x.2)) hcs (by simp) fun k x y hx hy => by
                    simp only [List.getElem?_map, Array.toList_map, Array.getElem?_toList] at hx hy
                    cases hk : parts[k]? with
                    | none => rw [hk] at hx; cases hx
                    | some q =>
                      rw [hk] at hx hy
                      cases hx
                      cases hy
                      exact ⟨rfl, (hb.val _).mono hcell fun _ _ h => by cases h⟩
                  simp only [Bool.and_eq_true, Nat.blt_eq] at hcd
                  have hpos := hcd.1.2
                  have hrun := f1 t n hu (Nat.le_of_ble_eq_true hcd.2) w
                  have hx : (execOp a.eval o).run P w = .ok (.value (.slice (some ⟨w.heap.size, 0, none⟩) n n)) (w.alloc (.cells vs e)) := by
                    unfold execOp
                    rw [ho]
                    dsimp only
                    rw [Sem.run_bind]
                    erw [hrun]
                    rfl
                  unfold Oper.wp
                  rw [hx, Oper.upon_value]
                  have hk : Keeps (· < w.heap.size) w (w.alloc (.cells vs e)) := Keeps.of_below ((Below.refl w.heap.size w).alloc (Nat.le_refl _) (.cells vs e)) fun _ h => h
                  obtain ⟨hM, hE'⟩ := h.mem.keep hk
                  refine hK _ _ hk ?_
                  have hlen : vs.size = n * ie.size := by
                    rw [← f2, fillP_len hcs]
                    simp
                  have hidx : ∀ i j, i < n → j < ie.size → i * ie.size + j < vs.size := by
                    intro i j hi hj
                    have := Nat.mul_le_mul_right ie.size (Nat.succ_le_of_lt hi)
                    rw [Nat.succ_mul] at this
                    omega
                  refine .gsl _ _ _ _ w.heap.size 0 n (fun i j => vs.getD (i * ie.size + j) undef) (fun i j hi hj => ?_) (fun i hi => ?_) (fun i j q hi hq => ?_) (Nat.le_refl _)
                  · have hlt := hidx i j hi hj
                    have hxv : vs[i * ie.size + j]? = some (vs.getD (i * ie.size + j) undef) := by
                      simp [Array.getD_eq_getD_getElem?, hlt]
                    refine ⟨⟨?_, ?_, fun hlt => ?_⟩, f4 _ (Array.mem_of_getElem? hxv)⟩
                    · rintro ⟨id, u, hs, hu, hbu⟩
                      have := h.mem.livLt hs hu hbu
                      omega
                    · rw [Nat.zero_add]
                      simp only [World.cell?, heap_alloc_new, hxv, Option.isSome_none, Bool.false_eq_true, if_false]
                    · exact absurd (h.mem.kLt hlt) (Nat.lt_irrefl _)
                  · unfold rowOf
                    rw [List.length_take, List.length_drop, f2, hlen]
                    have := Nat.mul_le_mul_right ie.size (Nat.succ_le_of_lt hi)
                    rw [Nat.succ_mul] at this
                    omega
                  · unfold rowOf at hq
                    rw [List.getElem?_take] at hq
                    split at hq
                    · rename_i hj
                      rw [List.getElem?_drop] at hq
                      have hlt := hidx i j hi hj
                      have hxv : vs[i * ie.size + j]? = some (vs.getD (i * ie.size + j) undef) := by
                        simp [Array.getD_eq_getD_getElem?, hlt]
                      exact ((f3 _ q _ hq hxv).clos (m' := fun _ => none) (closL_get hcl hq)).mono hE'.cell fun _ _ h => h
                    · cases hq
                · cases hp
              · cases hp
            · cases hp
          · cases hp
        · cases hp
      · cases hp
    · cases hp
  · split at hp
    · cases hp
    · exact val p hp hK
theorem readOp_ok (hE : E.ok P β.G) (h : Rel β st m a w) {o : Oper} {p : PV} (hp : (readOp P E st o).run = some p) {K : Act → World → Prop} {Q : Exit → Act → World → Prop}
    (hK : ∀ v w', Keeps (· < w.heap.size) w w' → Rep (Cell β w' st.mem m) m p v → K (a.put o.dst v) w') : o.wp P a w K Q := by
  have val : ∀ p, (opVal P st o).run = some p → (∀ v w', Keeps (· < w.heap.size) w w' → Rep (Cell β w' st.mem m) m p v → K (a.put o.dst v) w') → o.wp P a w K Q := by
    intro p hp hK
    obtain ⟨v, hv, hr⟩ := opVal_ok h hp
    unfold Oper.wp
    rw [hv, Oper.upon_value]
    exact hK v w (Keeps.refl _ _) hr
  unfold readOp at hp
  split at hp
  · rename_i c ho
    split at hp
    · cases hp
    · split at hp
      · split at hp
        · rename_i id g ps hpo
          obtain ⟨hfn, args, hl, hr, hcall⟩ := pureOf_ok hE h hpo o ho
          obtain ⟨q, hq, hp⟩ := Tr.of_bind hp
          split at hp
          · rename_i hf
            simp only [Tr.run, Option.some.injEq] at hp
            subst hp
            refine hcall (Calls.mono (hfn _ q hq w (fun b o v => w.cell? ⟨b, o, none⟩ = some v) (fun _ _ _ h => h) (fun g cs hgc => (h.mem.glob g cs (by rw [h.mem.gl]; exact hgc)).mono (fun _ _ _ h => h.2.1) fun _ _ h => h) h.mem.objs' args
              (RepL.of_val h (fun _ _ _ h => h.2.1) (fun p v ha hr => viewAtom_rep h.mem ha hr) hl hr)) ?_)
            intro e w' he
            cases e with
            | returned v => exact hK v w' he.1 (he.2.flat hf)
            | panicked _ => exact he.elim
            | outgrown => exact he.elim
          · cases hp
        · cases hp
      · exact val p hp hK
  · split at hp
    · cases hp
    · exact val p hp hK
end


/-- the operations that come ahead of one, as bits -/
def maskOf (o : Oper) (acc : List Nat) : Nat := o.after.toList.foldl (fun s e => match Region.binds .any e with
  | true => s ||| 2 ^ e.on ||| acc.getD e.on 0
  | false => s) 0
def masks : List Oper → List Nat → List Nat
  | [], acc => acc
  | o :: r, acc => masks r (acc ++ [maskOf o acc])
theorem maskOf_bit {o : Oper} {acc : List Nat} {i : Nat} (h : (maskOf o acc).testBit i = true) : ∃ e ∈ o.after.toList, Region.binds .any e = true ∧ (i = e.on ∨ (acc.getD e.on 0).testBit i = true) := by
  unfold maskOf at h
  have key : ∀ (l : List Edge) (s : Nat), (l.foldl (fun s e => match Region.binds .any e with
      | true => s ||| 2 ^ e.on ||| acc.getD e.on 0
      | false => s) s).testBit i = true → s.testBit i = true ∨ ∃ e ∈ l, Region.binds .any e = true ∧ (i = e.on ∨ (acc.getD e.on 0).testBit i = true) := by
    intro l
    induction l with
    | nil => intro s h; exact .inl h
    | cons e l ih =>
      intro s h
      rw [List.foldl_cons] at h
      rcases ih _ h with h | ⟨e', he', h'⟩
      · cases hb : Region.binds .any e with
        | false =>
          rw [hb] at h
          exact .inl h
        | true =>
          rw [hb] at h
          dsimp only at h
          rw [Nat.testBit_or, Nat.testBit_or, Bool.or_eq_true, Bool.or_eq_true] at h
          rcases h with (h | h) | h
          · exact .inl h
          · rw [Nat.testBit_two_pow] at h
            exact .inr ⟨e, List.mem_cons_self, hb, .inl (of_decide_eq_true h).symm⟩
          · exact .inr ⟨e, List.mem_cons_self, hb, .inr h⟩
      · exact .inr ⟨e', List.mem_cons_of_mem _ he', h'⟩
  rcases key _ _ h with h | h
  · simp at h
  · exact h
theorem masks_ok {ops : List Oper} {S : Nat → Prop} (hS : ∀ (k : Nat) (o : Oper), ops[k]? = some o → S k → ∀ e ∈ o.after.toList, Region.binds .any e = true → S e.on) : ∀ (r pre : List Oper) (acc : List Nat), ops = pre ++ r → acc.length = pre.length →
    (∀ (k : Nat) (o : Oper), ops[k]? = some o → k < acc.length → (∀ e ∈ o.after.toList, Region.binds .any e = true → S e.on) → ∀ i, (acc.getD k 0).testBit i = true → S i) →
    ∀ (k : Nat) (o : Oper), ops[k]? = some o → (∀ e ∈ o.after.toList, Region.binds .any e = true → S e.on) → ∀ i, ((masks r acc).getD k 0).testBit i = true → S i
  | [], pre, acc, he, hl, ha, k, o, ho, hd, i, hi => by
    refine ha k o ho ?_ hd i hi
    have := (List.getElem?_eq_some_iff.1 ho).1
    rw [he, List.append_nil] at this
    omega
  | o1 :: r, pre, acc, he, hl, ha, k, o, ho, hd, i, hi => by
    refine masks_ok hS r (pre ++ [o1]) (acc ++ [maskOf o1 acc]) (by rw [he]; simp) (by simp [hl]) ?_ k o ho hd i hi
    intro k o ho hk hd i hi
    rw [List.length_append, List.length_singleton] at hk
    rw [List.getD_eq_getElem?_getD, List.getElem?_append] at hi
    by_cases hlt : k < acc.length
    · rw [if_pos hlt, ← List.getD_eq_getElem?_getD] at hi
      exact ha k o ho hlt hd i hi
    · have hke : k = acc.length := by omega
      subst hke
      rw [if_neg hlt, Nat.sub_self] at hi
      simp only [List.getElem?_cons_zero, Option.getD_some] at hi
      have hoo : o = o1 := by
        rw [he, hl, List.getElem?_append_right (Nat.le_refl _), Nat.sub_self] at ho
        simpa using ho.symm
      subst hoo
      obtain ⟨e, hem, hb, h⟩ := maskOf_bit hi
      rcases h with rfl | h
      · exact hd e hem hb
      · rcases Nat.lt_or_ge e.on acc.length with hel | hel
        · have hlt' : e.on < ops.length := by
            rw [he]
            simp
            omega
          refine ha e.on _ (List.getElem?_eq_getElem hlt') hel (hS _ _ (List.getElem?_eq_getElem hlt') (hd e hem hb)) i h
        · rw [List.getD_eq_getElem?_getD, List.getElem?_eq_none hel] at h
          simp at h

mutual
/-- words that tell of places, and of no cell -/
def PV.ptrO : PV → Bool
  | .lit _ => true
  | .agg ps => PV.ptrOL ps
  | .tup ps => PV.ptrOL ps
  | .ptr _ _ => true
  | .optr _ _ _ _ => true
  | .own _ => true
  | .clo _ ps => PV.ptrOL ps
  | .emp => true
  | .junk => true
  | _ => false
def PV.ptrOL : List PV → Bool
  | [] => true
  | p :: r => PV.ptrO p && PV.ptrOL r
end
theorem ptrOL_get : ∀ {ps : List PV}, PV.ptrOL ps = true → ∀ {i : Nat} {p : PV}, ps[i]? = some p → p.ptrO = true
  | [], h, i, p, hp => by simp at hp
  | q :: r, h, 0, p, hp => by
    simp only [PV.ptrOL, Bool.and_eq_true] at h
    simp at hp
    subst hp
    exact h.1
  | q :: r, h, i + 1, p, hp => by
    simp only [PV.ptrOL, Bool.and_eq_true] at h
    exact ptrOL_get h.2 (by simpa using hp)
theorem Rep.ptrO {C C' : Nat → Nat → Value → Prop} {m : Nat → Option Value} {p : PV} {v : Value} (hr : Rep C m p v) (hf : p.ptrO = true) : Rep C' m p v := by
  induction hr with
  | lit m v => exact .lit _ v
  | agg m ps vs hl h ih => exact .agg _ ps vs hl fun i p v hp hv => ih i p v hp hv (ptrOL_get hf hp)
  | tup m ps vs hl h ih => exact .tup _ ps vs hl fun i p v hp hv => ih i p v hp hv (ptrOL_get hf hp)
  | own m id v hm h1 => exact .own _ id v hm h1
  | ptr m id off b hm => exact .ptr _ id off b hm
  | optr m id sz i j b n cap hm => exact .optr _ id sz i j b n cap hm
  | clo m f ps vs hl h ih => exact .clo _ f ps vs hl fun i p v hp hv => ih i p v hp hv (ptrOL_get hf hp)
  | emp m v h => exact .emp _ v h
  | junk m v => exact .junk _ v
  | _ => cases hf
/-- operations that look at no memory -/
def isStill (o : Oper) : Bool := match o.op with
  | .move _ => true
  | .assign _ => true
  | .fieldAddr _ _ _ => true
  | .nilCheck _ => true
  | _ => false
theorem val_nid {n i j : Nat} {L : List (Nat × PV)} {G : GT} (x : Operand) : St.val ⟨n, L, ⟨[], i, G⟩⟩ x = St.val ⟨n, L, ⟨[], j, G⟩⟩ x := by
  cases x <;> rfl
theorem still_nid {P : Program} {E : Env} {n i j : Nat} {L : List (Nat × PV)} {G : GT} {o : Oper} (h : isStill o = true) : readOp P E ⟨n, L, ⟨[], i, G⟩⟩ o = readOp P E ⟨n, L, ⟨[], j, G⟩⟩ o := by
  unfold isStill at h
  split at h
  · rename_i x ho
    simp only [readOp, isMem, opVal, ho, val_nid (i := i) (j := j)]
  · rename_i x ho
    simp only [readOp, isMem, opVal, ho, val_nid (i := i) (j := j)]
  · rename_i s x k ho
    simp only [readOp, isMem, opVal, ho, val_nid (i := i) (j := j)]
  · rename_i x ho
    simp only [readOp, isMem, opVal, ho, val_nid (i := i) (j := j)]
  · cases h
/-- the slots that an operation looks at tell of places that stay what they are -/
def noOwn : List (Nat × PV) → Bool
  | [] => true
  | (_, .own _) :: _ => false
  | _ :: r => noOwn r
inductive Cls where
  | free | read | write | still | cell | make
/-- a load of cells of one's own -/
def cellAt (st : St) (o : Oper) : Option Nat := match o.op with
  | .load _ (.tmp t) => match look st.slots t with
    | some (.ptr id _) => some id
    | _ => none
  | _ => none
/-- operations that only make a new row, or let one's own row grow -/
def isMk (o : Oper) : Bool := match o.op with
  | .buildSlice _ n _ => Nat.beq n 0
  | .call _ => isApp o
  | _ => false
/-- how an operation stands to one's own places -/
def clsOf (E : Env) (st : St) (o : Oper) : Cls := match PV.closL ((keep (tmpsOf o) st.slots).map (·.2)) with
  | true => match o.op with
    | .buildSlice _ n _ => match n with
      | 0 => .make
      | _ => .free
    | .call c => match isApp o with
      | true => .make
      | false => match isCall o with
        | true => match pureOf E st c with
          | some _ => .free
          | none => .write
        | false => .free
    | _ => match isMem o with
      | true => .write
      | false => .free
  | false => match o.op with
    | .slice _ _ _ _ _ => .write
    | .load _ _ => match cellAt (st.only (tmpsOf o)) o with
      | some _ => .cell
      | none => .read
    | .call c => match isApp o with
      | true => .make
      | false => match isCall o with
        | true => match pureOf E st c with
          | some _ => .read
          | none => .write
        | false => .read
    | _ => match isMem o with
      | true => .write
      | false => match isStill o && (PV.ptrOL ((keep (tmpsOf o) st.slots).map (·.2)) && noOwn (keep (tmpsOf o) st.slots)) with
        | true => .still
        | false => .read
def drawOp (P : Program) (E : Env) (G : GT) (st : St) (o : Oper) : Tr (PV × Cls × Mem) := match clsOf E st o with
  | .free => match PV.closL ((keep (tmpsOf o) st.slots).map (·.2)) with
    | true => (freeOp P E (st.bare G (tmpsOf o)) o).bind fun p => .leaf (p, .free, st.mem)
    | false => .fail
  | .read => (readOp P E (st.only (tmpsOf o)) o).bind fun p => .leaf (p, .read, st.mem)
  | .still => (readOp P E ⟨st.n, keep (tmpsOf o) st.slots, ⟨[], 0, G⟩⟩ o).bind fun p => match isStill o && p.ptrO with
    | true => .leaf (p, .still, st.mem)
    | false => .fail
  | .cell => (readOp P E (st.only (tmpsOf o)) o).bind fun p => match cellAt (st.only (tmpsOf o)) o with
    | some id => match Nat.blt id st.mem.nid with
      | true => .leaf (p, .cell, st.mem)
      | false => .fail
    | none => .fail
  | .write => (evOp P E (st.only (tmpsOf o)) o).bind fun st' => .leaf (match o.dst with
    | some d => (match look st'.slots d with
      | some p => p
      | none => .junk)
    | none => .junk, .write, st'.mem)
  | .make => match isMk o with
    | true => (evOp P E (st.only (tmpsOf o)) o).bind fun st' => .leaf (match o.dst with
      | some d => (match look st'.slots d with
        | some p => p
        | none => .junk)
      | none => .junk, .make, st'.mem)
    | false => .fail
/-- a slot is known to hold this truth -/
def St.know (st : St) (s : Nat) (b : Bool) : St := { st with slots := setL st.slots s (.lit (.bool b)) }
def evD (P : Program) (E : Env) (G : GT) (ops : Array Oper) : List Oper → St → Tr (St × List (Cls × Mem))
  | [], st => .leaf (st, [])
  | o :: r, st => match o.guard with
    | none => (drawOp P E G st o).bind fun x => (({ st with mem := x.2.2 } : St).put o.dst x.1).bind fun st1 => (evD P E G ops r st1).bind fun y => .leaf (y.1, x.2 :: y.2)
    | some (j, b) => match (ops[j]?).bind (·.dst) with
      | none => .fail
      | some s => match look st.slots s with
        | some (.lit (.bool t)) => match b with
          | true => .br t ((drawOp P E G (st.know s true) o).bind fun x => (({ st.know s true with mem := x.2.2 } : St).put o.dst x.1).bind fun st1 => (evD P E G ops r st1).bind fun y => .leaf (y.1, x.2 :: y.2))
            (((st.know s false).put o.dst (.lit undef)).bind fun st1 => (evD P E G ops r st1).bind fun y => .leaf (y.1, (.free, st.mem) :: y.2))
          | false => .br t (((st.know s true).put o.dst (.lit undef)).bind fun st1 => (evD P E G ops r st1).bind fun y => .leaf (y.1, (.free, st.mem) :: y.2))
            ((drawOp P E G (st.know s false) o).bind fun x => (({ st.know s false with mem := x.2.2 } : St).put o.dst x.1).bind fun st1 => (evD P E G ops r st1).bind fun y => .leaf (y.1, x.2 :: y.2))
        | some (.lit (.tuple _)) => (st.put o.dst (.lit undef)).bind fun st1 => (evD P E G ops r st1).bind fun y => .leaf (y.1, (.free, st.mem) :: y.2)
        | _ => .fail
def dsts (l : List Oper) : List Nat := l.filterMap (·.dst)
/-- no operation writes what an earlier one, or itself, looks at or has written -/
def slotsOK (ops : Array Oper) : List Oper → Bool
  | [] => true
  | o :: r => (o.looksAt ops).all (fun t => !(dsts (o :: r)).contains t) && (match o.dst with
    | some d => !(dsts r).contains d
    | none => true) && slotsOK ops r

/-- what a guard asks is not so -/
def NotSo (p : Option PV) (b : Bool) : Prop := p = some (.lit (.bool (!b))) ∨ ∃ vs, p = some (.lit (.tuple vs))
/-- what is known of one operation, by the slots in the end -/
def Fact (P : Program) (E : Env) (G : GT) (ops : Array Oper) (n : Nat) (L : List (Nat × PV)) (M : Mem) (o : Oper) (c : Cls) (M' : Mem) : Prop :=
  ((∃ j b s, o.guard = some (j, b) ∧ (ops[j]?).bind (·.dst) = some s ∧ NotSo (look L s) b) ∧ M' = M ∧ c = .free ∧ ∀ d, o.dst = some d → d < n ∧ look L d = some (.lit undef)) ∨
  ((o.guard = none ∨ ∃ j b s, o.guard = some (j, b) ∧ (ops[j]?).bind (·.dst) = some s ∧ look L s = some (.lit (.bool b))) ∧ ∃ p, (∀ d, o.dst = some d → d < n ∧ look L d = some p) ∧ match c with
    | .free => (freeOp P E (St.bare ⟨n, L, M⟩ G (tmpsOf o)) o).run = some p ∧ PV.closL ((keep (tmpsOf o) L).map (·.2)) = true ∧ M' = M
    | .read => (readOp P E (St.only ⟨n, L, M⟩ (tmpsOf o)) o).run = some p ∧ M' = M
    | .still => (readOp P E ⟨n, keep (tmpsOf o) L, ⟨[], 0, G⟩⟩ o).run = some p ∧ (isStill o = true ∧ p.ptrO = true) ∧ M' = M
    | .cell => (readOp P E (St.only ⟨n, L, M⟩ (tmpsOf o)) o).run = some p ∧ (∃ id, cellAt (St.only ⟨n, L, M⟩ (tmpsOf o)) o = some id ∧ id < M.nid) ∧ M' = M
    | .write => ∃ st1, (evOp P E (St.only ⟨n, L, M⟩ (tmpsOf o)) o).run = some st1 ∧ st1.mem = M' ∧ ∀ d, o.dst = some d → p = match look st1.slots d with
      | some p => p
      | none => .junk
    | .make => (∃ st1, (evOp P E (St.only ⟨n, L, M⟩ (tmpsOf o)) o).run = some st1 ∧ st1.mem = M' ∧ ∀ d, o.dst = some d → p = match look st1.slots d with
      | some p => p
      | none => .junk) ∧ isMk o = true)
/-- the cells that there were are the same -/
structure Mk (M M' : Mem) : Prop where
  le : M.nid ≤ M'.nid
  same : ∀ id, id < M.nid → ∀ t cs, look M.blks id = some (.cells t cs) ↔ look M'.blks id = some (.cells t cs)
  glob : M'.glob = M.glob
theorem Mk.refl (M : Mem) : Mk M M := ⟨Nat.le_refl _, fun _ _ _ _ => Iff.rfl, rfl⟩
theorem Mk.trans {M M' M'' : Mem} (h : Mk M M') (h' : Mk M' M'') : Mk M M'' := ⟨Nat.le_trans h.1 h'.1, fun id hid t cs => (h.2 id hid t cs).trans (h'.2 id (Nat.lt_of_lt_of_le hid h.1) t cs), h'.3.trans h.3⟩
theorem Mk.new (M : Mem) (b : Blk) : Mk M (M.new b) := ⟨Nat.le_succ _, fun id hid t cs => by
  unfold Mem.new
  dsimp only
  rw [look_cons, if_neg (by omega)], rfl⟩
theorem Mk.del {M : Mem} {id : Nat} {e : TypeId} {sz n : Nat} {f : Nat → List PV} (h : look M.blks id = some (.row e sz n f)) : Mk M (M.del id) := ⟨Nat.le_refl _, fun j hj t cs => by
  unfold Mem.del
  dsimp only
  rw [look_delL]
  by_cases e : id = j
  · subst e
    rw [if_pos rfl, h]
    constructor <;> intro h <;> cases h
  · rw [if_neg e], rfl⟩
theorem Mk.frz : ∀ (l : List Nat) (M : Mem), Mk M (M.freezeL l)
  | [], M => Mk.refl M
  | id :: r, M => by
    unfold Mem.freezeL
    split
    · rename_i e sz n f hl
      refine Mk.trans (M' := ⟨setL M.blks id (.frz sz n f), M.nid, M.glob⟩) ⟨Nat.le_refl _, fun j hj t cs => ?_, rfl⟩ (Mk.frz r _)
      dsimp only
      rw [look_setL]
      by_cases e : id = j
      · subst e
        rw [if_pos rfl, hl]
        constructor <;> intro h <;> cases h
      · rw [if_neg e]
    · exact Mk.frz r M
theorem mk_put {st st' : St} {d : Option Nat} {p : PV} {M : Mem} (hm : Mk M st.mem) (h : (st.put d p).run = some st') : Mk M st'.mem := by
  rw [put_mem h]
  exact hm
theorem mk_new {st st' : St} {d : Option Nat} {p : PV} {b : Blk} {M : Mem} (hm : Mk M st.mem) (h : (({ st with mem := st.mem.new b } : St).put d p).run = some st') : Mk M st'.mem := by
  rw [put_mem h]
  exact hm.trans (Mk.new _ _)
theorem mk_del {st st' : St} {d : Option Nat} {p : PV} {b : Blk} {id : Nat} {e : TypeId} {sz n : Nat} {f : Nat → List PV} (hl : look st.mem.blks id = some (.row e sz n f)) (h : (({ st with mem := (st.mem.del id).new b } : St).put d p).run = some st') : Mk st.mem st'.mem := by
  rw [put_mem h]
  exact (Mk.del hl).trans (Mk.new _ _)
theorem mk_br {c : Bool} {x : Tr St} {st' : St} (h : (Tr.br c x .fail).run = some st') : x.run = some st' := by
  cases c with
  | true => exact h
  | false => cases h
theorem mk_app {P : Program} {st st' : St} {o : Oper} (h : (opApp P st o).run = some st') : Mk st.mem st'.mem := by
  unfold opApp at h
  repeat' split at h
  all_goals first
    | (cases h; done)
    | exact mk_new (Mk.refl _) (mk_br h)
    | exact mk_del (by assumption) (mk_br h)
theorem mk_ok {P : Program} {E : Env} {st st' : St} {o : Oper} (hm : isMk o = true) (h : (evOp P E st o).run = some st') : Mk st.mem st'.mem := by
  unfold isMk at hm
  split at hm
  · rename_i t n parts ho
    simp only [evOp, isCall, isMem, ho, opMem, buildRow] at h
    have hp : Mk st.mem (prep st o).mem := by
      simp only [prep, ho]
      exact Mk.frz _ _
    repeat' split at h
    all_goals first
      | (cases h; done)
      | exact mk_new hp h
  · rename_i c ho
    have hc : isCall o = false := by
      unfold isApp at hm
      rw [ho] at hm
      simp only at hm
      unfold isCall
      rw [ho]
      dsimp only
      split at hm
      · rename_i hcal
        rw [hcal]
      · cases hm
    have hmm : isMem o = false := by
      simp only [isMem, ho]
    unfold evOp at h
    rw [hc, hmm, hm] at h
    exact mk_app h
  · cases hm
theorem load_mk {P : Program} {E : Env} {n : Nat} {L : List (Nat × PV)} {M M' : Mem} {o : Oper} {id : Nat} {p : PV} (hc : cellAt ⟨n, L, M⟩ o = some id) (hp : (readOp P E ⟨n, L, M⟩ o).run = some p) (hl : ∀ t cs, look M.blks id = some (.cells t cs) → look M'.blks id = some (.cells t cs)) :
    (readOp P E ⟨n, L, M'⟩ o).run = some p := by
  unfold cellAt at hc
  split at hc
  · rename_i t x ho
    split at hc
    · rename_i id' off hs
      cases hc
      have hv : ∀ (M : Mem), St.val ⟨n, L, M⟩ (.tmp x) = .ptr id off := by
        intro M
        simp only [St.val, hs]
        rfl
      simp only [readOp, isMem, opVal, ho, hv] at hp ⊢
      split at hp
      · rename_i ty cs hlk
        rw [hl _ _ hlk]
        exact hp
      · cases hp
    · cases hc
  · cases hc
def Facts (P : Program) (E : Env) (G : GT) (ops : Array Oper) (n : Nat) (L : List (Nat × PV)) : Mem → List Oper → List (Cls × Mem) → Mem → Prop
  | M, [], [], M' => M' = M
  | M, o :: r, (c, M1) :: l, M' => Fact P E G ops n L M o c M1 ∧ Facts P E G ops n L M1 r l M'
  | _, _, _, _ => False
theorem look_know {st : St} {s : Nat} {b : Bool} (h : look st.slots s = some (.lit (.bool b))) (i : Nat) : look (st.know s b).slots i = look st.slots i := by
  simp only [St.know, look_setL]
  by_cases hi : s = i
  · subst hi
    rw [if_pos rfl, h]
  · rw [if_neg hi]
theorem put_look {st st' : St} {d : Option Nat} {p : PV} (h : (st.put d p).run = some st') : (∀ i, d ≠ some i → look st'.slots i = look st.slots i) ∧ (∀ i, d = some i → i < st.n ∧ look st'.slots i = some p) ∧ st'.n = st.n := by
  cases d with
  | none =>
    simp only [St.put, Tr.run, Option.some.injEq] at h
    subst h
    exact ⟨fun _ _ => rfl, fun i hi => (by cases hi), rfl⟩
  | some d =>
    simp only [St.put] at h
    split at h
    · rename_i hb
      simp only [Tr.run, Option.some.injEq] at h
      subst h
      refine ⟨fun i hi => ?_, fun i hi => ?_, rfl⟩
      · simp only [look_setL]
        rw [if_neg (fun e => hi (by rw [e]))]
      · cases hi
        simp only [look_setL, if_true]
        exact ⟨by simpa [Nat.blt_eq] using hb, trivial⟩
    · cases h
theorem mem_tmps {o : Oper} {ops : Array Oper} {t : Nat} (h : t ∈ tmpsOf o) : t ∈ o.looksAt ops := by
  unfold Oper.looksAt
  exact List.mem_append_left _ h
theorem mem_guard {o : Oper} {ops : Array Oper} {j : Nat} {b : Bool} {s : Nat} (hg : o.guard = some (j, b)) (hs : (ops[j]?).bind (·.dst) = some s) : s ∈ o.looksAt ops := by
  unfold Oper.looksAt
  refine List.mem_append_right _ ?_
  rw [hg]
  dsimp only
  rw [hs]
  simp
theorem evD_facts {P : Program} {E : Env} {G : GT} {ops : Array Oper} : ∀ (l : List Oper) (st st' : St) (info : List (Cls × Mem)), slotsOK ops l = true → (evD P E G ops l st).run = some (st', info) →
    Facts P E G ops st.n st'.slots st.mem l info st'.mem ∧ (∀ t, t ∉ dsts l → look st'.slots t = look st.slots t) ∧ st'.n = st.n
  | [], st, st', info, hs, h => by
    simp only [evD, Tr.run, Option.some.injEq, Prod.mk.injEq] at h
    obtain ⟨rfl, rfl⟩ := h
    exact ⟨rfl, fun _ _ => rfl, rfl⟩
  | o :: r, st, st', info, hs, h => by
    simp only [slotsOK, Bool.and_eq_true, List.all_eq_true] at hs
    obtain ⟨⟨hlook, hd⟩, hsr⟩ := hs
    have hlk : ∀ t, t ∈ o.looksAt ops → t ∉ dsts (o :: r) := by
      intro t ht hc
      have := hlook t ht
      simp only [Bool.not_eq_true', List.contains_eq_mem, decide_eq_false_iff_not] at this
      exact this hc
    have hdr : ∀ d, o.dst = some d → d ∉ dsts r := by
      intro d hdd hc
      rw [hdd] at hd
      simp only [Bool.not_eq_true', List.contains_eq_mem, decide_eq_false_iff_not] at hd
      exact hd hc
    have hdc : ∀ t, t ∉ dsts (o :: r) → t ∉ dsts r ∧ o.dst ≠ some t := by
      intro t ht
      constructor
      · intro hc
        refine ht ?_
        unfold dsts
        rw [List.filterMap_cons]
        cases o.dst with
        | none => exact hc
        | some d => exact List.mem_cons_of_mem _ hc
      · intro hc
        refine ht ?_
        unfold dsts
        rw [List.filterMap_cons, hc]
        exact List.mem_cons_self
    have take : ∀ st0 : St, (∀ i, look st0.slots i = look st.slots i) → st0.mem = st.mem → st0.n = st.n → (o.guard = none ∨ ∃ j b s, o.guard = some (j, b) ∧ (ops[j]?).bind (·.dst) = some s ∧ look st.slots s = some (.lit (.bool b))) →
        ((drawOp P E G st0 o).bind fun x => (({ st0 with mem := x.2.2 } : St).put o.dst x.1).bind fun st1 => (evD P E G ops r st1).bind fun y => .leaf (y.1, x.2 :: y.2)).run = some (st', info) →
        Facts P E G ops st.n st'.slots st.mem (o :: r) info st'.mem ∧ (∀ t, t ∉ dsts (o :: r) → look st'.slots t = look st.slots t) ∧ st'.n = st.n := by
      intro st0 h0 hm0 hn0 hg h
      obtain ⟨⟨p, c, M1⟩, hx, h⟩ := Tr.of_bind h
      obtain ⟨st1, h1, h⟩ := Tr.of_bind h
      obtain ⟨⟨y1, y2⟩, hy, h⟩ := Tr.of_bind h
      simp only [Tr.run, Option.some.injEq, Prod.mk.injEq] at h
      obtain ⟨rfl, rfl⟩ := h
      obtain ⟨pl1, pl2, pl3⟩ := put_look h1
      have pm : st1.mem = M1 := put_mem h1
      dsimp only at pl1 pl2 pl3
      obtain ⟨f1, f2, f3⟩ := evD_facts r st1 _ _ hsr hy
      have hfin : ∀ t, t ∉ dsts (o :: r) → look y1.slots t = look st.slots t := by
        intro t ht
        obtain ⟨a1, a2⟩ := hdc t ht
        rw [f2 t a1, pl1 t a2, h0]
      have hks : keep (tmpsOf o) st0.slots = keep (tmpsOf o) y1.slots := keep_congr fun k hk => by
        rw [h0, hfin k (hlk k (mem_tmps hk))]
      have hdst : ∀ d, o.dst = some d → d < st.n ∧ look y1.slots d = some p := by
        intro d hdd
        obtain ⟨b1, b2⟩ := pl2 d hdd
        rw [hn0] at b1
        rw [f2 d (hdr d hdd)]
        exact ⟨b1, b2⟩
      refine ⟨⟨.inr ⟨?_, p, hdst, ?_⟩, by rw [← hn0, ← pl3, ← pm]; exact f1⟩, hfin, by rw [f3, pl3, hn0]⟩
      · rcases hg with hg | ⟨j, b, s, g1, g2, g3⟩
        · exact .inl hg
        · exact .inr ⟨j, b, s, g1, g2, by rw [hfin s (hlk s (mem_guard g1 g2))]; exact g3⟩
      · unfold drawOp at hx
        split at hx
        · split at hx
          · rename_i hcl
            obtain ⟨q, hq, hx⟩ := Tr.of_bind hx
            simp only [Tr.run, Option.some.injEq, Prod.mk.injEq] at hx
            obtain ⟨rfl, rfl, rfl⟩ := hx
            refine ⟨?_, by rw [← hks]; exact hcl, hm0⟩
            rw [← hq]
            unfold St.bare
            dsimp only
            rw [hks, hn0]
          · cases hx
        · obtain ⟨q, hq, hx⟩ := Tr.of_bind hx
          simp only [Tr.run, Option.some.injEq, Prod.mk.injEq] at hx
          obtain ⟨rfl, rfl, rfl⟩ := hx
          refine ⟨?_, hm0⟩
          rw [← hq]
          unfold St.only
          dsimp only
          rw [hks, hm0, hn0]
        · obtain ⟨q, hq, hx⟩ := Tr.of_bind hx
          split at hx
          · rename_i hst
            simp only [Tr.run, Option.some.injEq, Prod.mk.injEq] at hx
            obtain ⟨rfl, rfl, rfl⟩ := hx
            simp only [Bool.and_eq_true] at hst
            refine ⟨?_, hst, hm0⟩
            rw [← hq, hks, hn0]
          · cases hx
        · obtain ⟨q, hq, hx⟩ := Tr.of_bind hx
          split at hx
          · rename_i id hid
            split at hx
            · rename_i hlt
              simp only [Tr.run, Option.some.injEq, Prod.mk.injEq] at hx
              obtain ⟨rfl, rfl, rfl⟩ := hx
              refine ⟨?_, ⟨id, ?_, by rw [← hm0]; exact (by simpa [Nat.blt_eq] using hlt)⟩, hm0⟩
              · rw [← hq]
                unfold St.only
                dsimp only
                rw [hks, hm0, hn0]
              · rw [← hid]
                unfold St.only
                dsimp only
                rw [hks, hm0, hn0]
            · cases hx
          · cases hx
        · obtain ⟨q, hq, hx⟩ := Tr.of_bind hx
          simp only [Tr.run, Option.some.injEq, Prod.mk.injEq] at hx
          obtain ⟨rfl, rfl, rfl⟩ := hx
          refine ⟨q, ?_, rfl, fun d hdd => by rw [hdd]⟩
          rw [← hq]
          unfold St.only
          dsimp only
          rw [hks, hm0, hn0]
        · split at hx
          · rename_i hmk
            obtain ⟨q, hq, hx⟩ := Tr.of_bind hx
            simp only [Tr.run, Option.some.injEq, Prod.mk.injEq] at hx
            obtain ⟨rfl, rfl, rfl⟩ := hx
            refine ⟨⟨q, ?_, rfl, fun d hdd => by rw [hdd]⟩, hmk⟩
            rw [← hq]
            unfold St.only
            dsimp only
            rw [hks, hm0, hn0]
          · cases hx
    have skip : ∀ st0 : St, (∀ i, look st0.slots i = look st.slots i) → st0.mem = st.mem → st0.n = st.n → (∃ j b s, o.guard = some (j, b) ∧ (ops[j]?).bind (·.dst) = some s ∧ NotSo (look st.slots s) b) →
        ((st0.put o.dst (.lit undef)).bind fun st1 => (evD P E G ops r st1).bind fun y => .leaf (y.1, (Cls.free, st.mem) :: y.2)).run = some (st', info) →
        Facts P E G ops st.n st'.slots st.mem (o :: r) info st'.mem ∧ (∀ t, t ∉ dsts (o :: r) → look st'.slots t = look st.slots t) ∧ st'.n = st.n := by
      intro st0 h0 hm0 hn0 hg h
      obtain ⟨st1, h1, h⟩ := Tr.of_bind h
      obtain ⟨⟨y1, y2⟩, hy, h⟩ := Tr.of_bind h
      simp only [Tr.run, Option.some.injEq, Prod.mk.injEq] at h
      obtain ⟨rfl, rfl⟩ := h
      obtain ⟨pl1, pl2, pl3⟩ := put_look h1
      have pm : st1.mem = st.mem := by rw [put_mem h1, hm0]
      obtain ⟨f1, f2, f3⟩ := evD_facts r st1 _ _ hsr hy
      have hfin : ∀ t, t ∉ dsts (o :: r) → look y1.slots t = look st.slots t := by
        intro t ht
        obtain ⟨a1, a2⟩ := hdc t ht
        rw [f2 t a1, pl1 t a2, h0]
      refine ⟨⟨.inl ⟨?_, rfl, rfl, fun d hdd => ?_⟩, by rw [← hn0, ← pl3, ← pm]; exact f1⟩, hfin, by rw [f3, pl3, hn0]⟩
      · obtain ⟨j, b, s, g1, g2, g3⟩ := hg
        exact ⟨j, b, s, g1, g2, by rw [hfin s (hlk s (mem_guard g1 g2))]; exact g3⟩
      · obtain ⟨b1, b2⟩ := pl2 d hdd
        rw [hn0] at b1
        rw [f2 d (hdr d hdd)]
        exact ⟨b1, b2⟩
    simp only [evD] at h
    split at h
    · rename_i hg
      exact take st (fun _ => rfl) rfl rfl (.inl hg) h
    · rename_i j b hg
      split at h
      · cases h
      · rename_i s hs
        split at h
        · rename_i t hl
          cases t <;> cases b <;> simp only [Tr.run, cond_true, cond_false] at h
          · exact take (st.know s false) (look_know hl) rfl rfl (.inr ⟨j, _, s, hg, hs, hl⟩) h
          · exact skip (st.know s false) (look_know hl) rfl rfl ⟨j, _, s, hg, hs, .inl hl⟩ h
          · exact skip (st.know s true) (look_know hl) rfl rfl ⟨j, _, s, hg, hs, .inl hl⟩ h
          · exact take (st.know s true) (look_know hl) rfl rfl (.inr ⟨j, _, s, hg, hs, hl⟩) h
        · rename_i vs hl
          exact skip st (fun _ => rfl) rfl rfl ⟨j, b, s, hg, hs, .inr ⟨vs, hl⟩⟩ h
        · cases h


/-- what stands in the slots of what has been done -/
def DoneL (ops : Array Oper) (L : List (Nat × PV)) (S : Nat → Prop) (i : Nat) : Prop := ∀ (k : Nat) (o : Oper), ops[k]? = some o → o.dst = some i → S k
structure Part (β : Base) (M00 : Mem) (m0 : Nat → Option Value) (w0 : World) (ops : Array Oper) (n : Nat) (L : List (Nat × PV)) (S : Nat → Prop) (M : Mem) (m : Nat → Option Value) (a : Act) (w : World) : Prop where
  ext : Ext β M00 m0 w0 M m w
  size : a.tmps.size = n
  defers : a.defers = []
  slots : ∀ i p, look L i = some p → DoneL ops L S i → ∃ v, a.tmps[i]? = some v ∧ Rep (Cell β w M m) m p v
  mem : MRel β M m w
def Cls.wr (c : Cls) : Prop := c = .write ∨ c = .make
def wrI (info : List (Cls × Mem)) (k : Nat) : Prop := ∃ c M, info[k]? = some (c, M) ∧ c.wr
def memAt (M0 : Mem) (info : List (Cls × Mem)) : Nat → Mem
  | 0 => M0
  | k + 1 => match info[k]? with
    | some x => x.2
    | none => M0
/-- which pairs are to be in order -/
def pairOK : Cls → Cls → Bool → Bool
  | .write, .write, b => b
  | .write, .make, b => b
  | .make, .write, b => b
  | .make, .make, b => b
  | .write, .read, b => b
  | .make, .read, b => b
  | .read, .write, b => b
  | .read, .make, b => b
  | .cell, .write, b => b
  | .write, .cell, b => b
  | _, _, _ => true
def ordRow (m : Nat) (c : Cls) : Nat → List (Cls × Mem) → Bool
  | _, [] => true
  | i, (c', _) :: r => pairOK c' c (m.testBit i) && ordRow m c (i + 1) r
def ordOK : List Nat → List (Cls × Mem) → List (Cls × Mem) → Bool
  | [], [], _ => true
  | m :: ms, x :: l, pre => ordRow m x.1 0 pre && ordOK ms l (pre ++ [x])
  | _, _, _ => false
theorem ordRow_ok {m : Nat} {c : Cls} : ∀ (l : List (Cls × Mem)) (i : Nat), ordRow m c i l = true → ∀ k c' M, l[k]? = some (c', M) → pairOK c' c (m.testBit (i + k)) = true
  | [], i, h, k, c', M, hk => by simp at hk
  | (c1, M1) :: r, i, h, 0, c', M, hk => by
    simp only [ordRow, Bool.and_eq_true] at h
    simp only [List.getElem?_cons_zero, Option.some.injEq, Prod.mk.injEq] at hk
    obtain ⟨rfl, rfl⟩ := hk
    exact h.1
  | (c1, M1) :: r, i, h, k + 1, c', M, hk => by
    simp only [ordRow, Bool.and_eq_true] at h
    have := ordRow_ok r (i + 1) h.2 k c' M (by simpa using hk)
    rw [show i + (k + 1) = i + 1 + k from by omega]
    exact this
theorem ordOK_ok : ∀ (ms : List Nat) (l pre : List (Cls × Mem)), ordOK ms l pre = true → ∀ i j c c' M M', i < pre.length + j → (pre ++ l)[i]? = some (c, M) → l[j]? = some (c', M') → pairOK c c' ((ms.getD j 0).testBit i) = true
  | [], [], pre, h, i, j, c, c', M, M', hij, hi, hj => by simp at hj
  | [], _ :: _, pre, h, i, j, c, c', M, M', hij, hi, hj => by cases h
  | _ :: _, [], pre, h, i, j, c, c', M, M', hij, hi, hj => by cases h
  | m :: ms, x :: l, pre, h, i, 0, c, c', M, M', hij, hi, hj => by
    simp only [ordOK, Bool.and_eq_true] at h
    simp only [List.getElem?_cons_zero, Option.some.injEq] at hj
    subst hj
    rw [List.getElem?_append_left (by simpa using hij)] at hi
    have := ordRow_ok pre 0 h.1 i c M hi
    simpa using this
  | m :: ms, x :: l, pre, h, i, j + 1, c, c', M, M', hij, hi, hj => by
    simp only [ordOK, Bool.and_eq_true] at h
    have := ordOK_ok ms l (pre ++ [x]) h.2 i j c c' M M' (by simp; omega) (by simpa using hi) (by simpa using hj)
    simpa using this
/-- operands are written ahead -/
def dataRow (t : Nat) (m : Nat) : Nat → List Oper → Bool
  | _, [] => true
  | i, o :: r => (match o.dst with
    | some d => !(Nat.beq d t) || m.testBit i
    | none => true) && dataRow t m (i + 1) r
def dataOK (ops : Array Oper) : List Oper → List Nat → List Oper → Bool
  | [], [], _ => true
  | o :: r, m :: ms, pre => (o.looksAt ops).all (fun t => dataRow t m 0 pre) && (o.after.toList.all fun e => !Region.binds .any e || Nat.blt e.on pre.length) && dataOK ops r ms (pre ++ [o])
  | _, _, _ => false
theorem dataRow_ok {t m : Nat} : ∀ (l : List Oper) (i : Nat), dataRow t m i l = true → ∀ k o, l[k]? = some o → o.dst = some t → m.testBit (i + k) = true
  | [], i, h, k, o, hk, hd => by simp at hk
  | o1 :: r, i, h, 0, o, hk, hd => by
    simp only [dataRow, Bool.and_eq_true] at h
    simp only [List.getElem?_cons_zero, Option.some.injEq] at hk
    subst hk
    rw [hd] at h
    simpa using h.1
  | o1 :: r, i, h, k + 1, o, hk, hd => by
    simp only [dataRow, Bool.and_eq_true] at h
    have := dataRow_ok r (i + 1) h.2 k o (by simpa using hk) hd
    rw [show i + (k + 1) = i + 1 + k from by omega]
    exact this
theorem dataOK_ok {ops : Array Oper} : ∀ (l : List Oper) (ms : List Nat) (pre : List Oper), dataOK ops l ms pre = true → ∀ j o, l[j]? = some o →
    (∀ t ∈ o.looksAt ops, ∀ i o', i < pre.length + j → (pre ++ l)[i]? = some o' → o'.dst = some t → (ms.getD j 0).testBit i = true) ∧ (∀ e ∈ o.after.toList, Region.binds .any e = true → e.on < pre.length + j)
  | [], ms, pre, h, j, o, hj => by simp at hj
  | o1 :: r, [], pre, h, j, o, hj => by cases h
  | o1 :: r, m :: ms, pre, h, 0, o, hj => by
    simp only [dataOK, Bool.and_eq_true, List.all_eq_true] at h
    simp only [List.getElem?_cons_zero, Option.some.injEq] at hj
    subst hj
    refine ⟨fun t ht i o' hi ho' hd => ?_, fun e he hb => ?_⟩
    · rw [List.getElem?_append_left (by simpa using hi)] at ho'
      have := dataRow_ok pre 0 (h.1.1 t ht) i o' ho' hd
      simpa using this
    · have := h.1.2 e he
      rw [hb] at this
      simpa [Nat.blt_eq] using this
  | o1 :: r, m :: ms, pre, h, j + 1, o, hj => by
    simp only [dataOK, Bool.and_eq_true] at h
    obtain ⟨a1, a2⟩ := dataOK_ok r ms (pre ++ [o1]) h.2 j o (by simpa using hj)
    refine ⟨fun t ht i o' hi ho' hd => ?_, fun e he hb => ?_⟩
    · have := a1 t ht i o' (by simp; omega) (by simpa using ho') hd
      simpa using this
    · have := a2 e he hb
      simp at this
      omega
theorem facts_at {P : Program} {E : Env} {G : GT} {ops : Array Oper} {n : Nat} {L : List (Nat × PV)} : ∀ (l : List Oper) (info : List (Cls × Mem)) (M0 M' : Mem), Facts P E G ops n L M0 l info M' → info.length = l.length ∧ M' = memAt M0 info l.length ∧
    ∀ (k : Nat) (o : Oper), l[k]? = some o → ∃ c, info[k]? = some (c, memAt M0 info (k + 1)) ∧ Fact P E G ops n L (memAt M0 info k) o c (memAt M0 info (k + 1))
  | [], [], M0, M', h => ⟨rfl, h, fun k o hk => by simp at hk⟩
  | [], _ :: _, M0, M', h => by cases h
  | _ :: _, [], M0, M', h => by cases h
  | o :: r, (c, M1) :: l, M0, M', h => by
    obtain ⟨h1, h2⟩ := h
    obtain ⟨f1, f2, f3⟩ := facts_at r l M1 M' h2
    have hm : ∀ k, k ≤ r.length → memAt M0 ((c, M1) :: l) (k + 1) = memAt M1 l k := by
      intro k hk
      cases k with
      | zero => rfl
      | succ k =>
        simp only [memAt, List.getElem?_cons_succ]
        have : k < l.length := by omega
        rw [List.getElem?_eq_getElem this]
    refine ⟨by simp [f1], ?_, fun k o' hk => ?_⟩
    · rw [List.length_cons, hm _ (Nat.le_refl _)]
      exact f2
    · cases k with
      | zero =>
        simp only [List.getElem?_cons_zero, Option.some.injEq] at hk
        subst hk
        exact ⟨c, rfl, h1⟩
      | succ k =>
        obtain ⟨c', g1, g2⟩ := f3 k o' (by simpa using hk)
        have hkl : k < r.length := (List.getElem?_eq_some_iff.1 (by simpa using hk : r[k]? = some o')).1
        refine ⟨c', ?_, ?_⟩
        · rw [List.getElem?_cons_succ, g1, hm (k + 1) (by omega)]
        · rw [hm k (by omega), hm (k + 1) (by omega)]
          exact g2
theorem fact_mem {P : Program} {E : Env} {G : GT} {ops : Array Oper} {n : Nat} {L : List (Nat × PV)} {M M' : Mem} {o : Oper} {c : Cls} (h : Fact P E G ops n L M o c M') (hc : ¬ c.wr) : M' = M := by
  rcases h with ⟨_, h, _⟩ | ⟨_, p, _, h⟩
  · exact h
  · cases c with
    | free => exact h.2.2
    | read => exact h.2
    | still => exact h.2.2
    | cell => exact h.2.2
    | write => exact absurd (.inl rfl) hc
    | make => exact absurd (.inr rfl) hc
theorem fact_mk {P : Program} {E : Env} {G : GT} {ops : Array Oper} {n : Nat} {L : List (Nat × PV)} {M M' : Mem} {o : Oper} {c : Cls} (h : Fact P E G ops n L M o c M') (hc : c ≠ .write) : Mk M M' := by
  by_cases hw : c.wr
  · rcases hw with rfl | rfl
    · exact absurd rfl hc
    · rcases h with ⟨_, h, _⟩ | ⟨_, p, _, ⟨st1, h1, h2, _⟩, hm⟩
      · rw [h]
        exact Mk.refl M
      · rw [← h2]
        exact mk_ok hm h1
  · rw [fact_mem h hw]
    exact Mk.refl M

theorem look_keep_mem {ks : List Nat} {l : List (Nat × PV)} {k : Nat} (h : k ∈ ks) : look (keep ks l) k = look l k := by
  induction ks with
  | nil => cases h
  | cons j ks ih =>
    unfold keep at ih ⊢
    rw [List.filterMap_cons]
    cases hj : look l j with
    | none =>
      dsimp only [Option.map_none]
      by_cases e : k = j
      · subst e
        rw [hj]
        cases hx : look (List.filterMap (fun k => Option.map (fun p => (k, p)) (look l k)) ks) k with
        | none => rfl
        | some p =>
          have := look_keep l ks k p hx
          rw [hj] at this
          cases this
      · exact ih ((List.mem_cons.1 h).resolve_left e)
    | some q =>
      dsimp only [Option.map_some]
      rw [look_cons]
      by_cases e : j = k
      · subst e
        rw [if_pos rfl, hj]
      · rw [if_neg e]
        exact ih ((List.mem_cons.1 h).resolve_left fun h => e h.symm)
theorem mem_keep {ks : List Nat} {l : List (Nat × PV)} {k : Nat} {p : PV} (h : look (keep ks l) k = some p) : k ∈ ks := by
  induction ks with
  | nil => cases h
  | cons j ks ih =>
    unfold keep at ih h
    rw [List.filterMap_cons] at h
    cases hj : look l j with
    | none =>
      rw [hj] at h
      exact List.mem_cons_of_mem _ (ih h)
    | some q =>
      rw [hj] at h
      dsimp only [Option.map_some] at h
      rw [look_cons] at h
      by_cases e : j = k
      · subst e
        exact List.mem_cons_self
      · rw [if_neg e] at h
        exact List.mem_cons_of_mem _ (ih h)
theorem keep_clos {ks : List Nat} {l : List (Nat × PV)} (h : PV.closL ((keep ks l).map (·.2)) = true) {k : Nat} {p : PV} (hk : look (keep ks l) k = some p) : p.clos = true := by
  have : ∀ (l : List (Nat × PV)), PV.closL (l.map (·.2)) = true → look l k = some p → p.clos = true := by
    intro l
    induction l with
    | nil => intro _ h; cases h
    | cons x r ih =>
      obtain ⟨j, q⟩ := x
      intro h hl
      simp only [List.map_cons, PV.closL, Bool.and_eq_true] at h
      rw [look_cons] at hl
      by_cases e : j = k
      · rw [if_pos e] at hl
        cases hl
        exact h.1
      · rw [if_neg e] at hl
        exact ih h.2 hl
  exact this _ h hk

section
variable {P : Program} {E : Env} {β : Base} {G : GT} {ops : Array Oper} {n : Nat} {L : List (Nat × PV)} {M0 : Mem} {info : List (Cls × Mem)}
/-- the ways of what has been done: closed under what comes ahead -/
structure Down (ops : Array Oper) (S : Nat → Prop) : Prop where
  down : ∀ (k : Nat) (o : Oper), ops[k]? = some o → S k → ∀ e ∈ o.after.toList, Region.binds .any e = true → S e.on
theorem info_len (hord : ordOK (masks ops.toList []) info [] = true) : info.length = ops.size := by
  have h1 : ∀ (ms : List Nat) (l pre : List (Cls × Mem)), ordOK ms l pre = true → ms.length = l.length := by
    intro ms
    induction ms with
    | nil =>
      intro l pre h
      cases l with
      | nil => rfl
      | cons => cases h
    | cons m ms ih =>
      intro l pre h
      cases l with
      | nil => cases h
      | cons x l =>
        simp only [ordOK, Bool.and_eq_true] at h
        simp [ih l _ h.2]
  have h2 : ∀ (l : List Oper) (acc : List Nat), (masks l acc).length = acc.length + l.length := by
    intro l
    induction l with
    | nil => intro acc; simp [masks]
    | cons x l ih => intro acc; simp [masks, ih]; omega
  rw [← h1 _ _ _ hord, h2]
  simp
theorem mem_const (hf : ∀ (k : Nat) (o : Oper), ops[k]? = some o → ∃ c, info[k]? = some (c, memAt M0 info (k + 1)) ∧ Fact P E G ops n L (memAt M0 info k) o c (memAt M0 info (k + 1))) :
    ∀ (x y : Nat), x ≤ y → y ≤ ops.size → (∀ i, x ≤ i → i < y → ¬ wrI info i) → memAt M0 info y = memAt M0 info x := by
  intro x y hxy hy hno
  induction y with
  | zero =>
    have : x = 0 := by omega
    rw [this]
  | succ y ih =>
    rcases Nat.lt_or_ge y x with h | h
    · have : x = y + 1 := by omega
      rw [this]
    · have hy' : y < ops.size := by omega
      obtain ⟨c', g1, g2⟩ := hf y _ (Array.getElem?_eq_getElem hy')
      have hne : ¬ c'.wr := fun hw => hno y h (by omega) ⟨_, _, g1, hw⟩
      rw [fact_mem g2 hne]
      exact ih h (by omega) fun i h1 h2 => hno i h1 (by omega)
theorem mem_mk (hf : ∀ (k : Nat) (o : Oper), ops[k]? = some o → ∃ c, info[k]? = some (c, memAt M0 info (k + 1)) ∧ Fact P E G ops n L (memAt M0 info k) o c (memAt M0 info (k + 1))) :
    ∀ (x y : Nat), x ≤ y → y ≤ ops.size → (∀ i M, x ≤ i → i < y → info[i]? ≠ some (.write, M)) → Mk (memAt M0 info x) (memAt M0 info y) := by
  intro x y hxy hy hno
  induction y with
  | zero =>
    have : x = 0 := by omega
    rw [this]
    exact Mk.refl _
  | succ y ih =>
    rcases Nat.lt_or_ge y x with h | h
    · have : x = y + 1 := by omega
      rw [this]
      exact Mk.refl _
    · have hy' : y < ops.size := by omega
      obtain ⟨c', g1, g2⟩ := hf y _ (Array.getElem?_eq_getElem hy')
      have hne : c' ≠ .write := by
        rintro rfl
        exact hno y _ h (by omega) g1
      exact (ih h (by omega) fun i M h1 h2 => hno i M h1 (by omega)).trans (fact_mk g2 hne)
theorem put_other {a : Act} {d : Option Nat} {v : Value} {i : Nat} (h : d ≠ some i) : (a.put d v).tmps[i]? = a.tmps[i]? := by
  cases d with
  | none => rfl
  | some d =>
    simp only [Act.put]
    rw [Array.getElem?_setIfInBounds_ne (fun e => h (by rw [e]))]
theorem put_same {a : Act} {d : Nat} {v : Value} (h : d < a.tmps.size) : (a.put (some d) v).tmps[d]? = some v := by
  simp [Act.put, h]
theorem put_size {a : Act} {d : Option Nat} {v : Value} : (a.put d v).tmps.size = a.tmps.size := by
  cases d <;> simp [Act.put]
theorem put_defers' {a : Act} {d : Option Nat} {v : Value} : (a.put d v).defers = a.defers := by
  cases d <;> rfl
variable {M00 : Mem} {m0 : Nat → Option Value} {w0 : World}
theorem draw_step (hE : E.ok P β.G) (hG : G = β.G) (hf : ∀ (k : Nat) (o : Oper), ops[k]? = some o → ∃ c, info[k]? = some (c, memAt M0 info (k + 1)) ∧ Fact P E G ops n L (memAt M0 info k) o c (memAt M0 info (k + 1)))
    (hord : ordOK (masks ops.toList []) info [] = true) (hdata : dataOK ops ops.toList (masks ops.toList []) [] = true) (hslots : slotsOK ops ops.toList = true)
    {Q : Exit → Act → World → Prop} {S : Nat → Prop} (hS : Down ops S) {j : Nat} (hjs : j ≤ ops.size) (hj : (∀ i, i < j → wrI info i → S i) ∧ ∀ i, j ≤ i → wrI info i → ¬ S i) {m : Nat → Option Value} {a : Act} {w : World} (hp : Part β M00 m0 w0 ops n L S (memAt M0 info j) m a w)
    {k : Nat} {o : Oper} (hk : ops[k]? = some o) (hnS : ¬ S k) (hready : ∀ e ∈ o.after.toList, Region.binds .any e = true → S e.on) {K : Act → World → Prop}
    (hK : ∀ j' m' a' w', j' ≤ ops.size → ((∀ i, i < j' → wrI info i → S i ∨ i = k) ∧ ∀ i, j' ≤ i → wrI info i → ¬ (S i ∨ i = k)) → Part β M00 m0 w0 ops n L (fun i => S i ∨ i = k) (memAt M0 info j') m' a' w' → K a' w') : wpOp P ops Q k K a w := by
  have hkl : k < ops.toList.length := by simpa using (Array.getElem?_eq_some_iff.1 hk).1
  have hks : k < ops.size := by simpa using hkl
  have hkL : ops.toList[k]? = some o := by simpa using hk
  have hanc : ∀ i, ((masks ops.toList []).getD k 0).testBit i = true → S i := fun i hi =>
    masks_ok (ops := ops.toList) (S := S) (fun k o ho hs => hS.down k o (by simpa using ho) hs) ops.toList [] [] rfl rfl (fun k o _ hk => by simp at hk) k o hkL hready i hi
  have hanc' : ∀ i oi, ops[i]? = some oi → S i → ∀ i', ((masks ops.toList []).getD i 0).testBit i' = true → S i' := fun i oi hoi hsi i' hi' =>
    masks_ok (ops := ops.toList) (S := S) (fun k o ho hs => hS.down k o (by simpa using ho) hs) ops.toList [] [] rfl rfl (fun k o _ hk => by simp at hk) i oi (by simpa using hoi) (hS.down i oi hoi hsi) i' hi'
  obtain ⟨c, hc, hfact⟩ := hf k o hk
  have hdone : ∀ t ∈ o.looksAt ops, DoneL ops L S t := by
    intro t ht k' o' hk' hd'
    obtain ⟨d1, d2⟩ := dataOK_ok ops.toList _ [] hdata k o hkL
    rcases Nat.lt_or_ge k' k with hlt | hge
    · exact hanc _ (d1 t ht k' o' (by simpa using hlt) (by simpa using hk') hd')
    · exfalso
      have : ∀ (l : List Oper) (i i' : Nat) (x y : Oper), slotsOK ops l = true → l[i]? = some x → l[i']? = some y → i ≤ i' → y.dst = some t → t ∉ x.looksAt ops := by
        intro l
        induction l with
        | nil => intro i i' x y _ hx; simp at hx
        | cons z r ih =>
          intro i i' x y hs hx hy hii hdy
          simp only [slotsOK, Bool.and_eq_true, List.all_eq_true] at hs
          cases i with
          | zero =>
            simp only [List.getElem?_cons_zero, Option.some.injEq] at hx
            subst hx
            intro hc
            have := hs.1.1 t hc
            simp only [Bool.not_eq_true', List.contains_eq_mem, decide_eq_false_iff_not] at this
            exact this (List.mem_filterMap.2 ⟨y, List.mem_of_getElem? hy, hdy⟩)
          | succ i =>
            cases i' with
            | zero => omega
            | succ i' => exact ih i i' x y hs.2 (by simpa using hx) (by simpa using hy) (by omega) hdy
      exact this ops.toList k k' o o' hslots hkL (by simpa using hk') hge hd' ht
  have hlen := info_len hord
  have hinfo : ∀ i, wrI info i → i < ops.size := by
    rintro i ⟨_, M, hM, _⟩
    have := (List.getElem?_eq_some_iff.1 hM).1
    omega
  have before : (c = .read ∨ c.wr) → ∀ i, i < k → wrI info i → S i := by
    rintro hcf i hik ⟨c', M, hM, hw'⟩
    have := ordOK_ok _ _ _ hord i k c' c M _ (by simpa using hik) (by simpa using hM) hc
    refine hanc i ?_
    rcases hw' with rfl | rfl <;> rcases hcf with rfl | rfl | rfl <;> exact this
  have behind : (c = .read ∨ c.wr) → ∀ i, k < i → wrI info i → ¬ S i := by
    rintro hcf i hik ⟨c', M, hM, hw'⟩ hsi
    have := ordOK_ok _ _ _ hord k i c c' _ M (by simpa using hik) (by simpa using hc) hM
    have hbit : ((masks ops.toList []).getD i 0).testBit k = true := by
      rcases hw' with rfl | rfl <;> rcases hcf with rfl | rfl | rfl <;> exact this
    exact hnS (hanc' i _ (Array.getElem?_eq_getElem (hinfo i ⟨_, M, hM, hw'⟩)) hsi k hbit)
  have hmk : c = .cell → ∀ id, id < (memAt M0 info j).nid → id < (memAt M0 info k).nid → (∀ t cs, look (memAt M0 info k).blks id = some (.cells t cs) → look (memAt M0 info j).blks id = some (.cells t cs)) ∧ (memAt M0 info j).glob = (memAt M0 info k).glob := by
    rintro rfl id hid hid'
    suffices hs : Mk (memAt M0 info j) (memAt M0 info k) ∨ Mk (memAt M0 info k) (memAt M0 info j) by
      rcases hs with hs | hs
      · exact ⟨fun t cs hl => (hs.2 id hid t cs).2 hl, hs.3.symm⟩
      · exact ⟨fun t cs hl => (hs.2 id hid' t cs).1 hl, hs.3⟩
    rcases Nat.le_total j k with h | h
    · refine .inl (mem_mk hf j k h (by omega) fun i M h1 h2 hM => ?_)
      have := ordOK_ok _ _ _ hord i k .write .cell M _ (by simpa using h2) (by simpa using hM) hc
      exact hj.2 i h1 ⟨_, _, hM, .inl rfl⟩ (hanc i this)
    · refine .inr (mem_mk hf k j h hjs fun i M h1 h2 hM => ?_)
      have hsi := hj.1 i h2 ⟨_, _, hM, .inl rfl⟩
      rcases Nat.eq_or_lt_of_le h1 with rfl | h1
      · exact hnS hsi
      · have := ordOK_ok _ _ _ hord k i .cell .write _ M (by simpa using h1) (by simpa using hc) hM
        exact hnS (hanc' i _ (Array.getElem?_eq_getElem (hinfo i ⟨_, M, hM, .inl rfl⟩)) hsi k this)
  have hmemk : (c = .read ∨ c.wr) → memAt M0 info j = memAt M0 info k := by
    intro hcf
    rcases Nat.le_total j k with h | h
    · exact (mem_const hf j k h (by omega) fun i h1 h2 hw => hj.2 i h1 hw (before hcf i h2 hw)).symm
    · refine mem_const hf k j h hjs fun i h1 h2 hw => ?_
      have hsi := hj.1 i h2 hw
      rcases Nat.eq_or_lt_of_le h1 with rfl | h1
      · exact hnS hsi
      · exact behind hcf i h1 hw hsi
  -- the slots behind it
  have hdl : ∀ i, o.dst ≠ some i → DoneL ops L (fun i => S i ∨ i = k) i → DoneL ops L S i := by
    intro i hi hd k' o' hk' hd'
    rcases hd k' o' hk' hd' with h | rfl
    · exact h
    · rw [hk] at hk'
      cases hk'
      exact absurd hd' hi
  have quiet : ¬ c.wr → ∀ v w' p, (∀ d, o.dst = some d → d < n ∧ look L d = some p) → Keeps (· < w.heap.size) w w' → Rep (Cell β w' (memAt M0 info j) m) m p v → K (a.put o.dst v) w' := by
    intro hcw v w' p hd hkp hr
    obtain ⟨hM, hE'⟩ := hp.mem.keep hkp
    refine hK j m _ w' hjs ⟨fun i hi hw => .inl (hj.1 i hi hw), fun i hi hw => ?_⟩ ⟨hp.ext.trans hE', by rw [put_size]; exact hp.size, by rw [put_defers']; exact hp.defers, fun i q hq hdn => ?_, hM⟩
    · rintro (h | rfl)
      · exact hj.2 i hi hw h
      · obtain ⟨c', M, hM', hw'⟩ := hw
        rw [hc] at hM'
        cases hM'
        exact hcw hw'
    · by_cases hi : o.dst = some i
      · obtain ⟨h1, h2⟩ := hd i hi
        rw [hq] at h2
        cases h2
        rw [hi]
        exact ⟨v, put_same (by rw [hp.size]; exact h1), hr⟩
      · rw [put_other hi]
        obtain ⟨u, hu, hru⟩ := hp.slots i q hq (hdl i hi hdn)
        exact ⟨u, hu, hru.ext hE'⟩
  have guardVal : ∀ jj b s t, o.guard = some (jj, b) → (ops[jj]?).bind (·.dst) = some s → look L s = some (.lit (.bool t)) → yielded ops a.tmps jj = some t := by
    intro jj b s t hg hs hl
    obtain ⟨v, hv, hr⟩ := hp.slots s _ hl (hdone s (mem_guard hg hs))
    have := litOf_rep hr rfl
    subst this
    unfold yielded
    rw [hs]
    simp [hv]
  have hrelAt : Rel β ⟨n, keep (tmpsOf o) L, memAt M0 info j⟩ m a w :=
    ⟨hp.size, hp.defers, fun i q hq => hp.slots i q (look_keep _ _ _ _ hq) (hdone i (mem_tmps (mem_keep hq))), hp.mem⟩
  have wrote : c.wr → ∀ st1 p, (∀ d, o.dst = some d → d < n ∧ look L d = some p) → (evOp P E (St.only ⟨n, L, memAt M0 info k⟩ (tmpsOf o)) o).run = some st1 → st1.mem = memAt M0 info (k + 1) → (∀ d, o.dst = some d → p = match look st1.slots d with
      | some p => p
      | none => .junk) → o.wp P a w K Q := by
      intro hcw st1 p hd hst1 hM1 hdp
      have hmm := hmemk (.inr hcw)
      refine evOp_ok hE hrelAt (st' := st1) (by rw [← hst1, hmm]; rfl) fun m' v w' hext hrel => ?_
      refine hK (k + 1) m' _ w' (by omega) ⟨fun i hi hw => ?_, fun i hi hw => ?_⟩ ⟨?_, by rw [put_size]; exact hp.size, by rw [put_defers']; exact hp.defers, fun i q hq hdn => ?_, ?_⟩
      · rcases Nat.lt_or_ge i k with h | h
        · exact .inl (before (.inr hcw) i h hw)
        · exact .inr (by omega)
      · rintro (h | rfl)
        · exact behind (.inr hcw) i (by omega) hw h
        · omega
      · rw [← hM1]
        exact hp.ext.trans hext
      · rw [← hM1]
        by_cases hi : o.dst = some i
        · obtain ⟨h1, h2⟩ := hd i hi
          rw [hq] at h2
          cases h2
          have := hdp i hi
          cases hx : look st1.slots i with
          | none =>
            rw [hx] at this
            dsimp only at this
            subst this
            rw [hi]
            exact ⟨v, put_same (by rw [hp.size]; exact h1), .junk _ _⟩
          | some q' =>
            rw [hx] at this
            dsimp only at this
            subst this
            exact hrel.slots i _ hx
        · rw [put_other hi]
          obtain ⟨u, hu, hru⟩ := hp.slots i q hq (hdl i hi hdn)
          exact ⟨u, hu, hru.ext hext⟩
      · rw [← hM1]
        exact hrel.mem
  unfold wpOp
  rw [hk]
  dsimp only
  rcases hfact with ⟨⟨jj, b, s, hg, hs, hl⟩, hM, rfl, hd⟩ | ⟨hg, p, hd, hcls⟩
  · have hw : Region.wanted o (yielded ops a.tmps) = false := by
      rcases hl with hl | ⟨vs, hl⟩
      · have hy := guardVal jj b s (!b) hg hs hl
        unfold Region.wanted
        rw [hg]
        dsimp only
        rw [hy]
        cases b <;> rfl
      · obtain ⟨v, hv, hr⟩ := hp.slots s _ hl (hdone s (mem_guard hg hs))
        have := litOf_rep hr rfl
        subst this
        unfold Region.wanted
        rw [hg]
        dsimp only
        unfold yielded
        rw [hs]
        cases b <;> simp [hv]
    rw [hw]
    simp only [Bool.false_eq_true, if_false]
    exact quiet (by simp [Cls.wr]) undef w (.lit undef) hd (Keeps.refl _ _) (.lit _ _)
  · have hw : Region.wanted o (yielded ops a.tmps) = true := by
      rcases hg with hg | ⟨jj, b, s, hg, hs, hl⟩
      · unfold Region.wanted
        rw [hg]
      · have hy := guardVal jj b s b hg hs hl
        unfold Region.wanted
        rw [hg]
        dsimp only
        rw [hy]
        cases b <;> rfl
    rw [if_pos hw]
    left
    have hidem : keep (tmpsOf o) (keep (tmpsOf o) L) = keep (tmpsOf o) L := keep_congr fun k hk => look_keep_mem hk
    cases c with
    | free =>
      obtain ⟨hfr, hcl, hM⟩ := hcls
      have hgl : (memAt M0 info j).glob = G := by rw [hG]; exact hp.mem.gl
      refine freeOp_ok (p := p) (ks := tmpsOf o) hE hrelAt (fun k hk q hq => keep_clos hcl hq) ?_ fun v w' hkp hr => quiet (by simp [Cls.wr]) v w' p hd hkp hr
      rw [← hfr]
      unfold St.bare
      dsimp only
      rw [hidem, hgl]
    | still =>
      obtain ⟨hrd, ⟨hst, hpo⟩, hM⟩ := hcls
      have hgl : (memAt M0 info j).glob = G := by rw [hG]; exact hp.mem.gl
      have hrel0 : Rel β ⟨n, keep (tmpsOf o) L, (memAt M0 info j).drop⟩ m a w :=
        ⟨hrelAt.size, hrelAt.defers, fun i q hq => let ⟨v, hv, hr⟩ := hrelAt.slots i q hq; ⟨v, hv, hr.ext (MRel.drop hp.mem).2⟩, (MRel.drop hp.mem).1⟩
      refine readOp_ok (p := p) hE hrel0 ?_ fun v w' hkp hr => quiet (by simp [Cls.wr]) v w' p hd hkp (hr.ptrO hpo)
      rw [← hrd]
      unfold Mem.drop
      rw [hgl]
      exact congrArg Tr.run (still_nid hst)
    | read =>
      obtain ⟨hrd, hM⟩ := hcls
      have hmm := hmemk (.inl rfl)
      refine readOp_ok (p := p) hE hrelAt ?_ fun v w' hkp hr => quiet (by simp [Cls.wr]) v w' p hd hkp hr
      rw [← hrd, hmm]
      rfl
    | cell =>
      obtain ⟨hrd, ⟨id, hid, hlt⟩, hM⟩ := hcls
      have hlt' : id < (memAt M0 info j).nid := by
        have hid' := hid
        unfold cellAt at hid'
        split at hid'
        · rename_i t x ho
          split at hid'
          · rename_i id' off hv
            cases hid'
            obtain ⟨u, hu, hr⟩ := hrelAt.slots x _ hv
            cases hr with
            | ptr _ _ _ b hm => exact hp.mem.lt hm
          · cases hid'
        · cases hid'
      refine readOp_ok (p := p) hE hrelAt (load_mk hid hrd (hmk rfl id hlt' hlt).1) fun v w' hkp hr => quiet (by simp [Cls.wr]) v w' p hd hkp hr
    | write =>
      obtain ⟨st1, hst1, hM1, hdp⟩ := hcls
      exact wrote (.inl rfl) st1 p hd hst1 hM1 hdp
    | make =>
      obtain ⟨⟨st1, hst1, hM1, hdp⟩, _⟩ := hcls
      exact wrote (.inr rfl) st1 p hd hst1 hM1 hdp
end

/-- a region in any order -/
def evDraw (P : Program) (E : Env) (ops : Array Oper) (st : St) : Tr St := match slotsOK ops ops.toList && dataOK ops ops.toList (masks ops.toList []) [] with
  | true => (evD P E st.mem.glob ops ops.toList st).bind fun y => match ordOK (masks ops.toList []) y.2 [] with
    | true => .leaf y.1
    | false => .fail
  | false => .fail
theorem evDraw_ok {P : Program} {E : Env} {β : Base} (hE : E.ok P β.G) (hmo : P.follows .mixedOrders = true) {ops : Array Oper} {st st' : St} {m : Nat → Option Value} {a : Act} {w : World} (h : Rel β st m a w) (hp : (evDraw P E ops st).run = some st') {id : Nat} {Q : Exit → Act → World → Prop}
    (hQ : ∀ m' a' w', Ext β st.mem m w st'.mem m' w' → Rel β st' m' a' w' → Q .normal a' w') : (Code.region id ops true).wp P Q a w := by
  unfold evDraw at hp
  split at hp
  · rename_i hc
    simp only [Bool.and_eq_true] at hc
    obtain ⟨hslots, hdata⟩ := hc
    obtain ⟨⟨y1, info⟩, hy, hp⟩ := Tr.of_bind hp
    split at hp
    · rename_i hord
      simp only [Tr.run, Option.some.injEq] at hp
      subst hp
      dsimp only at hord
      obtain ⟨f1, f2, f3⟩ := evD_facts ops.toList st y1 info hslots hy
      obtain ⟨g1, g2, g3⟩ := facts_at ops.toList info st.mem y1.mem f1
      have hf : ∀ (k : Nat) (o : Oper), ops[k]? = some o → ∃ c, info[k]? = some (c, memAt st.mem info (k + 1)) ∧ Fact P E st.mem.glob ops st.n y1.slots (memAt st.mem info k) o c (memAt st.mem info (k + 1)) := fun k o hk => g3 k o (by simpa using hk)
      have hlen := info_len hord
      refine wp_region_any hmo ?_
      have hk0 : Keeps (· < w.heap.size) w { w with drawn := w.drawn + 1 } := ⟨rfl, rfl, rfl, Nat.le_refl _, fun _ _ => rfl⟩
      obtain ⟨hM0, hE0⟩ := h.mem.keep hk0
      have main : ∀ (fuel : Nat) (listed : Array Bool) (j : Nat) (m' : Nat → Option Value) (a' : Act) (w' : World), listed.size = ops.size → listed.toList.count false = fuel → Down ops (fun k => listed.getD k false = true) → j ≤ ops.size →
          ((∀ i, i < j → wrI info i → listed.getD i false = true) ∧ ∀ i, j ≤ i → wrI info i → ¬ listed.getD i false = true) → Part β st.mem m w ops st.n y1.slots (fun k => listed.getD k false = true) (memAt st.mem info j) m' a' w' →
          wpAny P .any ops Q fuel listed a' w' := by
        intro fuel
        induction fuel with
        | zero =>
          intro listed j m' a' w' hsz hcnt hdown hjs hj hpart
          have hall : ∀ k, k < ops.size → listed.getD k false = true := by
            intro k hk
            rw [List.count_eq_zero] at hcnt
            have hkl : k < listed.size := by omega
            have : listed[k] ≠ false := fun e => hcnt (by rw [← e]; simp)
            simp [Array.getD_eq_getD_getElem?, hkl]
            cases hb : listed[k] with
            | true => rfl
            | false => exact absurd hb this
          refine ⟨?_, ?_⟩
          · unfold Region.ready
            rw [List.filter_eq_nil_iff]
            intro i hi
            rw [List.mem_range] at hi
            have := hall i hi
            have hil : i < listed.size := by omega
            simp [Array.getD_eq_getD_getElem?, hil] at this ⊢
            simp [this]
          · have hmm : memAt st.mem info ops.size = memAt st.mem info j := mem_const hf j ops.size hjs (Nat.le_refl _) fun i h1 h2 hw => hj.2 i h1 hw (hall i h2)
            have hM : y1.mem = memAt st.mem info j := by rw [g2, ← hmm]; simp
            refine hQ m' a' w' (by rw [hM]; exact hpart.ext) ⟨by rw [f3]; exact hpart.size, hpart.defers, fun i p hp => ?_, by rw [hM]; exact hpart.mem⟩
            rw [hM]
            exact hpart.slots i p hp fun k o hk hd => hall k (Array.getElem?_eq_some_iff.1 hk).1
        | succ fuel ih =>
          intro listed j m' a' w' hsz hcnt hdown hjs hj hpart
          refine ⟨fun hr => ?_, fun k hkr => ?_⟩
          · exfalso
            have hall : ∀ k, k < ops.size → listed.getD k false = true := by
              intro k
              induction k using Nat.strongRecOn with
              | _ k ihk =>
                intro hk
                cases hb : listed.getD k false with
                | true => rfl
                | false =>
                  exfalso
                  have hkl : k < listed.size := by omega
                  have hmem : k ∈ Region.ready .any ops listed := by
                    rw [mem_ready]
                    refine ⟨?_, ops[k], Array.getElem?_eq_getElem hk, fun e he hbd => ?_⟩
                    · simp [Array.getD_eq_getD_getElem?, hkl] at hb ⊢
                      exact hb
                    · obtain ⟨d1, d2⟩ := dataOK_ok ops.toList _ [] hdata k ops[k] (by simp)
                      have := d2 e (by simpa using he) hbd
                      simp at this
                      exact ihk e.on this (by omega)
                  rw [hr] at hmem
                  cases hmem
            have : listed.toList.count false = 0 := by
              rw [List.count_eq_zero]
              intro hc
              obtain ⟨k, hk, he⟩ := List.mem_iff_getElem.1 hc
              have hk' : k < listed.size := by simpa using hk
              have := hall k (by omega)
              simp [Array.getD_eq_getD_getElem?, hk'] at this
              simp [this] at he
            omega
          · rw [mem_ready] at hkr
            obtain ⟨hk1, o, hko, hready⟩ := hkr
            have hks : k < ops.size := (Array.getElem?_eq_some_iff.1 hko).1
            have hkl : k < listed.size := by omega
            have hkf : listed[k] = false := by simpa [Array.getD_eq_getD_getElem?, hkl] using hk1
            have hset : ∀ i, (listed.setIfInBounds k true).getD i false = true ↔ (listed.getD i false = true ∨ i = k) := by
              intro i
              by_cases hik : k = i
              · subst hik
                simp [Array.getD_eq_getD_getElem?, hkl]
              · rw [getD_set_ne false hik]
                constructor
                · exact .inl
                · rintro (h | rfl)
                  · exact h
                  · exact absurd rfl hik
            refine draw_step hE h.mem.gl hf hord hdata hslots hdown hjs hj hpart hko (by simp [Array.getD_eq_getD_getElem?, hkl, hkf]) (fun e he hb => hready e (by simpa using he) hb) fun j' m'' a'' w'' hjs' hj' hpart' => ?_
            have heq : (fun i => listed.getD i false = true ∨ i = k) = fun i => (listed.setIfInBounds k true).getD i false = true := by
              funext i
              exact propext (hset i).symm
            rw [heq] at hpart'
            refine ih (listed.setIfInBounds k true) j' m'' a'' w'' (by simpa using hsz) ?_ ⟨fun i oi hoi hsi e he hb => ?_⟩ hjs' ⟨fun i hi hw => (hset i).2 (hj'.1 i hi hw), fun i hi hw hc => hj'.2 i hi hw ((hset i).1 hc)⟩ hpart'
            · have hkf' : listed.toList[k]'(by simpa using hkl) = false := by simpa using hkf
              have htf : (true == false) = false := rfl
              rw [Array.toList_setIfInBounds, List.count_set (by simpa using hkl), hkf', hcnt]
              simp only [beq_self_eq_true, if_true, htf, Bool.false_eq_true, if_false]
              omega
            · rcases (hset i).1 hsi with h | rfl
              · exact (hset _).2 (.inl (hdown.down i oi hoi h e he hb))
              · rw [hko] at hoi
                cases hoi
                exact (hset _).2 (.inl (hready e (by simpa using he) hb))
      have hnone : ∀ k, (Array.replicate ops.size false).getD k false = false := by
        intro k
        rw [Array.getD_eq_getD_getElem?]
        rcases Nat.lt_or_ge k ops.size with h | h <;> simp [h]
      refine main ops.size (Array.replicate ops.size false) 0 m a _ (by simp) (by simp) ⟨fun k o _ hs => ?_⟩ (Nat.zero_le _) ⟨fun i hi => by omega, fun i _ _ hs => ?_⟩ ⟨hE0, h.size, h.defers, fun i p hp hd => ?_, hM0⟩
      · rw [hnone] at hs
        cases hs
      · rw [hnone] at hs
        cases hs
      · have hnd : i ∉ dsts ops.toList := by
          intro hc
          obtain ⟨o, ho, hod⟩ := List.mem_filterMap.1 hc
          obtain ⟨k, hk⟩ := List.mem_iff_getElem?.1 ho
          have := hd k o (by simpa using hk) hod
          dsimp only at this
          rw [hnone] at this
          cases this
        rw [f2 i hnd] at hp
        obtain ⟨v, hv, hr⟩ := h.slots i p hp
        exact ⟨v, hv, hr.ext hE0⟩
    · cases hp
  · cases hp

end Go.Proofs.YtlngnfkjpfokhaaDoor.Ev
