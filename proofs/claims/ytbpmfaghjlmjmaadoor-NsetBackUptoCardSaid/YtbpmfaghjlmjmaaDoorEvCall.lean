/- Functions that the code calls, by what they are known to do; one operation. No condition. -/
import Derived.Test.YtbpmfaghjlmjmaaDoorEvApp
import Derived.LoopN
namespace Go.Proofs.YtbpmfaghjlmjmaaDoor.Ev
open Go Go.RowKit
set_option linter.unusedVariables false
set_option linter.unusedSimpArgs false

def Known (C : Nat → Nat → Value → Prop) (w : World) : Prop := ∀ b o v, C b o v → w.cell? ⟨b, o, none⟩ = some v
def Globs (G : GT) (C : Nat → Nat → Value → Prop) : Prop := ∀ g cs, G.tab g = some cs → Rep C (fun _ => none) (.gptr cs) (.pointer (some ⟨g, 0, none⟩))
def Objs (G : GT) (w : World) : Prop := ∀ g o, G.obj g = some o → w.heap[g]? = some o
theorem MRel.objs' {β : Base} {M : Mem} {m : Nat → Option Value} {w : World} (h : MRel β M m w) : Objs β.G w := fun g o hg => by
  obtain ⟨h1, h2⟩ := h.objs g o hg
  rw [h.below.block g h1]
  exact h2
def Grown (C : Nat → Nat → Value → Prop) (w w' : World) (b o : Nat) (v : Value) : Prop := C b o v ∨ (w.heap.size ≤ b ∧ w'.cell? ⟨b, o, none⟩ = some v)
def RepL (C : Nat → Nat → Value → Prop) (ps : List PV) (args : Array Value) : Prop := ps.length = args.size ∧ ∀ (i : Nat) (p : PV) (v : Value), ps[i]? = some p → args[i]? = some v → Rep C (fun _ => none) p v
/-- a function that reads what it is given, and writes nothing that was there: what it gives back at these arguments -/
def PureAt (P : Program) (G : GT) (f : FuncId) (ps : List PV) (p : PV) : Prop :=
  ∀ (w : World) (C : Nat → Nat → Value → Prop), Known C w → Globs G C → Objs G w → ∀ (args : Array Value), RepL C ps args →
    Calls P f args w fun
      | .returned v, w' => Keeps (· < w.heap.size) w w' ∧ Rep (Grown C w w') (fun _ => none) p v
      | _, _ => False
def PureOK (P : Program) (G : GT) (f : FuncId) (g : List PV → Tr PV) : Prop := ∀ ps p, (g ps).run = some p → PureAt P G f ps p
/-- a function of the program, and what it is told to do with one's own places -/
def FnOK (P : Program) (G : GT) (f : FuncId) (g : List PV → Mem → Tr (PV × Mem)) : Prop :=
  ∀ (β : Base), β.G = G → ∀ (M : Mem) (m : Nat → Option Value) (w : World) (ps : List PV) (args : Array Value), MRel β M m w → ps.length = args.size →
    (∀ (i : Nat) (p : PV) (v : Value), ps[i]? = some p → args[i]? = some v → Rep (Cell β w M m) m p v) → ∀ (p : PV) (M' : Mem), (g ps M).run = some (p, M') →
    Calls P f args w fun
      | .returned v, w' => ∃ m', Ext β M m w M' m' w' ∧ MRel β M' m' w' ∧ Rep (Cell β w' M' m') m' p v
      | _, _ => False
structure Env where
  pure : FuncId → Option (List PV → Tr PV)
  ipure : FuncId → Option (List PV → Tr PV)
  fns : FuncId → Option (List PV → Mem → Tr (PV × Mem))
  cuts : Nat → Option (St → Tr (Exit × St))
/-- a call of the function enters it -/
def Enters (P : Program) (f : FuncId) : Prop := ∀ (args : Array Value) (w : World), (callFunc f args).run P w = .ok (.enter f args) w
/-- a function that writes nothing: known; or run as a whole, if what it is given hangs on no place of one's own -/
def Env.pureAt (E : Env) (f : FuncId) (ps : List PV) : Option (List PV → Tr PV) := match E.pure f with
  | some g => some g
  | none => match PV.closL ps with
    | true => E.ipure f
    | false => none
structure Env.ok (E : Env) (P : Program) (G : GT) : Prop where
  pure : ∀ f g, E.pure f = some g → PureOK P G f g ∧ Enters P f
  ipure : ∀ f g, E.ipure f = some g → PureOK P G f g ∧ Enters P f
  fns : ∀ f g, E.fns f = some g → FnOK P G f g ∧ Enters P f

theorem Env.ok.pureAt {E : Env} {P : Program} {G : GT} (h : E.ok P G) {f : FuncId} {ps : List PV} {g : List PV → Tr PV} (hg : E.pureAt f ps = some g) : PureOK P G f g ∧ Enters P f := by
  unfold Env.pureAt at hg
  split at hg
  · rename_i g' hp
    cases hg
    exact h.pure f _ hp
  · split at hg
    · exact h.ipure f g hg
    · cases hg
/-- the world grows: what is known stays -/
theorem MRel.keep {β : Base} {M : Mem} {m : Nat → Option Value} {w w' : World} (h : MRel β M m w) (hk : Keeps (· < w.heap.size) w w') : MRel β M m w' ∧ Ext β M m w M m w' := by
  have he : Ext β M m w M m w' := ext_of (fun _ _ h => h) (fun k hk' _ => hk.block k hk') (fun _ _ h => h) rfl
  exact ⟨⟨fun id b hl => (h.blk id b hl).turn he hk.size fun hlv v k hv hkk => hk.block k (h.livLt (by rw [liv_of hl]; exact hlv) hv hkk), h.fresh, h.inj, h.bsz,
    h.below.trans ⟨hk.os, hk.tape, hk.output, hk.size, fun k hkk => hk.block k (h.kLt hkk)⟩ fun _ h => h, fun g cs hg => (h.glob g cs hg).mono he.cell fun _ _ h => h, h.gl, h.objs⟩, he⟩
theorem Rep.grown {β : Base} {M : Mem} {m m' : Nat → Option Value} {w w' : World} (h : MRel β M m w) (hk : Keeps (· < w.heap.size) w w') {C : Nat → Nat → Value → Prop} (hC : ∀ b o v, C b o v → Cell β w M m b o v) {p : PV} {v : Value}
    (hr : Rep (Grown C w w') (fun _ => none) p v) : Rep (Cell β w' M m) m' p v := by
  obtain ⟨h', he⟩ := h.keep hk
  refine (hr.mono (fun b o u hu => ?_) (m' := m') fun _ _ e => by cases e)
  rcases hu with hu | ⟨hle, hu⟩
  · exact he.cell _ _ _ (hC _ _ _ hu)
  · refine ⟨?_, hu, fun hlt => ?_⟩
    · rintro ⟨id, x, hs, hx, hb⟩
      have := h.livLt hs hx hb
      omega
    · have := h.below.size
      omega

/-- one's own rows, seen by another function -/
def Mem.ownAtom (M : Mem) : PV → PV
  | .own id => match look M.blks id with
    | some (.row _ sz n f) => .gsl sz n f
    | some (.frz sz n f) => .gsl sz n f
    | _ => .junk
  | _ => .junk
/-- one's own rows and variables, seen by another function -/
def Mem.viewAtom (M : Mem) : PV → PV
  | .own id => M.ownAtom (.own id)
  | .ptr id off => match look M.blks id with
    | some (.cells _ cs) => .gptr ((PV.subL M.ownAtom cs).drop off)
    | _ => .junk
  | _ => .junk
theorem ownAtom_rep {β : Base} {M : Mem} {m : Nat → Option Value} {w : World} (h : MRel β M m w) {C : Nat → Nat → Value → Prop} (hC : ∀ b o v, Cell β w M m b o v → C b o v)
    (hR : ∀ id e sz n f, look M.blks id = some (.row e sz n f) → ∀ v k o x, m id = some v → blkOf v = some k → w.cell? ⟨k, o, none⟩ = some x → C k o x) {p : PV} {v : Value} (ha : Atom p) (hr : Rep (Cell β w M m) m p v) : Rep C (fun _ => none) (M.ownAtom p) v := by
  cases ha with
  | own id =>
    cases hr with
    | own m id v hm h1 =>
      simp only [Mem.ownAtom]
      split
      · rename_i e sz n f hl
        obtain ⟨u, hu, hu1, hru⟩ := row_gsl (h.blk id _ hl) hC (fun v k o x hv hk _ hx => hR id e sz n f hl v k o x hv hk hx) (fun _ => none)
        rw [hm] at hu
        cases hu
        exact hru
      · rename_i sz n f hl
        have hb := h.blk id _ hl
        cases hb with
        | frz sz n f u hu h1u hru hk =>
          rw [hm] at hu
          cases hu
          exact hru.mono hC fun _ _ h => h
      · exact .junk _ _
  | ptr id off => exact .junk _ _
  | optr id sz i j => exact .junk _ _
theorem viewAtom_rep {β : Base} {M : Mem} {m : Nat → Option Value} {w : World} (h : MRel β M m w) {p : PV} {v : Value} (ha : Atom p) (hr : Rep (Cell β w M m) m p v) :
    Rep (fun b o v => w.cell? ⟨b, o, none⟩ = some v) (fun _ => none) (M.viewAtom p) v := by
  cases ha with
  | own id => exact ownAtom_rep h (fun _ _ _ h => h.2.1) (fun _ _ _ _ _ _ _ _ _ _ _ _ hx => hx) (.own _) hr
  | ptr id off =>
    simp only [Mem.viewAtom]
    split
    · rename_i ty cs hl
      have hb := h.blk id _ hl
      cases hr with
      | ptr m id off b hm =>
        cases hb with
        | cells ty cs b' vs hm' hb' hlen h1 hr hB =>
          rw [hm] at hm'
          cases hm'
          have hcell : ∀ j (x : Value), vs[j]? = some x → w.cell? ⟨b, j, none⟩ = some x := by
            intro j x hx
            simp [World.cell?, hb', hx]
          refine .gptr _ _ b off (fun j => vs.getD (off + j) undef) (fun j hj => ?_) fun j q hq => ?_
          · rw [List.length_drop, subL_length] at hj
            have hlt : off + j < vs.size := by omega
            have hx : vs[off + j]? = some (vs.getD (off + j) undef) := by
              simp [Array.getD_eq_getD_getElem?, hlt]
            exact ⟨hcell _ _ hx, h1 _ (Array.mem_of_getElem? hx)⟩
          · rw [List.getElem?_drop, subL_get] at hq
            cases hc : cs[off + j]? with
            | none => rw [hc] at hq; cases hq
            | some c =>
              rw [hc] at hq
              cases hq
              have hlt : off + j < vs.size := by
                rw [← hlen]
                exact (List.getElem?_eq_some_iff.1 hc).1
              have hx : vs[off + j]? = some (vs.getD (off + j) undef) := by
                simp [Array.getD_eq_getD_getElem?, hlt]
              exact (hr _ c _ hc hx).sub (fun _ _ _ h => h.2.1) fun p v ha hr => ownAtom_rep h (fun _ _ _ h => h.2.1) (fun _ _ _ _ _ _ _ _ _ _ _ _ hx => hx) ha hr
    · exact .junk _ _
  | optr id sz i j => exact .junk _ _
/-- rows that are written no more, seen by another function -/
def Mem.frzAtom (M : Mem) : PV → PV
  | .own id => match look M.blks id with
    | some (.frz sz n f) => .gsl sz n f
    | _ => .junk
  | _ => .junk
theorem frzAtom_rep {β : Base} {M : Mem} {m : Nat → Option Value} {w : World} (h : MRel β M m w) {p : PV} {v : Value} (ha : Atom p) (hr : Rep (Cell β w M m) m p v) : Rep (Cell β w M m) (fun _ => none) (M.frzAtom p) v := by
  cases ha with
  | own id =>
    cases hr with
    | own m id v hm h1 =>
      simp only [Mem.frzAtom]
      split
      · rename_i sz n f hl
        have hb := h.blk id _ hl
        cases hb with
        | frz sz n f u hu h1u hru hk =>
          rw [hm] at hu
          cases hu
          exact hru
      · exact .junk _ _
  | ptr id off => exact .junk _ _
  | optr id sz i j => exact .junk _ _

/-- a call of a function that writes nothing -/
def pureCall (st : St) (g : List PV → Tr PV) (ps : List PV) (d : Option Nat) : Tr St := (g (PV.subL st.mem.viewAtom ps)).bind fun p => match p.flat with
  | true => st.put d p
  | false => (g (PV.subL (st.mem.freezeL (PV.idsL ps)).frzAtom ps)).bind fun p => { st with mem := st.mem.freezeL (PV.idsL ps) }.put d p
/-- a call, wanted -/
def evCall (E : Env) (st : St) (o : Oper) : Tr St := match o.op with
  | .call c => match c.callee with
    | .value f => match st.val f with
      | .clo id caps => match E.pureAt id (c.args.toList.map st.val ++ caps) with
        | some g => pureCall st g (c.args.toList.map st.val ++ caps) o.dst
        | none => match E.fns id with
          | some g => (g (c.args.toList.map st.val ++ caps) st.mem).bind fun r => { st with mem := r.2 }.put o.dst r.1
          | none => .fail
      | _ => .fail
    | _ => .fail
  | _ => .fail
/-- which operations call a function -/
def isCall (o : Oper) : Bool := match o.op with
  | .call c => match c.callee with
    | .value _ => true
    | _ => false
  | _ => false
/-- one operation, wanted -/
def evOp (P : Program) (E : Env) (st : St) (o : Oper) : Tr St := match isCall o with
  | true => evCall E st o
  | false => match isMem o with
    | true => opMem P (prep st o) o
    | false => match isApp o with
      | true => opApp P st o
      | false => (opVal P (prep st o) o).bind fun p => (prep st o).put o.dst p

section
variable {P : Program} {E : Env} {β : Base} {st st' : St} {m : Nat → Option Value} {a : Act} {w : World}
theorem RepL.of_val (h : Rel β st m a w) {C : Nat → Nat → Value → Prop} {hh : PV → PV} (hC : ∀ b o v, Cell β w st.mem m b o v → C b o v) (hA : ∀ p v, Atom p → Rep (Cell β w st.mem m) m p v → Rep C (fun _ => none) (hh p) v)
    {ps : List PV} {args : Array Value} (hl : ps.length = args.size) (hr : ∀ (i : Nat) (p : PV) (v : Value), ps[i]? = some p → args[i]? = some v → Rep (Cell β w st.mem m) m p v) : RepL C (PV.subL hh ps) args := by
  refine ⟨by rw [subL_length]; exact hl, fun i p v hp hv => ?_⟩
  rw [subL_get] at hp
  cases hq : ps[i]? with
  | none => rw [hq] at hp; cases hp
  | some q =>
    rw [hq] at hp
    cases hp
    exact (hr i q v hq hv).sub hC hA
theorem pureCall_ok {f : FuncId} {g : List PV → Tr PV} (hg : PureOK P β.G f g) (h : Rel β st m a w) {ps : List PV} {args : Array Value} (hl : ps.length = args.size)
    (hr : ∀ (i : Nat) (p : PV) (v : Value), ps[i]? = some p → args[i]? = some v → Rep (Cell β w st.mem m) m p v) {d : Option Nat} (hp : (pureCall st g ps d).run = some st') :
    Calls P f args w fun
      | .returned v, w' => ∃ m', Ext β st.mem m w st'.mem m' w' ∧ Rel β st' m' (a.put d v) w'
      | _, _ => False := by
  unfold pureCall at hp
  obtain ⟨p, hp1, hp⟩ := Tr.of_bind hp
  have hgl : β.G = st.mem.glob := h.mem.gl.symm
  split at hp
  · rename_i hf
    have hc := hg _ p hp1 w (fun b o v => w.cell? ⟨b, o, none⟩ = some v) (fun _ _ _ h => h) (fun g cs hgc => (h.mem.glob g cs (by rw [← hgl]; exact hgc)).mono (fun _ _ _ h => h.2.1) fun _ _ h => h) h.mem.objs' args
      (RepL.of_val h (fun _ _ _ h => h.2.1) (fun p v ha hr => viewAtom_rep h.mem ha hr) hl hr)
    refine Calls.mono hc ?_
    intro e w' he
    cases e with
    | returned v =>
      obtain ⟨hk, hrep⟩ := he
      obtain ⟨h1, h2⟩ := h.mem.keep hk
      have h3 := (h.turn h2 h1).put (d := d) (p := p) (v := v) (hrep.flat hf) hp
      refine ⟨m, ?_, h3⟩
      rw [put_mem hp]
      exact h2
    | panicked _ => exact he.elim
    | outgrown => exact he.elim
  · obtain ⟨q, hq, hp⟩ := Tr.of_bind hp
    obtain ⟨f1, f2⟩ := h.mem.freezeL (PV.idsL ps)
    have hrel := h.turn f2 f1
    have hc := hg _ q hq w (Cell β w (st.mem.freezeL (PV.idsL ps)) m) (fun _ _ _ h => h.2.1) (fun g cs hgc => f1.glob g cs (by rw [f2.glob, ← hgl]; exact hgc)) h.mem.objs' args
      (RepL.of_val hrel (fun _ _ _ h => h) (fun p v ha hr => frzAtom_rep f1 ha hr) hl fun i p v hp hv => (hr i p v hp hv).ext f2)
    refine Calls.mono hc ?_
    intro e w' he
    cases e with
    | returned v =>
      obtain ⟨hk, hrep⟩ := he
      obtain ⟨h1, h2⟩ := f1.keep hk
      have h3 := (hrel.turn h2 h1).put (d := d) (p := q) (v := v) (hrep.grown f1 hk fun _ _ _ h => h) hp
      refine ⟨m, ?_, h3⟩
      rw [put_mem hp]
      exact f2.trans h2
    | panicked _ => exact he.elim
    | outgrown => exact he.elim
theorem evCall_ok (hE : E.ok P β.G) (h : Rel β st m a w) {o : Oper} (hp : (evCall E st o).run = some st') {K : Act → World → Prop} {Q : Exit → Act → World → Prop}
    (hK : ∀ m' v w', Ext β st.mem m w st'.mem m' w' → Rel β st' m' (a.put o.dst v) w' → K (a.put o.dst v) w') : o.wp P a w K Q := by
  unfold evCall at hp
  split at hp
  · rename_i c ho
    split at hp
    · rename_i f hcal
      have hx := h.val f
      generalize st.val f = q at hx hp
      split at hp
      · rename_i id caps
        generalize hv : a.eval f = v at hx
        cases hx with
        | clo m f ps vs hl hr =>
          have hres : (resolve a.eval c o.type).run P w = .ok { target := .fn (.func id) vs, args := #[] ++ c.args.map a.eval } w := by
            unfold resolve
            rw [hcal]
            dsimp only
            rw [hv]
            rfl
          have hlen : (c.args.toList.map st.val ++ caps).length = (#[] ++ c.args.map a.eval ++ vs).size := by simp [hl]
          have hreps : ∀ (i : Nat) (p : PV) (v : Value), (c.args.toList.map st.val ++ caps)[i]? = some p → (#[] ++ c.args.map a.eval ++ vs)[i]? = some v → Rep (Cell β w st.mem m) m p v := by
            intro i p v hp hv
            rw [List.getElem?_append] at hp
            simp only [Array.empty_append, Array.getElem?_append, Array.size_map, List.length_map, Array.length_toList] at hp hv
            split at hp
            · rename_i hlt
              rw [if_pos hlt] at hv
              simp only [List.getElem?_map, Array.getElem?_map, Array.getElem?_toList] at hp hv
              cases hc : c.args[i]? with
              | none => rw [hc] at hp; cases hp
              | some x =>
                rw [hc] at hp hv
                simp only [Option.map_some, Option.some.injEq] at hp hv
                subst hp
                subst hv
                exact h.val x
            · rename_i hlt
              rw [if_neg hlt] at hv
              exact hr _ p v hp hv
          have enter : Enters P id → Calls P id (#[] ++ c.args.map a.eval ++ vs) w (fun
              | .returned v, w' => ∃ m', Ext β st.mem m w st'.mem m' w' ∧ Rel β st' m' (a.put o.dst v) w'
              | _, _ => False) → o.wp P a w K Q := by
            intro hent hc
            unfold Oper.wp execOp
            rw [ho]
            dsimp only
            rw [Sem.run_bind, hres, Result.andThen_ok]
            dsimp only [invoke]
            rw [hent, Oper.upon_enter]
            refine Calls.mono hc ?_
            intro e w' he
            cases e with
            | returned v =>
              obtain ⟨m', hext, hrel⟩ := he
              exact hK m' _ w' hext hrel
            | panicked _ => exact he.elim
            | outgrown => exact he.elim
          split at hp
          · rename_i g hg
            obtain ⟨hfn, hent⟩ := hE.pureAt hg
            exact enter hent (pureCall_ok hfn h hlen hreps hp)
          · split at hp
            · rename_i g hg
              obtain ⟨hfn, hent⟩ := hE.fns id g hg
              obtain ⟨⟨p, M'⟩, hgp, hput⟩ := Tr.of_bind hp
              refine enter hent (Calls.mono (hfn β rfl st.mem m w _ _ h.mem hlen hreps p M' hgp) ?_)
              intro e w' he
              cases e with
              | returned v =>
                obtain ⟨m', hext, hmem, hrep⟩ := he
                have h1 := h.turn hext hmem
                have h2 := h1.put (p := p) (v := v) hrep hput
                refine ⟨m', ?_, h2⟩
                have := put_mem hput
                rw [this]
                exact hext
              | panicked _ => exact he.elim
              | outgrown => exact he.elim
            · cases hp
      · cases hp
    · cases hp
  · cases hp
theorem evOp_ok (hE : E.ok P β.G) (h : Rel β st m a w) {o : Oper} (hp : (evOp P E st o).run = some st') {K : Act → World → Prop} {Q : Exit → Act → World → Prop}
    (hK : ∀ m' v w', Ext β st.mem m w st'.mem m' w' → Rel β st' m' (a.put o.dst v) w' → K (a.put o.dst v) w') : o.wp P a w K Q := by
  unfold evOp at hp
  obtain ⟨h1, e1⟩ := h.prep o
  split at hp
  · exact evCall_ok hE h hp hK
  split at hp
  · exact opMem_ok h1 hp fun m' v w' he hr => hK m' v w' (e1.trans he) hr
  split at hp
  · exact opApp_ok h hp hK
  obtain ⟨p, hp, hput⟩ := Tr.of_bind hp
  obtain ⟨v, hv, hr⟩ := opVal_ok h1 hp
  unfold Oper.wp
  rw [hv, Oper.upon_value]
  refine hK m _ w ?_ (h1.put hr hput)
  rw [put_mem hput]
  exact e1
end

end Go.Proofs.YtbpmfaghjlmjmaaDoor.Ev
