/- An evaluator of the program's code over values that are told by their shape, and its soundness. No condition. -/
import Derived.WalkKit
import Derived.Below
import Derived.LoopN
namespace Go.Proofs.YtbpmfaghjlmjmaaDoor.Ev
open Go Go.RowKit
set_option linter.unusedVariables false
set_option linter.unusedSimpArgs false

/-- the first entry of a list with a number -/
def look {α : Type} : List (Nat × α) → Nat → Option α
  | [], _ => none
  | (k, x) :: r, i => match Nat.beq k i with
    | true => some x
    | false => look r i
/-- an entry is set in its place, or put behind all -/
def setL {α : Type} : List (Nat × α) → Nat → α → List (Nat × α)
  | [], i, y => [(i, y)]
  | (k, x) :: r, i, y => match Nat.beq k i with
    | true => (k, y) :: r
    | false => (k, x) :: setL r i y
theorem look_setL {α : Type} (l : List (Nat × α)) (i j : Nat) (y : α) : look (setL l i y) j = if i = j then some y else look l j := by
  induction l with
  | nil =>
    simp only [setL, look]
    by_cases h : i = j
    · subst h; simp
    · have : Nat.beq i j = false := by
        cases hb : Nat.beq i j with
        | false => rfl
        | true => exact absurd (Nat.eq_of_beq_eq_true hb) h
      simp [this, h]
  | cons a r ih =>
    obtain ⟨k, x⟩ := a
    simp only [setL]
    cases hb : Nat.beq k i with
    | true =>
      have := Nat.eq_of_beq_eq_true hb
      subst this
      simp only [look]
      by_cases h : k = j
      · subst h; simp
      · have h' : Nat.beq k j = false := by
          cases hb' : Nat.beq k j with
          | false => rfl
          | true => exact absurd (Nat.eq_of_beq_eq_true hb') h
        simp [h', h]
    | false =>
      simp only [look, ih]
      cases hb' : Nat.beq k j with
      | true =>
        have := Nat.eq_of_beq_eq_true hb'
        subst this
        have : i ≠ k := by
          intro e
          subst e
          simp at hb
        simp [this]
      | false => simp

/-- what is known of a value: itself; a struct's parts; a tuple's; a slice that nobody writes; a pointer to cells that nobody writes; a row of one's own; a pointer to a variable of one's own; a pointer into a row of one's own; a boxed value; a function with what it caught; nothing -/
inductive PV where
  | lit (v : Value)
  | agg (ps : List PV)
  | tup (ps : List PV)
  | gsl (sz n : Nat) (f : Nat → List PV)
  | gptr (cs : List PV)
  | own (id : Nat)
  | ptr (id off : Nat)
  | optr (id sz i j : Nat)
  | iface (t : TypeId) (p : PV)
  | clo (f : FuncId) (caps : List PV)
  | junk

/-- p tells v; C b o v: cell o of block b, which nobody writes, holds v; m: what one's own places are now -/
inductive Rep (C : Nat → Nat → Value → Prop) : (Nat → Option Value) → PV → Value → Prop where
  | lit (m : Nat → Option Value) (v : Value) : Rep C m (.lit v) v
  | agg (m : Nat → Option Value) (ps : List PV) (vs : Array Value) (hl : ps.length = vs.size) (h : ∀ (i : Nat) (p : PV) (v : Value), ps[i]? = some p → vs[i]? = some v → Rep C m p v) : Rep C m (.agg ps) (.agg vs)
  | tup (m : Nat → Option Value) (ps : List PV) (vs : Array Value) (hl : ps.length = vs.size) (h : ∀ (i : Nat) (p : PV) (v : Value), ps[i]? = some p → vs[i]? = some v → Rep C m p v) : Rep C m (.tup ps) (.tuple vs)
  | gnil (m : Nat → Option Value) (sz : Nat) (f : Nat → List PV) : Rep C m (.gsl sz 0 f) (.slice none 0 0)
  | gsl (m : Nat → Option Value) (sz n : Nat) (f : Nat → List PV) (b o cap : Nat) (g : Nat → Nat → Value) (hc : ∀ (i j : Nat), i < n → j < sz → C b (o + (i * sz + j)) (g i j) ∧ (g i j).oneCell' = true)
      (hl : ∀ (i : Nat), i < n → (f i).length = sz) (h : ∀ (i j : Nat) (p : PV), i < n → (f i)[j]? = some p → Rep C (fun _ => none) p (g i j)) (hcap : n ≤ cap) : Rep C m (.gsl sz n f) (.slice (some ⟨b, o, none⟩) n cap)
  | gptr (m : Nat → Option Value) (cs : List PV) (b o : Nat) (g : Nat → Value) (hc : ∀ (j : Nat), j < cs.length → C b (o + j) (g j) ∧ (g j).oneCell' = true) (h : ∀ (j : Nat) (p : PV), cs[j]? = some p → Rep C (fun _ => none) p (g j)) :
      Rep C m (.gptr cs) (.pointer (some ⟨b, o, none⟩))
  | own (m : Nat → Option Value) (id : Nat) (v : Value) (hm : m id = some v) (h1 : v.oneCell' = true) : Rep C m (.own id) v
  | ptr (m : Nat → Option Value) (id off b : Nat) (hm : m id = some (.pointer (some ⟨b, 0, none⟩))) : Rep C m (.ptr id off) (.pointer (some ⟨b, off, none⟩))
  | optr (m : Nat → Option Value) (id sz i j b n cap : Nat) (hm : m id = some (.slice (some ⟨b, 0, none⟩) n cap)) : Rep C m (.optr id sz i j) (.pointer (some ⟨b, i * sz + j, none⟩))
  | iface (m : Nat → Option Value) (t : TypeId) (p : PV) (v : Value) (h : Rep C m p v) : Rep C m (.iface t p) (.iface t v)
  | clo (m : Nat → Option Value) (f : FuncId) (ps : List PV) (vs : Array Value) (hl : ps.length = vs.size) (h : ∀ (i : Nat) (p : PV) (v : Value), ps[i]? = some p → vs[i]? = some v → Rep C m p v) : Rep C m (.clo f ps) (.func (.func f) #[] vs)
  | junk (m : Nat → Option Value) (v : Value) : Rep C m .junk v

theorem Rep.mono {C C' : Nat → Nat → Value → Prop} (hC : ∀ b o v, C b o v → C' b o v) {m : Nat → Option Value} {p : PV} {v : Value} (h : Rep C m p v) :
    ∀ {m' : Nat → Option Value}, (∀ i v, m i = some v → m' i = some v) → Rep C' m' p v := by
  induction h with
  | lit m v => exact fun _ => .lit _ v
  | agg m ps vs hl h ih => exact fun hm => .agg _ ps vs hl fun i p v hp hv => ih i p v hp hv hm
  | tup m ps vs hl h ih => exact fun hm => .tup _ ps vs hl fun i p v hp hv => ih i p v hp hv hm
  | gnil m sz f => exact fun _ => .gnil _ sz f
  | gsl m sz n f b o cap g hc hl h hcap ih => exact fun _ => .gsl _ sz n f b o cap g (fun i j hi hj => ⟨hC _ _ _ (hc i j hi hj).1, (hc i j hi hj).2⟩) hl (fun i j p hi hp => ih i j p hi hp fun _ _ e => e) hcap
  | gptr m cs b o g hc h ih => exact fun _ => .gptr _ cs b o g (fun j hj => ⟨hC _ _ _ (hc j hj).1, (hc j hj).2⟩) fun j p hp => ih j p hp fun _ _ e => e
  | own m id v hm h1 => exact fun h => .own _ id v (h _ _ hm) h1
  | ptr m id off b hm => exact fun h => .ptr _ id off b (h _ _ hm)
  | optr m id sz i j b n cap hm => exact fun h => .optr _ id sz i j b n cap (h _ _ hm)
  | iface m t p v h ih => exact fun hm => .iface _ t p v (ih hm)
  | clo m f ps vs hl h ih => exact fun hm => .clo _ f ps vs hl fun i p v hp hv => ih i p v hp hv hm
  | junk m v => exact fun _ => .junk _ v

mutual
/-- what stands for one's own places is put anew -/
def PV.sub (h : PV → PV) : PV → PV
  | .agg ps => .agg (PV.subL h ps)
  | .tup ps => .tup (PV.subL h ps)
  | .iface t p => .iface t (PV.sub h p)
  | .clo f ps => .clo f (PV.subL h ps)
  | .own id => h (.own id)
  | .ptr id off => h (.ptr id off)
  | .optr id sz i j => h (.optr id sz i j)
  | .lit v => .lit v
  | .gsl sz n f => .gsl sz n f
  | .gptr cs => .gptr cs
  | .junk => .junk
def PV.subL (h : PV → PV) : List PV → List PV
  | [] => []
  | p :: r => PV.sub h p :: PV.subL h r
end
theorem subL_get (h : PV → PV) : ∀ (ps : List PV) (i : Nat), (PV.subL h ps)[i]? = (ps[i]?).map (PV.sub h)
  | [], i => by simp [PV.subL]
  | p :: r, 0 => by simp [PV.subL]
  | p :: r, i + 1 => by simp [PV.subL, subL_get h r i]
theorem subL_length (h : PV → PV) : ∀ (ps : List PV), (PV.subL h ps).length = ps.length
  | [] => rfl
  | p :: r => by simp [PV.subL, subL_length h r]
/-- the three words that tell of one's own places -/
inductive Atom : PV → Prop where
  | own (id : Nat) : Atom (.own id)
  | ptr (id off : Nat) : Atom (.ptr id off)
  | optr (id sz i j : Nat) : Atom (.optr id sz i j)
theorem Rep.sub {C C' : Nat → Nat → Value → Prop} {m m' : Nat → Option Value} {h : PV → PV} (hC : ∀ b o v, C b o v → C' b o v) (hh : ∀ p v, Atom p → Rep C m p v → Rep C' m' (h p) v) {p : PV} {v : Value} (hr : Rep C m p v) : Rep C' m' (p.sub h) v := by
  have key : ∀ (m0 : Nat → Option Value) (p : PV) (v : Value), Rep C m0 p v → m0 = m → Rep C' m' (p.sub h) v := by
    intro m0 p v hr
    induction hr with
    | lit m v => intro e; exact .lit _ v
    | agg m ps vs hl h' ih =>
      intro e
      refine .agg _ _ vs (by rw [subL_length]; exact hl) fun i p v hp hv => ?_
      rw [subL_get] at hp
      cases hq : ps[i]? with
      | none => rw [hq] at hp; cases hp
      | some q =>
        rw [hq] at hp
        cases hp
        exact ih i q v hq hv e
    | tup m ps vs hl h' ih =>
      intro e
      refine .tup _ _ vs (by rw [subL_length]; exact hl) fun i p v hp hv => ?_
      rw [subL_get] at hp
      cases hq : ps[i]? with
      | none => rw [hq] at hp; cases hp
      | some q =>
        rw [hq] at hp
        cases hp
        exact ih i q v hq hv e
    | gnil m sz f => intro e; exact .gnil _ sz f
    | gsl m sz n f b o cap g hc hl h' hcap ih =>
      intro e
      exact .gsl _ sz n f b o cap g (fun i j hi hj => ⟨hC _ _ _ (hc i j hi hj).1, (hc i j hi hj).2⟩) hl (fun i j p hi hp => (h' i j p hi hp).mono hC fun _ _ e => e) hcap
    | gptr m cs b o g hc h' ih => intro e; exact .gptr _ cs b o g (fun j hj => ⟨hC _ _ _ (hc j hj).1, (hc j hj).2⟩) fun j p hp => (h' j p hp).mono hC fun _ _ e => e
    | own m id v hm h1 => intro e; subst e; exact hh _ _ (.own _) (.own _ id v hm h1)
    | ptr m id off b hm => intro e; subst e; exact hh _ _ (.ptr _ _) (.ptr _ id off b hm)
    | optr m id sz i j b n cap hm => intro e; subst e; exact hh _ _ (.optr _ _ _ _) (.optr _ id sz i j b n cap hm)
    | iface m t p v h' ih => intro e; exact .iface _ t _ v (ih e)
    | clo m f ps vs hl h' ih =>
      intro e
      refine .clo _ f _ vs (by rw [subL_length]; exact hl) fun i p v hp hv => ?_
      rw [subL_get] at hp
      cases hq : ps[i]? with
      | none => rw [hq] at hp; cases hp
      | some q =>
        rw [hq] at hp
        cases hp
        exact ih i q v hq hv e
    | junk m v => intro e; exact .junk _ v
  exact key m p v hr rfl
mutual
/-- words that hang on no memory -/
def PV.flat : PV → Bool
  | .lit _ => true
  | .agg ps => PV.flatL ps
  | .tup ps => PV.flatL ps
  | .iface _ p => PV.flat p
  | .clo _ ps => PV.flatL ps
  | .junk => true
  | _ => false
def PV.flatL : List PV → Bool
  | [] => true
  | p :: r => PV.flat p && PV.flatL r
end
theorem flatL_get : ∀ {ps : List PV}, PV.flatL ps = true → ∀ {i : Nat} {p : PV}, ps[i]? = some p → p.flat = true
  | [], h, i, p, hp => by simp at hp
  | q :: r, h, 0, p, hp => by
    simp only [PV.flatL, Bool.and_eq_true] at h
    simp at hp
    subst hp
    exact h.1
  | q :: r, h, i + 1, p, hp => by
    simp only [PV.flatL, Bool.and_eq_true] at h
    exact flatL_get h.2 (by simpa using hp)
theorem Rep.flat {C C' : Nat → Nat → Value → Prop} {m m' : Nat → Option Value} {p : PV} {v : Value} (hr : Rep C m p v) (hf : p.flat = true) : Rep C' m' p v := by
  induction hr with
  | lit m v => exact .lit _ v
  | agg m ps vs hl h ih => exact .agg _ ps vs hl fun i p v hp hv => ih i p v hp hv (flatL_get hf hp)
  | tup m ps vs hl h ih => exact .tup _ ps vs hl fun i p v hp hv => ih i p v hp hv (flatL_get hf hp)
  | iface m t p v h ih => exact .iface _ t p v (ih hf)
  | clo m f ps vs hl h ih => exact .clo _ f ps vs hl fun i p v hp hv => ih i p v hp hv (flatL_get hf hp)
  | junk m v => exact .junk _ v
  | _ => cases hf

mutual
/-- words that tell of no place of one's own -/
def PV.clos : PV → Bool
  | .agg ps => PV.closL ps
  | .tup ps => PV.closL ps
  | .iface _ p => PV.clos p
  | .clo _ ps => PV.closL ps
  | .own _ => false
  | .ptr _ _ => false
  | .optr _ _ _ _ => false
  | _ => true
def PV.closL : List PV → Bool
  | [] => true
  | p :: r => PV.clos p && PV.closL r
end
theorem closL_get : ∀ {ps : List PV}, PV.closL ps = true → ∀ {i : Nat} {p : PV}, ps[i]? = some p → p.clos = true
  | [], h, i, p, hp => by simp at hp
  | q :: r, h, 0, p, hp => by
    simp only [PV.closL, Bool.and_eq_true] at h
    simp at hp
    subst hp
    exact h.1
  | q :: r, h, i + 1, p, hp => by
    simp only [PV.closL, Bool.and_eq_true] at h
    exact closL_get h.2 (by simpa using hp)
theorem Rep.clos {C : Nat → Nat → Value → Prop} {m m' : Nat → Option Value} {p : PV} {v : Value} (hr : Rep C m p v) (hf : p.clos = true) : Rep C m' p v := by
  induction hr with
  | lit m v => exact .lit _ v
  | agg m ps vs hl h ih => exact .agg _ ps vs hl fun i p v hp hv => ih i p v hp hv (closL_get hf hp)
  | tup m ps vs hl h ih => exact .tup _ ps vs hl fun i p v hp hv => ih i p v hp hv (closL_get hf hp)
  | iface m t p v h ih => exact .iface _ t p v (ih hf)
  | clo m f ps vs hl h ih => exact .clo _ f ps vs hl fun i p v hp hv => ih i p v hp hv (closL_get hf hp)
  | junk m v => exact .junk _ v
  | gnil m sz f => exact .gnil _ sz f
  | gsl m sz n f b o cap g hc hl h hcap => exact .gsl _ sz n f b o cap g hc hl h hcap
  | gptr m cs b o g hc h => exact .gptr _ cs b o g hc h
  | _ => cases hf

/-- a decision tree: what comes out, in words that are told only by their tests -/
inductive Tr (α : Type) where
  | leaf (a : α)
  | br (c : Bool) (t e : Tr α)
  | fail
def Tr.bind {α β : Type} : Tr α → (α → Tr β) → Tr β
  | .leaf a, f => f a
  | .br c t e, f => .br c (t.bind f) (e.bind f)
  | .fail, _ => .fail
def Tr.run {α : Type} : Tr α → Option α
  | .leaf a => some a
  | .br c t e => bif c then t.run else e.run
  | .fail => none
theorem Tr.run_bind {α β : Type} (t : Tr α) (f : α → Tr β) : (t.bind f).run = t.run.bind fun a => (f a).run := by
  induction t with
  | leaf a => rfl
  | br c t e iht ihe => cases c <;> simp [Tr.bind, Tr.run, iht, ihe]
  | fail => rfl
theorem Tr.of_bind {α β : Type} {t : Tr α} {f : α → Tr β} {r : β} (h : (t.bind f).run = some r) : ∃ a, t.run = some a ∧ (f a).run = some r := by
  rw [Tr.run_bind] at h
  exact Option.bind_eq_some_iff.1 h

/-- what lies in a block of one's own: a variable's cells; a row of n elements of sz cells; such a row that is written no more -/
inductive Blk where
  | cells (ty : TypeId) (cs : List PV)
  | row (e : TypeId) (sz n : Nat) (f : Nat → List PV)
  | frz (sz n : Nat) (f : Nat → List PV)
/-- the program's variables that nobody writes: what stands in their cells; some as they lie -/
structure GT where
  tab : Nat → Option (List PV)
  obj : Nat → Option Obj
/-- one's own places; the next one's number; the program's variables that nobody writes -/
structure Mem where
  blks : List (Nat × Blk)
  nid : Nat
  glob : GT
def blkOf : Value → Option Nat
  | .pointer (some a) => some a.block
  | .slice (some a) _ _ => some a.block
  | _ => none
def Blk.liv : Blk → Bool
  | .frz _ _ _ => false
  | _ => true
/-- a place that may be written -/
def liv (l : List (Nat × Blk)) (id : Nat) : Bool := match look l id with
  | some b => b.liv
  | none => false
theorem liv_some {l : List (Nat × Blk)} {id : Nat} (h : liv l id = true) : ∃ b, look l id = some b ∧ b.liv = true := by
  unfold liv at h
  split at h
  · exact ⟨_, by assumption, h⟩
  · cases h
theorem liv_of {l : List (Nat × Blk)} {id : Nat} {b : Blk} (h : look l id = some b) : liv l id = b.liv := by
  unfold liv
  rw [h]
/-- the beginning: the world, what is known of its cells, and what is not to be touched -/
structure Base where
  w0 : World
  C0 : Nat → Nat → Value → Prop
  K : Nat → Prop
  G : GT
/-- block b is one of one's own that may be written -/
def Live (M : Mem) (m : Nat → Option Value) (b : Nat) : Prop := ∃ id v, liv M.blks id = true ∧ m id = some v ∧ blkOf v = some b
def Cell (β : Base) (w : World) (M : Mem) (m : Nat → Option Value) (b o : Nat) (v : Value) : Prop := ¬ Live M m b ∧ w.cell? ⟨b, o, none⟩ = some v ∧ (b < β.w0.heap.size → β.C0 b o v)

inductive BRep (C : Nat → Nat → Value → Prop) (m : Nat → Option Value) (β : Base) (w : World) (id : Nat) : Blk → Prop where
  | cells (ty : TypeId) (cs : List PV) (b : Nat) (vs : Array Value) (hm : m id = some (.pointer (some ⟨b, 0, none⟩))) (hb : w.heap[b]? = some (.cells vs ty (0, 0))) (hl : cs.length = vs.size) (h1 : ∀ v ∈ vs, v.oneCell' = true)
      (h : ∀ (i : Nat) (p : PV) (v : Value), cs[i]? = some p → vs[i]? = some v → Rep C m p v) (hB : ¬ β.K b) : BRep C m β w id (.cells ty cs)
  | row (e : TypeId) (sz n : Nat) (f : Nat → List PV) (v : Value) (xs : List Value) (hm : m id = some v) (ho : w.ownsRow β.w0.heap.size e sz v n xs) (h1 : ∀ x ∈ xs, x.oneCell' = true) (hl : ∀ (i : Nat), i < n → (f i).length = sz)
      (h : ∀ (i j : Nat) (p : PV), i < n → (f i)[j]? = some p → ∃ x, xs[i * sz + j]? = some x ∧ Rep C (fun _ => none) p x) : BRep C m β w id (.row e sz n f)
  | frz (sz n : Nat) (f : Nat → List PV) (v : Value) (hm : m id = some v) (h1 : v.oneCell' = true) (h : Rep C (fun _ => none) (.gsl sz n f) v) (hk : ∀ k, blkOf v = some k → k < w.heap.size) : BRep C m β w id (.frz sz n f)

structure Keeps (K : Nat → Prop) (w w' : World) : Prop where
  os : w'.os = w.os
  tape : w'.tape = w.tape
  output : w'.output = w.output
  size : w.heap.size ≤ w'.heap.size
  block : ∀ k, K k → w'.heap[k]? = w.heap[k]?
theorem Keeps.refl (K : Nat → Prop) (w : World) : Keeps K w w := ⟨rfl, rfl, rfl, Nat.le_refl _, fun _ _ => rfl⟩
theorem Keeps.trans {K K' : Nat → Prop} {a b c : World} (h : Keeps K a b) (k : Keeps K' b c) (hk : ∀ i, K i → K' i) : Keeps K a c :=
  ⟨k.os.trans h.os, k.tape.trans h.tape, k.output.trans h.output, Nat.le_trans h.size k.size, fun i hi => (k.block i (hk i hi)).trans (h.block i hi)⟩
theorem Keeps.of_below {K : Nat → Prop} {B : Nat} {w w' : World} (h : Below B w w') (hk : ∀ i, K i → i < B) : Keeps K w w' :=
  ⟨h.os, h.tape, h.output, h.size, fun i hi => h.block i (hk i hi)⟩

/-- what is known of the world -/
structure MRel (β : Base) (M : Mem) (m : Nat → Option Value) (w : World) : Prop where
  blk : ∀ id b, look M.blks id = some b → BRep (Cell β w M m) m β w id b
  fresh : ∀ id, M.nid ≤ id → m id = none
  inj : ∀ i j v v' b, liv M.blks i = true → liv M.blks j = true → m i = some v → m j = some v' → blkOf v = some b → blkOf v' = some b → i = j
  bsz : ∀ k, β.K k → k < β.w0.heap.size
  below : Keeps β.K β.w0 w
  glob : ∀ g cs, M.glob.tab g = some cs → Rep (Cell β w M m) (fun _ => none) (.gptr cs) (.pointer (some ⟨g, 0, none⟩))
  gl : M.glob = β.G
  objs : ∀ g o, β.G.obj g = some o → β.K g ∧ β.w0.heap[g]? = some o
structure Ext (β : Base) (M : Mem) (m : Nat → Option Value) (w : World) (M' : Mem) (m' : Nat → Option Value) (w' : World) : Prop where
  own : ∀ i v, m i = some v → m' i = some v
  cell : ∀ b o v, Cell β w M m b o v → Cell β w' M' m' b o v
  glob : M'.glob = M.glob
theorem Ext.refl (β : Base) (M : Mem) (m : Nat → Option Value) (w : World) : Ext β M m w M m w := ⟨fun _ _ h => h, fun _ _ _ h => h, rfl⟩
theorem Ext.trans {β : Base} {M M' M'' : Mem} {m m' m'' : Nat → Option Value} {w w' w'' : World} (h : Ext β M m w M' m' w') (k : Ext β M' m' w' M'' m'' w'') : Ext β M m w M'' m'' w'' :=
  ⟨fun i v e => k.own i v (h.own i v e), fun b o v e => k.cell b o v (h.cell b o v e), k.glob.trans h.glob⟩
theorem Rep.ext {β : Base} {M M' : Mem} {m m' : Nat → Option Value} {w w' : World} {p : PV} {v : Value} (h : Rep (Cell β w M m) m p v) (e : Ext β M m w M' m' w') : Rep (Cell β w' M' m') m' p v :=
  h.mono e.cell e.own

structure St where
  n : Nat
  slots : List (Nat × PV)
  mem : Mem
structure Rel (β : Base) (st : St) (m : Nat → Option Value) (a : Act) (w : World) : Prop where
  size : a.tmps.size = st.n
  defers : a.defers = []
  slots : ∀ i p, look st.slots i = some p → ∃ v, a.tmps[i]? = some v ∧ Rep (Cell β w st.mem m) m p v
  mem : MRel β st.mem m w

def St.put (st : St) (d : Option Nat) (p : PV) : Tr St :=
  match d with
  | none => .leaf st
  | some d => match Nat.blt d st.n with
    | true => .leaf { st with slots := setL st.slots d p }
    | false => .fail
/-- a row that is written no more is seen as a slice -/
def Mem.seeAtom (M : Mem) : PV → PV
  | .own id => match look M.blks id with
    | some (.frz sz n f) => .gsl sz n f
    | _ => .own id
  | p => p
def Mem.see (M : Mem) (p : PV) : PV := p.sub M.seeAtom
def St.val (st : St) : Operand → PV
  | .tmp t => match look st.slots t with
    | some p => st.mem.see p
    | none => .junk
  | .const v => .lit v
  | .global g => match st.mem.glob.tab g with
    | some cs => .gptr cs
    | none => .lit (.pointer (some ⟨g, 0, none⟩))
  | .func f => .clo f []

theorem MRel.see {β : Base} {M : Mem} {m : Nat → Option Value} {w : World} (h : MRel β M m w) {p : PV} {v : Value} (hr : Rep (Cell β w M m) m p v) : Rep (Cell β w M m) m (M.see p) v := by
  refine hr.sub (fun _ _ _ h => h) fun p v ha hr => ?_
  cases ha with
  | own id =>
    cases hr with
    | own m id v hm h1 =>
      simp only [Mem.seeAtom]
      split
      · rename_i sz n f hl
        have hb := h.blk id _ hl
        cases hb with
        | frz sz n f u hu h1u hru hk =>
          rw [hm] at hu
          cases hu
          exact hru.mono (fun _ _ _ h => h) fun _ _ e => by cases e
      · exact .own _ id v hm h1
  | ptr id off => exact hr
  | optr id sz i j => exact hr
section
variable {β : Base} {st : St} {m : Nat → Option Value} {a : Act} {w : World}
theorem Rel.val (h : Rel β st m a w) (x : Operand) : Rep (Cell β w st.mem m) m (st.val x) (a.eval x) := by
  cases x with
  | tmp t =>
    simp only [St.val]
    cases hl : look st.slots t with
    | none => exact .junk _ _
    | some p =>
      obtain ⟨v, hv, hr⟩ := h.slots t p hl
      have : a.eval (.tmp t) = v := by simp [Act.eval, Array.getD_eq_getD_getElem?, hv]
      rw [this]
      exact h.mem.see hr
  | const v => exact .lit _ _
  | global g =>
    simp only [St.val]
    split
    · rename_i cs hg
      exact (h.mem.glob g cs hg).mono (fun _ _ _ h => h) fun _ _ e => by cases e
    · exact .lit _ _
  | func f => exact .clo _ _ _ _ rfl (by simp)
theorem Rel.put (h : Rel β st m a w) {d : Option Nat} {p : PV} {v : Value} (hr : Rep (Cell β w st.mem m) m p v) {st' : St} (hp : (st.put d p).run = some st') : Rel β st' m (a.put d v) w := by
  cases d with
  | none =>
    simp only [St.put, Tr.run, Option.some.injEq] at hp
    subst hp
    exact h
  | some d =>
    simp only [St.put] at hp
    cases hb : Nat.blt d st.n with
    | false => rw [hb] at hp; simp [Tr.run] at hp
    | true =>
      rw [hb] at hp
      simp only [Tr.run, Option.some.injEq] at hp
      subst hp
      have hd : d < st.n := by simpa [Nat.blt_eq] using hb
      refine ⟨by simp [Act.put, h.size], h.defers, ?_, h.mem⟩
      intro i q hq
      simp only [look_setL] at hq
      by_cases hi : d = i
      · subst hi
        simp only [if_true, Option.some.injEq] at hq
        subst hq
        have : d < a.tmps.size := by rw [h.size]; exact hd
        exact ⟨v, by simp [Act.put, Array.getElem?_setIfInBounds, this], hr⟩
      · rw [if_neg hi] at hq
        obtain ⟨u, hu, hr'⟩ := h.slots i q hq
        refine ⟨u, ?_, hr'⟩
        simp only [Act.put]
        rw [Array.getElem?_setIfInBounds_ne hi]
        exact hu
/-- the world turns: what stands in the slots stays -/
theorem Rel.turn (h : Rel β st m a w) {M' : Mem} {m' : Nat → Option Value} {w' : World} (e : Ext β st.mem m w M' m' w') (hm : MRel β M' m' w') : Rel β { st with mem := M' } m' a w' :=
  ⟨h.size, h.defers, fun i p hp => let ⟨v, hv, hr⟩ := h.slots i p hp; ⟨v, hv, hr.ext e⟩, hm⟩
end

end Go.Proofs.YtbpmfaghjlmjmaaDoor.Ev
