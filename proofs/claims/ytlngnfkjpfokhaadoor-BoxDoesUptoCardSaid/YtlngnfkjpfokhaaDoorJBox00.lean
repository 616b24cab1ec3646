/- JBox00: several texts in one. Condition: each part's own. -/
import Derived.WalkKit
import Derived.Below
import Derived.LoopN
import Derived.Laws.IdiomStrings
import Derived.Laws.BytesArg
/- An evaluator of the program's code over values that are told by their shape, and its soundness. No condition. -/
namespace Go.Proofs.YtlngnfkjpfokhaaDoor.Ev
open Go Go.RowKit
set_option linter.unusedVariables false
set_option linter.unusedSimpArgs false

/-- the first entry of a list with a number -/
def look {α : Type} : List (Nat × α) → Nat → Option α
  | [], _ => none
  | (k, x) :: r, i => match Nat.beq k i with
    | true => some x
    | false => look r i
/-- an entry is set in its place, or put behind all -/
def setL {α : Type} : List (Nat × α) → Nat → α → List (Nat × α)
  | [], i, y => [(i, y)]
  | (k, x) :: r, i, y => match Nat.beq k i with
    | true => (k, y) :: r
    | false => (k, x) :: setL r i y
theorem look_setL {α : Type} (l : List (Nat × α)) (i j : Nat) (y : α) : look (setL l i y) j = if i = j then some y else look l j := by
  induction l with
  | nil =>
    simp only [setL, look]
    by_cases h : i = j
    · subst h; simp
    · have : Nat.beq i j = false := by
        cases hb : Nat.beq i j with
        | false => rfl
        | true => exact absurd (Nat.eq_of_beq_eq_true hb) h
      simp [this, h]
  | cons a r ih =>
    obtain ⟨k, x⟩ := a
    simp only [setL]
    cases hb : Nat.beq k i with
    | true =>
      have := Nat.eq_of_beq_eq_true hb
      subst this
      simp only [look]
      by_cases h : k = j
      · subst h; simp
      · have h' : Nat.beq k j = false := by
          cases hb' : Nat.beq k j with
          | false => rfl
          | true => exact absurd (Nat.eq_of_beq_eq_true hb') h
        simp [h', h]
    | false =>
      simp only [look, ih]
      cases hb' : Nat.beq k j with
      | true =>
        have := Nat.eq_of_beq_eq_true hb'
        subst this
        have : i ≠ k := by
          intro e
          subst e
          simp at hb
        simp [this]
      | false => simp

/-- what is known of a value: itself; a struct's parts; a tuple's; a slice that nobody writes; a pointer to cells that nobody writes; a row of one's own; a pointer to a variable of one's own; a pointer into a row of one's own; a boxed value; a function with what it caught; nothing -/
inductive PV where
  | lit (v : Value)
  | agg (ps : List PV)
  | tup (ps : List PV)
  | gsl (sz n : Nat) (f : Nat → List PV)
  | gptr (cs : List PV)
  | own (id : Nat)
  | ptr (id off : Nat)
  | optr (id sz i j : Nat)
  | iface (t : TypeId) (p : PV)
  | clo (f : FuncId) (caps : List PV)
  /-- a slice of nothing, without room -/
  | emp
  | junk

/-- p tells v; C b o v: cell o of block b, which nobody writes, holds v; m: what one's own places are now -/
inductive Rep (C : Nat → Nat → Value → Prop) : (Nat → Option Value) → PV → Value → Prop where
  | lit (m : Nat → Option Value) (v : Value) : Rep C m (.lit v) v
  | agg (m : Nat → Option Value) (ps : List PV) (vs : Array Value) (hl : ps.length = vs.size) (h : ∀ (i : Nat) (p : PV) (v : Value), ps[i]? = some p → vs[i]? = some v → Rep C m p v) : Rep C m (.agg ps) (.agg vs)
  | tup (m : Nat → Option Value) (ps : List PV) (vs : Array Value) (hl : ps.length = vs.size) (h : ∀ (i : Nat) (p : PV) (v : Value), ps[i]? = some p → vs[i]? = some v → Rep C m p v) : Rep C m (.tup ps) (.tuple vs)
  | gnil (m : Nat → Option Value) (sz : Nat) (f : Nat → List PV) : Rep C m (.gsl sz 0 f) (.slice none 0 0)
  | gspt (m : Nat → Option Value) (sz : Nat) (f : Nat → List PV) (a : Addr) : Rep C m (.gsl sz 0 f) (.slice (some a) 0 0)
  | gsl (m : Nat → Option Value) (sz n : Nat) (f : Nat → List PV) (b o cap : Nat) (g : Nat → Nat → Value) (hc : ∀ (i j : Nat), i < n → j < sz → C b (o + (i * sz + j)) (g i j) ∧ (g i j).oneCell' = true)
      (hl : ∀ (i : Nat), i < n → (f i).length = sz) (h : ∀ (i j : Nat) (p : PV), i < n → (f i)[j]? = some p → Rep C (fun _ => none) p (g i j)) (hcap : n ≤ cap) : Rep C m (.gsl sz n f) (.slice (some ⟨b, o, none⟩) n cap)
  | gptr (m : Nat → Option Value) (cs : List PV) (b o : Nat) (g : Nat → Value) (hc : ∀ (j : Nat), j < cs.length → C b (o + j) (g j) ∧ (g j).oneCell' = true) (h : ∀ (j : Nat) (p : PV), cs[j]? = some p → Rep C (fun _ => none) p (g j)) :
      Rep C m (.gptr cs) (.pointer (some ⟨b, o, none⟩))
  | own (m : Nat → Option Value) (id : Nat) (v : Value) (hm : m id = some v) (h1 : v.oneCell' = true) : Rep C m (.own id) v
  | ptr (m : Nat → Option Value) (id off b : Nat) (hm : m id = some (.pointer (some ⟨b, 0, none⟩))) : Rep C m (.ptr id off) (.pointer (some ⟨b, off, none⟩))
  | optr (m : Nat → Option Value) (id sz i j b n cap : Nat) (hm : m id = some (.slice (some ⟨b, 0, none⟩) n cap)) : Rep C m (.optr id sz i j) (.pointer (some ⟨b, i * sz + j, none⟩))
  | iface (m : Nat → Option Value) (t : TypeId) (p : PV) (v : Value) (h : Rep C m p v) : Rep C m (.iface t p) (.iface t v)
  | clo (m : Nat → Option Value) (f : FuncId) (ps : List PV) (vs : Array Value) (hl : ps.length = vs.size) (h : ∀ (i : Nat) (p : PV) (v : Value), ps[i]? = some p → vs[i]? = some v → Rep C m p v) : Rep C m (.clo f ps) (.func (.func f) #[] vs)
  | emp (m : Nat → Option Value) (v : Value) (h : v = .slice none 0 0 ∨ ∃ a, v = .slice (some a) 0 0) : Rep C m .emp v
  | junk (m : Nat → Option Value) (v : Value) : Rep C m .junk v

theorem Rep.mono {C C' : Nat → Nat → Value → Prop} (hC : ∀ b o v, C b o v → C' b o v) {m : Nat → Option Value} {p : PV} {v : Value} (h : Rep C m p v) :
    ∀ {m' : Nat → Option Value}, (∀ i v, m i = some v → m' i = some v) → Rep C' m' p v := by
  induction h with
  | lit m v => exact fun _ => .lit _ v
  | agg m ps vs hl h ih => exact fun hm => .agg _ ps vs hl fun i p v hp hv => ih i p v hp hv hm
  | tup m ps vs hl h ih => exact fun hm => .tup _ ps vs hl fun i p v hp hv => ih i p v hp hv hm
  | gnil m sz f => exact fun _ => .gnil _ sz f
  | gspt m sz f a => exact fun _ => .gspt _ sz f a
  | gsl m sz n f b o cap g hc hl h hcap ih => exact fun _ => .gsl _ sz n f b o cap g (fun i j hi hj => ⟨hC _ _ _ (hc i j hi hj).1, (hc i j hi hj).2⟩) hl (fun i j p hi hp => ih i j p hi hp fun _ _ e => e) hcap
  | gptr m cs b o g hc h ih => exact fun _ => .gptr _ cs b o g (fun j hj => ⟨hC _ _ _ (hc j hj).1, (hc j hj).2⟩) fun j p hp => ih j p hp fun _ _ e => e
  | own m id v hm h1 => exact fun h => .own _ id v (h _ _ hm) h1
  | ptr m id off b hm => exact fun h => .ptr _ id off b (h _ _ hm)
  | optr m id sz i j b n cap hm => exact fun h => .optr _ id sz i j b n cap (h _ _ hm)
  | iface m t p v h ih => exact fun hm => .iface _ t p v (ih hm)
  | clo m f ps vs hl h ih => exact fun hm => .clo _ f ps vs hl fun i p v hp hv => ih i p v hp hv hm
  | emp m v h => exact fun _ => .emp _ v h
  | junk m v => exact fun _ => .junk _ v

mutual
/-- what stands for one's own places is put anew -/
def PV.sub (h : PV → PV) : PV → PV
  | .agg ps => .agg (PV.subL h ps)
  | .tup ps => .tup (PV.subL h ps)
  | .iface t p => .iface t (PV.sub h p)
  | .clo f ps => .clo f (PV.subL h ps)
  | .own id => h (.own id)
  | .ptr id off => h (.ptr id off)
  | .optr id sz i j => h (.optr id sz i j)
  | .lit v => .lit v
  | .gsl sz n f => .gsl sz n f
  | .gptr cs => .gptr cs
  | .emp => .emp
  | .junk => .junk
def PV.subL (h : PV → PV) : List PV → List PV
  | [] => []
  | p :: r => PV.sub h p :: PV.subL h r
end
theorem subL_get (h : PV → PV) : ∀ (ps : List PV) (i : Nat), (PV.subL h ps)[i]? = (ps[i]?).map (PV.sub h)
  | [], i => by simp [PV.subL]
  | p :: r, 0 => by simp [PV.subL]
  | p :: r, i + 1 => by simp [PV.subL, subL_get h r i]
theorem subL_length (h : PV → PV) : ∀ (ps : List PV), (PV.subL h ps).length = ps.length
  | [] => rfl
  | p :: r => by simp [PV.subL, subL_length h r]
/-- the three words that tell of one's own places -/
inductive Atom : PV → Prop where
  | own (id : Nat) : Atom (.own id)
  | ptr (id off : Nat) : Atom (.ptr id off)
  | optr (id sz i j : Nat) : Atom (.optr id sz i j)
theorem Rep.sub {C C' : Nat → Nat → Value → Prop} {m m' : Nat → Option Value} {h : PV → PV} (hC : ∀ b o v, C b o v → C' b o v) (hh : ∀ p v, Atom p → Rep C m p v → Rep C' m' (h p) v) {p : PV} {v : Value} (hr : Rep C m p v) : Rep C' m' (p.sub h) v := by
  have key : ∀ (m0 : Nat → Option Value) (p : PV) (v : Value), Rep C m0 p v → m0 = m → Rep C' m' (p.sub h) v := by
    intro m0 p v hr
    induction hr with
    | lit m v => intro e; exact .lit _ v
    | agg m ps vs hl h' ih =>
      intro e
      refine .agg _ _ vs (by rw [subL_length]; exact hl) fun i p v hp hv => ?_
      rw [subL_get] at hp
      cases hq : ps[i]? with
      | none => rw [hq] at hp; cases hp
      | some q =>
        rw [hq] at hp
        cases hp
        exact ih i q v hq hv e
    | tup m ps vs hl h' ih =>
      intro e
      refine .tup _ _ vs (by rw [subL_length]; exact hl) fun i p v hp hv => ?_
      rw [subL_get] at hp
      cases hq : ps[i]? with
      | none => rw [hq] at hp; cases hp
      | some q =>
        rw [hq] at hp
        cases hp
        exact ih i q v hq hv e
    | gnil m sz f => intro e; exact .gnil _ sz f
    | gspt m sz f a => intro e; exact .gspt _ sz f a
    | gsl m sz n f b o cap g hc hl h' hcap ih =>
      intro e
      exact .gsl _ sz n f b o cap g (fun i j hi hj => ⟨hC _ _ _ (hc i j hi hj).1, (hc i j hi hj).2⟩) hl (fun i j p hi hp => (h' i j p hi hp).mono hC fun _ _ e => e) hcap
    | gptr m cs b o g hc h' ih => intro e; exact .gptr _ cs b o g (fun j hj => ⟨hC _ _ _ (hc j hj).1, (hc j hj).2⟩) fun j p hp => (h' j p hp).mono hC fun _ _ e => e
    | own m id v hm h1 => intro e; subst e; exact hh _ _ (.own _) (.own _ id v hm h1)
    | ptr m id off b hm => intro e; subst e; exact hh _ _ (.ptr _ _) (.ptr _ id off b hm)
    | optr m id sz i j b n cap hm => intro e; subst e; exact hh _ _ (.optr _ _ _ _) (.optr _ id sz i j b n cap hm)
    | iface m t p v h' ih => intro e; exact .iface _ t _ v (ih e)
    | clo m f ps vs hl h' ih =>
      intro e
      refine .clo _ f _ vs (by rw [subL_length]; exact hl) fun i p v hp hv => ?_
      rw [subL_get] at hp
      cases hq : ps[i]? with
      | none => rw [hq] at hp; cases hp
      | some q =>
        rw [hq] at hp
        cases hp
        exact ih i q v hq hv e
    | emp m v h' => intro e; exact .emp _ v h'
    | junk m v => intro e; exact .junk _ v
  exact key m p v hr rfl
mutual
/-- words that hang on no memory -/
def PV.flat : PV → Bool
  | .lit _ => true
  | .agg ps => PV.flatL ps
  | .tup ps => PV.flatL ps
  | .iface _ p => PV.flat p
  | .clo _ ps => PV.flatL ps
  | .emp => true
  | .junk => true
  | _ => false
def PV.flatL : List PV → Bool
  | [] => true
  | p :: r => PV.flat p && PV.flatL r
end
theorem flatL_get : ∀ {ps : List PV}, PV.flatL ps = true → ∀ {i : Nat} {p : PV}, ps[i]? = some p → p.flat = true
  | [], h, i, p, hp => by simp at hp
  | q :: r, h, 0, p, hp => by
    simp only [PV.flatL, Bool.and_eq_true] at h
    simp at hp
    subst hp
    exact h.1
  | q :: r, h, i + 1, p, hp => by
    simp only [PV.flatL, Bool.and_eq_true] at h
    exact flatL_get h.2 (by simpa using hp)
theorem Rep.flat {C C' : Nat → Nat → Value → Prop} {m m' : Nat → Option Value} {p : PV} {v : Value} (hr : Rep C m p v) (hf : p.flat = true) : Rep C' m' p v := by
  induction hr with
  | lit m v => exact .lit _ v
  | agg m ps vs hl h ih => exact .agg _ ps vs hl fun i p v hp hv => ih i p v hp hv (flatL_get hf hp)
  | tup m ps vs hl h ih => exact .tup _ ps vs hl fun i p v hp hv => ih i p v hp hv (flatL_get hf hp)
  | iface m t p v h ih => exact .iface _ t p v (ih hf)
  | clo m f ps vs hl h ih => exact .clo _ f ps vs hl fun i p v hp hv => ih i p v hp hv (flatL_get hf hp)
  | emp m v h => exact .emp _ v h
  | junk m v => exact .junk _ v
  | _ => cases hf

mutual
/-- words that tell of no place of one's own -/
def PV.clos : PV → Bool
  | .agg ps => PV.closL ps
  | .tup ps => PV.closL ps
  | .iface _ p => PV.clos p
  | .clo _ ps => PV.closL ps
  | .own _ => false
  | .ptr _ _ => false
  | .optr _ _ _ _ => false
  | _ => true
def PV.closL : List PV → Bool
  | [] => true
  | p :: r => PV.clos p && PV.closL r
end
theorem closL_get : ∀ {ps : List PV}, PV.closL ps = true → ∀ {i : Nat} {p : PV}, ps[i]? = some p → p.clos = true
  | [], h, i, p, hp => by simp at hp
  | q :: r, h, 0, p, hp => by
    simp only [PV.closL, Bool.and_eq_true] at h
    simp at hp
    subst hp
    exact h.1
  | q :: r, h, i + 1, p, hp => by
    simp only [PV.closL, Bool.and_eq_true] at h
    exact closL_get h.2 (by simpa using hp)
theorem Rep.clos {C : Nat → Nat → Value → Prop} {m m' : Nat → Option Value} {p : PV} {v : Value} (hr : Rep C m p v) (hf : p.clos = true) : Rep C m' p v := by
  induction hr with
  | lit m v => exact .lit _ v
  | agg m ps vs hl h ih => exact .agg _ ps vs hl fun i p v hp hv => ih i p v hp hv (closL_get hf hp)
  | tup m ps vs hl h ih => exact .tup _ ps vs hl fun i p v hp hv => ih i p v hp hv (closL_get hf hp)
  | iface m t p v h ih => exact .iface _ t p v (ih hf)
  | clo m f ps vs hl h ih => exact .clo _ f ps vs hl fun i p v hp hv => ih i p v hp hv (closL_get hf hp)
  | emp m v h => exact .emp _ v h
  | junk m v => exact .junk _ v
  | gnil m sz f => exact .gnil _ sz f
  | gspt m sz f a => exact .gspt _ sz f a
  | gsl m sz n f b o cap g hc hl h hcap => exact .gsl _ sz n f b o cap g hc hl h hcap
  | gptr m cs b o g hc h => exact .gptr _ cs b o g hc h
  | _ => cases hf

/-- a decision tree: what comes out, in words that are told only by their tests -/
inductive Tr (α : Type) where
  | leaf (a : α)
  | br (c : Bool) (t e : Tr α)
  | fail
def Tr.bind {α β : Type} : Tr α → (α → Tr β) → Tr β
  | .leaf a, f => f a
  | .br c t e, f => .br c (t.bind f) (e.bind f)
  | .fail, _ => .fail
def Tr.run {α : Type} : Tr α → Option α
  | .leaf a => some a
  | .br c t e => bif c then t.run else e.run
  | .fail => none
theorem Tr.run_bind {α β : Type} (t : Tr α) (f : α → Tr β) : (t.bind f).run = t.run.bind fun a => (f a).run := by
  induction t with
  | leaf a => rfl
  | br c t e iht ihe => cases c <;> simp [Tr.bind, Tr.run, iht, ihe]
  | fail => rfl
theorem Tr.of_bind {α β : Type} {t : Tr α} {f : α → Tr β} {r : β} (h : (t.bind f).run = some r) : ∃ a, t.run = some a ∧ (f a).run = some r := by
  rw [Tr.run_bind] at h
  exact Option.bind_eq_some_iff.1 h

/-- what lies in a block of one's own: a variable's cells; a row of n elements of sz cells; such a row that is written no more -/
inductive Blk where
  | cells (ty : TypeId) (cs : List PV)
  | row (e : TypeId) (sz n : Nat) (f : Nat → List PV)
  | frz (sz n : Nat) (f : Nat → List PV)
/-- the program's variables that nobody writes: what stands in their cells; some as they lie -/
structure GT where
  tab : Nat → Option (List PV)
  obj : Nat → Option Obj
/-- one's own places; the next one's number; the program's variables that nobody writes -/
structure Mem where
  blks : List (Nat × Blk)
  nid : Nat
  glob : GT
def blkOf : Value → Option Nat
  | .pointer (some a) => some a.block
  | .slice (some a) _ _ => some a.block
  | _ => none
def Blk.liv : Blk → Bool
  | .frz _ _ _ => false
  | _ => true
/-- a place that may be written -/
def liv (l : List (Nat × Blk)) (id : Nat) : Bool := match look l id with
  | some b => b.liv
  | none => false
theorem liv_some {l : List (Nat × Blk)} {id : Nat} (h : liv l id = true) : ∃ b, look l id = some b ∧ b.liv = true := by
  unfold liv at h
  split at h
  · exact ⟨_, by assumption, h⟩
  · cases h
theorem liv_of {l : List (Nat × Blk)} {id : Nat} {b : Blk} (h : look l id = some b) : liv l id = b.liv := by
  unfold liv
  rw [h]
/-- the beginning: the world, what is known of its cells, and what is not to be touched -/
structure Base where
  w0 : World
  C0 : Nat → Nat → Value → Prop
  K : Nat → Prop
  G : GT
/-- block b is one of one's own that may be written -/
def Live (M : Mem) (m : Nat → Option Value) (b : Nat) : Prop := ∃ id v, liv M.blks id = true ∧ m id = some v ∧ blkOf v = some b
def Cell (β : Base) (w : World) (M : Mem) (m : Nat → Option Value) (b o : Nat) (v : Value) : Prop := ¬ Live M m b ∧ w.cell? ⟨b, o, none⟩ = some v ∧ (β.K b → β.C0 b o v)

inductive BRep (C : Nat → Nat → Value → Prop) (m : Nat → Option Value) (β : Base) (w : World) (id : Nat) : Blk → Prop where
  | cells (ty : TypeId) (cs : List PV) (b : Nat) (vs : Array Value) (hm : m id = some (.pointer (some ⟨b, 0, none⟩))) (hb : w.heap[b]? = some (.cells vs ty (0, 0))) (hl : cs.length = vs.size) (h1 : ∀ v ∈ vs, v.oneCell' = true)
      (h : ∀ (i : Nat) (p : PV) (v : Value), cs[i]? = some p → vs[i]? = some v → Rep C m p v) (hB : ¬ β.K b) : BRep C m β w id (.cells ty cs)
  | row (e : TypeId) (sz n : Nat) (f : Nat → List PV) (v : Value) (xs : List Value) (hm : m id = some v) (ho : w.ownsRow 0 e sz v n xs) (hK : ∀ k, blkOf v = some k → ¬ β.K k) (h1 : ∀ x ∈ xs, x.oneCell' = true) (hl : ∀ (i : Nat), i < n → (f i).length = sz)
      (h : ∀ (i j : Nat) (p : PV), i < n → (f i)[j]? = some p → ∃ x, xs[i * sz + j]? = some x ∧ Rep C (fun _ => none) p x) : BRep C m β w id (.row e sz n f)
  | frz (sz n : Nat) (f : Nat → List PV) (v : Value) (hm : m id = some v) (h1 : v.oneCell' = true) (h : Rep C (fun _ => none) (.gsl sz n f) v) (hk : ∀ k, blkOf v = some k → k < w.heap.size) : BRep C m β w id (.frz sz n f)

structure Keeps (K : Nat → Prop) (w w' : World) : Prop where
  os : w'.os = w.os
  tape : w'.tape = w.tape
  output : w'.output = w.output
  size : w.heap.size ≤ w'.heap.size
  block : ∀ k, K k → w'.heap[k]? = w.heap[k]?
theorem Keeps.refl (K : Nat → Prop) (w : World) : Keeps K w w := ⟨rfl, rfl, rfl, Nat.le_refl _, fun _ _ => rfl⟩
theorem Keeps.trans {K K' : Nat → Prop} {a b c : World} (h : Keeps K a b) (k : Keeps K' b c) (hk : ∀ i, K i → K' i) : Keeps K a c :=
  ⟨k.os.trans h.os, k.tape.trans h.tape, k.output.trans h.output, Nat.le_trans h.size k.size, fun i hi => (k.block i (hk i hi)).trans (h.block i hi)⟩
theorem Keeps.of_below {K : Nat → Prop} {B : Nat} {w w' : World} (h : Below B w w') (hk : ∀ i, K i → i < B) : Keeps K w w' :=
  ⟨h.os, h.tape, h.output, h.size, fun i hi => h.block i (hk i hi)⟩

/-- what is known of the world -/
structure MRel (β : Base) (M : Mem) (m : Nat → Option Value) (w : World) : Prop where
  blk : ∀ id b, look M.blks id = some b → BRep (Cell β w M m) m β w id b
  fresh : ∀ id, M.nid ≤ id → m id = none
  inj : ∀ i j v v' b, liv M.blks i = true → liv M.blks j = true → m i = some v → m j = some v' → blkOf v = some b → blkOf v' = some b → i = j
  bsz : ∀ k, β.K k → k < β.w0.heap.size
  below : Keeps β.K β.w0 w
  glob : ∀ g cs, M.glob.tab g = some cs → Rep (Cell β w M m) (fun _ => none) (.gptr cs) (.pointer (some ⟨g, 0, none⟩))
  gl : M.glob = β.G
  objs : ∀ g o, β.G.obj g = some o → β.K g ∧ β.w0.heap[g]? = some o
structure Ext (β : Base) (M : Mem) (m : Nat → Option Value) (w : World) (M' : Mem) (m' : Nat → Option Value) (w' : World) : Prop where
  own : ∀ i v, m i = some v → m' i = some v
  cell : ∀ b o v, Cell β w M m b o v → Cell β w' M' m' b o v
  glob : M'.glob = M.glob
theorem Ext.refl (β : Base) (M : Mem) (m : Nat → Option Value) (w : World) : Ext β M m w M m w := ⟨fun _ _ h => h, fun _ _ _ h => h, rfl⟩
theorem Ext.trans {β : Base} {M M' M'' : Mem} {m m' m'' : Nat → Option Value} {w w' w'' : World} (h : Ext β M m w M' m' w') (k : Ext β M' m' w' M'' m'' w'') : Ext β M m w M'' m'' w'' :=
  ⟨fun i v e => k.own i v (h.own i v e), fun b o v e => k.cell b o v (h.cell b o v e), k.glob.trans h.glob⟩
theorem Rep.ext {β : Base} {M M' : Mem} {m m' : Nat → Option Value} {w w' : World} {p : PV} {v : Value} (h : Rep (Cell β w M m) m p v) (e : Ext β M m w M' m' w') : Rep (Cell β w' M' m') m' p v :=
  h.mono e.cell e.own

structure St where
  n : Nat
  slots : List (Nat × PV)
  mem : Mem
structure Rel (β : Base) (st : St) (m : Nat → Option Value) (a : Act) (w : World) : Prop where
  size : a.tmps.size = st.n
  defers : a.defers = []
  slots : ∀ i p, look st.slots i = some p → ∃ v, a.tmps[i]? = some v ∧ Rep (Cell β w st.mem m) m p v
  mem : MRel β st.mem m w

def St.put (st : St) (d : Option Nat) (p : PV) : Tr St :=
  match d with
  | none => .leaf st
  | some d => match Nat.blt d st.n with
    | true => .leaf { st with slots := setL st.slots d p }
    | false => .fail
/-- a row that is written no more is seen as a slice -/
def Mem.seeAtom (M : Mem) : PV → PV
  | .own id => match look M.blks id with
    | some (.frz sz n f) => .gsl sz n f
    | _ => .own id
  | p => p
def Mem.see (M : Mem) (p : PV) : PV := p.sub M.seeAtom
def St.val (st : St) : Operand → PV
  | .tmp t => match look st.slots t with
    | some p => st.mem.see p
    | none => .junk
  | .const v => .lit v
  | .global g => match st.mem.glob.tab g with
    | some cs => .gptr cs
    | none => .lit (.pointer (some ⟨g, 0, none⟩))
  | .func f => .clo f []

theorem MRel.see {β : Base} {M : Mem} {m : Nat → Option Value} {w : World} (h : MRel β M m w) {p : PV} {v : Value} (hr : Rep (Cell β w M m) m p v) : Rep (Cell β w M m) m (M.see p) v := by
  refine hr.sub (fun _ _ _ h => h) fun p v ha hr => ?_
  cases ha with
  | own id =>
    cases hr with
    | own m id v hm h1 =>
      simp only [Mem.seeAtom]
      split
      · rename_i sz n f hl
        have hb := h.blk id _ hl
        cases hb with
        | frz sz n f u hu h1u hru hk =>
          rw [hm] at hu
          cases hu
          exact hru.mono (fun _ _ _ h => h) fun _ _ e => by cases e
      · exact .own _ id v hm h1
  | ptr id off => exact hr
  | optr id sz i j => exact hr
section
variable {β : Base} {st : St} {m : Nat → Option Value} {a : Act} {w : World}
theorem Rel.val (h : Rel β st m a w) (x : Operand) : Rep (Cell β w st.mem m) m (st.val x) (a.eval x) := by
  cases x with
  | tmp t =>
    simp only [St.val]
    cases hl : look st.slots t with
    | none => exact .junk _ _
    | some p =>
      obtain ⟨v, hv, hr⟩ := h.slots t p hl
      have : a.eval (.tmp t) = v := by simp [Act.eval, Array.getD_eq_getD_getElem?, hv]
      rw [this]
      exact h.mem.see hr
  | const v => exact .lit _ _
  | global g =>
    simp only [St.val]
    split
    · rename_i cs hg
      exact (h.mem.glob g cs hg).mono (fun _ _ _ h => h) fun _ _ e => by cases e
    · exact .lit _ _
  | func f => exact .clo _ _ _ _ rfl (by simp)
theorem Rel.put (h : Rel β st m a w) {d : Option Nat} {p : PV} {v : Value} (hr : Rep (Cell β w st.mem m) m p v) {st' : St} (hp : (st.put d p).run = some st') : Rel β st' m (a.put d v) w := by
  cases d with
  | none =>
    simp only [St.put, Tr.run, Option.some.injEq] at hp
    subst hp
    exact h
  | some d =>
    simp only [St.put] at hp
    cases hb : Nat.blt d st.n with
    | false => rw [hb] at hp; simp [Tr.run] at hp
    | true =>
      rw [hb] at hp
      simp only [Tr.run, Option.some.injEq] at hp
      subst hp
      have hd : d < st.n := by simpa [Nat.blt_eq] using hb
      refine ⟨by simp [Act.put, h.size], h.defers, ?_, h.mem⟩
      intro i q hq
      simp only [look_setL] at hq
      by_cases hi : d = i
      · subst hi
        simp only [if_true, Option.some.injEq] at hq
        subst hq
        have : d < a.tmps.size := by rw [h.size]; exact hd
        exact ⟨v, by simp [Act.put, Array.getElem?_setIfInBounds, this], hr⟩
      · rw [if_neg hi] at hq
        obtain ⟨u, hu, hr'⟩ := h.slots i q hq
        refine ⟨u, ?_, hr'⟩
        simp only [Act.put]
        rw [Array.getElem?_setIfInBounds_ne hi]
        exact hu
/-- the world turns: what stands in the slots stays -/
theorem Rel.turn (h : Rel β st m a w) {M' : Mem} {m' : Nat → Option Value} {w' : World} (e : Ext β st.mem m w M' m' w') (hm : MRel β M' m' w') : Rel β { st with mem := M' } m' a w' :=
  ⟨h.size, h.defers, fun i p hp => let ⟨v, hv, hr⟩ := h.slots i p hp; ⟨v, hv, hr.ext e⟩, hm⟩
end

end Go.Proofs.YtlngnfkjpfokhaaDoor.Ev

/- What the evaluator's memory turns into: a new block, a store, an append. No condition. -/
namespace Go.Proofs.YtlngnfkjpfokhaaDoor.Ev
open Go Go.RowKit
set_option linter.unusedVariables false
set_option linter.unusedSimpArgs false

theorem ext_of {β : Base} {M M' : Mem} {m m' : Nat → Option Value} {w w' : World} (hown : ∀ i v, m i = some v → m' i = some v) (hw : ∀ b, b < w.heap.size → ¬ Live M m b → w'.heap[b]? = w.heap[b]?)
    (hlive : ∀ b, b < w.heap.size → Live M' m' b → Live M m b) (hg : M'.glob = M.glob) : Ext β M m w M' m' w' := by
  refine ⟨hown, fun b o v h => ?_, hg⟩
  have hb : b < w.heap.size := World.block_lt_of_cell? w ⟨b, o, none⟩ h.2.1
  refine ⟨fun hl => h.1 (hlive b hb hl), ?_, h.2.2⟩
  rw [World.cell?_of_block (w := w) (a := ⟨b, o, none⟩) (hw b hb h.1)]
  exact h.2.1
theorem BRep.lt {C : Nat → Nat → Value → Prop} {m : Nat → Option Value} {β : Base} {w : World} {id : Nat} {b : Blk} (h : BRep C m β w id b) : ∃ v, m id = some v ∧ ∀ k, blkOf v = some k → k < w.heap.size := by
  cases h with
  | cells ty cs b vs hm hb hl h1 h hB =>
    refine ⟨_, hm, fun k hk => ?_⟩
    simp only [blkOf, Option.some.injEq] at hk
    subst hk
    exact (Array.getElem?_eq_some_iff.1 hb).1
  | row e sz n f v xs hm ho hKr h1 hl h =>
    refine ⟨_, hm, fun k hk => (ho.lt k ?_).2⟩
    rcases ho.2 with ⟨rfl, _⟩ | ⟨g, cap, cur, rfl, _⟩
    · simp [blkOf] at hk
    · simpa [blkOf, Value.ownBlock] using hk
  | frz sz n f v hm h1 h hk => exact ⟨_, hm, hk⟩
theorem BRep.turn {β : Base} {M M' : Mem} {m m' : Nat → Option Value} {w w' : World} {id : Nat} {b : Blk} (h : BRep (Cell β w M m) m β w id b) (e : Ext β M m w M' m' w') (hsz : w.heap.size ≤ w'.heap.size)
    (hk : b.liv = true → ∀ v k, m id = some v → blkOf v = some k → w'.heap[k]? = w.heap[k]?) : BRep (Cell β w' M' m') m' β w' id b := by
  cases h with
  | cells ty cs b vs hm hb hl h1 h hB => exact .cells ty cs b vs (e.own _ _ hm) ((hk rfl _ b hm rfl).trans hb) hl h1 (fun i p v hp hv => (h i p v hp hv).ext e) hB
  | row el sz n f v xs hm ho hKr h1 hl h =>
    refine .row el sz n f v xs (e.own _ _ hm) ?_ hKr h1 hl fun i j p hi hp => ?_
    · refine ⟨ho.1, ?_⟩
      rcases ho.2 with hn | ⟨g, cap, cur, rfl, hb, hg, r⟩
      · exact .inl hn
      · exact .inr ⟨g, cap, cur, rfl, hb, (hk rfl _ g hm rfl).trans hg, r⟩
    · obtain ⟨x, hx, hr⟩ := h i j p hi hp
      exact ⟨x, hx, hr.mono e.cell fun _ _ h => h⟩
  | frz sz n f v hm h1 h hk' => exact .frz sz n f v (e.own _ _ hm) h1 (h.mono e.cell fun _ _ h => h) fun k h => Nat.lt_of_lt_of_le (hk' k h) hsz

def upd (m : Nat → Option Value) (id : Nat) (v : Value) : Nat → Option Value := fun i => if i = id then some v else m i
theorem upd_same (m : Nat → Option Value) (id : Nat) (v : Value) : upd m id v id = some v := by simp [upd]
theorem upd_other (m : Nat → Option Value) (id : Nat) (v : Value) (i : Nat) (h : i ≠ id) : upd m id v i = m i := by simp [upd, h]
theorem look_cons {α : Type} (k : Nat) (x : α) (r : List (Nat × α)) (i : Nat) : look ((k, x) :: r) i = if k = i then some x else look r i := by
  simp only [look]
  by_cases h : k = i
  · subst h; simp
  · have : Nat.beq k i = false := by
      cases hb : Nat.beq k i with
      | false => rfl
      | true => exact absurd (Nat.eq_of_beq_eq_true hb) h
    simp [this, h]
theorem liv_cons (k : Nat) (x : Blk) (r : List (Nat × Blk)) (i : Nat) : liv ((k, x) :: r) i = if k = i then x.liv else liv r i := by
  unfold liv
  rw [look_cons]
  by_cases h : k = i <;> simp [h]
theorem liv_setL (l : List (Nat × Blk)) (i j : Nat) (y : Blk) : liv (setL l i y) j = if i = j then y.liv else liv l j := by
  unfold liv
  rw [look_setL]
  by_cases h : i = j <;> simp [h]
/-- a block is put in front of all -/
def Mem.new (M : Mem) (b : Blk) : Mem := ⟨(M.nid, b) :: M.blks, M.nid + 1, M.glob⟩

section
variable {β : Base} {M : Mem} {m : Nat → Option Value} {w : World}
theorem MRel.lt (h : MRel β M m w) {id : Nat} {v : Value} (hm : m id = some v) : id < M.nid := by
  rcases Nat.lt_or_ge id M.nid with h' | h'
  · exact h'
  · rw [h.fresh id h'] at hm; cases hm
theorem MRel.livLt (h : MRel β M m w) {i k : Nat} {u : Value} (hs : liv M.blks i = true) (hm : m i = some u) (hk : blkOf u = some k) : k < w.heap.size := by
  obtain ⟨bb, hbb, _⟩ := liv_some hs
  obtain ⟨u', hu', hl⟩ := (h.blk i bb hbb).lt
  rw [hm] at hu'
  cases hu'
  exact hl k hk
theorem MRel.kLt (h : MRel β M m w) {k : Nat} (hk : β.K k) : k < w.heap.size := Nat.lt_of_lt_of_le (h.bsz k hk) h.below.size
/-- a new place of one's own, in a block that was not there or holds nothing that is known -/
theorem MRel.grow (h : MRel β M m w) (b : Blk) (v : Value) {w' : World} (hb : Keeps β.K w w') (hw : ∀ k, k < w.heap.size → w'.heap[k]? = w.heap[k]?) (hv : ∀ k, blkOf v = some k → w.heap.size ≤ k)
    (hrep : Ext β M m w (M.new b) (upd m M.nid v) w' → BRep (Cell β w' (M.new b) (upd m M.nid v)) (upd m M.nid v) β w' M.nid b) :
    MRel β (M.new b) (upd m M.nid v) w' ∧ Ext β M m w (M.new b) (upd m M.nid v) w' := by
  have hne : ∀ {i u}, m i = some u → i ≠ M.nid := fun hm => Nat.ne_of_lt (h.lt hm)
  have hlt : ∀ {i u k}, liv M.blks i = true → m i = some u → blkOf u = some k → k < w.heap.size := h.livLt
  have he : Ext β M m w (M.new b) (upd m M.nid v) w' := by
    refine ext_of (fun i u hm => ?_) (fun k hk _ => hw k hk) (fun k hk hl => ?_) rfl
    · rw [upd_other _ _ _ _ (hne hm)]; exact hm
    · obtain ⟨id, u, hs, hm, hbu⟩ := hl
      by_cases hid : id = M.nid
      · subst hid
        rw [upd_same] at hm
        cases hm
        have := hv k hbu
        omega
      · rw [upd_other _ _ _ _ hid] at hm
        simp only [Mem.new, liv_cons, if_neg (Ne.symm hid)] at hs
        exact ⟨id, u, hs, hm, hbu⟩
  refine ⟨⟨fun id bb hl => ?_, fun id hid => ?_, fun i j u u' k hi hj hu hu' hk hk' => ?_, h.bsz, h.below.trans hb fun _ h => h, fun g cs hg => (h.glob g cs hg).mono he.cell fun _ _ h => h, h.gl, h.objs⟩, he⟩
  · simp only [Mem.new, look_cons] at hl
    by_cases hid : M.nid = id
    · subst hid
      simp only [if_true, Option.some.injEq] at hl
      subst hl
      exact hrep he
    · rw [if_neg hid] at hl
      refine (h.blk id bb hl).turn he hb.size fun hlv u k hu hk => hw k ?_
      exact hlt (by rw [liv_of hl]; exact hlv) hu hk
  · simp only [Mem.new] at hid
    rw [upd_other _ _ _ _ (by omega)]
    exact h.fresh id (by omega)
  · simp only [Mem.new, liv_cons] at hi hj
    by_cases h1 : i = M.nid
    · by_cases h2 : j = M.nid
      · omega
      · rw [if_neg (Ne.symm h2)] at hj
        rw [upd_other _ _ _ _ h2] at hu'
        rw [h1, upd_same] at hu
        cases hu
        have := hv k hk
        have := hlt hj hu' hk'
        omega
    · rw [if_neg (Ne.symm h1)] at hi
      rw [upd_other _ _ _ _ h1] at hu
      by_cases h2 : j = M.nid
      · rw [h2, upd_same] at hu'
        cases hu'
        have := hv k hk'
        have := hlt hi hu hk
        omega
      · rw [if_neg (Ne.symm h2)] at hj
        rw [upd_other _ _ _ _ h2] at hu'
        exact h.inj i j u u' k hi hj hu hu' hk hk'
theorem MRel.notK (h : MRel β M m w) : ¬ β.K w.heap.size := fun hk => Nat.lt_irrefl _ (h.kLt hk)
theorem keeps_new {K : Nat → Prop} {w w' : World} (ho : w'.os = w.os) (ht : w'.tape = w.tape) (hp : w'.output = w.output) (hs : w.heap.size ≤ w'.heap.size) (hk : ∀ k, K k → k < w.heap.size) (hb : ∀ k, k < w.heap.size → w'.heap[k]? = w.heap[k]?) : Keeps K w w' :=
  ⟨ho, ht, hp, hs, fun k h => hb k (hk k h)⟩
/-- a new variable -/
theorem MRel.alloc (h : MRel β M m w) (ty : TypeId) (cs : List PV) (vs : Array Value) (hl : cs.length = vs.size) (h1 : ∀ v ∈ vs, v.oneCell' = true) (hr : ∀ (i : Nat) (p : PV) (v : Value), cs[i]? = some p → vs[i]? = some v → Rep (Cell β w M m) m p v) :
    MRel β (M.new (.cells ty cs)) (upd m M.nid (.pointer (some ⟨w.heap.size, 0, none⟩))) (w.alloc (.cells vs ty)) ∧ Ext β M m w (M.new (.cells ty cs)) (upd m M.nid (.pointer (some ⟨w.heap.size, 0, none⟩))) (w.alloc (.cells vs ty)) :=
  h.grow _ _ (Keeps.of_below ((Below.refl w.heap.size w).alloc (Nat.le_refl _) _) fun _ => h.kLt) (fun k hk => heap_alloc_old w _ hk) (fun k hk => by simp only [blkOf, Option.some.injEq] at hk; omega)
    fun he => .cells ty cs w.heap.size vs (upd_same ..) (heap_alloc_new w _) hl h1 (fun i p v hp hv => (hr i p v hp hv).ext he) h.notK
/-- the block of one place of one's own is written -/
theorem MRel.write (h : MRel β M m w) (id : Nat) (b b' : Blk) (hl : look M.blks id = some b) (hlv : b.liv = true) (hlv' : b'.liv = true) (v : Value) (hv : m id = some v) {w' : World} (hb : Keeps β.K w w') (hw : ∀ k, blkOf v ≠ some k → w'.heap[k]? = w.heap[k]?)
    (hrep : Ext β M m w ⟨setL M.blks id b', M.nid, M.glob⟩ m w' → BRep (Cell β w' ⟨setL M.blks id b', M.nid, M.glob⟩ m) m β w' id b') : MRel β ⟨setL M.blks id b', M.nid, M.glob⟩ m w' ∧ Ext β M m w ⟨setL M.blks id b', M.nid, M.glob⟩ m w' := by
  have hliv : ∀ i, liv (setL M.blks id b') i = liv M.blks i := by
    intro i
    rw [liv_setL]
    by_cases hi : id = i
    · subst hi; simp [liv_of hl, hlv, hlv']
    · simp [hi]
  have he : Ext β M m w ⟨setL M.blks id b', M.nid, M.glob⟩ m w' := by
    refine ext_of (fun _ _ h => h) (fun k hk hn => hw k fun e => hn ⟨id, v, by rw [liv_of hl]; exact hlv, hv, e⟩) (fun k hk hL => ?_) rfl
    obtain ⟨i, u, hs, hm, hbu⟩ := hL
    exact ⟨i, u, by rw [← hliv]; exact hs, hm, hbu⟩
  refine ⟨⟨fun i bb hi => ?_, h.fresh, fun i j u u' k hi hj hu hu' hk hk' => ?_, h.bsz, h.below.trans hb fun _ h => h, fun g cs hg => (h.glob g cs hg).mono he.cell fun _ _ h => h, h.gl, h.objs⟩, he⟩
  · simp only [look_setL] at hi
    by_cases hid : id = i
    · subst hid
      simp only [if_true, Option.some.injEq] at hi
      subst hi
      exact hrep he
    · rw [if_neg hid] at hi
      refine (h.blk i bb hi).turn he hb.size fun hlvb u k hu hk => hw k fun e => hid ?_
      exact h.inj id i v u k (by rw [liv_of hl]; exact hlv) (by rw [liv_of hi]; exact hlvb) hv hu e hk
  · simp only [hliv] at hi hj
    exact h.inj i j u u' k hi hj hu hu' hk hk'
/-- fewer places may be written, in the same world -/
theorem MRel.less (h : MRel β M m w) (l : List (Nat × Blk)) (hliv : ∀ i, liv l i = true → liv M.blks i = true) (hl : ∀ i b, look l i = some b → look M.blks i = some b ∨ (Ext β M m w ⟨l, M.nid, M.glob⟩ m w → BRep (Cell β w ⟨l, M.nid, M.glob⟩ m) m β w i b)) :
    MRel β ⟨l, M.nid, M.glob⟩ m w ∧ Ext β M m w ⟨l, M.nid, M.glob⟩ m w := by
  have he : Ext β M m w ⟨l, M.nid, M.glob⟩ m w := by
    refine ext_of (fun _ _ h => h) (fun k _ _ => rfl) (fun k hk hL => ?_) rfl
    obtain ⟨i, u, hs, hm, hbu⟩ := hL
    exact ⟨i, u, hliv i hs, hm, hbu⟩
  refine ⟨⟨fun i bb hi => ?_, h.fresh, fun i j u u' k hi hj hu hu' hk hk' => h.inj i j u u' k (hliv i hi) (hliv j hj) hu hu' hk hk', h.bsz, h.below, fun g cs hg => (h.glob g cs hg).mono he.cell fun _ _ h => h, h.gl, h.objs⟩, he⟩
  rcases hl i bb hi with h' | h'
  · exact (h.blk i bb h').turn he (Nat.le_refl _) fun _ u k hu hk => rfl
  · exact h' he
def delL {α : Type} : List (Nat × α) → Nat → List (Nat × α)
  | [], _ => []
  | (k, x) :: r, i => match Nat.beq k i with
    | true => delL r i
    | false => (k, x) :: delL r i
theorem look_delL {α : Type} (l : List (Nat × α)) (i j : Nat) : look (delL l i) j = if i = j then none else look l j := by
  induction l with
  | nil => simp [delL, look]
  | cons a r ih =>
    obtain ⟨k, x⟩ := a
    simp only [delL]
    cases hb : Nat.beq k i with
    | true =>
      have := Nat.eq_of_beq_eq_true hb
      subst this
      rw [look_cons, ih]
      by_cases h : k = j <;> simp [h]
    | false =>
      have hki : k ≠ i := by
        rintro rfl
        simp at hb
      dsimp only
      rw [look_cons, look_cons, ih]
      by_cases h : k = j
      · subst h
        simp [Ne.symm hki]
      · simp [h]
theorem liv_delL (l : List (Nat × Blk)) (i j : Nat) : liv (delL l i) j = if i = j then false else liv l j := by
  unfold liv
  rw [look_delL]
  by_cases h : i = j <;> simp [h]
def Mem.del (M : Mem) (id : Nat) : Mem := ⟨delL M.blks id, M.nid, M.glob⟩
/-- a place of one's own is given up: what stands there is never written again -/
theorem MRel.del (h : MRel β M m w) (id : Nat) : MRel β (M.del id) m w ∧ Ext β M m w (M.del id) m w := by
  refine h.less _ (fun i hi => ?_) fun i b hb => .inl ?_
  · rw [liv_delL] at hi
    split at hi
    · cases hi
    · exact hi
  · rw [look_delL] at hb
    split at hb
    · cases hb
    · exact hb
/-- all places are given up -/
def Mem.drop (M : Mem) : Mem := ⟨[], M.nid, M.glob⟩
theorem MRel.drop (h : MRel β M m w) : MRel β M.drop m w ∧ Ext β M m w M.drop m w :=
  h.less [] (fun i hi => by cases hi) fun i b hb => by cases hb
/-- what a row of one's own tells, as a slice -/
theorem row_gsl {C C' : Nat → Nat → Value → Prop} {id e sz n : Nat} {f : Nat → List PV} (hb : BRep C m β w id (.row e sz n f)) (hC : ∀ b o x, C b o x → C' b o x)
    (hc : ∀ v k o x, m id = some v → blkOf v = some k → ¬ β.K k → w.cell? ⟨k, o, none⟩ = some x → C' k o x) (m' : Nat → Option Value) : ∃ v, m id = some v ∧ v.oneCell' = true ∧ Rep C' m' (.gsl sz n f) v := by
  cases hb with
  | row e sz n f v xs hm ho hKr h1 hl h =>
    refine ⟨v, hm, ?_, ?_⟩
    · rcases ho.2 with ⟨rfl, _⟩ | ⟨g, cap, cur, rfl, _⟩ <;> rfl
    rcases ho.2 with ⟨rfl, rfl⟩ | ⟨g, cap, cur, rfl, hbg, hg, hnc, hcm, hcs, htake⟩
    · exact .gnil _ sz f
    · have hlen := ho.1
      refine .gsl _ sz n f g 0 cap (fun i j => xs.getD (i * sz + j) undef) (fun i j hi hj => ?_) hl (fun i j p hi hp => ?_) hnc
      · have hlt : i * sz + j < xs.length := by
          rw [hlen]
          calc i * sz + j < i * sz + sz := by omega
            _ = (i + 1) * sz := by rw [Nat.add_mul, Nat.one_mul]
            _ ≤ n * sz := Nat.mul_le_mul_right _ hi
        have hx : xs[i * sz + j]? = some (xs.getD (i * sz + j) undef) := by
          rw [List.getD_eq_getElem?_getD, List.getElem?_eq_getElem hlt]
          rfl
        refine ⟨hc _ g _ _ hm rfl (hKr g rfl) ?_, h1 _ (List.mem_of_getElem? hx)⟩
        have := ho.cells (g := g) rfl _ _ hx
        rw [show (⟨g, 0, none⟩ : Addr).add (i * sz + j) = ⟨g, 0 + (i * sz + j), none⟩ from by unfold Addr.add; split <;> simp_all] at this
        exact this
      · obtain ⟨x, hx, hr⟩ := h i j p hi hp
        rw [List.getD_eq_getElem?_getD, hx]
        exact hr.mono hC fun _ _ h => h
/-- a row is written no more -/
theorem MRel.freeze (h : MRel β M m w) {id e sz n : Nat} {f : Nat → List PV} (hlk : look M.blks id = some (.row e sz n f)) :
    MRel β ⟨setL M.blks id (.frz sz n f), M.nid, M.glob⟩ m w ∧ Ext β M m w ⟨setL M.blks id (.frz sz n f), M.nid, M.glob⟩ m w := by
  refine h.less _ (fun i hi => ?_) fun i b hb => ?_
  · rw [liv_setL] at hi
    split at hi
    · cases hi
    · exact hi
  · rw [look_setL] at hb
    by_cases hid : id = i
    · subst hid
      rw [if_pos rfl] at hb
      cases hb
      right
      intro he
      have hbr := h.blk id _ hlk
      obtain ⟨v, hv, h1, hr⟩ := row_gsl hbr he.cell (C' := Cell β w ⟨setL M.blks id (.frz sz n f), M.nid, M.glob⟩ m) (fun v k o x hv hk hle hx => by
        refine ⟨?_, hx, fun hlt => absurd hlt hle⟩
        rintro ⟨j, u, hs, hu, hku⟩
        rw [liv_setL] at hs
        by_cases hj : id = j
        · subst hj
          rw [if_pos rfl] at hs
          cases hs
        · rw [if_neg hj] at hs
          exact hj (h.inj id j v u k (by rw [liv_of hlk]; rfl) hs hv hu hk hku)) (fun _ => none)
      obtain ⟨u, hu, hl⟩ := hbr.lt
      rw [hv] at hu
      cases hu
      exact .frz sz n f v hv h1 hr hl
    · rw [if_neg hid] at hb
      exact .inl hb
/-- a place of one's own is given up for another one, that lies in the same block or in a new one -/
theorem MRel.shift (h : MRel β M m w) (id : Nat) (b : Blk) (hlk : look M.blks id = some b) (hlv : b.liv = true) (v : Value) (hv : m id = some v) (b' : Blk) (v' : Value) {w' : World} (hb : Keeps β.K w w')
    (hw : ∀ k, k < w.heap.size → blkOf v ≠ some k → w'.heap[k]? = w.heap[k]?) (hv' : ∀ k, blkOf v' = some k → blkOf v = some k ∨ w.heap.size ≤ k)
    (hrep : Ext β M m w ((M.del id).new b') (upd m M.nid v') w' → BRep (Cell β w' ((M.del id).new b') (upd m M.nid v')) (upd m M.nid v') β w' M.nid b') :
    MRel β ((M.del id).new b') (upd m M.nid v') w' ∧ Ext β M m w ((M.del id).new b') (upd m M.nid v') w' := by
  have hne : ∀ {i u}, m i = some u → i ≠ M.nid := fun hm => Nat.ne_of_lt (h.lt hm)
  have hidn : id ≠ M.nid := hne hv
  have hlid : liv M.blks id = true := by rw [liv_of hlk]; exact hlv
  have hlt : ∀ {i u k}, liv M.blks i = true → m i = some u → blkOf u = some k → k < w.heap.size := h.livLt
  have hnew : ∀ i, look ((M.del id).new b').blks i = if M.nid = i then some b' else if id = i then none else look M.blks i := by
    intro i
    simp only [Mem.new, Mem.del, look_cons, look_delL]
  have hnewl : ∀ i, liv ((M.del id).new b').blks i = if M.nid = i then b'.liv else if id = i then false else liv M.blks i := by
    intro i
    simp only [Mem.new, Mem.del, liv_cons, liv_delL]
  have he : Ext β M m w ((M.del id).new b') (upd m M.nid v') w' := by
    refine ext_of (fun i u hm => ?_) (fun k hk hn => hw k hk fun e => hn ⟨id, v, hlid, hv, e⟩) (fun k hk hl => ?_) rfl
    · rw [upd_other _ _ _ _ (hne hm)]; exact hm
    · obtain ⟨i, u, hs, hm, hbu⟩ := hl
      by_cases hid : i = M.nid
      · subst hid
        rw [upd_same] at hm
        cases hm
        rcases hv' k hbu with e | e
        · exact ⟨id, v, hlid, hv, e⟩
        · omega
      · rw [upd_other _ _ _ _ hid] at hm
        rw [hnewl, if_neg (Ne.symm hid)] at hs
        by_cases h2 : id = i
        · simp [h2] at hs
        · rw [if_neg h2] at hs
          exact ⟨i, u, hs, hm, hbu⟩
  have hold : ∀ {i u k}, id ≠ i → liv M.blks i = true → m i = some u → blkOf u = some k → blkOf v ≠ some k := by
    intro i u k hid hs hm hk e
    exact hid (h.inj id i v u k hlid hs hv hm e hk)
  refine ⟨⟨fun i bb hl => ?_, fun i hid => ?_, fun i j u u' k hi hj hu hu' hk hk' => ?_, h.bsz, h.below.trans hb fun _ h => h, fun g cs hg => (h.glob g cs hg).mono he.cell fun _ _ h => h, h.gl, h.objs⟩, he⟩
  · rw [hnew] at hl
    by_cases hid : M.nid = i
    · subst hid
      simp only [if_true, Option.some.injEq] at hl
      subst hl
      exact hrep he
    · rw [if_neg hid] at hl
      by_cases h2 : id = i
      · simp [h2] at hl
      · rw [if_neg h2] at hl
        refine (h.blk i bb hl).turn he hb.size fun hlvb u k hu hk => hw k (hlt (by rw [liv_of hl]; exact hlvb) hu hk) (hold h2 (by rw [liv_of hl]; exact hlvb) hu hk)
  · simp only [Mem.new, Mem.del] at hid
    rw [upd_other _ _ _ _ (by omega)]
    exact h.fresh i (by omega)
  · rw [hnewl] at hi hj
    by_cases h1 : i = M.nid
    · by_cases h2 : j = M.nid
      · omega
      · rw [if_neg (Ne.symm h2)] at hj
        by_cases h3 : id = j
        · simp [h3] at hj
        · rw [if_neg h3] at hj
          rw [upd_other _ _ _ _ h2] at hu'
          rw [h1, upd_same] at hu
          cases hu
          have hlj := hlt hj hu' hk'
          rcases hv' k hk with e | e
          · exact absurd e (hold h3 hj hu' hk')
          · omega
    · rw [if_neg (Ne.symm h1)] at hi
      by_cases h3 : id = i
      · simp [h3] at hi
      · rw [if_neg h3] at hi
        rw [upd_other _ _ _ _ h1] at hu
        by_cases h2 : j = M.nid
        · rw [h2, upd_same] at hu'
          cases hu'
          have hli := hlt hi hu hk
          rcases hv' k hk' with e | e
          · exact absurd e (hold h3 hi hu hk)
          · omega
        · rw [if_neg (Ne.symm h2)] at hj
          by_cases h4 : id = j
          · simp [h4] at hj
          · rw [if_neg h4] at hj
            rw [upd_other _ _ _ _ h2] at hu'
            exact h.inj i j u u' k hi hj hu hu' hk hk'
end

end Go.Proofs.YtlngnfkjpfokhaaDoor.Ev

/- The parts of a value: its cells; a struct and a row built out of parts. No condition. -/
namespace Go.Proofs.YtlngnfkjpfokhaaDoor.Ev
open Go Go.RowKit
set_option linter.unusedVariables false
set_option linter.unusedSimpArgs false

def aggT (P : Program) (t : TypeId) : Option Bool := match P.underlying t with
  | some (.struct _) | some (.array _ _) => some true
  | some _ => some false
  | none => none
def sizeT (P : Program) (t : TypeId) : Option Nat := (P.info? t).map (·.size)
theorem run_aggT {P : Program} {t : TypeId} {b : Bool} (h : aggT P t = some b) (w : World) : (isAgg t).run P w = .ok b w := by
  unfold aggT at h
  cases hd : P.underlying t with
  | none => rw [hd] at h; cases h
  | some d =>
    rw [hd] at h
    unfold isAgg
    rw [Sem.run_bind, run_underlying hd w]
    cases d <;> simp_all
theorem run_sizeT {P : Program} {t : TypeId} {n : Nat} (h : sizeT P t = some n) (w : World) : (sizeOf t).run P w = .ok n w := by
  unfold sizeT at h
  cases hi : P.info? t with
  | none => simp [hi] at h
  | some i =>
    simp only [hi, Option.map_some, Option.some.injEq] at h
    subst h
    simp [sizeOf, typeInfo, hi]
/-- the cells of a value -/
def pcells : PV → Option (List PV)
  | .agg ps => some ps
  | .lit (.agg vs) => some (vs.toList.map PV.lit)
  | .tup _ => none
  | .junk => none
  | p => some [p]
/-- a value of one cell -/
def one : PV → Bool
  | .lit v => v.oneCell'
  | .agg _ => false
  | .tup _ => false
  | .junk => false
  | _ => true
theorem one_ok {C : Nat → Nat → Value → Prop} {m : Nat → Option Value} {p : PV} {v : Value} (h : Rep C m p v) (ho : one p = true) : v.oneCell' = true := by
  cases h with
  | lit m v => exact ho
  | agg => cases ho
  | tup => cases ho
  | junk => cases ho
  | emp m v h => rcases h with rfl | ⟨b, o, rfl⟩ <;> rfl
  | own m id v hm h1 => exact h1
  | _ => rfl
theorem cells_one {v : Value} (h : v.oneCell' = true) : v.cells = #[v] := by
  cases v <;> first | rfl | cases h
theorem pcells_ok {C : Nat → Nat → Value → Prop} {m : Nat → Option Value} {p : PV} {v : Value} {cs : List PV} (h : Rep C m p v) (hc : pcells p = some cs) (h1 : cs.all one = true) :
    cs.length = v.cells.size ∧ (∀ (i : Nat) (q : PV) (u : Value), cs[i]? = some q → v.cells[i]? = some u → Rep C m q u) ∧ ∀ u ∈ v.cells, u.oneCell' = true := by
  have key : ∀ (ps : List PV) (vs : Array Value), ps.length = vs.size → (∀ (i : Nat) (q : PV) (u : Value), ps[i]? = some q → vs[i]? = some u → Rep C m q u) → ps.all one = true → ∀ u ∈ vs, u.oneCell' = true := by
    intro ps vs hl hr h1 u hu
    obtain ⟨i, hi, rfl⟩ := Array.mem_iff_getElem.1 hu
    have hp : ps[i]? = some ps[i] := List.getElem?_eq_getElem (by omega)
    exact one_ok (hr i _ _ hp (Array.getElem?_eq_getElem hi)) (List.all_eq_true.1 h1 _ (List.mem_of_getElem? hp))
  have single : pcells p = some [p] → cs.length = v.cells.size ∧ (∀ (i : Nat) (q : PV) (u : Value), cs[i]? = some q → v.cells[i]? = some u → Rep C m q u) ∧ ∀ u ∈ v.cells, u.oneCell' = true := by
    intro he
    rw [he] at hc
    cases hc
    have hv := one_ok h (by simpa using h1)
    rw [cells_one hv]
    refine ⟨rfl, fun i q u hq hu => ?_, fun u hu => ?_⟩
    · match i with
      | 0 =>
        simp at hq hu
        subst hq
        subst hu
        exact h
      | i + 1 => simp at hq
    · simp at hu
      subst hu
      exact hv
  cases h with
  | agg m ps vs hl hr =>
    cases hc
    exact ⟨hl, hr, key _ _ hl hr h1⟩
  | lit m v =>
    cases v with
    | agg vs =>
      cases hc
      have hr : ∀ (i : Nat) (q : PV) (u : Value), (vs.toList.map PV.lit)[i]? = some q → vs[i]? = some u → Rep C m q u := by
        intro i q u hq hu
        simp only [List.getElem?_map, Array.getElem?_toList] at hq
        rw [hu] at hq
        cases hq
        exact .lit _ _
      exact ⟨by simp only [List.length_map, Array.length_toList]; rfl, hr, key (vs.toList.map PV.lit) vs (by simp) hr h1⟩
    | _ => exact single rfl
  | tup => cases hc
  | junk => cases hc
  | _ => exact single rfl

def zeroT (P : Program) (t : TypeId) : Option Value := (P.info? t).bind (·.zero)
theorem run_zeroT {P : Program} {t : TypeId} {z : Value} (h : zeroT P t = some z) (w : World) : (zeroValue t).run P w = .ok z w := by
  unfold zeroT at h
  cases hi : P.info? t with
  | none => simp [hi] at h
  | some i =>
    have hz : i.zero = some z := by simpa [hi] using h
    simp [zeroValue, typeInfo, hi, hz]
theorem foldSet : ∀ (l : List Value) (s off : Nat) (cs : Array Value), off + s + l.length ≤ cs.size →
    ((l.zipIdx s).foldl (fun cs x => cs.setIfInBounds (off + x.2) x.1) cs).size = cs.size ∧
    ∀ k : Nat, ((l.zipIdx s).foldl (fun cs x => cs.setIfInBounds (off + x.2) x.1) cs)[k]? = if off + s ≤ k ∧ k < off + s + l.length then l[k - (off + s)]? else cs[k]?
  | [], s, off, cs, h => by
    refine ⟨rfl, fun k => ?_⟩
    have : ¬ (off + s ≤ k ∧ k < off + s + ([] : List Value).length) := by
      simp only [List.length_nil]
      omega
    rw [if_neg this]
    rfl
  | v :: l, s, off, cs, h => by
    simp only [List.length_cons] at h
    obtain ⟨h1, h2⟩ := foldSet l (s + 1) off (cs.setIfInBounds (off + s) v) (by simp; omega)
    simp only [List.zipIdx_cons, List.foldl_cons]
    refine ⟨by rw [h1]; simp, fun k => ?_⟩
    rw [h2 k]
    simp only [List.length_cons]
    by_cases c1 : off + s = k
    · subst c1
      rw [if_neg (by omega), if_pos (by omega)]
      have : off + s < cs.size := by omega
      simp [this]
    · rw [Array.getElem?_setIfInBounds_ne c1]
      by_cases c2 : off + (s + 1) ≤ k ∧ k < off + (s + 1) + l.length
      · rw [if_pos c2, if_pos (by omega)]
        have : k - (off + s) = (k - (off + (s + 1))) + 1 := by omega
        rw [this, List.getElem?_cons_succ]
      · rw [if_neg c2, if_neg (by omega)]
/-- parts put into cells -/
def fillP (pl : Nat → Option (Nat × Nat)) : List (Nat × PV) → List PV → Option (List PV)
  | [], cs => some cs
  | (i, p) :: r, cs => match pl i, pcells p with
    | some (off, size), some ps => match ps.all one && Nat.beq ps.length size && Nat.ble (off + ps.length) cs.length with
      | true => fillP pl r (cs.take off ++ ps ++ cs.drop (off + ps.length))
      | false => none
    | _, _ => none
theorem fillP_ok {C : Nat → Nat → Value → Prop} {m : Nat → Option Value} (pl : Nat → Option (Nat × Nat)) : ∀ (pp : List (Nat × PV)) (vv : List (Nat × Value)) (cs cs' : List PV) (vs : Array Value), pp.length = vv.length →
    (∀ (k : Nat) (x : Nat × PV) (y : Nat × Value), pp[k]? = some x → vv[k]? = some y → x.1 = y.1 ∧ Rep C m x.2 y.2) → cs.length = vs.size → (∀ (i : Nat) (q : PV) (u : Value), cs[i]? = some q → vs[i]? = some u → Rep C m q u) → (∀ u ∈ vs, u.oneCell' = true) →
    fillP pl pp cs = some cs' → ∃ vs', Instr.fill pl vs vv = some vs' ∧ cs'.length = vs'.size ∧ (∀ (i : Nat) (q : PV) (u : Value), cs'[i]? = some q → vs'[i]? = some u → Rep C m q u) ∧ (∀ u ∈ vs', u.oneCell' = true)
  | [], [], cs, cs', vs, _, _, hl, hr, h1, hf => by
    cases hf
    exact ⟨vs, rfl, hl, hr, h1⟩
  | [], _ :: _, _, _, _, h, _, _, _, _, _ => by cases h
  | _ :: _, [], _, _, _, h, _, _, _, _, _ => by cases h
  | (i, p) :: r, (i', v) :: vr, cs, cs', vs, hlen, hpp, hl, hr, h1, hf => by
    obtain ⟨hi, hrep⟩ := hpp 0 _ _ rfl rfl
    dsimp only at hi hrep
    subst hi
    unfold fillP at hf
    split at hf
    · rename_i off size ps hpl hps
      split at hf
      · rename_i hb
        simp only [Bool.and_eq_true] at hb
        have hsz := Nat.eq_of_beq_eq_true hb.1.2
        have hle := Nat.le_of_ble_eq_true hb.2
        obtain ⟨c1, c2, c3⟩ := pcells_ok hrep hps hb.1.1
        obtain ⟨f1, f2⟩ := foldSet v.cells.toList 0 off vs (by simp; omega)
        unfold Instr.fill
        rw [hpl]
        dsimp only
        rw [if_neg (by simp; omega)]
        have e : v.cells.zipIdx.foldl (fun cs (x : Value × Nat) => cs.setIfInBounds (off + x.2) x.1) vs = (v.cells.toList.zipIdx 0).foldl (fun cs x => cs.setIfInBounds (off + x.2) x.1) vs := by
          rw [← Array.foldl_toList, Array.toList_zipIdx]
        refine fillP_ok pl r vr _ cs' _ (by simpa using hlen) (fun k x y hx hy => hpp (k + 1) x y hx hy) ?_ ?_ ?_ hf
        · rw [e, f1]
          simp
          omega
        · intro j q u hq hu
          rw [e, f2] at hu
          simp only [List.getElem?_append, List.length_append, List.length_take, List.getElem?_take, List.getElem?_drop, Nat.add_zero, Array.length_toList, Array.getElem?_toList] at hq hu
          rw [Nat.min_eq_left (by omega)] at hq
          by_cases k1 : j < off
          · have k2 : j < off + ps.length := by omega
            rw [if_neg (by omega)] at hu
            simp only [k1, k2, if_true] at hq
            exact hr j q u hq hu
          · by_cases k2 : j < off + ps.length
            · rw [if_pos (by omega)] at hu
              simp only [k1, k2, if_true, if_false] at hq
              exact c2 _ q u hq hu
            · rw [if_neg (by omega)] at hu
              simp only [k1, k2, if_false] at hq
              have : off + ps.length + (j - (off + ps.length)) = j := by omega
              rw [this] at hq
              exact hr j q u hq hu
        · intro u hu
          obtain ⟨j, hg⟩ := Array.mem_iff_getElem?.1 hu
          rw [e] at hg
          rw [f2] at hg
          split at hg
          · exact c3 _ (by simpa using List.mem_of_getElem? hg)
          · exact h1 _ (Array.mem_of_getElem? hg)
      · cases hf
    · cases hf
theorem fillP_len {pl : Nat → Option (Nat × Nat)} : ∀ {pp : List (Nat × PV)} {cs cs' : List PV}, fillP pl pp cs = some cs' → cs'.length = cs.length
  | [], cs, cs', h => by
    cases h
    rfl
  | (i, p) :: r, cs, cs', h => by
    unfold fillP at h
    split at h
    · rename_i off size ps hpl hps
      split at h
      · rename_i hb
        simp only [Bool.and_eq_true] at hb
        have hle := Nat.le_of_ble_eq_true hb.2
        rw [fillP_len h]
        simp only [List.length_append, List.length_take, List.length_drop]
        omega
      · cases h
    · cases h

/-- where a struct's fields lie, and how many cells each has -/
def placesS (P : Program) : List Field → Option (List (Nat × Nat))
  | [] => some []
  | f :: r => match sizeT P f.type, placesS P r with
    | some n, some l => some ((f.offset, n) :: l)
    | _, _ => none
theorem placesS_run {P : Program} (w : World) : ∀ {fs : List Field} {l : List (Nat × Nat)}, placesS P fs = some l → (fs.mapM fun f => do pure (f.offset, ← sizeOf f.type) : Sem (List (Nat × Nat))).run P w = .ok l w
  | [], l, h => by
    cases h
    simp [Sem.run_pure]
  | f :: r, l, h => by
    unfold placesS at h
    split at h
    · rename_i n l' hn hl
      cases h
      rw [List.mapM_cons]
      simp only [Sem.run_bind, run_sizeT hn, Result.andThen_ok, Sem.run_pure, placesS_run w hl]
    · cases h
/-- a struct's or an array's value out of its parts -/
def buildP (P : Program) (t : TypeId) (parts : List (Nat × PV)) : Option (List PV) := match zeroT P t with
  | some z => match pcells (.lit z) with
    | some cs => match cs.all one with
      | true => match P.underlying t with
        | some (.struct fs) => match placesS P fs.toList with
          | some l => fillP (fun i => l.toArray[i]?) parts cs
          | none => none
        | some (.array _ e) => match sizeT P e with
          | some n => fillP (fun i => some (i * n, n)) parts cs
          | none => none
        | _ => none
      | false => none
    | none => none
  | none => none
theorem pcells_lit {v : Value} {cs : List PV} (h : pcells (.lit v) = some cs) (h1 : cs.all one = true) {C : Nat → Nat → Value → Prop} {m : Nat → Option Value} :
    cs.length = v.cells.size ∧ (∀ (i : Nat) (q : PV) (u : Value), cs[i]? = some q → v.cells[i]? = some u → Rep C m q u) ∧ ∀ u ∈ v.cells, u.oneCell' = true :=
  pcells_ok (.lit m v) h h1
theorem buildP_ok {P : Program} {C : Nat → Nat → Value → Prop} {m : Nat → Option Value} {t : TypeId} {pp : List (Nat × PV)} {vv : Array (Nat × Value)} {cs : List PV} (h : buildP P t pp = some cs) (hlen : pp.length = vv.size)
    (hpp : ∀ (k : Nat) (x : Nat × PV) (y : Nat × Value), pp[k]? = some x → vv[k]? = some y → x.1 = y.1 ∧ Rep C m x.2 y.2) (w : World) : ∃ vs, (Instr.build t vv).run P w = .ok (.agg vs) w ∧ Rep C m (.agg cs) (.agg vs) := by
  unfold buildP at h
  split at h
  · rename_i z hz
    split at h
    · rename_i c0 hc0
      split at h
      · rename_i h1
        obtain ⟨g1, g2, g3⟩ := pcells_lit (C := C) (m := m) hc0 h1
        have hzr := run_zeroT hz w
        split at h
        · rename_i fs hu
          split at h
          · rename_i l hl
            obtain ⟨vs, f1, f2, f3, f4⟩ := fillP_ok (C := C) (m := m) _ pp vv.toList c0 cs z.cells (by simpa using hlen) (fun k x y hx hy => hpp k x y hx (by simpa using hy)) g1 g2 g3 h
            refine ⟨vs, ?_, .agg _ _ vs f2 f3⟩
            unfold Instr.build
            simp only [Sem.run_bind, hzr, Result.andThen_ok, run_underlying hu]
            rw [Array.mapM_eq_mapM_toList]
            simp only [Sem.run_map, placesS_run w hl, Result.andThen_ok, f1, Sem.run_pure]
          · cases h
        · rename_i k e hu
          split at h
          · rename_i n hn
            obtain ⟨vs, f1, f2, f3, f4⟩ := fillP_ok (C := C) (m := m) _ pp vv.toList c0 cs z.cells (by simpa using hlen) (fun k x y hx hy => hpp k x y hx (by simpa using hy)) g1 g2 g3 h
            refine ⟨vs, ?_, .agg _ _ vs f2 f3⟩
            unfold Instr.build
            simp only [Sem.run_bind, hzr, Result.andThen_ok, run_underlying hu, run_sizeT hn, f1, Sem.run_pure]
          · cases h
        · cases h
      · cases h
    · cases h
  · cases h
/-- a row of bytes -/
def byteOf : List PV → UInt8
  | [.lit (.int .u8 x)] => UInt8.ofNat x.toNat
  | _ => 0
def isByte : List PV → Bool
  | [.lit (.int .u8 x)] => decide (0 ≤ x) && decide (x < 256)
  | _ => false
def bytesOf (n : Nat) (f : Nat → List PV) : List UInt8 := (List.range n).map fun i => byteOf (f i)
def areBytes (n : Nat) (f : Nat → List PV) : Bool := (List.range n).all fun i => isByte (f i)
theorem isByte_eq {l : List PV} (h : isByte l = true) : l = [.lit (.int .u8 ((byteOf l).toNat : Int))] := by
  unfold isByte at h
  split at h
  · rename_i x
    simp only [Bool.and_eq_true, decide_eq_true_eq] at h
    have : ((UInt8.ofNat x.toNat).toNat : Int) = x := by
      rw [UInt8.toNat_ofNat']
      omega
    simp only [byteOf, this]
  · cases h
theorem addr_add (b o j : Nat) : (⟨b, o, none⟩ : Addr).add j = ⟨b, o + j, none⟩ := by unfold Addr.add; split <;> simp_all
/-- bytes that lie in a row, as a text -/
theorem bytes_text {P : Program} {w : World} {src dst e : TypeId} (hs : P.underlying src = some (.slice e)) (he : P.underlying e = some (.int .u8)) (hd : P.underlying dst = some .string) {b o n cap : Nat} {f : Nat → List PV} (hf : areBytes n f = true)
    (hc : ∀ i, i < n → ∀ p, (f i)[0]? = some p → ∃ v, w.cell? ⟨b, o + i, none⟩ = some v ∧ ∀ x, p = .lit x → v = x) : (convert src dst (.slice (some ⟨b, o, none⟩) n cap)).run P w = .ok (.string ⟨(bytesOf n f).toArray⟩) w := by
  have hl : (bytesOf n f).length = n := by simp [bytesOf]
  have h := run_convert_bytes_back (P := P) w src dst e ⟨b, o, none⟩ cap (bytesOf n f) hs he hd fun j hj => by
    rw [hl] at hj
    have hq := isByte_eq (List.all_eq_true.1 hf j (List.mem_range.2 hj))
    obtain ⟨v, hv, hx⟩ := hc j hj (.lit (.int .u8 ((byteOf (f j)).toNat : Int))) (by have := congrArg (fun l => l[0]?) hq; exact this)
    have := hx _ rfl
    subst this
    rw [addr_add, hv]
    simp [bytesOf]
  rw [hl] at h
  exact h
end Go.Proofs.YtlngnfkjpfokhaaDoor.Ev
