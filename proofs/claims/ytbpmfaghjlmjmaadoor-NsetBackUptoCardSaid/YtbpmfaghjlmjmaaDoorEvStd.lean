/- Contracts out of what the guide's library proves of Go's; words for values. No condition. -/
import Derived.Test.YtbpmfaghjlmjmaaDoorEvLoop
import Derived.Sort.Grow
import Derived.Lib.ConvBytes
import Derived.Deep.Draws
namespace Go.Proofs.YtbpmfaghjlmjmaaDoor.Ev
open Go Go.RowKit
set_option linter.unusedVariables false
set_option linter.unusedSimpArgs false
abbrev str (s : ByteArray) : PV := .lit (.string s)
abbrev int (i : Int) : PV := .lit (.int .i64 i)
abbrev bool (b : Bool) : PV := .lit (.bool b)
/-- a text that fits into any memory -/
def okS (s : ByteArray) : Bool := Nat.ble s.size 4294967280
theorem okS_le {s : ByteArray} (h : okS s = true) : s.size ≤ 4294967280 := Nat.le_of_ble_eq_true h
theorem okS_of {s : ByteArray} (h : s.size ≤ 4294967280) : okS s = true := Nat.ble_eq ▸ h
theorem Keeps.drewN {K : Nat → Prop} {w : World} (n : Nat) : Keeps K w (w.drewN n) := ⟨rfl, rfl, rfl, Nat.le_refl _, fun _ _ => rfl⟩
theorem Keeps.grow {w w' : World} (h : Keeps (· < w.heap.size) w w') (os : Array Obj) : Keeps (· < w.heap.size) w (Go.Sort.grow w' os) := by
  refine ⟨h.os, h.tape, h.output, Nat.le_trans h.size (by simp [Go.Sort.grow]), fun k hk => ?_⟩
  rw [← h.block k hk]
  show (w'.heap ++ os)[k]? = _
  rw [Array.getElem?_append_left (Nat.lt_of_lt_of_le hk h.size)]
theorem Keeps.bytes {w : World} (e : TypeId) (s : ByteArray) : Keeps (· < w.heap.size) w (Lib.bytesWorld w e s) := by
  have h1 : Keeps (· < w.heap.size) w (w.drew.alloc (.cells (Lib.bytesCells w e s) e)) := ⟨rfl, rfl, rfl, by simp, fun k hk => heap_alloc_old w.drew _ hk⟩
  unfold Lib.bytesWorld
  generalize w.drew.alloc (.cells (Lib.bytesCells w e s) e) = w1 at h1
  unfold World.freeze
  split
  · exact h1
  · refine ⟨h1.os, h1.tape, h1.output, by simpa using h1.size, fun k hk => ?_⟩
    rw [← h1.block k hk]
    show (w1.heap.modify w.heap.size _)[k]? = _
    rw [Array.getElem?_modify, if_neg (Nat.ne_of_gt hk)]
theorem litL_args {C : Nat → Nat → Value → Prop} {vs : List Value} {args : Array Value} (h : RepL C (vs.map .lit) args) : args = vs.toArray := by
  apply Array.ext
  · rw [← h.1]
    simp
  · intro i h1 h2
    have h2' : i < vs.length := by simpa using h2
    have := h.2 i (.lit vs[i]) args[i] (by simp [h2']) (by simp [h1])
    have := litOf_rep this rfl
    rw [this]
    simp
/-- a contract at known arguments -/
theorem PureAt.lits {P : Program} {G : GT} {f : FuncId} {vs : List Value} {p : PV}
    (h : ∀ (w : World) (C : Nat → Nat → Value → Prop), Known C w → Globs G C → Objs G w → Calls P f vs.toArray w fun
      | .returned v, w' => Keeps (· < w.heap.size) w w' ∧ Rep (Grown C w w') (fun _ => none) p v
      | _, _ => False) : PureAt P G f (vs.map .lit) p := by
  intro w C hK hG hO args hr
  rw [litL_args hr]
  exact h w C hK hG hO
/-- .. that gives back a known value -/
theorem PureAt.known {P : Program} {G : GT} {f : FuncId} {vs : List Value} {v : Value}
    (h : ∀ (w : World) (C : Nat → Nat → Value → Prop), Known C w → Globs G C → Objs G w → Calls P f vs.toArray w fun e w' => e = .returned v ∧ Keeps (· < w.heap.size) w w') : PureAt P G f (vs.map .lit) (.lit v) :=
  PureAt.lits fun w C hK hG hO => (h w C hK hG hO).mono fun e w' he => by
    obtain ⟨rfl, hk⟩ := he
    exact ⟨hk, .lit _ _⟩
theorem PureOK.of {P : Program} {G : GT} {f : FuncId} {g g' : List PV → Tr PV} (h : PureOK P G f g) (hg : ∀ ps p, (g' ps).run = some p → ∃ q, (g ps).run = some q ∧ PLe q p) : PureOK P G f g' := fun ps p hp =>
  let ⟨q, hq, hl⟩ := hg ps p hp
  (h ps q hq).post hl
/-- a variable that nobody writes, in its cell -/
theorem glob_cell {G : GT} {C : Nat → Nat → Value → Prop} {w : World} (hK : Known C w) (hG : Globs G C) {g : Nat} {v : Value} (h : G.tab g = some [.lit v]) : w.cell? ⟨g, 0, none⟩ = some v := by
  have := hG g _ h
  cases this with
  | gptr m cs b o gv hc hr =>
    have h1 := (hc 0 (by simp)).1
    have h2 := litOf_rep (hr 0 (.lit v) rfl) rfl
    rw [← h2]
    exact hK _ _ _ h1
theorem glob_iface {G : GT} {C : Nat → Nat → Value → Prop} {w : World} (hK : Known C w) (hG : Globs G C) {g : Nat} {t : TypeId} (h : G.tab g = some [.iface t .junk]) : ∃ v, w.cell? ⟨g, 0, none⟩ = some (.iface t v) := by
  have := hG g _ h
  cases this with
  | gptr m cs b o gv hc hr =>
    have h1 := (hc 0 (by simp)).1
    have h2 := hr 0 (.iface t .junk) rfl
    generalize hx : gv 0 = x at h1 h2
    cases h2 with
    | iface m t p v hv => exact ⟨v, hK _ _ _ h1⟩
theorem br_run {α : Type} {c : Bool} {t : Tr α} {r : α} (h : (Tr.br c t .fail).run = some r) : c = true ∧ t.run = some r := by
  cases c with
  | true => exact ⟨rfl, h⟩
  | false => cases h
/-- a function's loop, by its block's number -/
def theLoop (id : Nat) (fn : Func) : Code := match fn.body with
  | some c => match blocksOf id c with
    | [.loop b] => b
    | _ => .skip
  | none => .skip
def hasLoop (id : Nat) (fn : Func) : Bool := match fn.body with
  | some c => match blocksOf id c with
    | [.loop _] => true
    | _ => false
  | none => false
theorem hasLoop_ok {id : Nat} {fn : Func} (h : hasLoop id fn = true) {c : Code} (hc : fn.body = some c) {b : Code} (hb : b ∈ blocksOf id c) : b = .loop (theLoop id fn) := by
  unfold hasLoop at h
  unfold theLoop
  rw [hc] at h ⊢
  dsimp only at h ⊢
  split at h
  · rename_i x hx
    rw [hx] at hb
    rw [List.mem_singleton] at hb
    exact hb
  · cases h
/-- what is behind a label -/
def theRest (l : Nat) (fn : Func) : Code := match fn.body with
  | some c => match scopesOf l c with
    | [b] => b
    | _ => .skip
  | none => .skip
def hasRest (l : Nat) (fn : Func) : Bool := match fn.body with
  | some c => match scopesOf l c with
    | [_] => true
    | _ => false
  | none => false
theorem hasRest_ok {l : Nat} {fn : Func} (h : hasRest l fn = true) {c : Code} (hc : fn.body = some c) {b : Code} (hb : b ∈ scopesOf l c) : b = theRest l fn := by
  unfold hasRest at h
  unfold theRest
  rw [hc] at h ⊢
  dsimp only at h ⊢
  split at h
  · rename_i x hx
    rw [hx] at hb
    rw [List.mem_singleton] at hb
    exact hb
  · cases h
/-- one cut -/
def cut1 (k : Nat) (g : St → Tr (Exit × St)) : Nat → Option (St → Tr (Exit × St)) := fun i => match Nat.beq i k with
  | true => some g
  | false => none
/-- one cut more -/
def cutAlso (k : Nat) (g : St → Tr (Exit × St)) (r : Nat → Option (St → Tr (Exit × St))) : Nat → Option (St → Tr (Exit × St)) := fun i => match Nat.beq i k with
  | true => some g
  | false => r i
/-- the cuts of a function: loops and labels, each by its own law -/
structure CutLaws (x : Mode) (P : Program) (G : GT) (fn : Func) (cuts : Nat → Option (St → Tr (Exit × St))) : Prop where
  blk : ∀ id g, cuts id = some g → hasLoop id fn = true ∧ ∀ st e st', (g st).run = some (e, st') → Run x P G (.block id (.loop (theLoop id fn))) st e st'
  lab : ∀ l g, cuts (1000000 + l) = some g → hasRest l fn = true ∧ ∀ st e st', (g st).run = some (e, st') → Jumps x P G (theRest l fn) l st e st'
theorem CutLaws.ok {x : Mode} {P : Program} {G : GT} {fn : Func} {E : Env} (h : CutLaws x P G fn E.cuts) : ∀ c, fn.body = some c → CutsOK x P G E c := fun c hc =>
  ⟨fun id g hg b hb st e st' hp => by
    obtain ⟨h1, h2⟩ := h.blk id g hg
    rw [hasLoop_ok h1 hc hb]
    exact h2 st e st' hp,
   fun l g hg b hb st e st' hp => by
    obtain ⟨h1, h2⟩ := h.lab l g hg
    rw [hasRest_ok h1 hc hb]
    exact h2 st e st' hp⟩


/-- what comes out where all that must be so is so; and what must be so, the last first -/
def Tr.runA {α : Type} : Tr α → List Bool → Option (α × List Bool)
  | .leaf a, acc => some (a, acc)
  | .br c t .fail, acc => t.runA (c :: acc)
  | .br c t e, acc => bif c then t.runA acc else e.runA acc
  | .fail, _ => none
def Tr.run2 {α : Type} (t : Tr α) : Option (α × List Bool) := t.runA []
theorem Tr.runA_run {α : Type} : ∀ {t : Tr α} {acc : List Bool} {a : α} {l : List Bool}, t.runA acc = some (a, l) → (∀ b ∈ l, b = true) → t.run = some a ∧ ∀ b ∈ acc, b = true
  | .leaf _, acc, a, l, h, hl => by
    simp only [Tr.runA, Option.some.injEq, Prod.mk.injEq] at h
    obtain ⟨rfl, rfl⟩ := h
    exact ⟨rfl, hl⟩
  | .fail, acc, a, l, h, _ => by cases h
  | .br c t .fail, acc, a, l, h, hl => by
    simp only [Tr.runA] at h
    obtain ⟨h1, h2⟩ := Tr.runA_run h hl
    have hc := h2 c List.mem_cons_self
    refine ⟨?_, fun b hb => h2 b (List.mem_cons_of_mem _ hb)⟩
    simp only [Tr.run, hc, cond_true]
    exact h1
  | .br c t (.leaf x), acc, a, l, h, hl => by
    have h : (bif c then t.runA acc else (Tr.leaf x).runA acc) = some (a, l) := h
    cases c with
    | true => exact Tr.runA_run (t := t) h hl
    | false => exact Tr.runA_run (t := .leaf x) h hl
  | .br c t (.br d u v), acc, a, l, h, hl => by
    have h : (bif c then t.runA acc else (Tr.br d u v).runA acc) = some (a, l) := h
    cases c with
    | true => exact Tr.runA_run (t := t) h hl
    | false => exact Tr.runA_run (t := .br d u v) h hl
/-- with all that must be so at hand -/
theorem Tr.run_of {α : Type} {t : Tr α} {a : α} {l : List Bool} (h : t.run2 = some (a, l)) (hl : l.all (fun b => b) = true) : t.run = some a :=
  (Tr.runA_run h fun b hb => List.all_eq_true.1 hl b hb).1
theorem wrap_nat {n : Nat} (h : n ≤ 9223372036854775807) : IntKind.i64.wrap (n : Int) = n := by
  have : (0 : Int) ≤ n := by omega
  simp [IntKind.wrap, IntKind.bits, IntKind.signed]
  omega
theorem wrap_succ {n : Nat} (h : n < 9223372036854775807) : IntKind.i64.wrap ((n : Int) + 1) = ((n + 1 : Nat) : Int) := by
  have := wrap_nat (n := n + 1) (by omega)
  simpa using this
/-- a table of contracts -/
def tabOf {α : Type} : List (Nat × α) → Nat → Option α
  | [], _ => none
  | (k, x) :: r, i => match Nat.beq k i with
    | true => some x
    | false => tabOf r i
theorem tabOf_mem {α : Type} : ∀ {l : List (Nat × α)} {i : Nat} {x : α}, tabOf l i = some x → (i, x) ∈ l
  | [], i, x, h => by cases h
  | (k, y) :: r, i, x, h => by
    unfold tabOf at h
    split at h
    · rename_i hb
      cases h
      rw [← Nat.eq_of_beq_eq_true hb]
      exact List.mem_cons_self
    · exact List.mem_cons_of_mem _ (tabOf_mem h)
def TabOK (P : Program) (G : GT) (l : List (Nat × (List PV → Tr PV))) : Prop := ∀ f g, (f, g) ∈ l → PureOK P G f g ∧ Enters P f
def FullOK (P : Program) (G : GT) (l : List (Nat × (List PV → Mem → Tr (PV × Mem)))) : Prop := ∀ f g, (f, g) ∈ l → FnOK P G f g ∧ Enters P f
theorem TabOK.cons {P : Program} {G : GT} {l : List (Nat × (List PV → Tr PV))} {f : Nat} {g : List PV → Tr PV} {fn : Func} (h : PureOK P G f g) (hf : P.funcs[f]? = some fn) (hc : canEnter fn = true) (hl : TabOK P G l) : TabOK P G ((f, g) :: l) := fun f' g' hm => by
  rcases List.mem_cons.1 hm with e | hm
  · cases e
    exact ⟨h, enters_of hf hc⟩
  · exact hl f' g' hm
/-- the known functions, and those that are run as a whole -/
def envOf (P : Program) (G : GT) (l : List (Nat × (List PV → Tr PV))) (full : List (Nat × (List PV → Mem → Tr (PV × Mem)))) : Env := inl P G (tabOf l) (tabOf full) 60 10
theorem envOf_ok {P : Program} {G : GT} (hmo : P.follows .mixedOrders = true) {l : List (Nat × (List PV → Tr PV))} {full : List (Nat × (List PV → Mem → Tr (PV × Mem)))} (hl : TabOK P G l) (hf : FullOK P G full) : (envOf P G l full).ok P G :=
  inl_ok hmo (fun f g h => hl f g (tabOf_mem h)) (fun f g h => hf f g (tabOf_mem h)) 60 10
theorem envOf_cuts (P : Program) (G : GT) (l : List (Nat × (List PV → Tr PV))) (full : List (Nat × (List PV → Mem → Tr (PV × Mem)))) : (envOf P G l full).cuts = noCuts := inl_cuts ..
/-- what a function without great loops does -/
theorem fn_pure {P : Program} {G : GT} (hmo : P.follows .mixedOrders = true) {E : Env} (hE : E.ok P G) (hc : E.cuts = noCuts) {f : FuncId} {fn : Func} (hf : P.funcs[f]? = some fn) : PureOK P G f (fnPure P E 60 fn G) := pure_of_ev hE hmo hf fun c _ => noCuts_ok hc c
/-- .. one with great loops -/
theorem fn_cuts {P : Program} {G : GT} (hmo : P.follows .mixedOrders = true) {E : Env} (hE : E.ok P G) {cuts : Nat → Option (St → Tr (Exit × St))} {f : FuncId} {fn : Func} (hf : P.funcs[f]? = some fn) (hc : CutLaws .none P G fn cuts) : PureOK P G f (fnPure P (E.withCuts cuts) 60 fn G) :=
  pure_of_ev (hE.withCuts cuts) hmo hf (CutLaws.ok (E := E.withCuts cuts) hc)
theorem CutLaws.one {x : Mode} {P : Program} {G : GT} {fn : Func} {id : Nat} (hid : id < 1000000) {g : St → Tr (Exit × St)} (h1 : hasLoop id fn = true) (h2 : ∀ st e st', (g st).run = some (e, st') → Run x P G (.block id (.loop (theLoop id fn))) st e st') : CutLaws x P G fn (cut1 id g) := by
  refine ⟨fun i g' hg => ?_, fun l g' hg => ?_⟩
  · unfold cut1 at hg
    split at hg
    · rename_i hb
      have := Nat.eq_of_beq_eq_true hb
      subst this
      cases hg
      exact ⟨h1, h2⟩
    · cases hg
  · unfold cut1 at hg
    split at hg
    · rename_i hb
      have := Nat.eq_of_beq_eq_true hb
      omega
    · cases hg
theorem CutLaws.jump {x : Mode} {P : Program} {G : GT} {fn : Func} {l : Nat} {g : St → Tr (Exit × St)} (h1 : hasRest l fn = true) (h2 : ∀ st e st', (g st).run = some (e, st') → Jumps x P G (theRest l fn) l st e st') (h3 : ∀ c, fn.body = some c → blocksOf (1000000 + l) c = [])
    (E : Env) : ∀ c, fn.body = some c → CutsOK x P G (E.withCuts (cut1 (1000000 + l) g)) c := by
  intro c hc
  refine ⟨fun id g' hg b hb st e st' hp => ?_, fun l' g' hg b hb st e st' hp => ?_⟩
  · have hg : cut1 (1000000 + l) g id = some g' := hg
    unfold cut1 at hg
    split at hg
    · rename_i hbq
      have := Nat.eq_of_beq_eq_true hbq
      subst this
      rw [h3 c hc] at hb
      cases hb
    · cases hg
  · have hg : cut1 (1000000 + l) g (1000000 + l') = some g' := hg
    unfold cut1 at hg
    split at hg
    · rename_i hbq
      have he : l' = l := by
        have := Nat.eq_of_beq_eq_true hbq
        omega
      clear hbq
      cases hg
      subst he
      rw [hasRest_ok h1 hc hb]
      exact h2 st e st' hp
    · cases hg
theorem CutLaws.add {x : Mode} {P : Program} {G : GT} {fn : Func} {id : Nat} (hid : id < 1000000) {g : St → Tr (Exit × St)} {r : Nat → Option (St → Tr (Exit × St))} (h1 : hasLoop id fn = true)
    (h2 : ∀ st e st', (g st).run = some (e, st') → Run x P G (.block id (.loop (theLoop id fn))) st e st') (hr : CutLaws x P G fn r) : CutLaws x P G fn (cutAlso id g r) := by
  refine ⟨fun i g' hg => ?_, fun l g' hg => ?_⟩
  · unfold cutAlso at hg
    split at hg
    · rename_i hb
      have := Nat.eq_of_beq_eq_true hb
      subst this
      cases hg
      exact ⟨h1, h2⟩
    · exact hr.blk i g' hg
  · unfold cutAlso at hg
    split at hg
    · rename_i hb
      have := Nat.eq_of_beq_eq_true hb
      omega
    · exact hr.lab l g' hg
theorem cutsOK_env {x : Mode} {P : Program} {G : GT} {E E' : Env} {c : Code} (h : CutsOK x P G E c) (he : E.cuts = E'.cuts) : CutsOK x P G E' c :=
  ⟨fun id g hg => h.blk id g (by rw [he]; exact hg), fun l g hg => h.lab l g (by rw [he]; exact hg)⟩
end Go.Proofs.YtbpmfaghjlmjmaaDoor.Ev
