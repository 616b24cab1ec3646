/- Functions of the program: a call enters them; functions that call others, run as a whole; contracts out of the evaluator. No condition. -/
import Derived.Test.YtbpmfaghjlmjmaaDoorEvRun
namespace Go.Proofs.YtbpmfaghjlmjmaaDoor.Ev
open Go Go.RowKit
set_option linter.unusedVariables false
set_option linter.unusedSimpArgs false

def canEnter (fn : Func) : Bool := fn.body.isSome && !(fn.name == "runtime.NumGoroutine")
theorem enters_of {P : Program} {f : FuncId} {fn : Func} (hf : P.funcs[f]? = some fn) (h : canEnter fn = true) : Enters P f := by
  intro args w
  simp only [canEnter, Bool.and_eq_true, Bool.not_eq_true'] at h
  have h1 : fn.name ≠ "runtime.NumGoroutine" := by
    have := h.2
    simpa using this
  have h2 : fn.body ≠ none := by
    intro e
    rw [e] at h
    cases h.1
  unfold callFunc
  simp [program, hf, h1, h2, Sem.run]
/-- no cuts -/
def noCuts : Nat → Option (St → Tr (Exit × St)) := fun _ => none
theorem noCuts_ok {x : Mode} {P : Program} {G : GT} {E : Env} (h : E.cuts = noCuts) (c : Code) : CutsOK x P G E c :=
  ⟨fun id g hg => (by rw [h] at hg; cases hg), fun l g hg => (by rw [h] at hg; cases hg)⟩

/-- whatever p tells, q tells too -/
def PLe (p q : PV) : Prop := ∀ (C : Nat → Nat → Value → Prop) (m : Nat → Option Value) (v : Value), Rep C m p v → Rep C m q v
theorem PLe.refl (p : PV) : PLe p p := fun _ _ _ h => h
theorem PLe.trans {p q r : PV} (h : PLe p q) (k : PLe q r) : PLe p r := fun C m v hr => k C m v (h C m v hr)
theorem PLe.of_eq {p q : PV} (h : p = q) : PLe p q := h ▸ PLe.refl p
theorem PLe.nil (sz : Nat) (f : Nat → List PV) : PLe (.lit (.slice none 0 0)) (.gsl sz 0 f) := fun C m v h => by
  cases h
  exact .gnil _ sz f
theorem PLe.gsl {sz n n' : Nat} {f g : Nat → List PV} (hn : n = n') (h : ∀ i, i < n → f i = g i) : PLe (.gsl sz n f) (.gsl sz n' g) := fun C m v hr => by
  subst hn
  cases hr with
  | gnil m sz f => exact .gnil _ _ _
  | gsl m sz n f b o cap g' hc hl hrr hcap => exact .gsl _ sz n g b o cap g' hc (fun i hi => by rw [← h i hi]; exact hl i hi) (fun i j p hi hp => hrr i j p hi (by rw [h i hi]; exact hp)) hcap
def PLeL (ps qs : List PV) : Prop := ps.length = qs.length ∧ ∀ (i : Nat) (p q : PV), ps[i]? = some p → qs[i]? = some q → PLe p q
theorem PLeL.nil : PLeL [] [] := ⟨rfl, fun i p q h => by simp at h⟩
theorem PLeL.cons {p q : PV} {ps qs : List PV} (h : PLe p q) (hs : PLeL ps qs) : PLeL (p :: ps) (q :: qs) :=
  ⟨by simp [hs.1], fun i a b ha hb => by
    cases i with
    | zero =>
      simp at ha hb
      subst ha
      subst hb
      exact h
    | succ i => exact hs.2 i a b (by simpa using ha) (by simpa using hb)⟩
theorem PLeL.refl : ∀ (ps : List PV), PLeL ps ps
  | [] => .nil
  | p :: r => .cons (.refl p) (PLeL.refl r)
theorem PLe.agg {ps qs : List PV} (h : PLeL ps qs) : PLe (.agg ps) (.agg qs) := fun C m v hr => by
  cases hr with
  | agg m ps vs hl hrr =>
    refine .agg _ qs vs (h.1 ▸ hl) fun i q v hq hv => ?_
    have hi : i < ps.length := by
      rw [h.1]
      exact (List.getElem?_eq_some_iff.1 hq).1
    exact h.2 i _ q (List.getElem?_eq_getElem hi) hq _ _ _ (hrr i _ v (List.getElem?_eq_getElem hi) hv)
theorem PLe.tup {ps qs : List PV} (h : PLeL ps qs) : PLe (.tup ps) (.tup qs) := fun C m v hr => by
  cases hr with
  | tup m ps vs hl hrr =>
    refine .tup _ qs vs (h.1 ▸ hl) fun i q v hq hv => ?_
    have hi : i < ps.length := by
      rw [h.1]
      exact (List.getElem?_eq_some_iff.1 hq).1
    exact h.2 i _ q (List.getElem?_eq_getElem hi) hq _ _ _ (hrr i _ v (List.getElem?_eq_getElem hi) hv)
theorem PLe.litAgg (vs : Array Value) : PLe (.lit (.agg vs)) (.agg (vs.toList.map .lit)) := fun C m v h => by
  cases h
  refine .agg _ _ vs (by simp) fun i p v hp hv => ?_
  simp only [List.getElem?_map, Array.getElem?_toList] at hp
  rw [hv] at hp
  cases hp
  exact .lit _ _
theorem PLe.aggLit {ps : List PV} {l : List Value} (h : litsOf ps = some l) : PLe (.agg ps) (.lit (.agg l.toArray)) := fun C m v hr => by
  have := norm_rep hr
  simpa [norm, h] using this
theorem PLe.junk (p : PV) : PLe p .junk := fun _ _ _ _ => .junk _ _
theorem PLe.iface {t : TypeId} {p q : PV} (h : PLe p q) : PLe (.iface t p) (.iface t q) := fun C m v hr => by
  cases hr with
  | iface m t p v hr => exact .iface _ t q v (h _ _ _ hr)
theorem RepL.le {C : Nat → Nat → Value → Prop} {ps qs : List PV} {args : Array Value} (h : RepL C ps args) (hl : PLeL ps qs) : RepL C qs args :=
  ⟨hl.1 ▸ h.1, fun i q v hq hv => by
    have hi : i < ps.length := by
      rw [hl.1]
      exact (List.getElem?_eq_some_iff.1 hq).1
    exact hl.2 i _ q (List.getElem?_eq_getElem hi) hq _ _ _ (h.2 i _ v (List.getElem?_eq_getElem hi) hv)⟩
theorem PureAt.post {P : Program} {G : GT} {f : FuncId} {ps : List PV} {p q : PV} (h : PureAt P G f ps p) (hl : PLe p q) : PureAt P G f ps q := by
  intro w C hK hG hO args hr
  refine Calls.mono (h w C hK hG hO args hr) ?_
  intro e w' he
  cases e with
  | returned v => exact ⟨he.1, hl _ _ _ he.2⟩
  | panicked _ => exact he.elim
  | outgrown => exact he.elim
theorem PureAt.pre {P : Program} {G : GT} {f : FuncId} {ps qs : List PV} {p : PV} (h : PureAt P G f qs p) (hl : PLeL ps qs) : PureAt P G f ps p :=
  fun w C hK hG hO args hr => h w C hK hG hO args (hr.le hl)

/-- a function's end, for callers that see no memory of its own -/
def fnPure (P : Program) (E : Env) (n : Nat) (fn : Func) (G : GT) (ps : List PV) : Tr PV := (fnEv P E n fn ps ⟨[], 0, G⟩).bind fun r => .leaf (r.1.sub r.2.viewAtom)
theorem pure_of_ev {P : Program} {E : Env} {n : Nat} {G : GT} (hE : E.ok P G) (hmo : P.follows .mixedOrders = true) {f : FuncId} {fn : Func} (hf : P.funcs[f]? = some fn) (hc : ∀ c, fn.body = some c → CutsOK .none P G E c) : PureOK P G f (fnPure P E n fn G) := by
  intro ps p hp w C hK hG hO args hr
  obtain ⟨⟨q, M'⟩, hq, hp⟩ := Tr.of_bind hp
  simp only [Tr.run, Option.some.injEq] at hp
  subst hp
  have hcell : ∀ b o v, C b o v → Cell ⟨w, C, (· < w.heap.size), G⟩ w ⟨[], 0, G⟩ (fun _ => none) b o v := fun b o v h => ⟨fun ⟨id, u, hs, _⟩ => (by cases hs), hK b o v h, fun _ => h⟩
  have hM : MRel ⟨w, C, (· < w.heap.size), G⟩ ⟨[], 0, G⟩ (fun _ => none) w :=
    ⟨fun id b hb => (by cases hb), fun _ _ => rfl, fun i j v v' b hi => (by cases hi), fun k hk => hk, Keeps.refl _ _, fun g cs hg => (hG g cs hg).mono hcell fun _ _ h => h, rfl, fun g o hg => ⟨(Array.getElem?_eq_some_iff.1 (hO g o hg)).1, hO g o hg⟩⟩
  refine Calls.mono (fnEv_wp hE hmo hf hc (β := ⟨w, C, (· < w.heap.size), G⟩) rfl hM hr.1 (fun i p v hp hv => (hr.2 i p v hp hv).mono hcell fun _ _ h => h) hq) ?_
  intro e w' he
  cases e with
  | panicked _ => exact he.elim
  | outgrown => exact he.elim
  | returned v =>
    obtain ⟨m', -, hM', hrep⟩ := he
    refine ⟨hM'.below, ?_⟩
    have hC : ∀ b o x, Cell ⟨w, C, (· < w.heap.size), G⟩ w' M' m' b o x → Grown C w w' b o x := by
      intro b o x hx
      rcases Nat.lt_or_ge b w.heap.size with h | h
      · exact .inl (hx.2.2 h)
      · exact .inr ⟨h, hx.2.1⟩
    have hown : ∀ {p : PV} {v : Value}, Atom p → Rep (Cell ⟨w, C, (· < w.heap.size), G⟩ w' M' m') m' p v → Rep (Grown C w w') (fun _ => none) (M'.ownAtom p) v := by
      intro p v ha hr
      refine ownAtom_rep hM' hC (fun id e sz n f hl v k o x hv hk hx => .inr ⟨?_, hx⟩) ha hr
      have hb := hM'.blk id _ hl
      cases hb with
      | row e sz n f v' xs hm ho h1 hl hr =>
        rw [hv] at hm
        cases hm
        rcases ho.2 with ⟨rfl, _⟩ | ⟨g, cap, cur, rfl, hbg, _⟩
        · cases hk
        · cases hk
          exact hbg
    refine hrep.sub hC fun p v ha hr => ?_
    cases ha with
    | own id => exact hown (.own id) hr
    | optr id sz i j => exact .junk _ _
    | ptr id off =>
      simp only [Mem.viewAtom]
      split
      · rename_i ty cs hl
        have hb := hM'.blk id _ hl
        cases hr with
        | ptr m id off b hm =>
          cases hb with
          | cells ty cs b' vs hm' hb' hlen h1 hr hB =>
            rw [hm] at hm'
            cases hm'
            have hBs : w.heap.size ≤ b := Nat.le_of_not_lt hB
            have hcellv : ∀ j (x : Value), vs[j]? = some x → w'.cell? ⟨b, j, none⟩ = some x := by
              intro j x hx
              simp [World.cell?, hb', hx]
            refine .gptr _ _ b off (fun j => vs.getD (off + j) undef) (fun j hj => ?_) fun j q hq => ?_
            · rw [List.length_drop, subL_length] at hj
              have hlt : off + j < vs.size := by omega
              have hx : vs[off + j]? = some (vs.getD (off + j) undef) := by
                simp [Array.getD_eq_getD_getElem?, hlt]
              exact ⟨.inr ⟨hBs, hcellv _ _ hx⟩, h1 _ (Array.mem_of_getElem? hx)⟩
            · rw [List.getElem?_drop, subL_get] at hq
              cases hc : cs[off + j]? with
              | none => rw [hc] at hq; cases hq
              | some c =>
                rw [hc] at hq
                cases hq
                have hlt : off + j < vs.size := by
                  rw [← hlen]
                  exact (List.getElem?_eq_some_iff.1 hc).1
                have hx : vs[off + j]? = some (vs.getD (off + j) undef) := by
                  simp [Array.getD_eq_getD_getElem?, hlt]
                exact (hr _ c _ hc hx).sub hC fun p v ha hr => hown ha hr
      · exact .junk _ _
/-- no pointer comes out of it -/
def noPtr (P : Program) (fn : Func) : Bool := fn.resultTypes.toList.all fun t => match P.underlying t with
  | some (.pointer _) => false
  | some _ => true
  | none => false
/-- functions that are run as a whole, so deep -/
def inl (P : Program) (G : GT) (pu : FuncId → Option (List PV → Tr PV)) (full : FuncId → Option (List PV → Mem → Tr (PV × Mem))) (n : Nat) : Nat → Env
  | 0 => ⟨pu, fun _ => none, full, noCuts⟩
  | d + 1 => ⟨pu, fun f => match full f with
      | some _ => none
      | none => match P.funcs[f]? with
        | some fn => match canEnter fn && noPtr P fn with
          | true => some (fnPure P (inl P G pu full n d) n fn G)
          | false => none
        | none => none, fun f => match full f with
      | some g => some g
      | none => match P.funcs[f]? with
        | some fn => match canEnter fn with
          | true => some (fnEv P (inl P G pu full n d) n fn)
          | false => none
        | none => none, noCuts⟩
theorem inl_cuts (P : Program) (G : GT) (pu : FuncId → Option (List PV → Tr PV)) (full : FuncId → Option (List PV → Mem → Tr (PV × Mem))) (n d : Nat) : (inl P G pu full n d).cuts = noCuts := by
  cases d <;> rfl
theorem inl_ok {P : Program} {G : GT} (hmo : P.follows .mixedOrders = true) {pu : FuncId → Option (List PV → Tr PV)} {full : FuncId → Option (List PV → Mem → Tr (PV × Mem))} (hp : ∀ f g, pu f = some g → PureOK P G f g ∧ Enters P f)
    (hf : ∀ f g, full f = some g → FnOK P G f g ∧ Enters P f) (n : Nat) : ∀ (d : Nat), Env.ok (inl P G pu full n d) P G
  | 0 => ⟨hp, fun f g h => (by cases h), hf⟩
  | d + 1 => by
    have ih := inl_ok hmo hp hf n d
    refine ⟨hp, fun f g hg => ?_, fun f g hg => ?_⟩
    · simp only [inl] at hg
      split at hg
      · cases hg
      split at hg
      · rename_i fn hfn
        split at hg
        · rename_i hc
          simp only [Bool.and_eq_true] at hc
          cases hg
          exact ⟨pure_of_ev ih hmo hfn fun c _ => noCuts_ok (inl_cuts ..) c, enters_of hfn hc.1⟩
        · cases hg
      · cases hg
    · simp only [inl] at hg
      split at hg
      · rename_i g' hg'
        cases hg
        exact hf f _ hg'
      · split at hg
        · rename_i fn hfn
          split at hg
          · rename_i hc
            cases hg
            exact ⟨fnEv_ok ih hmo hfn fun c _ => noCuts_ok (inl_cuts ..) c, enters_of hfn hc⟩
          · cases hg
        · cases hg
/-- with a function's cuts -/
def Env.withCuts (E : Env) (cuts : Nat → Option (St → Tr (Exit × St))) : Env := ⟨E.pure, E.ipure, E.fns, cuts⟩
theorem Env.ok.withCuts {E : Env} {P : Program} {G : GT} (h : E.ok P G) (cuts : Nat → Option (St → Tr (Exit × St))) : (E.withCuts cuts).ok P G := ⟨h.pure, h.ipure, h.fns⟩
/-- a contract at given arguments -/
theorem PureOK.at {P : Program} {G : GT} {f : FuncId} {g : List PV → Tr PV} (h : PureOK P G f g) {ps : List PV} {p : PV} (hp : (g ps).run = some p) : PureAt P G f ps p := h ps p hp

end Go.Proofs.YtbpmfaghjlmjmaaDoor.Ev
