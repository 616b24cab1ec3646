/- JBox01: several texts in one. Condition: each part's own. -/
import Derived.Test.YtlngnfkjpfokhaaDoorJBox00
import Derived.Laws.StructEq
/- What the evaluator's operations do, and that the program's do the same. No condition. -/
namespace Go.Proofs.YtlngnfkjpfokhaaDoor.Ev
open Go Go.RowKit
set_option linter.unusedVariables false
set_option linter.unusedSimpArgs false

/-- a variable of type t, that lies where these cells begin -/
def window (P : Program) (t : TypeId) (cs : List PV) : Tr PV := match aggT P t with
  | some false => match cs with
    | p :: _ => .leaf p
    | [] => .fail
  | some true => match sizeT P t with
    | some n => match Nat.ble n cs.length with
      | true => .leaf (.agg (cs.take n))
      | false => .fail
    | none => .fail
  | none => .fail
theorem window_load {P : Program} {t : TypeId} {cs : List PV} {p : PV} (h : (window P t cs).run = some p) {C : Nat → Nat → Value → Prop} {m : Nat → Option Value} {w : World} {b o : Nat}
    (hc : ∀ (j : Nat) (q : PV), cs[j]? = some q → ∃ v, w.cell? ⟨b, o + j, none⟩ = some v ∧ Rep C m q v) : ∃ v, (loadVar t ⟨b, o, none⟩).run P w = .ok v w ∧ Rep C m p v := by
  unfold window at h
  cases ha : aggT P t with
  | none => rw [ha] at h; cases h
  | some bb =>
    rw [ha] at h
    cases bb with
    | false =>
      cases cs with
      | nil => cases h
      | cons q r =>
        simp only [Tr.run, Option.some.injEq] at h
        subst h
        obtain ⟨v, hv, hr⟩ := hc 0 q rfl
        refine ⟨v, ?_, hr⟩
        simp only [loadVar, Sem.run_bind, run_aggT ha, Result.andThen_ok, Bool.false_eq_true, if_false]
        rw [Nat.add_zero] at hv
        simp [load, Sem.run, hv]
    | true =>
      dsimp only at h
      cases hs : sizeT P t with
      | none => rw [hs] at h; cases h
      | some n =>
        rw [hs] at h
        dsimp only at h
        cases hb : Nat.ble n cs.length with
        | false => rw [hb] at h; cases h
        | true =>
          rw [hb] at h
          simp only [Tr.run, Option.some.injEq] at h
          subst h
          have hn : n ≤ cs.length := Nat.le_of_ble_eq_true hb
          let g : Nat → Value := fun j => (w.cell? ⟨b, o + j, none⟩).getD undef
          have hg : ∀ (j : Nat) (q : PV), cs[j]? = some q → w.cell? ⟨b, o + j, none⟩ = some (g j) ∧ Rep C m q (g j) := by
            intro j q hq
            obtain ⟨v, hv, hr⟩ := hc j q hq
            have : g j = v := by simp [g, hv]
            rw [this]
            exact ⟨hv, hr⟩
          have hl := run_loadCells (P := P) w ⟨b, o, none⟩ n g fun j hj => by
            rw [addr_add]
            exact (hg j _ (List.getElem?_eq_getElem (by omega))).1
          refine ⟨.agg ((List.range n).map g).toArray, ?_, .agg m _ _ (by simp; omega) ?_⟩
          · simp only [loadVar, Sem.run_bind, run_aggT ha, run_sizeT hs, hl, Result.andThen_ok, if_true]
            rfl
          · intro i q v hq hv
            have hi : i < n := by
              rcases Nat.lt_or_ge i n with h' | h'
              · exact h'
              · rw [List.getElem?_take] at hq
                rw [if_neg (by omega)] at hq
                cases hq
            rw [List.getElem?_take, if_pos hi] at hq
            have : v = g i := by
              have := hv
              simp [hi] at this
              exact this.symm
            rw [this]
            exact (hg i q hq).2

theorem window_part {P : Program} {t : TypeId} {cs : List PV} {p : PV} (h : (window P t cs).run = some p) {C : Nat → Nat → Value → Prop} {m : Nat → Option Value} {w : World} {vs : Array Value} {off : Nat}
    (hc : ∀ (j : Nat) (q : PV), cs[j]? = some q → ∃ v, vs[off + j]? = some v ∧ Rep C m q v) : ∃ v, (part t vs off).run P w = .ok v w ∧ Rep C m p v := by
  unfold window at h
  cases ha : aggT P t with
  | none => rw [ha] at h; cases h
  | some bb =>
    rw [ha] at h
    cases bb with
    | false =>
      cases cs with
      | nil => cases h
      | cons q r =>
        simp only [Tr.run, Option.some.injEq] at h
        subst h
        obtain ⟨v, hv, hr⟩ := hc 0 q rfl
        refine ⟨v, ?_, hr⟩
        rw [Nat.add_zero] at hv
        simp [part, run_aggT ha, hv]
    | true =>
      dsimp only at h
      cases hs : sizeT P t with
      | none => rw [hs] at h; cases h
      | some n =>
        rw [hs] at h
        dsimp only at h
        cases hb : Nat.ble n cs.length with
        | false => rw [hb] at h; cases h
        | true =>
          rw [hb] at h
          simp only [Tr.run, Option.some.injEq] at h
          subst h
          have hn : n ≤ cs.length := Nat.le_of_ble_eq_true hb
          have hin : ∀ j, j < n → off + j < vs.size := by
            intro j hj
            obtain ⟨v, hv, _⟩ := hc j _ (List.getElem?_eq_getElem (by omega))
            exact (Array.getElem?_eq_some_iff.1 hv).1
          have hsz : n = 0 ∨ off + n ≤ vs.size := by
            rcases Nat.eq_zero_or_pos n with h0 | h0
            · exact .inl h0
            · have := hin (n - 1) (by omega)
              omega
          refine ⟨.agg (vs.extract off (off + n)), ?_, .agg m _ _ ?_ ?_⟩
          · simp [part, run_aggT ha, run_sizeT hs]
          · simp only [List.length_take, Array.size_extract]
            omega
          · intro i q v hq hv
            have hi : i < n := by
              rcases Nat.lt_or_ge i n with h' | h'
              · exact h'
              · rw [List.getElem?_take] at hq
                rw [if_neg (by omega)] at hq
                cases hq
            rw [List.getElem?_take, if_pos hi] at hq
            obtain ⟨u, hu, hr⟩ := hc i q hq
            have hlt := hin i hi
            have : v = u := by
              rw [Array.getElem?_extract] at hv
              simp only [Nat.lt_sub_iff_add_lt] at hv
              split at hv
              · rw [hu] at hv
                exact (Option.some.inj hv).symm
              · cases hv
            rw [this]
            exact hr

/-- what comes of steps that ask the program alone -/
def evSem {α : Type} (P : Program) : Sem α → Option α
  | .pure a => some a
  | .program k => evSem P (k P)
  | _ => none
theorem evSem_run {α : Type} {P : Program} {s : Sem α} {x : α} (h : evSem P s = some x) (w : World) : s.run P w = .ok x w := by
  induction s with
  | pure a =>
    simp only [evSem, Option.some.injEq] at h
    subst h
    rfl
  | program k ih => exact ih P h
  | _ => cases h
def ofOpt {α : Type} : Option α → Tr α
  | some a => .leaf a
  | none => .fail
theorem run_ofOpt {α : Type} {o : Option α} {a : α} (h : (ofOpt o).run = some a) : o = some a := by
  cases o with
  | none => cases h
  | some b => exact h
/-- a word that is known as a value -/
def litOf : PV → Option Value
  | .lit v => some v
  | _ => none
theorem litOf_rep {C : Nat → Nat → Value → Prop} {m : Nat → Option Value} {p : PV} {v u : Value} (h : Rep C m p v) (hl : litOf p = some u) : v = u := by
  cases h <;> simp_all [litOf]
/-- both are known -/
def lit2 {α : Type} (p q : PV) (f : Value → Value → Tr α) : Tr α := match p, q with
  | .lit x, .lit y => f x y
  | _, _ => .fail

/-- a value that is known in all its parts -/
def litsOf : List PV → Option (List Value)
  | [] => some []
  | .lit v :: r => match litsOf r with
    | some l => some (v :: l)
    | none => none
  | .iface t (.lit v) :: r => match litsOf r with
    | some l => some (.iface t v :: l)
    | none => none
  | _ :: _ => none
def norm : PV → PV
  | .agg ps => match litsOf ps with
    | some l => .lit (.agg l.toArray)
    | none => .agg ps
  | .iface t (.lit v) => .lit (.iface t v)
  | p => p
theorem litsOf_rep {C : Nat → Nat → Value → Prop} {m : Nat → Option Value} : ∀ {ps : List PV} {vs l : List Value}, litsOf ps = some l → ps.length = vs.length → (∀ (i : Nat) (p : PV) (v : Value), ps[i]? = some p → vs[i]? = some v → Rep C m p v) → vs = l
  | [], vs, l, h, hl, _ => by
    cases h
    exact List.eq_nil_of_length_eq_zero hl.symm
  | p :: r, [], l, h, hl, _ => by cases hl
  | p :: r, v :: vs, l, h, hl, hr => by
    have h0 := hr 0 p v rfl rfl
    have hr' : ∀ (i : Nat) (p : PV) (v : Value), r[i]? = some p → vs[i]? = some v → Rep C m p v := fun i p v hp hv => hr (i + 1) p v hp hv
    unfold litsOf at h
    split at h
    · rename_i hh
      cases hh
    · rename_i u r' hh
      cases hh
      split at h
      · rename_i l' hl'
        cases h
        rw [litsOf_rep hl' (by simpa using hl) hr']
        cases h0
        rfl
      · cases h
    · rename_i t u r' hh
      cases hh
      split at h
      · rename_i l' hl'
        cases h
        rw [litsOf_rep hl' (by simpa using hl) hr']
        cases h0 with
        | iface m t p v h => cases h; rfl
      · cases h
    · cases h
theorem norm_rep {C : Nat → Nat → Value → Prop} {m : Nat → Option Value} {p : PV} {v : Value} (h : Rep C m p v) : Rep C m (norm p) v := by
  unfold norm
  split
  · rename_i ps
    split
    · rename_i l hl
      cases h with
      | agg m ps vs hlen hr =>
        have : vs.toList = l := litsOf_rep hl (by simpa using hlen) fun i p v hp hv => hr i p v hp (by simpa using hv)
        rw [← this]
        exact .lit _ _
    · exact h
  · cases h with
    | iface m t p v h => cases h; exact .lit _ _
  · exact h

/-- a part of a struct's cells -/
def partV (P : Program) (t : TypeId) (vs : Array Value) (off : Nat) : Option Value := match aggT P t with
  | some false => vs[off]?
  | some true => match sizeT P t with
    | some n => some (.agg (vs.extract off (off + n)))
    | none => none
  | none => none
theorem partV_run {P : Program} {t : TypeId} {vs : Array Value} {off : Nat} {v : Value} (h : partV P t vs off = some v) (w : World) : (part t vs off).run P w = .ok v w := by
  unfold partV at h
  cases ha : aggT P t with
  | none => rw [ha] at h; cases h
  | some b =>
    rw [ha] at h
    cases b with
    | false => simp [part, run_aggT ha, h]
    | true =>
      dsimp only at h
      cases hs : sizeT P t with
      | none => rw [hs] at h; cases h
      | some n =>
        rw [hs] at h
        cases h
        simp [part, run_aggT ha, run_sizeT hs]
/-- whether the fields of two structs are equal, if `g` compares two parts -/
def eqFs (P : Program) (g : TypeId → Value → Value → Option Bool) (xs ys : Array Value) : List Field → Option Bool
  | [] => some true
  | f :: r => match f.name == "_" with
    | true => none
    | false => match partV P f.type xs f.offset, partV P f.type ys f.offset with
      | some a, some b => match g f.type a b, eqFs P g xs ys r with
        | some c, some c' => some (c && c')
        | _, _ => none
      | _, _ => none
/-- whether two values of a type are equal -/
def eqV (P : Program) : Nat → TypeId → Value → Value → Option Bool
  | 0 => fun _ _ _ => none
  | d + 1 => fun t x y => match P.underlying t, x, y with
    | some .bool, .bool a, .bool b => some (a == b)
    | some (.int _), .int k a, .int k' b => match decide (k = k') with
      | true => some (a == b)
      | false => none
    | some .string, .string a, .string b => some (a == b)
    | some (.struct fs), .agg xs, .agg ys => match P.stoodInHeld t with
      | false => eqFs P (eqV P d) xs ys fs.toList
      | true => none
    | _, _, _ => none
theorem eqFs_run {P : Program} {g : TypeId → Value → Value → Option Bool} {e : Nat} (hg : ∀ t x y b, g t x y = some b → ∀ w, (Op.equalIn e t x y).run P w = .ok b w) (xs ys : Array Value) :
    ∀ (l : List Field) (b : Bool), eqFs P g xs ys l = some b → ∀ w, (Op.eqFields e xs ys l).run P w = .ok b w := by
  intro l
  induction l with
  | nil =>
    intro b h w
    simp [eqFs] at h
    subst h
    rfl
  | cons f r ihl =>
    intro b h w
    unfold eqFs at h
    split at h
    · cases h
    · rename_i hn
      split at h
      · rename_i a b' ha hb
        split at h
        · rename_i c c' hc hc'
          cases h
          have hne : f.name ≠ "_" := by simpa using hn
          have h1 := hg f.type a b' c hc
          have h2 := ihl c' hc'
          unfold Op.eqFields
          rw [if_pos hne]
          simp only [Sem.run_bind, partV_run ha, partV_run hb, h1, Result.andThen_ok]
          cases c with
          | true => simpa using h2 w
          | false => simp
        · cases h
      · cases h
theorem eqV_run {P : Program} : ∀ (d e : Nat) (t : TypeId) (x y : Value) (b : Bool), d ≤ e → eqV P d t x y = some b → ∀ w, (Op.equalIn e t x y).run P w = .ok b w := by
  intro d
  induction d with
  | zero => intro e t x y b _ h; simp [eqV] at h
  | succ d ih =>
    intro e t x y b hde h w
    match e with
    | 0 => omega
    | e + 1 =>
      unfold eqV at h
      split at h
      · rename_i hu
        cases h
        exact run_equalIn_bool w e t _ _ hu
      · rename_i hu
        split at h
        · rename_i hk
          have hk := of_decide_eq_true hk
          subst hk
          cases h
          exact run_equalIn_int w e t _ _ _ _ hu
        · cases h
      · rename_i hu
        cases h
        rw [run_equalIn_string w e t _ _ hu, beq_toListBytes]
      · rename_i fs xs ys hu
        split at h
        · rename_i hp
          have hf : P.fieldsOf t = fs := by unfold Program.fieldsOf; rw [hu]
          rw [run_equalIn_struct w e t xs ys (by rw [hf]; exact hu) hp, hf]
          exact eqFs_run (fun t x y b h w => ih e t x y b (by omega) h w) xs ys fs.toList b h w
        · cases h
      · cases h
theorem br_run' {α : Type} {c : Bool} {t : Tr α} {a : α} (h : (Tr.br c t .fail).run = some a) : c = true ∧ t.run = some a := by
  cases c with
  | true => exact ⟨rfl, h⟩
  | false => cases h
/-- a test or a sum of two values -/
def binT (P : Program) (op : BinOp) (t : TypeId) (x y : Operand) (u v : PV) : Tr PV := match u, v with
  | .lit (.string s), .lit (.string u) => match op with
    | .add => .br (Nat.ble (s.size + u.size) 9223372036854775807) (.leaf (.lit (.string (s ++ u)))) .fail
    | op => (ofOpt (evSem P (Op.stringOp op s u))).bind fun v => .leaf (.lit v)
  | .lit (.agg xs), .lit (.agg ys) => match P.eqGuardType P.depth t with
    | true => .fail
    | false => match op with
      | .eql => (ofOpt (eqV P 64 t (.agg xs) (.agg ys))).bind fun b => .leaf (.lit (.bool b))
      | .neq => (ofOpt (eqV P 64 t (.agg xs) (.agg ys))).bind fun b => .leaf (.lit (.bool (!b)))
      | _ => .fail
  | .lit u, .lit v => (ofOpt (evSem P (do eqGuard op t x y u v; binOp op t u v))).bind fun v => .leaf (.lit v)
  | .iface a p, .lit .nilIface => match P.underlying t with
    | some (.interface _) => match op with
      | .eql => .leaf (.lit (.bool false))
      | .neq => .leaf (.lit (.bool true))
      | _ => .fail
    | _ => .fail
  | .gsl _ n _, .lit (.slice none 0 0) => match P.underlying t with
    | some (.slice _) => match op with
      | .eql => .br (Nat.blt 0 n) (.leaf (.lit (.bool false))) .fail
      | .neq => .br (Nat.blt 0 n) (.leaf (.lit (.bool true))) .fail
      | _ => .fail
    | _ => .fail
  | p, .lit (.pointer none) => match P.underlying t, p with
    | some (.pointer _), .ptr _ _ => match op with
      | .eql => .leaf (.lit (.bool false))
      | .neq => .leaf (.lit (.bool true))
      | _ => .fail
    | some (.pointer _), .gptr _ => match op with
      | .eql => .leaf (.lit (.bool false))
      | .neq => .leaf (.lit (.bool true))
      | _ => .fail
    | _, _ => .fail
  | _, _ => .fail
theorem binT_ok {P : Program} {C : Nat → Nat → Value → Prop} {m : Nat → Option Value} {op : BinOp} {t : TypeId} {x y : Operand} {q r p : PV} {u v : Value} (hx : Rep C m q u) (hy : Rep C m r v) (hp : (binT P op t x y q r).run = some p) (w : World) :
    ∃ z, ((do eqGuard op t x y u v; binOp op t u v) : Sem Value).run P w = .ok z w ∧ Rep C m p z := by
  have fin : ∀ u' v', q = .lit u' → r = .lit v' → ((ofOpt (evSem P (do eqGuard op t x y u' v'; binOp op t u' v'))).bind fun v => Tr.leaf (PV.lit v)).run = some p →
      ∃ z, ((do eqGuard op t x y u v; binOp op t u v) : Sem Value).run P w = .ok z w ∧ Rep C m p z := by
    intro u' v' hu hv hq
    subst hu
    subst hv
    have h1 := litOf_rep hx rfl
    have h2 := litOf_rep hy rfl
    obtain ⟨z, hz, hq⟩ := Tr.of_bind hq
    simp only [Tr.run, Option.some.injEq] at hq
    subst hq
    refine ⟨z, ?_, .lit _ _⟩
    rw [h1, h2, evSem_run (run_ofOpt hz)]
  unfold binT at hp
  split at hp
  · rename_i s u'
    have h1 := litOf_rep hx rfl
    have h2 := litOf_rep hy rfl
    have hg : (eqGuard op t x y (.string s) (.string u')).run P w = .ok () w := by
      unfold eqGuard
      cases op <;> rfl
    split at hp
    · simp only [Tr.run] at hp
      cases hb : Nat.ble (s.size + u'.size) 9223372036854775807 with
      | false => rw [hb] at hp; cases hp
      | true =>
        rw [hb] at hp
        simp only [cond_true, Option.some.injEq] at hp
        subst hp
        refine ⟨.string (s ++ u'), ?_, .lit _ _⟩
        have hle := Nat.le_of_ble_eq_true hb
        have hn : ¬ (((s.size + u'.size : Nat) : Int) > IntKind.i64.max) := by
          have : IntKind.i64.max = 9223372036854775807 := by decide
          rw [this]
          omega
        rw [h1, h2, Sem.run_bind, hg, Result.andThen_ok]
        simp only [binOp, Op.stringOp, if_neg hn]
        rfl
    · rename_i op' hop
      obtain ⟨z, hz, hq⟩ := Tr.of_bind hp
      simp only [Tr.run, Option.some.injEq] at hq
      subst hq
      refine ⟨z, ?_, .lit _ _⟩
      rw [h1, h2, Sem.run_bind, hg, Result.andThen_ok]
      have : binOp op t (.string s) (.string u') = Op.stringOp op s u' := by
        unfold binOp
        cases op <;> rfl
      rw [this, evSem_run (run_ofOpt hz)]
  · rename_i xs ys
    have h1 := litOf_rep hx rfl
    have h2 := litOf_rep hy rfl
    split at hp
    · cases hp
    · rename_i hg
      rw [h1, h2, Sem.run_bind, run_eqGuard_agg w op t x y xs ys hg, Result.andThen_ok]
      split at hp
      · obtain ⟨b, hb, hq⟩ := Tr.of_bind hp
        simp only [Tr.run, Option.some.injEq] at hq
        subst hq
        refine ⟨.bool b, ?_, .lit _ _⟩
        rw [run_eql_struct, (eqV_run 64 10000 t _ _ b (by omega) (run_ofOpt hb) w)]
        rfl
      · obtain ⟨b, hb, hq⟩ := Tr.of_bind hp
        simp only [Tr.run, Option.some.injEq] at hq
        subst hq
        refine ⟨.bool (!b), ?_, .lit _ _⟩
        rw [run_neq_struct, (eqV_run 64 10000 t _ _ b (by omega) (run_ofOpt hb) w)]
        rfl
      · cases hp
  · exact fin _ _ rfl rfl hp
  · rename_i a p'
    have h2 := litOf_rep hy rfl
    cases hx with
    | iface m a p' v' h =>
      split at hp
      · rename_i ms hu
        have hg : (eqGuard op t x y (.iface a v') .nilIface).run P w = .ok () w := by
          unfold eqGuard
          cases op <;> rfl
        have he : (Op.equal t (.iface a v') .nilIface).run P w = .ok false w := by
          unfold Op.equal Op.maxDepth Op.equalIn
          simp [run_underlying hu]
        split at hp
        · simp only [Tr.run, Option.some.injEq] at hp
          subst hp
          refine ⟨.bool false, ?_, .lit _ _⟩
          rw [h2, Sem.run_bind, hg, Result.andThen_ok]
          simp [binOp, he]
        · simp only [Tr.run, Option.some.injEq] at hp
          subst hp
          refine ⟨.bool true, ?_, .lit _ _⟩
          rw [h2, Sem.run_bind, hg, Result.andThen_ok]
          simp [binOp, he]
        · cases hp
      · cases hp
  · rename_i sz n f
    split at hp
    · rename_i e hu
      have h2 := litOf_rep hy rfl
      have key : ∀ (b o cap : Nat), (eqGuard op t x y (.slice (some ⟨b, o, none⟩) n cap) (.slice none 0 0)).run P w = .ok () w ∧ (Op.equal t (.slice (some ⟨b, o, none⟩) n cap) (.slice none 0 0)).run P w = .ok false w := by
        intro b o cap
        refine ⟨?_, ?_⟩
        · unfold eqGuard
          cases op <;> rfl
        · unfold Op.equal Op.maxDepth Op.equalIn
          simp [run_underlying hu]
      split at hp
      · obtain ⟨hn, hp⟩ := br_run' hp
        rw [Nat.blt_eq] at hn
        simp only [Tr.run, Option.some.injEq] at hp
        subst hp
        cases hx with
        | gnil => omega
        | gspt => omega
        | gsl m sz n f b o cap g hc hl hr hcap =>
          obtain ⟨hg, he⟩ := key b o cap
          refine ⟨.bool false, ?_, .lit _ _⟩
          rw [h2, Sem.run_bind, hg, Result.andThen_ok]
          simp [binOp, he]
      · obtain ⟨hn, hp⟩ := br_run' hp
        rw [Nat.blt_eq] at hn
        simp only [Tr.run, Option.some.injEq] at hp
        subst hp
        cases hx with
        | gnil => omega
        | gspt => omega
        | gsl m sz n f b o cap g hc hl hr hcap =>
          obtain ⟨hg, he⟩ := key b o cap
          refine ⟨.bool true, ?_, .lit _ _⟩
          rw [h2, Sem.run_bind, hg, Result.andThen_ok]
          simp [binOp, he]
      · cases hp
    · cases hp
  · have h2 := litOf_rep hy rfl
    have key : ∀ (b : Addr) (e : TypeId), P.underlying t = some (.pointer e) → u = .pointer (some b) → (match op with
        | .eql => Tr.leaf (PV.lit (.bool false))
        | .neq => Tr.leaf (PV.lit (.bool true))
        | _ => Tr.fail).run = some p → ∃ z, ((do eqGuard op t x y u v; binOp op t u v) : Sem Value).run P w = .ok z w ∧ Rep C m p z := by
      intro b e hu hv hp
      subst hv
      have hg : (eqGuard op t x y (.pointer (some b)) (.pointer none)).run P w = .ok () w := by
        unfold eqGuard
        cases op <;> rfl
      have he : (Op.equal t (.pointer (some b)) (.pointer none)).run P w = .ok false w := by
        unfold Op.equal Op.maxDepth Op.equalIn
        simp [run_underlying hu]
      split at hp
      · simp only [Tr.run, Option.some.injEq] at hp
        subst hp
        refine ⟨.bool false, ?_, .lit _ _⟩
        rw [h2, Sem.run_bind, hg, Result.andThen_ok]
        simp [binOp, he]
      · simp only [Tr.run, Option.some.injEq] at hp
        subst hp
        refine ⟨.bool true, ?_, .lit _ _⟩
        rw [h2, Sem.run_bind, hg, Result.andThen_ok]
        simp [binOp, he]
      · cases hp
    split at hp
    · rename_i e id off hu hn
      cases hx with
      | ptr m id off b hm => exact key _ _ hu rfl hp
    · rename_i e cs hu hn
      cases hx with
      | gptr m cs b o g hc h => exact key _ _ hu rfl hp
    · cases hp
  · cases hp
/-- the least or greatest of values -/
def extT (P : Program) (b : Builtin) (tys : Array TypeId) (ty : TypeId) (vs : List Value) : Option Value := match b with
  | .max => evSem P (Builtin.max_ tys ty vs.toArray)
  | .min => evSem P (Builtin.min_ tys ty vs.toArray)
  | _ => none
/-- where a field lies, and its type -/
def fieldAt (P : Program) (s : TypeId) (k : Nat) : Option (Nat × TypeId) := match P.underlying s with
  | some (.struct fs) => match fs[k]? with
    | some f => match sizeT P f.type with
      | some (_ + 1) => some (f.offset, f.type)
      | _ => none
    | none => none
  | _ => none
theorem fieldAt_ok {P : Program} {s : TypeId} {k off : Nat} {t : TypeId} (h : fieldAt P s k = some (off, t)) : ∃ fs f n, P.underlying s = some (.struct fs) ∧ fs[k]? = some f ∧ f.offset = off ∧ f.type = t ∧ sizeT P t = some (n + 1) := by
  unfold fieldAt at h
  split at h
  · rename_i fs hu
    split at h
    · rename_i f hf
      split at h
      · rename_i n hn
        cases h
        exact ⟨fs, f, n, hu, hf, rfl, rfl, hn⟩
      · cases h
    · cases h
  · cases h
/-- a bound of a slice -/
def bound (st : St) (d : Int) : Option Operand → Option Int
  | none => some d
  | some x => match st.val x with
    | .lit (.int _ i) => some i
    | _ => none
theorem bound_ok {β : Base} {st : St} {m : Nat → Option Value} {a : Act} {w : World} (h : Rel β st m a w) {d i : Int} {o : Option Operand} (hb : bound st d o = some i) : (o.map a.eval = none ∧ i = d) ∨ ∃ k, o.map a.eval = some (.int k i) := by
  cases o with
  | none =>
    simp only [bound, Option.some.injEq] at hb
    exact .inl ⟨rfl, hb.symm⟩
  | some x =>
    right
    unfold bound at hb
    dsimp only at hb
    have hx := h.val x
    generalize st.val x = q at hx hb
    have key : ∃ k, q = .lit (.int k i) := by
      cases q with
      | lit v =>
        cases v with
        | int k j =>
          simp only [Option.some.injEq] at hb
          exact ⟨k, by rw [hb]⟩
        | _ => cases hb
      | _ => cases hb
    obtain ⟨k, rfl⟩ := key
    exact ⟨k, by rw [Option.map_some, litOf_rep hx rfl]⟩
theorem run_bounds {P : Program} {w : World} {isS : Bool} {n cap : Nat} {lo hi : Option Value} {l h : Int} (hlo : (lo = none ∧ l = 0) ∨ ∃ k, lo = some (.int k l)) (hhi : (hi = none ∧ h = n) ∨ ∃ k, hi = some (.int k h))
    (h0 : 0 ≤ l) (h1 : l ≤ h) (h2 : h ≤ n) (hc : n ≤ cap) : (Instr.sliceBounds isS n cap lo hi none).run P w = .ok (l.toNat, h.toNat, cap) w := by
  have hb : ∀ (k : IntKind) (i : Int) (y : Nat) (c : BoundsCode), 0 ≤ i → i ≤ y → (Instr.sliceBound (.int k i) y c).run P w = .ok i.toNat w := by
    intro k i y c hi0 hiy
    simp [Instr.sliceBound, asIntOf, hi0, hiy]
  unfold Instr.sliceBounds
  rcases hlo with ⟨rfl, rfl⟩ | ⟨k, rfl⟩ <;> rcases hhi with ⟨rfl, rfl⟩ | ⟨k', rfl⟩
  · simp
  · simp [hb k' h cap _ (by omega) (by omega)]
  · simp [hb k l n _ h0 (by omega)]
  · have e : ((h.toNat : Nat) : Int) = h := by omega
    simp [hb k' h cap _ (by omega) (by omega), hb k l h.toNat _ h0 (by omega)]
/-- what is known to be a slice -/
def hasA (st : St) : PV → Bool
  | .gsl _ _ _ => true
  | .emp => true
  | .lit (.slice none 0 0) => true
  | .own id => match look st.mem.blks id with
    | some (.row _ _ _ _) => true
    | _ => false
  | _ => false
theorem hasA_ok {β : Base} {st : St} {m : Nat → Option Value} {w : World} (h : MRel β st.mem m w) {q : PV} {v : Value} (hr : Rep (Cell β w st.mem m) m q v) (ha : hasA st q = true) : v = .slice none 0 0 ∨ ∃ a n cap, v = .slice (some a) n cap := by
  unfold hasA at ha
  split at ha
  · cases hr with
    | gnil => exact .inl rfl
    | gspt _ _ _ a => exact .inr ⟨a, _, _, rfl⟩
    | gsl m sz n f b o cap g hc hl hr hcap => exact .inr ⟨_, _, cap, rfl⟩
  · cases hr with
    | emp m v h => exact h.imp id fun ⟨a, e⟩ => ⟨a, 0, 0, e⟩
  · exact .inl (litOf_rep hr rfl)
  · split at ha
    · rename_i hlk
      cases hr with
      | own m id v hm h1 =>
        have hb := h.blk _ _ hlk
        cases hb with
        | row e sz n f v' xs hm' ho hKr h1' hl hr =>
          rw [hm] at hm'
          cases hm'
          exact ho.2.imp (fun h => h.1) fun ⟨g, cap, cur, e1, _⟩ => ⟨_, _, cap, e1⟩
    · cases ha
  · cases ha
theorem run_max0 {P : Program} {w : World} {n cap : Nat} {lo hi mx : Option Value} (hlo : (lo = none ∧ (0 : Int) = 0) ∨ ∃ k, lo = some (.int k 0)) (hhi : (hi = none ∧ (0 : Int) = 1) ∨ ∃ k, hi = some (.int k 0)) (hmx : (mx = none ∧ (0 : Int) = 1) ∨ ∃ k, mx = some (.int k 0)) :
    (Instr.sliceBounds true n cap lo hi mx).run P w = .ok (0, 0, 0) w := by
  have hb : ∀ (k : IntKind) (y : Nat) (c : BoundsCode), (Instr.sliceBound (.int k 0) y c).run P w = .ok 0 w := by
    intro k y c
    simp [Instr.sliceBound, asIntOf]
  rcases hhi with ⟨_, h⟩ | ⟨k', rfl⟩
  · cases h
  rcases hmx with ⟨_, h⟩ | ⟨k2, rfl⟩
  · cases h
  unfold Instr.sliceBounds
  rcases hlo with ⟨rfl, _⟩ | ⟨k, rfl⟩
  · simp [hb]
  · simp [hb]
/-- operations that write nothing -/
def opVal (P : Program) (st : St) (o : Oper) : Tr PV := match o.op with
  | .move x | .assign x => .leaf (st.val x)
  | .pick c x y => match st.val c with
    | .lit (.bool t) => .br t (.leaf (st.val x)) (.leaf (st.val y))
    | _ => .fail
  | .binOp op t x y _ => binT P op t x y (norm (st.val x)) (norm (st.val y))
  | .unOp op _ x => match st.val x with
    | .lit v => (ofOpt (evSem P (Op.unary op v))).bind fun v => .leaf (.lit v)
    | _ => .fail
  | .convert s d x => match st.val x with
    | .lit v => (ofOpt (evSem P (convert s d v))).bind fun v => .leaf (.lit v)
    | .gsl 1 n f => match P.underlying s, P.underlying d with
      | some (.slice e), some .string => match P.underlying e with
        | some (.int .u8) => .br (areBytes n f) (.leaf (.lit (.string ⟨(bytesOf n f).toArray⟩))) .fail
        | _ => .fail
      | _, _ => .fail
    | .own id => match look st.mem.blks id with
      | some (.row _ 1 n f) => match P.underlying s, P.underlying d with
        | some (.slice e), some .string => match P.underlying e with
          | some (.int .u8) => .br (areBytes n f) (.leaf (.lit (.string ⟨(bytesOf n f).toArray⟩))) .fail
          | _ => .fail
        | _, _ => .fail
      | _ => .fail
    | _ => .fail
  | .extract x i => match st.val x with
    | .tup ps => ofOpt ps[i]?
    | .lit (.tuple vs) => (ofOpt vs[i]?).bind fun v => .leaf (.lit v)
    | _ => .fail
  | .makeInterface t x => match P.underlying t with
    | some (.interface _) => .fail
    | none => .fail
    | some _ => .leaf (.iface t (st.val x))
  | .index t x ix => match P.underlying t, st.val x, st.val ix with
    | some .string, .lit (.string s), .lit (.int _ i) => .br (decide (0 ≤ i) && Nat.blt i.toNat s.size) (.leaf (.lit (.int .u8 (s.data.getD i.toNat 0).toNat))) .fail
    | some (.array n e), .agg ps, .lit (.int _ i) => match sizeT P e with
      | some z => .br (decide (0 ≤ i) && Nat.blt i.toNat n) (window P e (ps.drop (i.toNat * z))) .fail
      | none => .fail
    | some (.array n e), .lit (.agg vs), .lit (.int _ i) => match sizeT P e with
      | some z => .br (decide (0 ≤ i) && Nat.blt i.toNat n) (window P e ((vs.toList.map PV.lit).drop (i.toNat * z))) .fail
      | none => .fail
    | _, _, _ => .fail
  | .load t x => match st.val x with
    | .ptr id off => match look st.mem.blks id with
      | some (.cells _ cs) => window P t (cs.drop off)
      | _ => .fail
    | .gptr cs => window P t cs
    | .optr id sz i j => match look st.mem.blks id with
      | some (.row _ sz' n f) => match Nat.beq sz' sz with
        | true => .br (Nat.blt i n) (window P t ((f i).drop j)) .fail
        | false => .fail
      | _ => .fail
    | _ => .fail
  | .fieldAddr s x k => match fieldAt P s k with
    | some (off, _) => match st.val x with
      | .ptr id o => .leaf (.ptr id (o + off))
      | .gptr cs => .leaf (.gptr (cs.drop off))
      | .optr id sz i j => .leaf (.optr id sz i (j + off))
      | _ => .fail
    | none => .fail
  | .field s x k => match fieldAt P s k with
    | some (off, t) => match st.val x with
      | .agg ps => window P t (ps.drop off)
      | .lit (.agg vs) => window P t ((vs.toList.map PV.lit).drop off)
      | _ => .fail
    | none => .fail
  | .indexAddr t x ix => match P.underlying t, st.val ix with
    | some (.slice e), .lit (.int _ i) => match sizeT P e with
      | some z => match st.val x with
        | .gsl sz n f => match Nat.beq sz z with
          | true => .br (decide (0 ≤ i) && Nat.blt i.toNat n) (.leaf (.gptr (f i.toNat))) .fail
          | false => .fail
        | .own id => match look st.mem.blks id with
          | some (.row _ sz n _) => match Nat.beq sz z with
            | true => .br (decide (0 ≤ i) && Nat.blt i.toNat n) (.leaf (.optr id sz i.toNat 0)) .fail
            | false => .fail
          | _ => .fail
        | _ => .fail
      | none => .fail
    | some (.array n e), .lit (.int _ i) => match sizeT P e with
      | some z => match st.val x with
        | .ptr id off => .br (decide (0 ≤ i) && Nat.blt i.toNat n) (.leaf (.ptr id (off + i.toNat * z))) .fail
        | .gptr cs => .br (decide (0 ≤ i) && Nat.blt i.toNat n) (.leaf (.gptr (cs.drop (i.toNat * z)))) .fail
        | _ => .fail
      | none => .fail
    | _, _ => .fail
  | .slice t x lo hi mx => match mx with
    | some m0 => match P.underlying t with
      | some (.slice e) => match sizeT P e, bound st 0 lo, bound st 1 hi, bound st 1 (some m0), hasA st (st.val x) with
        | some _, some 0, some 0, some 0, true => .leaf .emp
        | _, _, _, _, _ => .fail
      | _ => .fail
    | none => match P.underlying t, st.val x with
      | some .string, .lit (.string s) => match bound st 0 lo, bound st s.size hi with
        | some l, some h => .br (decide (0 ≤ l) && decide (l ≤ h) && decide (h ≤ s.size)) (.leaf (.lit (.string (s.extract l.toNat h.toNat)))) .fail
        | _, _ => .fail
      | some (.slice e), .gsl sz n f => match sizeT P e with
        | some z => match Nat.beq sz z, bound st 0 lo, bound st n hi with
          | true, some l, some h => .br (decide (0 ≤ l) && decide (l ≤ h) && decide (h ≤ n)) (.leaf (.gsl sz (h.toNat - l.toNat) fun i => f (l.toNat + i))) .fail
          | _, _, _ => .fail
        | none => .fail
      | some (.slice e), .lit (.slice none 0 0) => match sizeT P e, bound st 0 lo, bound st 0 hi with
        | some _, some 0, some 0 => .leaf (.lit (.slice none 0 0))
        | _, _, _ => .fail
      | some (.slice e), .own id => match look st.mem.blks id, sizeT P e with
        | some (.row _ _ n _), some _ => match bound st 0 lo, bound st n hi with
          | some l, some h => .br (decide (0 ≤ l) && decide (l ≤ h) && decide (h ≤ n)) (.leaf .junk) .fail
          | _, _ => .fail
        | _, _ => .fail
      | _, _ => .fail
  | .call c => match c.callee, c.args.toList, c.argTypes.toList with
    | .builtin .len, [x], [t] => match P.underlying t, st.val x with
      | some .string, .lit (.string s) => .leaf (.lit (goInt s.size))
      | some (.slice _), .gsl _ n _ => .leaf (.lit (goInt n))
      | some (.slice _), .lit (.slice _ n _) => .leaf (.lit (goInt n))
      | some (.slice _), .own id => match look st.mem.blks id with
        | some (.row _ _ n _) => .leaf (.lit (goInt n))
        | _ => .fail
      | some (.slice _), .emp => .leaf (.lit (goInt 0))
      | _, _ => .fail
    | .builtin .max, _, _ => match litsOf (c.args.toList.map fun x => norm (st.val x)) with
      | some vs => (ofOpt (extT P .max c.argTypes o.type vs)).bind fun v => .leaf (.lit v)
      | none => .fail
    | .builtin .min, _, _ => match litsOf (c.args.toList.map fun x => norm (st.val x)) with
      | some vs => (ofOpt (extT P .min c.argTypes o.type vs)).bind fun v => .leaf (.lit v)
      | none => .fail
    | _, _, _ => .fail
  | .build t parts => match buildP P t (parts.toList.map fun x => (x.1, st.val x.2)) with
    | some cs => .leaf (.agg cs)
    | none => .fail
  | .makeFunc fn first caps => match fn, first.toList with
    | .func f, [] => .leaf (.clo f (caps.toList.map st.val))
    | _, _ => .fail
  | .nilCheck x => match st.val x with
    | .lit (.pointer (some b)) => .leaf (.lit (.pointer (some b)))
    | .ptr id off => .leaf (.ptr id off)
    | .optr id sz i j => .leaf (.optr id sz i j)
    | .gptr cs => .leaf (.gptr cs)
    | .clo f ps => .leaf (.clo f ps)
    | _ => .fail
  | _ => .fail

section
variable {P : Program} {β : Base} {st : St} {m : Nat → Option Value} {a : Act} {w : World}
theorem opVal_ok (h : Rel β st m a w) {o : Oper} {p : PV} (hp : (opVal P st o).run = some p) : ∃ v, (execOp a.eval o).run P w = .ok (.value v) w ∧ Rep (Cell β w st.mem m) m p v := by
  unfold opVal at hp
  unfold execOp
  cases ho : o.op <;> rw [ho] at hp <;> try (cases hp; done)
  case move x =>
    simp only [Tr.run, Option.some.injEq] at hp
    subst hp
    exact ⟨_, rfl, h.val x⟩
  case assign x =>
    simp only [Tr.run, Option.some.injEq] at hp
    subst hp
    exact ⟨_, rfl, h.val x⟩
  case pick c x y =>
    dsimp only at hp ⊢
    have hc := h.val c
    generalize st.val c = q at hc hp
    split at hp
    · rename_i t
      have := litOf_rep hc rfl
      cases t with
      | true =>
        simp only [Tr.run, cond_true, Option.some.injEq] at hp
        subst hp
        exact ⟨a.eval x, by simp [this, asBool], h.val x⟩
      | false =>
        simp only [Tr.run, cond_false, Option.some.injEq] at hp
        subst hp
        exact ⟨a.eval y, by simp [this, asBool], h.val y⟩
    · cases hp
  case unOp op t x =>
    dsimp only at hp ⊢
    have hx := h.val x
    generalize st.val x = q at hx hp
    split at hp
    · rename_i v
      have := litOf_rep hx rfl
      obtain ⟨u, hu, hp⟩ := Tr.of_bind hp
      simp only [Tr.run, Option.some.injEq] at hp
      subst hp
      refine ⟨u, ?_, .lit _ _⟩
      rw [this]
      simp [evSem_run (run_ofOpt hu)]
    · cases hp
  case convert s d x =>
    dsimp only at hp ⊢
    have hx := h.val x
    generalize st.val x = q at hx hp
    split at hp
    · rename_i v
      have := litOf_rep hx rfl
      obtain ⟨u, hu, hp⟩ := Tr.of_bind hp
      simp only [Tr.run, Option.some.injEq] at hp
      subst hp
      refine ⟨u, ?_, .lit _ _⟩
      rw [this]
      simp [evSem_run (run_ofOpt hu)]
    · rename_i n f
      split at hp
      · rename_i e hs hd
        split at hp
        · rename_i he
          simp only [Tr.run] at hp
          cases hb : areBytes n f with
          | false => rw [hb] at hp; cases hp
          | true =>
            rw [hb] at hp
            simp only [cond_true, Option.some.injEq] at hp
            subst hp
            generalize a.eval x = v at hx ⊢
            cases hx with
            | gnil m sz f => exact ⟨_, by rw [Sem.run_bind, run_convert_bytes_nil (P := P) (w := w) s e hs he 0 0 d hd]; rfl, .lit _ _⟩
            | gspt m sz f ad =>
              have ht : (convert s d (.slice (some ad) 0 0)).run P w = .ok (.string ByteArray.empty) w := by
                rw [run_convert_bytes_string w s d e _ 0 0 hs he hd]
                simp [Conv.bytesToString]
                rfl
              exact ⟨_, by rw [Sem.run_bind, ht]; rfl, .lit _ _⟩
            | gsl m sz n f b o cap g hc hl hr hcap =>
              have ht := bytes_text (P := P) (w := w) (cap := cap) (b := b) (o := o) hs he hd hb fun i hi p hp => ⟨g i 0, by
                have := (hc i 0 hi Nat.one_pos).1.2.1
                rwa [Nat.mul_one, Nat.add_zero] at this, fun x hx => by
                subst hx
                have := hr i 0 _ hi hp
                cases this
                rfl⟩
              exact ⟨_, by rw [Sem.run_bind, ht]; rfl, .lit _ _⟩
        · cases hp
      · cases hp
    · rename_i id
      split at hp
      · rename_i e' n f hlk
        split at hp
        · rename_i e hs hd
          split at hp
          · rename_i he
            simp only [Tr.run] at hp
            cases hb : areBytes n f with
            | false => rw [hb] at hp; cases hp
            | true =>
              rw [hb] at hp
              simp only [cond_true, Option.some.injEq] at hp
              subst hp
              generalize a.eval x = v at hx ⊢
              cases hx with
              | own m id v hm h1 =>
                have hbk := h.mem.blk id _ hlk
                cases hbk with
                | row e sz n f v' xs hm' ho hKr h1' hl hr =>
                  rw [hm] at hm'
                  cases hm'
                  rcases ho.2 with ⟨rfl, rfl⟩ | ⟨g, cap, cur, rfl, hrest⟩
                  · exact ⟨_, by rw [Sem.run_bind, run_convert_bytes_nil (P := P) (w := w) s _ hs he 0 0 d hd]; rfl, .lit _ _⟩
                  · have ht := bytes_text (P := P) (w := w) (cap := cap) (b := g) (o := 0) hs he hd hb fun i hi p hp => by
                      obtain ⟨y, hy, hry⟩ := hr i 0 p hi hp
                      refine ⟨y, ?_, fun x hx => by subst hx; cases hry; rfl⟩
                      have := ho.cells (g := g) rfl _ _ hy
                      rwa [addr_add, Nat.mul_one, Nat.add_zero] at this
                    exact ⟨_, by rw [Sem.run_bind, ht]; rfl, .lit _ _⟩
          · cases hp
        · cases hp
      · cases hp
    · cases hp
  case binOp op t x y yt =>
    dsimp only at hp ⊢
    obtain ⟨z, hz, hr⟩ := binT_ok (norm_rep (h.val x)) (norm_rep (h.val y)) hp w
    refine ⟨z, ?_, hr⟩
    rw [Sem.run_bind, hz]
    rfl
  case extract x i =>
    dsimp only at hp ⊢
    have hx := h.val x
    generalize st.val x = q at hx hp
    split at hp
    · rename_i ps
      have hpi := run_ofOpt hp
      generalize a.eval x = v at hx ⊢
      cases hx with
      | tup m ps vs hl hr =>
        have hi : i < vs.size := by
          rw [← hl]
          exact (List.getElem?_eq_some_iff.1 hpi).1
        refine ⟨vs[i], ?_, hr i p _ hpi (Array.getElem?_eq_getElem hi)⟩
        simp [Instr.extract, Array.getElem?_eq_getElem hi]
    · rename_i vs
      have := litOf_rep hx rfl
      obtain ⟨u, hu, hp⟩ := Tr.of_bind hp
      simp only [Tr.run, Option.some.injEq] at hp
      subst hp
      refine ⟨u, ?_, .lit _ _⟩
      rw [this]
      simp [Instr.extract, run_ofOpt hu]
    · cases hp
  case makeInterface t x =>
    dsimp only at hp ⊢
    cases hd : P.underlying t with
    | none => rw [hd] at hp; cases hp
    | some d =>
      rw [hd] at hp
      have hp' : p = .iface t (st.val x) ∧ ∀ ms, d ≠ .interface ms := by
        cases d <;> simp_all [Tr.run]
      obtain ⟨rfl, hne⟩ := hp'
      refine ⟨.iface t (a.eval x), ?_, .iface _ _ _ _ (h.val x)⟩
      have : (Instr.makeInterface t (a.eval x)).run P w = .ok (.iface t (a.eval x)) w := by
        unfold Instr.makeInterface
        rw [Sem.run_bind, run_underlying hd w]
        cases d <;> first | rfl | exact absurd rfl (hne _)
      rw [Sem.run_bind, this]
      rfl
  case index t x ix =>
    dsimp only at hp ⊢
    have idx : ∀ (n : Nat) (e : TypeId), P.underlying t = some (.array n e) → ∀ (ps : List PV) (vs : Array Value) (kd : IntKind) (i : Int) (z : Nat), a.eval ix = .int kd i → sizeT P e = some z → ps.length = vs.size →
        (∀ (i : Nat) (p : PV) (v : Value), ps[i]? = some p → vs[i]? = some v → Rep (Cell β w st.mem m) m p v) → (Tr.br (decide (0 ≤ i) && Nat.blt i.toNat n) (window P e (ps.drop (i.toNat * z))) .fail).run = some p →
        ∃ v, ((do let z ← Instr.index t (.agg vs) (a.eval ix); pure (Next.value z)) : Sem Next).run P w = .ok (.value v) w ∧ Rep (Cell β w st.mem m) m p v := by
      intro n e hd ps vs kd i z h2 hz hl hr hp
      simp only [Tr.run] at hp
      cases hb : (decide (0 ≤ i) && Nat.blt i.toNat n) with
      | false => rw [hb] at hp; cases hp
      | true =>
        rw [hb] at hp
        simp only [cond_true] at hp
        simp only [Bool.and_eq_true, decide_eq_true_eq, Nat.blt_eq] at hb
        obtain ⟨v, hv, hrep⟩ := window_part hp (C := Cell β w st.mem m) (m := m) (vs := vs) (off := i.toNat * z) (w := w) fun j q hq => by
          rw [List.getElem?_drop] at hq
          have hi : i.toNat * z + j < vs.size := by
            rw [← hl]
            exact (List.getElem?_eq_some_iff.1 hq).1
          exact ⟨vs[i.toNat * z + j], Array.getElem?_eq_getElem hi, hr _ _ _ hq (Array.getElem?_eq_getElem hi)⟩
        have hlt : 0 ≤ i ∧ i < (n : Int) := ⟨hb.1, by omega⟩
        exact ⟨v, by rw [h2]; simp [Instr.index, asIntOf, run_underlying hd, hlt, run_sizeT hz, hv], hrep⟩
    have hx := h.val x
    have hy := h.val ix
    generalize st.val x = q at hx hp
    generalize st.val ix = r at hy hp
    cases hd : P.underlying t with
    | none => rw [hd] at hp; cases hp
    | some d =>
      rw [hd] at hp
      split at hp
      · rename_i s k i he
        cases he
        have h1 := litOf_rep hx rfl
        have h2 := litOf_rep hy rfl
        simp only [Tr.run] at hp
        cases hb : (decide (0 ≤ i) && Nat.blt i.toNat s.size) with
        | false => rw [hb] at hp; cases hp
        | true =>
          rw [hb] at hp
          simp only [cond_true, Option.some.injEq] at hp
          subst hp
          simp only [Bool.and_eq_true, decide_eq_true_eq, Nat.blt_eq] at hb
          refine ⟨.int .u8 (s.data.getD i.toNat 0).toNat, ?_, .lit _ _⟩
          have hget : s[i.toNat]? = some (s.data.getD i.toNat 0) := by
            have hlt : i.toNat < s.data.size := hb.2
            simp [getElem?_pos, hb.2, Array.getD, hlt]
            rfl
          rw [h1, h2]
          simp [Instr.index, asIntOf, run_underlying hd, hb.1, hget]
      · rename_i n e ps kd i he
        cases he
        have h2 := litOf_rep hy rfl
        split at hp
        · rename_i z hz
          generalize hv : a.eval x = v at hx
          cases hx with
          | agg m ps vs hl hr => exact idx n e hd ps vs kd i z h2 hz hl hr hp
        · cases hp
      · rename_i n e vs kd i he
        cases he
        have h1 := litOf_rep hx rfl
        have h2 := litOf_rep hy rfl
        rw [h1]
        split at hp
        · rename_i z hz
          refine idx n e hd _ vs kd i z h2 hz (by simp) (fun i p v hp hv => ?_) hp
          simp only [List.getElem?_map, Array.getElem?_toList] at hp
          rw [hv] at hp
          simp only [Option.map_some, Option.some.injEq] at hp
          subst hp
          exact .lit _ _
        · cases hp
      · cases hp
  case load t x =>
    dsimp only at hp ⊢
    have hx := h.val x
    generalize st.val x = q at hx hp
    split at hp
    · rename_i id off
      split at hp
      · rename_i ty cs hlk
        generalize hv : a.eval x = v at hx
        cases hx with
        | ptr m id off b hm =>
          have hb := h.mem.blk id _ hlk
          cases hb with
          | cells ty cs b' vs hm' hb' hl h1 hr hB =>
            rw [hm] at hm'
            cases hm'
            obtain ⟨v, hv', hrep⟩ := window_load (w := w) (b := b) (o := off) hp (C := Cell β w st.mem m) (m := m) fun j q hq => by
              rw [List.getElem?_drop] at hq
              have hi : off + j < vs.size := by
                rw [← hl]
                exact (List.getElem?_eq_some_iff.1 hq).1
              refine ⟨vs[off + j], ?_, hr _ _ _ hq (Array.getElem?_eq_getElem hi)⟩
              rw [cell_of_row w b _ vs ty (0, 0) hb']
              exact Array.getElem?_eq_getElem hi
            refine ⟨v, ?_, hrep⟩
            simp [Instr.loadAt, Instr.sureAddr, hv']
      · cases hp
    · rename_i cs
      generalize hv : a.eval x = v at hx
      cases hx with
      | gptr m cs b o g hc hr =>
        obtain ⟨v, hv', hrep⟩ := window_load (w := w) (b := b) (o := o) hp (C := Cell β w st.mem m) (m := m) fun j q hq => by
          have hj : j < cs.length := (List.getElem?_eq_some_iff.1 hq).1
          exact ⟨g j, (hc j hj).1.2.1, (hr j q hq).mono (fun _ _ _ h => h) fun _ _ h => by cases h⟩
        refine ⟨v, ?_, hrep⟩
        simp [Instr.loadAt, Instr.sureAddr, hv']
    · rename_i id sz i j
      split at hp
      · rename_i e sz' n f hlk
        cases hsz : Nat.beq sz' sz with
        | false => rw [hsz] at hp; cases hp
        | true =>
          rw [hsz] at hp
          have := Nat.eq_of_beq_eq_true hsz
          subst this
          simp only [Tr.run] at hp
          cases hin : Nat.blt i n with
          | false => rw [hin] at hp; cases hp
          | true =>
            rw [hin] at hp
            simp only [cond_true] at hp
            have hi : i < n := by simpa [Nat.blt_eq] using hin
            generalize hv : a.eval x = v at hx
            cases hx with
            | optr m id sz i j b n' cap hm =>
              have hb := h.mem.blk id _ hlk
              cases hb with
              | row e sz n f v xs hm' ho' hKr h1 hl hr =>
                rw [hm] at hm'
                cases hm'
                obtain ⟨v, hv', hrep⟩ := window_load (w := w) (b := b) (o := i * sz' + j) hp (C := Cell β w st.mem m) (m := m) fun jj q hq => by
                  rw [List.getElem?_drop] at hq
                  obtain ⟨u, hu, hrep⟩ := hr i _ q hi hq
                  refine ⟨u, ?_, hrep.mono (fun _ _ _ h => h) fun _ _ h => by cases h⟩
                  have := ho'.cells (g := b) rfl _ _ hu
                  rw [addr_add] at this
                  rw [Nat.add_assoc]
                  simpa using this
                refine ⟨v, ?_, hrep⟩
                simp [Instr.loadAt, Instr.sureAddr, hv']
      · cases hp
    · cases hp
  case fieldAddr s x k =>
    dsimp only at hp ⊢
    split at hp
    · rename_i off t hf
      obtain ⟨fs, f, n, hu, hk, rfl, rfl, hn⟩ := fieldAt_ok hf
      have hx := h.val x
      generalize st.val x = q at hx hp
      generalize a.eval x = v at hx ⊢
      have hrun : ∀ b o, (Instr.fieldAt s (.pointer (some ⟨b, o, none⟩)) k).run P w = .ok (.pointer (some ⟨b, o + f.offset, none⟩)) w := by
        intro b o
        simp [Instr.fieldAt, Instr.sureAddr, run_underlying hu, hk, fieldPlace, run_sizeT hn, addr_add]
      split at hp
      · simp only [Tr.run, Option.some.injEq] at hp
        subst hp
        cases hx with
        | ptr m id off b hm => exact ⟨_, by rw [Sem.run_bind, hrun]; rfl, .ptr _ _ _ _ hm⟩
      · simp only [Tr.run, Option.some.injEq] at hp
        subst hp
        cases hx with
        | gptr m cs b o g hc hr =>
          refine ⟨_, by rw [Sem.run_bind, hrun]; rfl, .gptr _ _ b (o + f.offset) (fun j => g (f.offset + j)) (fun j hj => ?_) fun j q hq => ?_⟩
          · rw [List.length_drop] at hj
            rw [Nat.add_assoc]
            exact hc _ (by omega)
          · rw [List.getElem?_drop] at hq
            exact hr _ q hq
      · simp only [Tr.run, Option.some.injEq] at hp
        subst hp
        cases hx with
        | optr m id sz i j b n cap hm => exact ⟨_, by rw [Sem.run_bind, hrun, Nat.add_assoc]; rfl, .optr _ _ _ _ _ _ _ _ hm⟩
      · cases hp
    · cases hp
  case field s x k =>
    dsimp only at hp ⊢
    split at hp
    · rename_i off t hf
      obtain ⟨fs, f, n, hu, hk, rfl, rfl, hn⟩ := fieldAt_ok hf
      have hx := h.val x
      generalize st.val x = q at hx hp
      generalize a.eval x = v at hx ⊢
      have fin : ∀ (ps : List PV) (vs : Array Value), ps.length = vs.size → (∀ (i : Nat) (p : PV) (v : Value), ps[i]? = some p → vs[i]? = some v → Rep (Cell β w st.mem m) m p v) → (window P f.type (ps.drop f.offset)).run = some p →
          ∃ v, ((Instr.field s (.agg vs) k).run P w).andThen (fun v w => (pure (Next.value v) : Sem Next).run P w) = .ok (.value v) w ∧ Rep (Cell β w st.mem m) m p v := by
        intro ps vs hl hr hp
        obtain ⟨v, hv, hrep⟩ := window_part hp (C := Cell β w st.mem m) (m := m) (vs := vs) (off := f.offset) (w := w) fun j q hq => by
          rw [List.getElem?_drop] at hq
          have hi : f.offset + j < vs.size := by
            rw [← hl]
            exact (List.getElem?_eq_some_iff.1 hq).1
          exact ⟨vs[f.offset + j], Array.getElem?_eq_getElem hi, hr _ _ _ hq (Array.getElem?_eq_getElem hi)⟩
        exact ⟨v, by simp [Instr.field, run_underlying hu, hk, asAgg, hv], hrep⟩
      split at hp
      · cases hx with
        | agg m ps vs hl hr =>
          rw [Sem.run_bind]
          exact fin _ vs hl hr hp
      · have := litOf_rep hx rfl
        subst this
        rw [Sem.run_bind]
        refine fin _ _ (by simp) (fun i p v hp hv => ?_) hp
        simp only [List.getElem?_map, Array.getElem?_toList] at hp
        rw [hv] at hp
        simp only [Option.map_some, Option.some.injEq] at hp
        subst hp
        exact .lit _ _
      · cases hp
    · cases hp
  case indexAddr t x ix =>
    dsimp only at hp ⊢
    have hx := h.val x
    have hy := h.val ix
    generalize st.val x = q at hx hp
    generalize st.val ix = r at hy hp
    cases hd : P.underlying t with
    | none => rw [hd] at hp; cases hp
    | some d =>
      rw [hd] at hp
      split at hp
      · rename_i e kd i he
        cases he
        have h2 := litOf_rep hy rfl
        rw [h2]
        split at hp
        · rename_i z hz
          have hrun : ∀ (b o n cap : Nat), 0 ≤ i → i.toNat < n → (Instr.indexAt t (.slice (some ⟨b, o, none⟩) n cap) (.int kd i)).run P w = .ok (.pointer (some ⟨b, o + i.toNat * z, none⟩)) w := by
            intro b o n cap h0 hn
            have hlt : 0 ≤ i ∧ i < (n : Int) := ⟨h0, by omega⟩
            simp [Instr.indexAt, asIntOf, run_underlying hd, run_sizeT hz, hlt, addr_add]
          split at hp
          · rename_i sz n f
            cases hsz : Nat.beq sz z with
            | false => rw [hsz] at hp; cases hp
            | true =>
              rw [hsz] at hp
              have := Nat.eq_of_beq_eq_true hsz
              subst this
              simp only [Tr.run] at hp
              cases hb : (decide (0 ≤ i) && Nat.blt i.toNat n) with
              | false => rw [hb] at hp; cases hp
              | true =>
                rw [hb] at hp
                simp only [cond_true, Option.some.injEq] at hp
                subst hp
                simp only [Bool.and_eq_true, decide_eq_true_eq, Nat.blt_eq] at hb
                generalize a.eval x = v at hx ⊢
                cases hx with
                | gnil m sz f => exact absurd hb.2 (Nat.not_lt_zero _)
                | gspt m sz f ad => exact absurd hb.2 (Nat.not_lt_zero _)
                | gsl m sz n f b o cap g hc hl hr hcap =>
                  refine ⟨_, by rw [Sem.run_bind, hrun b o n cap hb.1 hb.2]; rfl, .gptr _ _ b _ (g i.toNat) (fun j hj => ?_) fun j q hq => hr _ j q hb.2 hq⟩
                  rw [hl _ hb.2] at hj
                  rw [Nat.add_assoc]
                  exact hc _ j hb.2 hj
          · rename_i id
            split at hp
            · rename_i e' sz n f hlk
              cases hsz : Nat.beq sz z with
              | false => rw [hsz] at hp; cases hp
              | true =>
                rw [hsz] at hp
                have := Nat.eq_of_beq_eq_true hsz
                subst this
                simp only [Tr.run] at hp
                cases hb : (decide (0 ≤ i) && Nat.blt i.toNat n) with
                | false => rw [hb] at hp; cases hp
                | true =>
                  rw [hb] at hp
                  simp only [cond_true, Option.some.injEq] at hp
                  subst hp
                  simp only [Bool.and_eq_true, decide_eq_true_eq, Nat.blt_eq] at hb
                  generalize a.eval x = v at hx ⊢
                  cases hx with
                  | own m id v hm h1 =>
                    have hbk := h.mem.blk id _ hlk
                    cases hbk with
                    | row e sz n f v' xs hm' ho' hKr h1' hl hr =>
                      rw [hm] at hm'
                      cases hm'
                      rcases ho'.2 with ⟨rfl, h0⟩ | ⟨g, cap, cur, rfl, hbg, hg, hrest⟩
                      · omega
                      · refine ⟨_, by rw [Sem.run_bind, hrun g 0 n cap hb.1 hb.2]; rfl, ?_⟩
                        rw [Nat.zero_add]
                        exact .optr _ _ _ _ 0 _ _ _ hm
            · cases hp
          · cases hp
        · cases hp
      · rename_i n e kd i he
        cases he
        have h2 := litOf_rep hy rfl
        rw [h2]
        split at hp
        · rename_i z hz
          have hrun : ∀ (b o : Nat), 0 ≤ i → i.toNat < n → (Instr.indexAt t (.pointer (some ⟨b, o, none⟩)) (.int kd i)).run P w = .ok (.pointer (some ⟨b, o + i.toNat * z, none⟩)) w := by
            intro b o h0 hn
            have hlt : 0 ≤ i ∧ i < (n : Int) := ⟨h0, by omega⟩
            simp [Instr.indexAt, Instr.sureAddr, asIntOf, run_underlying hd, run_sizeT hz, hlt, addr_add]
          split at hp
          · rename_i id off
            simp only [Tr.run] at hp
            cases hb : (decide (0 ≤ i) && Nat.blt i.toNat n) with
            | false => rw [hb] at hp; cases hp
            | true =>
              rw [hb] at hp
              simp only [cond_true, Option.some.injEq] at hp
              subst hp
              simp only [Bool.and_eq_true, decide_eq_true_eq, Nat.blt_eq] at hb
              generalize a.eval x = v at hx ⊢
              cases hx with
              | ptr m id off b hm => exact ⟨_, by rw [Sem.run_bind, hrun b off hb.1 hb.2]; rfl, .ptr _ _ _ _ hm⟩
          · rename_i cs
            simp only [Tr.run] at hp
            cases hb : (decide (0 ≤ i) && Nat.blt i.toNat n) with
            | false => rw [hb] at hp; cases hp
            | true =>
              rw [hb] at hp
              simp only [cond_true, Option.some.injEq] at hp
              subst hp
              simp only [Bool.and_eq_true, decide_eq_true_eq, Nat.blt_eq] at hb
              generalize a.eval x = v at hx ⊢
              cases hx with
              | gptr m cs b o g hc hr =>
                refine ⟨_, by rw [Sem.run_bind, hrun b o hb.1 hb.2]; rfl, .gptr _ _ b (o + i.toNat * z) (fun j => g (i.toNat * z + j)) (fun j hj => ?_) fun j q hq => ?_⟩
                · rw [List.length_drop] at hj
                  rw [Nat.add_assoc]
                  exact hc _ (by omega)
                · rw [List.getElem?_drop] at hq
                  exact hr _ q hq
          · cases hp
        · cases hp
      · cases hp
  case slice t x lo hi mx =>
    dsimp only at hp ⊢
    split at hp
    · rename_i m0
      have hx := h.val x
      cases hd : P.underlying t with
      | none => rw [hd] at hp; cases hp
      | some d =>
        rw [hd] at hp
        split at hp
        · rename_i e he
          cases he
          split at hp
          · rename_i z hz hl hhh hmx hA
            simp only [Tr.run, Option.some.injEq] at hp
            subst hp
            have hv := hasA_ok h.mem hx hA
            generalize a.eval x = v at hv
            have hbn := fun n cap => run_max0 (P := P) (w := w) (n := n) (cap := cap) (bound_ok h hl) (bound_ok h hhh) (bound_ok h hmx)
            simp only [Option.map_some] at hbn
            rcases hv with rfl | ⟨ad, n, cap, rfl⟩
            · have hrun : (Instr.sliceAt t (.slice none 0 0) (lo.map a.eval) (hi.map a.eval) ((some m0).map a.eval)).run P w = .ok (.slice none 0 0) w := by
                simp [Instr.sliceAt, Instr.slice, run_underlying hd, hbn, run_sizeT hz]
              exact ⟨_, by rw [Sem.run_bind, hrun]; rfl, .emp _ _ (.inl rfl)⟩
            · have hrun : (Instr.sliceAt t (.slice (some ad) n cap) (lo.map a.eval) (hi.map a.eval) ((some m0).map a.eval)).run P w = .ok (.slice (some ad) 0 0) w := by
                simp [Instr.sliceAt, Instr.slice, run_underlying hd, hbn, run_sizeT hz]
              exact ⟨_, by rw [Sem.run_bind, hrun]; rfl, .emp _ _ (.inr ⟨ad, rfl⟩)⟩
          · cases hp
        · cases hp
    · have hx := h.val x
      generalize st.val x = q at hx hp
      cases hd : P.underlying t with
      | none => rw [hd] at hp; cases hp
      | some d =>
        rw [hd] at hp
        split at hp
        · rename_i s he
          cases he
          have h1 := litOf_rep hx rfl
          split at hp
          · rename_i l hh hl hhh
            simp only [Tr.run] at hp
            cases hb : (decide (0 ≤ l) && decide (l ≤ hh) && decide (hh ≤ (s.size : Int))) with
            | false => rw [hb] at hp; cases hp
            | true =>
              rw [hb] at hp
              simp only [cond_true, Option.some.injEq] at hp
              subst hp
              simp only [Bool.and_eq_true, decide_eq_true_eq] at hb
              refine ⟨.string (s.extract l.toNat hh.toNat), ?_, .lit _ _⟩
              have hbn := run_bounds (P := P) (w := w) (isS := false) (bound_ok h hl) (bound_ok h hhh) hb.1.1 hb.1.2 hb.2 (Nat.le_refl _)
              rw [h1]
              simp [Instr.sliceAt, Instr.slice, run_underlying hd, hbn]
          · cases hp
        · rename_i e sz n f he
          cases he
          split at hp
          · rename_i z hz
            split at hp
            · rename_i l hh hsz hl hhh
              have := Nat.eq_of_beq_eq_true hsz
              subst this
              simp only [Tr.run] at hp
              cases hb : (decide (0 ≤ l) && decide (l ≤ hh) && decide (hh ≤ (n : Int))) with
              | false => rw [hb] at hp; cases hp
              | true =>
                rw [hb] at hp
                simp only [cond_true, Option.some.injEq] at hp
                subst hp
                simp only [Bool.and_eq_true, decide_eq_true_eq] at hb
                generalize hv : a.eval x = v at hx
                cases hx with
                | gnil m sz f =>
                  have e1 : l = 0 := by omega
                  have e2 : hh = 0 := by omega
                  subst e1
                  subst e2
                  have hbn := run_bounds (P := P) (w := w) (isS := true) (cap := 0) (bound_ok h hl) (bound_ok h hhh) hb.1.1 hb.1.2 hb.2 (Nat.le_refl _)
                  have hrun : (Instr.sliceAt t (.slice none 0 0) (lo.map a.eval) (hi.map a.eval) none).run P w = .ok (.slice none 0 0) w := by
                    simp [Instr.sliceAt, Instr.slice, run_underlying hd, hbn, run_sizeT hz]
                  exact ⟨_, by rw [Sem.run_bind, Option.map_none, hrun]; rfl, .gnil _ _ _⟩
                | gspt m sz f ad =>
                  have e1 : l = 0 := by omega
                  have e2 : hh = 0 := by omega
                  subst e1
                  subst e2
                  have hbn := run_bounds (P := P) (w := w) (isS := true) (cap := 0) (bound_ok h hl) (bound_ok h hhh) hb.1.1 hb.1.2 hb.2 (Nat.le_refl _)
                  have hrun : (Instr.sliceAt t (.slice (some ad) 0 0) (lo.map a.eval) (hi.map a.eval) none).run P w = .ok (.slice (some ad) 0 0) w := by
                    simp [Instr.sliceAt, Instr.slice, run_underlying hd, hbn, run_sizeT hz]
                  exact ⟨_, by rw [Sem.run_bind, Option.map_none, hrun]; rfl, .gspt _ _ _ _⟩
                | gsl m sz n f b o cap g hc hl' hr hcap =>
                  have hbn := run_bounds (P := P) (w := w) (isS := true) (bound_ok h hl) (bound_ok h hhh) hb.1.1 hb.1.2 hb.2 hcap
                  have hrun : (Instr.sliceAt t (.slice (some ⟨b, o, none⟩) n cap) (lo.map a.eval) (hi.map a.eval) none).run P w = .ok (.slice (some (if cap = l.toNat then ⟨b, o, none⟩ else ⟨b, o + l.toNat * sz, none⟩)) (hh.toNat - l.toNat) (cap - l.toNat)) w := by
                    by_cases hcl : cap = l.toNat
                    · rw [hcl] at hbn
                      simp [Instr.sliceAt, Instr.slice, run_underlying hd, hbn, run_sizeT hz, hcl]
                    · simp [Instr.sliceAt, Instr.slice, run_underlying hd, hbn, run_sizeT hz, hcl, addr_add]
                  refine ⟨_, by rw [Sem.run_bind, Option.map_none, hrun]; rfl, ?_⟩
                  by_cases hcl : cap = l.toNat
                  · rw [if_pos hcl]
                    exact .gsl _ sz _ _ b o _ (fun i j => g (l.toNat + i) j) (fun i j hi hj => absurd hi (by omega)) (fun i hi => absurd hi (by omega)) (fun i j p hi hp => absurd hi (by omega)) (by omega)
                  · rw [if_neg hcl]
                    refine .gsl _ sz _ _ b _ _ (fun i j => g (l.toNat + i) j) (fun i j hi hj => ?_) (fun i hi => hl' _ (by omega)) (fun i j p hi hp => hr _ j p (by omega) hp) (by omega)
                    have := hc (l.toNat + i) j (by omega) hj
                    rw [Nat.add_mul] at this
                    have e : o + l.toNat * sz + (i * sz + j) = o + (l.toNat * sz + i * sz + j) := by omega
                    rw [e]
                    exact this
            · cases hp
          · cases hp
        · rename_i e he
          cases he
          split at hp
          · rename_i z hz hl hhh
            simp only [Tr.run, Option.some.injEq] at hp
            subst hp
            have h1 := litOf_rep hx rfl
            have hbn := run_bounds (P := P) (w := w) (isS := true) (n := 0) (cap := 0) (bound_ok h hl) (bound_ok (d := ((0 : Nat) : Int)) h hhh) (by omega) (by omega) (by omega) (Nat.le_refl _)
            have hrun : (Instr.sliceAt t (.slice none 0 0) (lo.map a.eval) (hi.map a.eval) none).run P w = .ok (.slice none 0 0) w := by
              simp [Instr.sliceAt, Instr.slice, run_underlying hd, hbn, run_sizeT hz]
            refine ⟨_, by rw [h1, Sem.run_bind, Option.map_none, hrun]; rfl, .lit _ _⟩
          · cases hp
        · rename_i e id he
          cases he
          split at hp
          · rename_i e' sz n f z hlk hz
            split at hp
            · rename_i l hh hl hhh
              simp only [Tr.run] at hp
              cases hb : (decide (0 ≤ l) && decide (l ≤ hh) && decide (hh ≤ (n : Int))) with
              | false => rw [hb] at hp; cases hp
              | true =>
                rw [hb] at hp
                simp only [cond_true, Option.some.injEq] at hp
                subst hp
                simp only [Bool.and_eq_true, decide_eq_true_eq] at hb
                generalize hv : a.eval x = v at hx
                cases hx with
                | own m id v hm h1 =>
                  have hbk := h.mem.blk id _ hlk
                  cases hbk with
                  | row e sz n f v' xs hm' ho hKr h1' hl' hr =>
                    rw [hm] at hm'
                    cases hm'
                    rcases ho.2 with ⟨rfl, rfl⟩ | ⟨g, cap, cur, rfl, hbg, hg, hnc, hrest⟩
                    · have hbn := run_bounds (P := P) (w := w) (isS := true) (cap := 0) (bound_ok h hl) (bound_ok h hhh) hb.1.1 hb.1.2 hb.2 (Nat.le_refl _)
                      have hrun : ∃ u, (Instr.sliceAt t (.slice none 0 0) (lo.map a.eval) (hi.map a.eval) none).run P w = .ok u w := by
                        simp [Instr.sliceAt, Instr.slice, run_underlying hd, hbn, run_sizeT hz]
                      obtain ⟨u, hrun⟩ := hrun
                      exact ⟨u, by rw [Sem.run_bind, Option.map_none, hrun]; rfl, .junk _ _⟩
                    · have hbn := run_bounds (P := P) (w := w) (isS := true) (bound_ok h hl) (bound_ok h hhh) hb.1.1 hb.1.2 hb.2 hnc
                      have hrun : ∃ u, (Instr.sliceAt t (.slice (some ⟨g, 0, none⟩) n cap) (lo.map a.eval) (hi.map a.eval) none).run P w = .ok u w := by
                        simp [Instr.sliceAt, Instr.slice, run_underlying hd, hbn, run_sizeT hz]
                      obtain ⟨u, hrun⟩ := hrun
                      exact ⟨u, by rw [Sem.run_bind, Option.map_none, hrun]; rfl, .junk _ _⟩
            · cases hp
          · cases hp
        · cases hp
  case call c =>
    dsimp only at hp ⊢
    have ext : ∀ (b : Builtin) (vs : List Value), c.callee = .builtin b → (b = .max ∨ b = .min) → litsOf (c.args.toList.map fun x => norm (st.val x)) = some vs → ((ofOpt (extT P b c.argTypes o.type vs)).bind fun v => Tr.leaf (PV.lit v)).run = some p →
        ∃ v, ((do let d ← resolve a.eval c o.type; invoke d.target d.args : Sem Next)).run P w = .ok (.value v) w ∧ Rep (Cell β w st.mem m) m p v := by
      intro b vs hcal hb hvs hp
      obtain ⟨z, hz, hp⟩ := Tr.of_bind hp
      simp only [Tr.run, Option.some.injEq] at hp
      subst hp
      have hz := run_ofOpt hz
      have hargs : (c.args.map a.eval).toList = vs := litsOf_rep (C := Cell β w st.mem m) (m := m) hvs (by simp) fun i p v hp hv => by
        simp only [List.getElem?_map, Array.toList_map, Array.getElem?_toList] at hp hv
        cases hk : c.args[i]? with
        | none => rw [hk] at hp; cases hp
        | some x =>
          rw [hk] at hp hv
          cases hp
          cases hv
          exact norm_rep (h.val x)
      have ha : c.args.map a.eval = vs.toArray := by rw [← hargs, Array.toArray_toList]
      refine ⟨z, ?_, .lit _ _⟩
      rcases hb with rfl | rfl
      · simp only [extT] at hz
        have := evSem_run hz w
        simp [resolve, hcal, invoke, builtin, ha, this]
      · simp only [extT] at hz
        have := evSem_run hz w
        simp [resolve, hcal, invoke, builtin, ha, this]
    split at hp
    · rename_i x t hcal hargs htys
      have hx := h.val x
      generalize st.val x = q at hx hp
      obtain ⟨callee, args, tys⟩ := c
      dsimp only at hcal hargs htys
      have hargs' : args = #[x] := by rw [← Array.toArray_toList (xs := args), hargs]
      have htys' : tys = #[t] := by rw [← Array.toArray_toList (xs := tys), htys]
      subst hcal
      subst hargs'
      subst htys'
      have hcall : ∀ v, (Builtin.len_ #[t] o.type #[a.eval x]).run P w = .ok v w →
          ((do let d ← resolve a.eval { callee := .builtin .len, args := #[x], argTypes := #[t] } o.type; invoke d.target d.args : Sem Next)).run P w = .ok (.value v) w := by
        intro v hv
        simp [resolve, invoke, builtin, hv]
      cases hd : P.underlying t with
      | none => rw [hd] at hp; cases hp
      | some d =>
        rw [hd] at hp
        split at hp
        · rename_i s he
          cases he
          simp only [Tr.run, Option.some.injEq] at hp
          subst hp
          have h1 := litOf_rep hx rfl
          refine ⟨_, hcall (goInt s.size) ?_, .lit _ _⟩
          rw [h1]
          simp [Builtin.len_, run_underlying hd]
        · rename_i e sz n f he
          cases he
          simp only [Tr.run, Option.some.injEq] at hp
          subst hp
          generalize hv : a.eval x = v at hx hcall ⊢
          cases hx with
          | gnil m sz f => exact ⟨_, hcall (goInt (0 : Nat)) (by simp [Builtin.len_, run_underlying hd]), .lit _ _⟩
          | gspt m sz f ad => exact ⟨_, hcall (goInt (0 : Nat)) (by simp [Builtin.len_, run_underlying hd]), .lit _ _⟩
          | gsl m sz n f b o cap g hc hl hr hcap => exact ⟨_, hcall (goInt n) (by simp [Builtin.len_, run_underlying hd]), .lit _ _⟩
        · rename_i e sa n cap he
          cases he
          simp only [Tr.run, Option.some.injEq] at hp
          subst hp
          have h1 := litOf_rep hx rfl
          refine ⟨_, hcall (goInt n) ?_, .lit _ _⟩
          rw [h1]
          simp [Builtin.len_, run_underlying hd]
        · rename_i e id he
          cases he
          split at hp
          · rename_i e' sz n f hlk
            simp only [Tr.run, Option.some.injEq] at hp
            subst hp
            generalize hv : a.eval x = v at hx hcall ⊢
            cases hx with
            | own m id v hm h1 =>
              have hbk := h.mem.blk id _ hlk
              cases hbk with
              | row e sz n f v' xs hm' ho' hKr h1' hl hr =>
                rw [hm] at hm'
                cases hm'
                refine ⟨_, hcall (goInt n) ?_, .lit _ _⟩
                rcases ho'.2 with ⟨rfl, rfl⟩ | ⟨g, cap, cur, rfl, hbg, hg, hrest⟩ <;> simp [Builtin.len_, run_underlying hd]
          · cases hp
        · rename_i e he
          cases he
          simp only [Tr.run, Option.some.injEq] at hp
          subst hp
          generalize hv : a.eval x = v at hx hcall ⊢
          cases hx with
          | emp m v h => rcases h with rfl | ⟨b, o, rfl⟩ <;> exact ⟨_, hcall (goInt (0 : Nat)) (by simp [Builtin.len_, run_underlying hd]), .lit _ _⟩
        · cases hp
    · rename_i _ _ hcal
      split at hp
      · rename_i vs hvs
        exact ext .max vs hcal (.inl rfl) hvs hp
      · cases hp
    · rename_i _ _ hcal
      split at hp
      · rename_i vs hvs
        exact ext .min vs hcal (.inr rfl) hvs hp
      · cases hp
    · cases hp
  case build t parts =>
    dsimp only at hp ⊢
    split at hp
    · rename_i cs hcs
      simp only [Tr.run, Option.some.injEq] at hp
      subst hp
      obtain ⟨vs, hv, hr⟩ := buildP_ok (C := Cell β w st.mem m) (m := m) (vv := parts.map fun x => (x.1, a.eval x.2)) hcs (by simp) (fun k x y hx hy => by
        simp only [List.getElem?_map, Array.getElem?_map, Array.getElem?_toList] at hx hy
        cases hk : parts[k]? with
        | none => rw [hk] at hx; cases hx
        | some z =>
          rw [hk] at hx hy
          cases hx
          cases hy
          exact ⟨rfl, h.val _⟩) w
      exact ⟨_, by rw [Sem.run_bind]; erw [hv]; rfl, hr⟩
    · cases hp
  case makeFunc fn first caps =>
    dsimp only at hp ⊢
    split at hp
    · rename_i f hfirst
      simp only [Tr.run, Option.some.injEq] at hp
      subst hp
      have hf : first = #[] := by rw [← Array.toArray_toList (xs := first), hfirst]
      subst hf
      refine ⟨.func (.func f) #[] (caps.map a.eval), by simp [Instr.makeFunc], .clo _ _ _ _ (by simp) fun i p v hp hv => ?_⟩
      simp only [List.getElem?_map, Array.getElem?_map, Array.getElem?_toList] at hp hv
      cases hk : caps[i]? with
      | none => rw [hk] at hp; cases hp
      | some z =>
        rw [hk] at hp hv
        cases hp
        cases hv
        exact h.val _
    · cases hp
  case nilCheck x =>
    dsimp only at hp ⊢
    have hx := h.val x
    generalize st.val x = q at hx hp
    generalize a.eval x = v at hx ⊢
    split at hp
    · simp only [Tr.run, Option.some.injEq] at hp
      subst hp
      have := litOf_rep hx rfl
      subst this
      exact ⟨_, rfl, .lit _ _⟩
    · simp only [Tr.run, Option.some.injEq] at hp
      subst hp
      cases hx with
      | ptr m id off b hm => exact ⟨_, rfl, .ptr _ _ _ _ hm⟩
    · simp only [Tr.run, Option.some.injEq] at hp
      subst hp
      cases hx with
      | optr m id sz i j b n cap hm => exact ⟨_, rfl, .optr _ _ _ _ _ _ _ _ hm⟩
    · simp only [Tr.run, Option.some.injEq] at hp
      subst hp
      cases hx with
      | gptr m cs b o g hc hr => exact ⟨_, rfl, .gptr _ _ _ _ _ hc hr⟩
    · simp only [Tr.run, Option.some.injEq] at hp
      subst hp
      cases hx with
      | clo m f ps vs hl hr => exact ⟨_, rfl, .clo _ _ _ _ hl hr⟩
    · cases hp
end

end Go.Proofs.YtlngnfkjpfokhaaDoor.Ev
