/- JBox06: several texts in one. Condition: each part's own. -/
import Derived.Test.YtlngnfkjpfokhaaDoorJBox05
import Derived.ScopeJumps
/- The evaluator of regions and of code, and its soundness. No condition. -/
namespace Go.Proofs.YtlngnfkjpfokhaaDoor.Ev
open Go Go.RowKit
set_option linter.unusedVariables false
set_option linter.unusedSimpArgs false

/-- how much of one's own places is known to stay: all, the first ones, none -/
inductive Mode where
  | full
  | pins (k : Nat)
  | none
abbrev Mode.pin : Mode := .pins 1
def ExtM (x : Mode) (β : Base) (M : Mem) (m : Nat → Option Value) (w : World) (M' : Mem) (m' : Nat → Option Value) (w' : World) : Prop := match x with
  | .full => Ext β M m w M' m' w'
  | .pins k => ∀ i, i < k → ∀ v, m i = some v → m' i = some v
  | .none => True
theorem ExtM.of {x : Mode} {β : Base} {M M' : Mem} {m m' : Nat → Option Value} {w w' : World} (h : Ext β M m w M' m' w') : ExtM x β M m w M' m' w' := by
  cases x with
  | full => exact h
  | pins k => exact fun i _ v hv => h.own i v hv
  | none => trivial
theorem ExtM.trans {x : Mode} {β : Base} {M M' M'' : Mem} {m m' m'' : Nat → Option Value} {w w' w'' : World} (h : ExtM x β M m w M' m' w') (k : ExtM x β M' m' w' M'' m'' w'') : ExtM x β M m w M'' m'' w'' := by
  cases x with
  | full => exact Ext.trans h k
  | pins j => exact fun i hi v hv => k i hi v (h i hi v hv)
  | none => trivial
/-- the code, begun in st, ends as e in st'; x: what the callers know stays -/
def Run (x : Mode) (P : Program) (G : GT) (c : Code) (st : St) (e : Exit) (st' : St) : Prop :=
  ∀ (β : Base), β.G = G → ∀ (m : Nat → Option Value) (a : Act) (w : World), Rel β st m a w → c.wp P (fun e' a' w' => e' = e ∧ ∃ m', ExtM x β st.mem m w st'.mem m' w' ∧ Rel β st' m' a' w') a w

theorem Rel.know {β : Base} {st : St} {m : Nat → Option Value} {a : Act} {w : World} (h : Rel β st m a w) {s : Nat} {b : Bool} (hs : look st.slots s = some (.lit (.bool b))) : Rel β (st.know s b) m a w :=
  ⟨h.size, h.defers, fun i p hp => h.slots i p (by rw [← look_know hs]; exact hp), h.mem⟩
/-- the next operation, if it is a clear -/
def nextClr : List Oper → Option Oper
  | [] => none
  | o2 :: _ => match isClear o2 with
    | true => some o2
    | false => none
def evOpsB (P : Program) (E : Env) (ops : Array Oper) : List Oper → Bool → St → Tr St
  | [], _, st => .leaf st
  | o :: r, skip, st => match skip with
    | true => evOpsB P E ops r false st
    | false => match o.guard with
      | none => match nextClr r with
        | some o2 => (opClear P st o o2).bind (evOpsB P E ops r true)
        | none => (evOp P E st o).bind (evOpsB P E ops r false)
      | some (j, b) => match (ops[j]?).bind (·.dst) with
        | none => .fail
        | some s => match look st.slots s with
          | some (.lit (.bool t)) => match b with
            | true => .br t ((evOp P E (st.know s true) o).bind (evOpsB P E ops r false)) (((st.know s false).put o.dst (.lit undef)).bind (evOpsB P E ops r false))
            | false => .br t (((st.know s true).put o.dst (.lit undef)).bind (evOpsB P E ops r false)) ((evOp P E (st.know s false) o).bind (evOpsB P E ops r false))
          | some (.lit (.tuple _)) => (st.put o.dst (.lit undef)).bind (evOpsB P E ops r false)
          | _ => .fail
abbrev evOps (P : Program) (E : Env) (ops : Array Oper) (l : List Oper) (st : St) : Tr St := evOpsB P E ops l false st
section
variable {P : Program} {E : Env} {β : Base}
theorem evOps_ok (hE : E.ok P β.G) {ops : Array Oper} {Q : Exit → Act → World → Prop} : ∀ (l : List Oper) (is : List Nat), (∀ k : Nat, (is[k]?).bind (fun i => ops[i]?) = l[k]?) → is.length = l.length → ∀ (st st' : St) (m : Nat → Option Value) (a : Act) (w : World),
    Rel β st m a w → (evOps P E ops l st).run = some st' → (∀ m' a' w', Ext β st.mem m w st'.mem m' w' → Rel β st' m' a' w' → Q .normal a' w') → wpOps P ops Q is a w
  | [], is, his, hlen, st, st', m, a, w, h, hp, hQ => by
    have : is = [] := List.eq_nil_of_length_eq_zero hlen
    subst this
    simp only [evOps, evOpsB, Tr.run, Option.some.injEq] at hp
    subst hp
    exact hQ m a w (Ext.refl _ _ _ _) h
  | o :: r, [], his, hlen, st, st', m, a, w, h, hp, hQ => by cases hlen
  | o :: r, i :: is, his, hlen, st, st', m, a, w, h, hp, hQ => by
    have ho : ops[i]? = some o := by simpa using his 0
    have his' : ∀ k : Nat, (is[k]?).bind (fun i => ops[i]?) = r[k]? := fun k => by simpa using his (k + 1)
    have hlen' : is.length = r.length := by simpa using hlen
    unfold wpOps
    rw [ho]
    dsimp only
    have take : ∀ st1, st1.mem = st.mem → Rel β st1 m a w → ((evOp P E st1 o).bind (evOpsB P E ops r false)).run = some st' → Region.wanted o (yielded ops a.tmps) = true →
        (if Region.wanted o (yielded ops a.tmps) then o.wp P a w (wpOps P ops Q is) Q ∨ (o.asks P a w ∧ LetsOut Q) else wpOps P ops Q is (a.put o.dst undef) w) := by
      intro st1 hm1 h1 hp1 hw
      rw [if_pos hw]
      left
      obtain ⟨st2, hst2, hp2⟩ := Tr.of_bind hp1
      refine evOp_ok hE h1 hst2 fun m' v w' hext hrel => ?_
      refine evOps_ok hE r is his' hlen' st2 st' m' _ w' hrel hp2 fun m'' a'' w'' hext' hrel' => hQ m'' a'' w'' ?_ hrel'
      rw [hm1] at hext
      exact hext.trans hext'
    have skip : ∀ st1, st1.mem = st.mem → Rel β st1 m a w → ((st1.put o.dst (.lit undef)).bind (evOpsB P E ops r false)).run = some st' → Region.wanted o (yielded ops a.tmps) = false →
        (if Region.wanted o (yielded ops a.tmps) then o.wp P a w (wpOps P ops Q is) Q ∨ (o.asks P a w ∧ LetsOut Q) else wpOps P ops Q is (a.put o.dst undef) w) := by
      intro st1 hm1 h1 hp1 hw
      rw [hw]
      simp only [Bool.false_eq_true, if_false]
      obtain ⟨st2, hst2, hp2⟩ := Tr.of_bind hp1
      refine evOps_ok hE r is his' hlen' st2 st' m _ w (h1.put (.lit _ _) hst2) hp2 fun m'' a'' w'' hext' hrel' => hQ m'' a'' w'' ?_ hrel'
      rw [put_mem hst2, hm1] at hext'
      exact hext'
    simp only [evOps, evOpsB] at hp
    split at hp
    · rename_i hg
      have hw0 : Region.wanted o (yielded ops a.tmps) = true := by unfold Region.wanted; rw [hg]
      cases r with
      | nil => exact take st rfl h hp hw0
      | cons o2 r2 =>
        simp only [nextClr] at hp
        cases hcl : isClear o2 with
        | true =>
          rw [hcl] at hp
          dsimp only at hp
          obtain ⟨st2, hst2, hp2⟩ := Tr.of_bind hp
          rw [if_pos hw0]
          left
          cases is with
          | nil => cases hlen'
          | cons i2 is2 =>
            have ho2 : ops[i2]? = some o2 := by simpa using his' 0
            have his2 : ∀ k : Nat, (is2[k]?).bind (fun i => ops[i]?) = r2[k]? := fun k => by simpa using his' (k + 1)
            have hlen2 : is2.length = r2.length := by simpa using hlen'
            refine opClear_ok (K := wpOps P ops Q is2) h hst2 (fun hg2 a1 w1 hk => ?_) fun m' a' w' hext hrel => ?_
            · unfold wpOps
              rw [ho2]
              dsimp only
              rw [if_pos (by unfold Region.wanted; rw [hg2])]
              exact .inl hk
            · exact evOps_ok hE r2 is2 his2 hlen2 st2 st' m' a' w' hrel hp2 fun m'' a'' w'' hext' hrel' => hQ m'' a'' w'' (hext.trans hext') hrel'
        | false =>
          rw [hcl] at hp
          exact take st rfl h hp hw0
    · rename_i j b hg
      split at hp
      · cases hp
      · rename_i s hs
        split at hp
        · rename_i t hl
          obtain ⟨v, hv, hr⟩ := h.slots s _ hl
          have hvt := litOf_rep hr rfl
          subst hvt
          have hy : yielded ops a.tmps j = some t := by
            unfold yielded
            rw [hs]
            simp [hv]
          have hw : Region.wanted o (yielded ops a.tmps) = (t == b) := by
            unfold Region.wanted
            rw [hg]
            dsimp only
            rw [hy]
            cases t <;> cases b <;> rfl
          cases t <;> cases b <;> simp only [Tr.run, cond_true, cond_false] at hp
          · exact take (st.know s false) rfl (h.know hl) hp (by rw [hw]; rfl)
          · exact skip (st.know s false) rfl (h.know hl) hp (by rw [hw]; rfl)
          · exact skip (st.know s true) rfl (h.know hl) hp (by rw [hw]; rfl)
          · exact take (st.know s true) rfl (h.know hl) hp (by rw [hw]; rfl)
        · rename_i vs hl
          obtain ⟨v, hv, hr⟩ := h.slots s _ hl
          have hvt := litOf_rep hr rfl
          subst hvt
          refine skip st rfl h hp ?_
          unfold Region.wanted
          rw [hg]
          dsimp only
          unfold yielded
          rw [hs]
          cases b <;> simp [hv]
        · cases hp
end

/-- the blocks with this number that lie in a code -/
def blocksOf (id : Nat) : Code → List Code
  | .seq x y => blocksOf id x ++ blocksOf id y
  | .cond _ x y => blocksOf id x ++ blocksOf id y
  | .block i c => match Nat.beq i id with
    | true => c :: blocksOf id c
    | false => blocksOf id c
  | .loop c => blocksOf id c
  | .scope c => blocksOf id c
  | _ => []
/-- the scopes in a code in which there is this label: what comes behind it -/
def scopesOf (l : Nat) : Code → List Code
  | .seq x y => scopesOf l x ++ scopesOf l y
  | .cond _ x y => scopesOf l x ++ scopesOf l y
  | .block i c => scopesOf l c
  | .loop c => scopesOf l c
  | .scope c => match findLabel c l with
    | some rest => rest :: scopesOf l c
    | none => scopesOf l c
  | _ => []
/-- one comes back to a label so many times -/
def JR (P : Program) (rest : Code) (l : Nat) (Q : Exit → Act → World → Prop) : Nat → Act → World → Prop
  | 0, _, _ => False
  | n + 1, a, w => rest.wp P (Exit.jump l (JR P rest l Q n) Q) a w
/-- behind a label, until one is out -/
def Jumps (x : Mode) (P : Program) (G : GT) (rest : Code) (l : Nat) (st : St) (e : Exit) (st' : St) : Prop :=
  ∀ (β : Base), β.G = G → ∀ (m : Nat → Option Value) (a : Act) (w : World), Rel β st m a w → ∃ n, JR P rest l (fun e' a' w' => e' = e ∧ ∃ m', ExtM x β st.mem m w st'.mem m' w' ∧ Rel β st' m' a' w') n a w
/-- the cuts of a code: each is what its block does -/
structure CutsOK (x : Mode) (P : Program) (G : GT) (E : Env) (c : Code) : Prop where
  blk : ∀ id g, E.cuts id = some g → ∀ b ∈ blocksOf id c, ∀ st e st', (g st).run = some (e, st') → Run x P G (.block id b) st e st'
  lab : ∀ l g, E.cuts (1000000 + l) = some g → ∀ rest ∈ scopesOf l c, ∀ st e st', (g st).run = some (e, st') → Jumps x P G rest l st e st'
def iter (f : St → Tr (Exit × St)) : Nat → St → Tr (Exit × St)
  | 0, _ => .fail
  | n + 1, st => (f st).bind fun r => match r.1 with
    | .normal => iter f n r.2
    | e => .leaf (e, r.2)
def jiter (l : Nat) (f : St → Tr (Exit × St)) : Nat → St → Tr (Exit × St)
  | 0, _ => .fail
  | n + 1, st => (f st).bind fun r => match r.1 with
    | .goto l' => match Nat.beq l' l with
      | true => jiter l f n r.2
      | false => .fail
    | e => .leaf (e, r.2)
/-- a code's end, and the state then, from its beginning or from a label; loops that are no cuts go round at most n times -/
def evG (P : Program) (E : Env) (n : Nat) : Code → Option Nat → St → Tr (Exit × St)
  | .skip, none, st => .leaf (.normal, st)
  | .label _, none, st => .leaf (.normal, st)
  | .label l', some l, st => match Nat.beq l' l with
    | true => .leaf (.normal, st)
    | false => .fail
  | .exit id, none, st => .leaf (.exit id, st)
  | .goto l, none, st => .leaf (.goto l, st)
  | .ret, none, st => .leaf (.ret, st)
  | .region id ops draw, none, st => match E.cuts (3000000 + id) with
    | some g => (mergeR P E ops draw (named (g st)) st).bind fun st => .leaf (.normal, st)
    | none => match draw with
      | false => (evOps P E ops ops.toList st).bind fun st => .leaf (.normal, st)
      | true => (evDraw P E ops st).bind fun st => .leaf (.normal, st)
  | .seq x y, none, st => (evG P E n x none st).bind fun r => match r.1 with
    | .normal => evG P E n y none r.2
    | e => .leaf (e, r.2)
  | .seq x y, some l, st => match findLabel x l with
    | some _ => (evG P E n x (some l) st).bind fun r => match r.1 with
      | .normal => evG P E n y none r.2
      | e => .leaf (e, r.2)
    | none => evG P E n y (some l) st
  | .cond c x y, none, st => match c with
    | .tmp s => match look st.slots s with
      | some (.lit (.bool t)) => .br t (evG P E n x none (st.know s true)) (evG P E n y none (st.know s false))
      | _ => .fail
    | .const (.bool t) => .br t (evG P E n x none st) (evG P E n y none st)
    | _ => .fail
  | .block id c, none, st => match E.cuts id with
    | some g => g st
    | none => (evG P E n c none st).bind fun r => match r.1 with
      | .exit j => match Nat.beq j id with
        | true => .leaf (.normal, r.2)
        | false => .leaf (.exit j, r.2)
      | e => .leaf (e, r.2)
  | .loop c, none, st => iter (evG P E n c none) n st
  | .scope c, none, st => (evG P E n c none st).bind fun r => match r.1 with
    | .goto l => match findLabel c l with
      | some _ => match E.cuts (1000000 + l) with
        | some g => g r.2
        | none => jiter l (evG P E n c (some l)) n r.2
      | none => .fail
    | e => .leaf (e, r.2)
  | _, _, _ => .fail
def ev (P : Program) (E : Env) (n : Nat) (c : Code) (st : St) : Tr (Exit × St) := evG P E n c none st

section
variable {x : Mode} {P : Program} {E : Env} {n : Nat} {G : GT}
theorem rounds_mono {c : Code} {Q Q' : Exit → Act → World → Prop} : ∀ (k : Nat) {a : Act} {w : World}, (∀ e a w, Q e a w → Q' e a w) → Code.rounds P c Q k a w → Code.rounds P c Q' k a w
  | 0, a, w, hq, h => h
  | k + 1, a, w, hq, h => by
    rw [rounds_succ] at h ⊢
    refine wp_mono h fun e a' w' h' => ?_
    cases e with
    | normal => exact rounds_mono k hq h'
    | _ => exact hq _ _ _ h'
theorem jump_mono {l : Nat} {J J' : Act → World → Prop} {Q Q' : Exit → Act → World → Prop} (hj : ∀ a w, J a w → J' a w) (hq : ∀ e a w, Q e a w → Q' e a w) (e : Exit) (a : Act) (w : World) (h : Exit.jump l J Q e a w) : Exit.jump l J' Q' e a w := by
  cases e with
  | goto l' => exact ⟨h.1, hj _ _ h.2⟩
  | normal => exact hq _ _ _ h
  | exit i => exact hq _ _ _ h
  | ret => exact hq _ _ _ h
  | panic c => exact hq _ _ _ h
  | outgrown => exact hq _ _ _ h
theorem JR_mono {rest : Code} {l : Nat} {Q Q' : Exit → Act → World → Prop} (hq : ∀ e a w, Q e a w → Q' e a w) : ∀ (k : Nat) {a : Act} {w : World}, JR P rest l Q k a w → JR P rest l Q' k a w
  | 0, a, w, h => h.elim
  | k + 1, a, w, h => wp_mono h (jump_mono (fun a w h => JR_mono hq k h) hq)
theorem least {p : Nat → Prop} (h : ∃ n, p n) : ∃ n, p n ∧ ∀ k, p k → n ≤ k := by
  obtain ⟨n, hn⟩ := h
  induction n using Nat.strongRecOn with
  | _ n ih =>
    by_cases hk : ∃ k, k < n ∧ p k
    · obtain ⟨k, hlt, hp⟩ := hk
      exact ih k hlt hp
    · refine ⟨n, hn, fun k hp => ?_⟩
      rcases Nat.lt_or_ge k n with h | h
      · exact absurd ⟨k, h, hp⟩ hk
      · exact h
noncomputable def leastOf (p : Nat → Prop) : Nat := open Classical in if h : ∃ n, p n then Classical.choose (least h) else 0
theorem leastOf_spec {p : Nat → Prop} (h : ∃ n, p n) : p (leastOf p) ∧ ∀ k, p k → leastOf p ≤ k := by
  unfold leastOf
  rw [dif_pos h]
  exact Classical.choose_spec (least h)
theorem wp_scope_JR {c rest : Code} {l : Nat} {Q : Exit → Act → World → Prop} (hf : findLabel c l = some rest) {a : Act} {w : World} (first : c.wp P (Exit.jump l (fun a w => ∃ k, JR P rest l Q k a w) Q) a w) : (Code.scope c).wp P Q a w := by
  refine wp_scope_jumps l (fun a w => ∃ k, JR P rest l Q k a w) (fun a w => leastOf fun k => JR P rest l Q k a w) hf first ?_
  intro a w h
  obtain ⟨hfind, -⟩ := leastOf_spec h
  generalize leastOf (fun k => JR P rest l Q k a w) = N at hfind
  cases N with
  | zero => exact hfind.elim
  | succ k =>
    refine wp_mono hfind (jump_mono (fun a' w' h' => ⟨⟨k, h'⟩, ?_⟩) fun _ _ _ h => h)
    have := (leastOf_spec (p := fun k => JR P rest l Q k a' w') ⟨k, h'⟩).2 k h'
    omega
theorem iter_ok {c : Code} {f : St → Tr (Exit × St)} (hf : ∀ st e st', (f st).run = some (e, st') → Run x P G c st e st') : ∀ (k : Nat) (st : St) (e : Exit) (st' : St), (iter f k st).run = some (e, st') →
    ∀ (β : Base), β.G = G → ∀ (m : Nat → Option Value) (a : Act) (w : World), Rel β st m a w → Code.rounds P c (fun e' a' w' => e' = e ∧ ∃ m', ExtM x β st.mem m w st'.mem m' w' ∧ Rel β st' m' a' w') k a w
  | 0, st, e, st', hp, β, hG, m, a, w, h => by cases hp
  | k + 1, st, e, st', hp, β, hG, m, a, w, h => by
    simp only [iter] at hp
    obtain ⟨⟨e1, st1⟩, h1, hp⟩ := Tr.of_bind hp
    rw [rounds_succ]
    refine wp_mono (hf st e1 st1 h1 β hG m a w h) ?_
    rintro e' a' w' ⟨rfl, m', hext, hrel⟩
    cases e' with
    | normal =>
      dsimp only at hp
      simp only [Exit.then]
      have := iter_ok hf k st1 e st' hp β hG m' a' w' hrel
      refine rounds_mono k ?_ this
      rintro e'' a'' w'' ⟨rfl, m'', hext', hrel'⟩
      exact ⟨rfl, m'', hext.trans hext', hrel'⟩
    | _ =>
      simp only [Tr.run, Option.some.injEq, Prod.mk.injEq] at hp
      obtain ⟨rfl, rfl⟩ := hp
      exact ⟨rfl, m', hext, hrel⟩
theorem jiter_ok {rest : Code} {l : Nat} {f : St → Tr (Exit × St)} (hf : ∀ st e st', (f st).run = some (e, st') → Run x P G rest st e st') : ∀ (k : Nat) (st : St) (e : Exit) (st' : St), (jiter l f k st).run = some (e, st') →
    ∀ (β : Base), β.G = G → ∀ (m : Nat → Option Value) (a : Act) (w : World), Rel β st m a w → JR P rest l (fun e' a' w' => e' = e ∧ ∃ m', ExtM x β st.mem m w st'.mem m' w' ∧ Rel β st' m' a' w') k a w
  | 0, st, e, st', hp, β, hG, m, a, w, h => by cases hp
  | k + 1, st, e, st', hp, β, hG, m, a, w, h => by
    simp only [jiter] at hp
    obtain ⟨⟨e1, st1⟩, h1, hp⟩ := Tr.of_bind hp
    unfold JR
    refine wp_mono (hf st e1 st1 h1 β hG m a w h) ?_
    rintro e' a' w' ⟨rfl, m', hext, hrel⟩
    cases e' with
    | goto l' =>
      dsimp only at hp
      cases hb : Nat.beq l' l with
      | false => rw [hb] at hp; cases hp
      | true =>
        rw [hb] at hp
        refine ⟨Nat.eq_of_beq_eq_true hb, ?_⟩
        have := jiter_ok hf k st1 e st' hp β hG m' a' w' hrel
        refine JR_mono ?_ k this
        rintro e'' a'' w'' ⟨rfl, m'', hext', hrel'⟩
        exact ⟨rfl, m'', hext.trans hext', hrel'⟩
    | normal =>
      simp only [Tr.run, Option.some.injEq, Prod.mk.injEq] at hp
      obtain ⟨rfl, rfl⟩ := hp
      exact ⟨rfl, m', hext, hrel⟩
    | exit i =>
      simp only [Tr.run, Option.some.injEq, Prod.mk.injEq] at hp
      obtain ⟨rfl, rfl⟩ := hp
      exact ⟨rfl, m', hext, hrel⟩
    | ret =>
      simp only [Tr.run, Option.some.injEq, Prod.mk.injEq] at hp
      obtain ⟨rfl, rfl⟩ := hp
      exact ⟨rfl, m', hext, hrel⟩
    | panic c =>
      simp only [Tr.run, Option.some.injEq, Prod.mk.injEq] at hp
      obtain ⟨rfl, rfl⟩ := hp
      exact ⟨rfl, m', hext, hrel⟩
    | outgrown =>
      simp only [Tr.run, Option.some.injEq, Prod.mk.injEq] at hp
      obtain ⟨rfl, rfl⟩ := hp
      exact ⟨rfl, m', hext, hrel⟩
theorem evG_ok (hE : E.ok P G) (hmo : P.follows .mixedOrders = true) (c : Code) : CutsOK x P G E c →
    (∀ st e st', (evG P E n c none st).run = some (e, st') → Run x P G c st e st') ∧ (∀ l rest, findLabel c l = some rest → ∀ st e st', (evG P E n c (some l) st).run = some (e, st') → Run x P G rest st e st') := by
  induction c with
  | skip =>
    refine fun hc => ⟨fun st e st' hp β hG m a w h => ?_, fun l rest hf => by cases hf⟩
    simp only [evG, Tr.run, Option.some.injEq, Prod.mk.injEq] at hp
    obtain ⟨rfl, rfl⟩ := hp
    exact wp_skip ⟨rfl, m, ExtM.of (Ext.refl _ _ _ _), h⟩
  | label l =>
    refine fun hc => ⟨fun st e st' hp β hG m a w h => ?_, fun l' rest hf st e st' hp β hG m a w h => ?_⟩
    · simp only [evG, Tr.run, Option.some.injEq, Prod.mk.injEq] at hp
      obtain ⟨rfl, rfl⟩ := hp
      exact wp_label ⟨rfl, m, ExtM.of (Ext.refl _ _ _ _), h⟩
    · simp only [evG] at hp
      simp only [findLabel] at hf
      split at hp
      · rename_i hb
        have := Nat.eq_of_beq_eq_true hb
        subst this
        simp only [beq_self_eq_true, if_true, Option.some.injEq] at hf
        subst hf
        simp only [Tr.run, Option.some.injEq, Prod.mk.injEq] at hp
        obtain ⟨rfl, rfl⟩ := hp
        exact wp_skip ⟨rfl, m, ExtM.of (Ext.refl _ _ _ _), h⟩
      · cases hp
  | exit id =>
    refine fun hc => ⟨fun st e st' hp β hG m a w h => ?_, fun l rest hf => by cases hf⟩
    simp only [evG, Tr.run, Option.some.injEq, Prod.mk.injEq] at hp
    obtain ⟨rfl, rfl⟩ := hp
    exact wp_exit ⟨rfl, m, ExtM.of (Ext.refl _ _ _ _), h⟩
  | goto l =>
    refine fun hc => ⟨fun st e st' hp β hG m a w h => ?_, fun l rest hf => by cases hf⟩
    simp only [evG, Tr.run, Option.some.injEq, Prod.mk.injEq] at hp
    obtain ⟨rfl, rfl⟩ := hp
    exact wp_goto ⟨rfl, m, ExtM.of (Ext.refl _ _ _ _), h⟩
  | ret =>
    refine fun hc => ⟨fun st e st' hp β hG m a w h => ?_, fun l rest hf => by cases hf⟩
    simp only [evG, Tr.run, Option.some.injEq, Prod.mk.injEq] at hp
    obtain ⟨rfl, rfl⟩ := hp
    exact wp_ret ⟨rfl, m, ExtM.of (Ext.refl _ _ _ _), h⟩
  | region id ops draw =>
    refine fun hc => ⟨fun st e st' hp β hG m a w h => ?_, fun l rest hf => by cases hf⟩
    subst hG
    simp only [evG] at hp
    split at hp
    · obtain ⟨st1, h1, hp⟩ := Tr.of_bind hp
      simp only [Tr.run, Option.some.injEq, Prod.mk.injEq] at hp
      obtain ⟨rfl, rfl⟩ := hp
      exact mergeR_ok hE hmo h h1 fun m' a' w' hext hrel => ⟨rfl, m', ExtM.of hext, hrel⟩
    cases draw with
    | true =>
      dsimp only at hp
      obtain ⟨st1, h1, hp⟩ := Tr.of_bind hp
      simp only [Tr.run, Option.some.injEq, Prod.mk.injEq] at hp
      obtain ⟨rfl, rfl⟩ := hp
      exact evDraw_ok hE hmo h h1 fun m' a' w' hext hrel => ⟨rfl, m', ExtM.of hext, hrel⟩
    | false =>
      dsimp only at hp
      obtain ⟨st1, h1, hp⟩ := Tr.of_bind hp
      simp only [Tr.run, Option.some.injEq, Prod.mk.injEq] at hp
      obtain ⟨rfl, rfl⟩ := hp
      refine wp_region (evOps_ok hE ops.toList (List.range ops.size) (fun k => ?_) (by simp) st st1 m a w h h1 fun m' a' w' hext hrel => ⟨rfl, m', ExtM.of hext, hrel⟩)
      by_cases hk : k < ops.size
      · rw [List.getElem?_range hk]
        simp [hk]
      · simp [hk]
  | seq c1 c2 ih1 ih2 =>
    intro hc
    have hc1 : CutsOK x P G E c1 := ⟨fun id g hg b hb => hc.blk id g hg b (by simp only [blocksOf, List.mem_append]; exact .inl hb), fun l g hg b hb => hc.lab l g hg b (by simp only [scopesOf, List.mem_append]; exact .inl hb)⟩
    have hc2 : CutsOK x P G E c2 := ⟨fun id g hg b hb => hc.blk id g hg b (by simp only [blocksOf, List.mem_append]; exact .inr hb), fun l g hg b hb => hc.lab l g hg b (by simp only [scopesOf, List.mem_append]; exact .inr hb)⟩
    obtain ⟨i1, j1⟩ := ih1 hc1
    obtain ⟨i2, j2⟩ := ih2 hc2
    have two : ∀ (r1 : Code) (st st' : St) (e : Exit) (t : Tr (Exit × St)), (∀ e1 st1, t.run = some (e1, st1) → Run x P G r1 st e1 st1) → (t.bind fun r => match r.1 with
        | .normal => evG P E n c2 none r.2
        | e => .leaf (e, r.2)).run = some (e, st') → Run x P G (.seq r1 c2) st e st' := by
      intro r1 st st' e t ht hp β hG m a w h
      obtain ⟨⟨e1, st1⟩, h1, hp⟩ := Tr.of_bind hp
      refine wp_seq (wp_mono (ht e1 st1 h1 β hG m a w h) ?_)
      rintro e' a' w' ⟨rfl, m', hext, hrel⟩
      cases e' with
      | normal =>
        dsimp only at hp
        simp only [Exit.then]
        refine wp_mono (i2 st1 e st' hp β hG m' a' w' hrel) ?_
        rintro e'' a'' w'' ⟨rfl, m'', hext', hrel'⟩
        exact ⟨rfl, m'', hext.trans hext', hrel'⟩
      | _ =>
        simp only [Tr.run, Option.some.injEq, Prod.mk.injEq] at hp
        obtain ⟨rfl, rfl⟩ := hp
        exact ⟨rfl, m', hext, hrel⟩
    refine ⟨fun st e st' hp => two c1 st st' e _ (fun e1 st1 h1 => i1 st e1 st1 h1) hp, fun l rest hf st e st' hp => ?_⟩
    simp only [findLabel] at hf
    simp only [evG] at hp
    cases hl : findLabel c1 l with
    | some r1 =>
      rw [hl] at hf hp
      simp only [Option.some.injEq] at hf
      subst hf
      exact two r1 st st' e _ (fun e1 st1 h1 => j1 l r1 hl st e1 st1 h1) hp
    | none =>
      rw [hl] at hf hp
      exact j2 l rest hf st e st' hp
  | cond c c1 c2 ih1 ih2 =>
    intro hc
    have hc1 : CutsOK x P G E c1 := ⟨fun id g hg b hb => hc.blk id g hg b (by simp only [blocksOf, List.mem_append]; exact .inl hb), fun l g hg b hb => hc.lab l g hg b (by simp only [scopesOf, List.mem_append]; exact .inl hb)⟩
    have hc2 : CutsOK x P G E c2 := ⟨fun id g hg b hb => hc.blk id g hg b (by simp only [blocksOf, List.mem_append]; exact .inr hb), fun l g hg b hb => hc.lab l g hg b (by simp only [scopesOf, List.mem_append]; exact .inr hb)⟩
    obtain ⟨i1, -⟩ := ih1 hc1
    obtain ⟨i2, -⟩ := ih2 hc2
    refine ⟨fun st e st' hp β hG m a w h => ?_, fun l rest hf => by cases hf⟩
    simp only [evG] at hp
    split at hp
    · rename_i s
      split at hp
      · rename_i t hl
        obtain ⟨v, hv, hr⟩ := h.slots s _ hl
        have hvt := litOf_rep hr rfl
        subst hvt
        have he : a.eval (.tmp s) = .bool t := by simp [Act.eval, Array.getD_eq_getD_getElem?, hv]
        cases t with
        | true =>
          simp only [Tr.run, cond_true] at hp
          exact wp_cond_true he (i1 _ e st' hp β hG m a w (h.know hl))
        | false =>
          simp only [Tr.run, cond_false] at hp
          exact wp_cond_false he (i2 _ e st' hp β hG m a w (h.know hl))
      · cases hp
    · rename_i t
      cases t with
      | true =>
        simp only [Tr.run, cond_true] at hp
        exact wp_cond_true rfl (i1 _ e st' hp β hG m a w h)
      | false =>
        simp only [Tr.run, cond_false] at hp
        exact wp_cond_false rfl (i2 _ e st' hp β hG m a w h)
    · cases hp
  | block id c ih =>
    refine fun hc => ⟨fun st e st' hp => ?_, fun l rest hf => by cases hf⟩
    simp only [evG] at hp
    split at hp
    · rename_i g hg
      exact hc.blk id g hg c (by simp [blocksOf]) st e st' hp
    · intro β hG m a w h
      have hcc : CutsOK x P G E c := ⟨fun id' g hg b hb => hc.blk id' g hg b (by
        simp only [blocksOf]
        split
        · exact List.mem_cons_of_mem _ hb
        · exact hb), fun l g hg b hb => hc.lab l g hg b hb⟩
      obtain ⟨⟨e1, st1⟩, h1, hp⟩ := Tr.of_bind hp
      refine wp_block (wp_mono ((ih hcc).1 st e1 st1 h1 β hG m a w h) ?_)
      rintro e' a' w' ⟨rfl, m', hext, hrel⟩
      cases e' with
      | exit j =>
        dsimp only at hp
        simp only [Exit.inBlock]
        cases hj : Nat.beq j id with
        | true =>
          rw [hj] at hp
          simp only [Tr.run, Option.some.injEq, Prod.mk.injEq] at hp
          obtain ⟨rfl, rfl⟩ := hp
          rw [if_pos (Nat.eq_of_beq_eq_true hj)]
          exact ⟨rfl, m', hext, hrel⟩
        | false =>
          rw [hj] at hp
          simp only [Tr.run, Option.some.injEq, Prod.mk.injEq] at hp
          obtain ⟨rfl, rfl⟩ := hp
          rw [if_neg (fun e => by subst e; simp at hj)]
          exact ⟨rfl, m', hext, hrel⟩
      | _ =>
        simp only [Tr.run, Option.some.injEq, Prod.mk.injEq] at hp
        obtain ⟨rfl, rfl⟩ := hp
        exact ⟨rfl, m', hext, hrel⟩
  | loop c ih =>
    refine fun hc => ⟨fun st e st' hp β hG m a w h => ?_, fun l rest hf => by cases hf⟩
    have hcc : CutsOK x P G E c := ⟨fun id' g hg b hb => hc.blk id' g hg b hb, fun l g hg b hb => hc.lab l g hg b hb⟩
    simp only [evG] at hp
    exact wp_loop_rounds n (iter_ok (ih hcc).1 n st e st' hp β hG m a w h)
  | scope c ih =>
    refine fun hc => ⟨fun st e st' hp β hG m a w h => ?_, fun l rest hf => by cases hf⟩
    have hcc : CutsOK x P G E c := ⟨fun id' g hg b hb => hc.blk id' g hg b hb, fun l g hg b hb => hc.lab l g hg b (by
      simp only [scopesOf]
      split
      · exact List.mem_cons_of_mem _ hb
      · exact hb)⟩
    obtain ⟨i1, j1⟩ := ih hcc
    simp only [evG] at hp
    obtain ⟨⟨e1, st1⟩, h1, hp⟩ := Tr.of_bind hp
    have hfirst := i1 st e1 st1 h1 β hG m a w h
    have out : (∀ l, e1 ≠ .goto l) → (Tr.leaf (e1, st1)).run = some (e, st') → (Code.scope c).wp P (fun e' a' w' => e' = e ∧ ∃ m', ExtM x β st.mem m w st'.mem m' w' ∧ Rel β st' m' a' w') a w := by
      intro hne hp
      simp only [Tr.run, Option.some.injEq, Prod.mk.injEq] at hp
      obtain ⟨rfl, rfl⟩ := hp
      refine wp_scope_straight (wp_mono hfirst ?_)
      rintro e' a' w' ⟨rfl, hr⟩
      cases e' with
      | goto l => exact absurd rfl (hne l)
      | normal => exact ⟨rfl, hr⟩
      | exit i => exact ⟨rfl, hr⟩
      | ret => exact ⟨rfl, hr⟩
      | panic c => exact ⟨rfl, hr⟩
      | outgrown => exact ⟨rfl, hr⟩
    cases e1 with
    | goto l =>
      dsimp only at hp
      split at hp
      · rename_i rest hl
        have hj : Jumps x P G rest l st1 e st' := by
          split at hp
          · rename_i g hg
            exact hc.lab l g hg rest (by simp only [scopesOf, hl]; exact List.mem_cons_self) st1 e st' hp
          · intro β hG m a w h
            exact ⟨n, jiter_ok (j1 l rest hl) n st1 e st' hp β hG m a w h⟩
        refine wp_scope_JR hl (wp_mono hfirst ?_)
        rintro e' a' w' ⟨rfl, m', hext, hrel⟩
        refine ⟨rfl, ?_⟩
        obtain ⟨k, hk⟩ := hj β hG m' a' w' hrel
        refine ⟨k, JR_mono ?_ k hk⟩
        rintro e'' a'' w'' ⟨rfl, m'', hext', hrel'⟩
        exact ⟨rfl, m'', hext.trans hext', hrel'⟩
      · cases hp
    | normal => exact out (by simp) hp
    | exit i => exact out (by simp) hp
    | ret => exact out (by simp) hp
    | panic c => exact out (by simp) hp
    | outgrown => exact out (by simp) hp
  | rangeFunc => exact fun hc => ⟨fun st e st' hp => (by cases hp), fun l rest hf => (by cases hf)⟩
  | refuse => exact fun hc => ⟨fun st e st' hp => (by cases hp), fun l rest hf => (by cases hf)⟩
theorem ev_ok (hE : E.ok P G) (hmo : P.follows .mixedOrders = true) {c : Code} (hc : CutsOK x P G E c) {st st' : St} {e : Exit} (hp : (ev P E n c st).run = some (e, st')) : Run x P G c st e st' :=
  (evG_ok hE hmo c hc).1 st e st' hp
end

def number {α : Type} : List α → Nat → List (Nat × α)
  | [], _ => []
  | p :: r, i => (i, p) :: number r (i + 1)
theorem look_number {α : Type} : ∀ (l : List α) (i k : Nat), look (number l i) k = if i ≤ k then l[k - i]? else none
  | [], i, k => by simp [number, look]
  | p :: r, i, k => by
    rw [number, look_cons, look_number r (i + 1) k]
    by_cases h : i = k
    · subst h; simp
    · rw [if_neg h]
      by_cases h1 : i + 1 ≤ k
      · rw [if_pos h1, if_pos (by omega)]
        have : k - i = (k - (i + 1)) + 1 := by omega
        rw [this, List.getElem?_cons_succ]
      · rw [if_neg h1, if_neg (by omega)]
/-- a result of a function -/
def resV (P : Program) (st : St) : ResultVar → Tr PV
  | .tmp t => .leaf (st.val (.tmp t))
  | .cell t ty => match st.val (.tmp t) with
    | .ptr id off => match look st.mem.blks id with
      | some (.cells _ cs) => (window P ty (cs.drop off)).bind fun p => .leaf (st.mem.see p)
      | _ => .fail
    | _ => .fail
def resL (P : Program) (st : St) : List ResultVar → Tr (List PV)
  | [] => .leaf []
  | x :: r => (resV P st x).bind fun p => (resL P st r).bind fun l => .leaf (p :: l)
def tupOf : List PV → PV
  | [p] => p
  | l => .tup l
/-- what a function gives back -/
def resOf (P : Program) (fn : Func) (st : St) : Tr PV := (resL P st fn.results.toList).bind fun l => .leaf (tupOf l)
def fnEv (P : Program) (E : Env) (n : Nat) (fn : Func) (ps : List PV) (M : Mem) : Tr (PV × Mem) := match fn.body with
  | none => .fail
  | some c => match Nat.ble ps.length fn.ntmps with
    | false => .fail
    | true => (ev P E n c ⟨fn.ntmps, number ps 0, M⟩).bind fun r => match r.1 with
      | .normal => (resOf P fn r.2).bind fun p => .leaf (p, r.2.mem)
      | .ret => (resOf P fn r.2).bind fun p => .leaf (p, r.2.mem)
      | _ => .fail
section
variable {P : Program} {E : Env} {n : Nat} {G : GT}
theorem resV_ok {st : St} {x : ResultVar} {p : PV} (hp : (resV P st x).run = some p) {β : Base} {m : Nat → Option Value} {a : Act} {w : World} (h : Rel β st m a w) (f : ResultVar → Sem Value) (f1 : ∀ t, f (.tmp t) = pure (a.tmps.getD t undef)) (f2 : ∀ a' t, f (.cell a' t) = do loadVar t (← asAddr (a.tmps.getD a' undef))) :
    ∃ v, (f x).run P w = .ok v w ∧ Rep (Cell β w st.mem m) m p v := by
  cases x with
  | tmp t =>
    simp only [resV, Tr.run, Option.some.injEq] at hp
    subst hp
    exact ⟨a.eval (.tmp t), by rw [f1]; rfl, h.val _⟩
  | cell t ty =>
    simp only [resV] at hp
    have hx := h.val (.tmp t)
    generalize st.val (.tmp t) = q at hx hp
    split at hp
    · rename_i id off
      split at hp
      · rename_i ty' cs hlk
        obtain ⟨q, hq, hp⟩ := Tr.of_bind hp
        simp only [Tr.run, Option.some.injEq] at hp
        subst hp
        generalize hv : a.eval (.tmp t) = v at hx
        cases hx with
        | ptr m id off b hm =>
          have hb := h.mem.blk id _ hlk
          cases hb with
          | cells ty' cs b' vs hm' hb' hlen h1 hr hB =>
            rw [hm] at hm'
            cases hm'
            obtain ⟨v, hv', hrep⟩ := window_load (w := w) (b := b) (o := off) hq (C := Cell β w st.mem m) (m := m) fun j q hq => by
              rw [List.getElem?_drop] at hq
              have hlt : off + j < vs.size := by
                rw [← hlen]
                exact (List.getElem?_eq_some_iff.1 hq).1
              exact ⟨vs[off + j], by simp [World.cell?, hb', hlt], hr _ q _ hq (Array.getElem?_eq_getElem hlt)⟩
            refine ⟨v, ?_, h.mem.see hrep⟩
            have he : a.tmps.getD t undef = .pointer (some ⟨b, off, none⟩) := hv
            rw [f2, he]
            simp [asAddr, hv']
      · cases hp
    · cases hp
theorem resL_ok {β : Base} {st : St} {m : Nat → Option Value} {a : Act} {w : World} (h : Rel β st m a w) (f : ResultVar → Sem Value) (f1 : ∀ t, f (.tmp t) = pure (a.tmps.getD t undef)) (f2 : ∀ a' t, f (.cell a' t) = do loadVar t (← asAddr (a.tmps.getD a' undef))) : ∀ {l : List ResultVar} {ps : List PV}, (resL P st l).run = some ps →
    ∃ vs : List Value, (l.mapM f : Sem (List Value)).run P w = .ok vs w ∧ ps.length = vs.length ∧ ∀ (i : Nat) (p : PV) (v : Value), ps[i]? = some p → vs[i]? = some v → Rep (Cell β w st.mem m) m p v
  | [], ps, hp => by
    simp only [resL, Tr.run, Option.some.injEq] at hp
    subst hp
    exact ⟨[], by simp [Sem.run_pure], rfl, fun i p v hp => by simp at hp⟩
  | x :: r, ps, hp => by
    simp only [resL] at hp
    obtain ⟨p, hx, hp⟩ := Tr.of_bind hp
    obtain ⟨l, hl, hp⟩ := Tr.of_bind hp
    simp only [Tr.run, Option.some.injEq] at hp
    subst hp
    obtain ⟨v, hv, hr⟩ := resV_ok hx h f f1 f2
    obtain ⟨vs, hvs, hlen, hrs⟩ := resL_ok h f f1 f2 hl
    refine ⟨v :: vs, ?_, by simp [hlen], fun i p' v' hp hv => ?_⟩
    · rw [List.mapM_cons]
      simp only [Sem.run_bind, hv, Result.andThen_ok, hvs, Sem.run_pure]
    · cases i with
      | zero =>
        simp at hp hv
        subst hp
        subst hv
        exact hr
      | succ i => exact hrs i p' v' (by simpa using hp) (by simpa using hv)
theorem resOf_ok {fn : Func} {st : St} {p : PV} (hp : (resOf P fn st).run = some p) {β : Base} {m : Nat → Option Value} {a : Act} {w : World} (h : Rel β st m a w) :
    ∃ v, (results fn a.tmps).run P w = .ok v w ∧ Rep (Cell β w st.mem m) m p v := by
  unfold resOf at hp
  obtain ⟨ps, hps, hp⟩ := Tr.of_bind hp
  simp only [Tr.run, Option.some.injEq] at hp
  subst hp
  unfold results
  rw [Sem.run_bind, Array.mapM_eq_mapM_toList, Sem.run_map]
  have key : ∀ f : ResultVar → Sem Value, (∀ t, f (.tmp t) = pure (a.tmps.getD t undef)) → (∀ a' t, f (.cell a' t) = do loadVar t (← asAddr (a.tmps.getD a' undef))) →
      ∃ v, (((fn.results.toList.mapM f).run P w).andThen fun a w' => Result.ok a.toArray w').andThen (fun vs w' => (pure (if h : vs.size = 1 then vs[0] else .tuple vs) : Sem Value).run P w') = .ok v w ∧ Rep (Cell β w st.mem m) m (tupOf ps) v := by
    intro f f1 f2
    obtain ⟨vs, hvs, hlen, hrs⟩ := resL_ok h f f1 f2 hps
    rw [hvs]
    simp only [Result.andThen_ok]
    match ps, vs, hlen, hrs with
    | [], [], _, _ => exact ⟨.tuple #[], by simp [Sem.run_pure], .tup _ _ _ rfl (by simp)⟩
    | [p], [v], _, hrs => exact ⟨v, by simp [Sem.run_pure], hrs 0 p v rfl rfl⟩
    | p :: q :: ps, v :: u :: vs, hlen, hrs =>
      refine ⟨.tuple (v :: u :: vs).toArray, by simp [Sem.run_pure], .tup _ _ _ (by simpa using hlen) fun i p v hp hv => hrs i p v hp (by simpa using hv)⟩
    | [], _ :: _, hlen, _ => cases hlen
    | [_], [], hlen, _ => cases hlen
    | [_], _ :: _ :: _, hlen, _ => cases hlen
    | _ :: _ :: _, [], hlen, _ => cases hlen
    | _ :: _ :: _, [_], hlen, _ => cases hlen
  refine key _ (fun _ => ?_) (fun _ _ => ?_) <;> rfl
theorem fnEv_wp {x : Mode} (hE : E.ok P G) (hmo : P.follows .mixedOrders = true) {f : FuncId} {fn : Func} (hf : P.funcs[f]? = some fn) (hc : ∀ c, fn.body = some c → CutsOK x P G E c) {β : Base} (hG : β.G = G) {M : Mem} {m : Nat → Option Value} {w : World} {ps : List PV} {args : Array Value}
    (hM : MRel β M m w) (hlen : ps.length = args.size) (hrep : ∀ (i : Nat) (p : PV) (v : Value), ps[i]? = some p → args[i]? = some v → Rep (Cell β w M m) m p v) {p : PV} {M' : Mem} (hp : (fnEv P E n fn ps M).run = some (p, M')) :
    Calls P f args w fun
      | .returned v, w' => ∃ m', ExtM x β M m w M' m' w' ∧ MRel β M' m' w' ∧ Rep (Cell β w' M' m') m' p v
      | _, _ => False := by
  unfold fnEv at hp
  split at hp
  · cases hp
  · rename_i c hb
    split at hp
    · cases hp
    · rename_i hle
      have hle' : args.size ≤ fn.ntmps := by rw [← hlen]; exact Nat.le_of_ble_eq_true hle
      obtain ⟨⟨e, st'⟩, h1, hp⟩ := Tr.of_bind hp
      refine calls_of_wp hf hb (wp_mono (ev_ok hE hmo (hc c hb) h1 β hG m _ w ?_) ?_)
      · refine ⟨by simp; omega, rfl, fun i q hq => ?_, hM⟩
        dsimp only at hq
        rw [look_number] at hq
        simp only [Nat.zero_le, if_true, Nat.sub_zero] at hq
        have hi : i < args.size := by
          rw [← hlen]
          exact (List.getElem?_eq_some_iff.1 hq).1
        refine ⟨args[i], ?_, hrep i q _ hq (Array.getElem?_eq_getElem hi)⟩
        rw [Array.getElem?_append_left hi]
        exact Array.getElem?_eq_getElem hi
      · rintro e' a' w' ⟨rfl, m', hext, hrel⟩
        have fin : ((resOf P fn st').bind fun p => Tr.leaf (p, st'.mem)).run = some (p, M') → a'.defers = [] ∧ ∃ v, (results fn a'.tmps).run P w' = .ok v w' ∧ ∃ m', ExtM x β M m w M' m' w' ∧ MRel β M' m' w' ∧ Rep (Cell β w' M' m') m' p v := by
          intro hp
          obtain ⟨q, hq, hp⟩ := Tr.of_bind hp
          simp only [Tr.run, Option.some.injEq, Prod.mk.injEq] at hp
          obtain ⟨rfl, rfl⟩ := hp
          obtain ⟨v, hv, hr⟩ := resOf_ok hq hrel
          exact ⟨hrel.defers, v, hv, m', hext, hrel.mem, hr⟩
        cases e' with
        | normal => exact fin hp
        | ret => exact fin hp
        | _ => cases hp
theorem fnEv_ok (hE : E.ok P G) (hmo : P.follows .mixedOrders = true) {f : FuncId} {fn : Func} (hf : P.funcs[f]? = some fn) (hc : ∀ c, fn.body = some c → CutsOK .full P G E c) : FnOK P G f (fnEv P E n fn) := by
  intro β hG M m w ps args hM hlen hrep p M' hp
  refine Calls.mono (fnEv_wp hE hmo hf hc hG hM hlen hrep hp) ?_
  intro e w' he
  cases e with
  | returned v =>
    obtain ⟨m', h1, h2, h3⟩ := he
    exact ⟨m', h1, h2, h3⟩
  | panicked _ => exact he.elim
  | outgrown => exact he.elim
end

end Go.Proofs.YtlngnfkjpfokhaaDoor.Ev

/- Functions of the program: a call enters them; functions that call others, run as a whole; contracts out of the evaluator. No condition. -/
namespace Go.Proofs.YtlngnfkjpfokhaaDoor.Ev
open Go Go.RowKit
set_option linter.unusedVariables false
set_option linter.unusedSimpArgs false

def canEnter (fn : Func) : Bool := fn.body.isSome && !(fn.name == "runtime.NumGoroutine")
theorem enters_of {P : Program} {f : FuncId} {fn : Func} (hf : P.funcs[f]? = some fn) (h : canEnter fn = true) : Enters P f := by
  intro args w
  simp only [canEnter, Bool.and_eq_true, Bool.not_eq_true'] at h
  have h1 : fn.name ≠ "runtime.NumGoroutine" := by
    have := h.2
    simpa using this
  have h2 : fn.body ≠ none := by
    intro e
    rw [e] at h
    cases h.1
  unfold callFunc
  simp [program, hf, h1, h2, Sem.run]
/-- no cuts -/
def noCuts : Nat → Option (St → Tr (Exit × St)) := fun _ => none
theorem noCuts_ok {x : Mode} {P : Program} {G : GT} {E : Env} (h : E.cuts = noCuts) (c : Code) : CutsOK x P G E c :=
  ⟨fun id g hg => (by rw [h] at hg; cases hg), fun l g hg => (by rw [h] at hg; cases hg)⟩

/-- whatever p tells, q tells too -/
def PLe (p q : PV) : Prop := ∀ (C : Nat → Nat → Value → Prop) (m : Nat → Option Value) (v : Value), Rep C m p v → Rep C m q v
theorem PLe.refl (p : PV) : PLe p p := fun _ _ _ h => h
theorem PLe.trans {p q r : PV} (h : PLe p q) (k : PLe q r) : PLe p r := fun C m v hr => k C m v (h C m v hr)
theorem PLe.of_eq {p q : PV} (h : p = q) : PLe p q := h ▸ PLe.refl p
theorem PLe.nil (sz : Nat) (f : Nat → List PV) : PLe (.lit (.slice none 0 0)) (.gsl sz 0 f) := fun C m v h => by
  cases h
  exact .gnil _ sz f
theorem PLe.gsl {sz n n' : Nat} {f g : Nat → List PV} (hn : n = n') (h : ∀ i, i < n → f i = g i) : PLe (.gsl sz n f) (.gsl sz n' g) := fun C m v hr => by
  subst hn
  cases hr with
  | gnil m sz f => exact .gnil _ _ _
  | gspt m sz f a => exact .gspt _ _ _ _
  | gsl m sz n f b o cap g' hc hl hrr hcap => exact .gsl _ sz n g b o cap g' hc (fun i hi => by rw [← h i hi]; exact hl i hi) (fun i j p hi hp => hrr i j p hi (by rw [h i hi]; exact hp)) hcap
def PLeL (ps qs : List PV) : Prop := ps.length = qs.length ∧ ∀ (i : Nat) (p q : PV), ps[i]? = some p → qs[i]? = some q → PLe p q
theorem PLeL.nil : PLeL [] [] := ⟨rfl, fun i p q h => by simp at h⟩
theorem PLeL.cons {p q : PV} {ps qs : List PV} (h : PLe p q) (hs : PLeL ps qs) : PLeL (p :: ps) (q :: qs) :=
  ⟨by simp [hs.1], fun i a b ha hb => by
    cases i with
    | zero =>
      simp at ha hb
      subst ha
      subst hb
      exact h
    | succ i => exact hs.2 i a b (by simpa using ha) (by simpa using hb)⟩
theorem PLeL.refl : ∀ (ps : List PV), PLeL ps ps
  | [] => .nil
  | p :: r => .cons (.refl p) (PLeL.refl r)
theorem PLe.agg {ps qs : List PV} (h : PLeL ps qs) : PLe (.agg ps) (.agg qs) := fun C m v hr => by
  cases hr with
  | agg m ps vs hl hrr =>
    refine .agg _ qs vs (h.1 ▸ hl) fun i q v hq hv => ?_
    have hi : i < ps.length := by
      rw [h.1]
      exact (List.getElem?_eq_some_iff.1 hq).1
    exact h.2 i _ q (List.getElem?_eq_getElem hi) hq _ _ _ (hrr i _ v (List.getElem?_eq_getElem hi) hv)
theorem PLe.tup {ps qs : List PV} (h : PLeL ps qs) : PLe (.tup ps) (.tup qs) := fun C m v hr => by
  cases hr with
  | tup m ps vs hl hrr =>
    refine .tup _ qs vs (h.1 ▸ hl) fun i q v hq hv => ?_
    have hi : i < ps.length := by
      rw [h.1]
      exact (List.getElem?_eq_some_iff.1 hq).1
    exact h.2 i _ q (List.getElem?_eq_getElem hi) hq _ _ _ (hrr i _ v (List.getElem?_eq_getElem hi) hv)
theorem PLe.litAgg (vs : Array Value) : PLe (.lit (.agg vs)) (.agg (vs.toList.map .lit)) := fun C m v h => by
  cases h
  refine .agg _ _ vs (by simp) fun i p v hp hv => ?_
  simp only [List.getElem?_map, Array.getElem?_toList] at hp
  rw [hv] at hp
  cases hp
  exact .lit _ _
theorem PLe.aggLit {ps : List PV} {l : List Value} (h : litsOf ps = some l) : PLe (.agg ps) (.lit (.agg l.toArray)) := fun C m v hr => by
  have := norm_rep hr
  simpa [norm, h] using this
theorem PLe.junk (p : PV) : PLe p .junk := fun _ _ _ _ => .junk _ _
theorem PLe.iface {t : TypeId} {p q : PV} (h : PLe p q) : PLe (.iface t p) (.iface t q) := fun C m v hr => by
  cases hr with
  | iface m t p v hr => exact .iface _ t q v (h _ _ _ hr)
theorem RepL.le {C : Nat → Nat → Value → Prop} {ps qs : List PV} {args : Array Value} (h : RepL C ps args) (hl : PLeL ps qs) : RepL C qs args :=
  ⟨hl.1 ▸ h.1, fun i q v hq hv => by
    have hi : i < ps.length := by
      rw [hl.1]
      exact (List.getElem?_eq_some_iff.1 hq).1
    exact hl.2 i _ q (List.getElem?_eq_getElem hi) hq _ _ _ (h.2 i _ v (List.getElem?_eq_getElem hi) hv)⟩
theorem PureAt.post {P : Program} {G : GT} {f : FuncId} {ps : List PV} {p q : PV} (h : PureAt P G f ps p) (hl : PLe p q) : PureAt P G f ps q := by
  intro w C hK hG hO args hr
  refine Calls.mono (h w C hK hG hO args hr) ?_
  intro e w' he
  cases e with
  | returned v => exact ⟨he.1, hl _ _ _ he.2⟩
  | panicked _ => exact he.elim
  | outgrown => exact he.elim
theorem PureAt.pre {P : Program} {G : GT} {f : FuncId} {ps qs : List PV} {p : PV} (h : PureAt P G f qs p) (hl : PLeL ps qs) : PureAt P G f ps p :=
  fun w C hK hG hO args hr => h w C hK hG hO args (hr.le hl)

/-- a function's end, for callers that see no memory of its own -/
def fnPure (P : Program) (E : Env) (n : Nat) (fn : Func) (G : GT) (ps : List PV) : Tr PV := (fnEv P E n fn ps ⟨[], 0, G⟩).bind fun r => .leaf (r.1.sub r.2.viewAtom)
theorem pure_of_ev {P : Program} {E : Env} {n : Nat} {G : GT} (hE : E.ok P G) (hmo : P.follows .mixedOrders = true) {f : FuncId} {fn : Func} (hf : P.funcs[f]? = some fn) (hc : ∀ c, fn.body = some c → CutsOK .none P G E c) : PureOK P G f (fnPure P E n fn G) := by
  intro ps p hp w C hK hG hO args hr
  obtain ⟨⟨q, M'⟩, hq, hp⟩ := Tr.of_bind hp
  simp only [Tr.run, Option.some.injEq] at hp
  subst hp
  have hcell : ∀ b o v, C b o v → Cell ⟨w, C, (· < w.heap.size), G⟩ w ⟨[], 0, G⟩ (fun _ => none) b o v := fun b o v h => ⟨fun ⟨id, u, hs, _⟩ => (by cases hs), hK b o v h, fun _ => h⟩
  have hM : MRel ⟨w, C, (· < w.heap.size), G⟩ ⟨[], 0, G⟩ (fun _ => none) w :=
    ⟨fun id b hb => (by cases hb), fun _ _ => rfl, fun i j v v' b hi => (by cases hi), fun k hk => hk, Keeps.refl _ _, fun g cs hg => (hG g cs hg).mono hcell fun _ _ h => h, rfl, fun g o hg => ⟨(Array.getElem?_eq_some_iff.1 (hO g o hg)).1, hO g o hg⟩⟩
  refine Calls.mono (fnEv_wp hE hmo hf hc (β := ⟨w, C, (· < w.heap.size), G⟩) rfl hM hr.1 (fun i p v hp hv => (hr.2 i p v hp hv).mono hcell fun _ _ h => h) hq) ?_
  intro e w' he
  cases e with
  | panicked _ => exact he.elim
  | outgrown => exact he.elim
  | returned v =>
    obtain ⟨m', -, hM', hrep⟩ := he
    refine ⟨hM'.below, ?_⟩
    have hC : ∀ b o x, Cell ⟨w, C, (· < w.heap.size), G⟩ w' M' m' b o x → Grown C w w' b o x := by
      intro b o x hx
      rcases Nat.lt_or_ge b w.heap.size with h | h
      · exact .inl (hx.2.2 h)
      · exact .inr ⟨h, hx.2.1⟩
    have hown : ∀ {p : PV} {v : Value}, Atom p → Rep (Cell ⟨w, C, (· < w.heap.size), G⟩ w' M' m') m' p v → Rep (Grown C w w') (fun _ => none) (M'.ownAtom p) v := by
      intro p v ha hr
      refine ownAtom_rep hM' hC (fun id e sz n f hl v k o x hv hk hx => .inr ⟨?_, hx⟩) ha hr
      have hb := hM'.blk id _ hl
      cases hb with
      | row e sz n f v' xs hm ho hKr h1 hl hr =>
        rw [hv] at hm
        cases hm
        exact Nat.le_of_not_lt (hKr _ hk)
    refine hrep.sub hC fun p v ha hr => ?_
    cases ha with
    | own id => exact hown (.own id) hr
    | optr id sz i j => exact .junk _ _
    | ptr id off =>
      simp only [Mem.viewAtom]
      split
      · rename_i ty cs hl
        have hb := hM'.blk id _ hl
        cases hr with
        | ptr m id off b hm =>
          cases hb with
          | cells ty cs b' vs hm' hb' hlen h1 hr hB =>
            rw [hm] at hm'
            cases hm'
            have hBs : w.heap.size ≤ b := Nat.le_of_not_lt hB
            have hcellv : ∀ j (x : Value), vs[j]? = some x → w'.cell? ⟨b, j, none⟩ = some x := by
              intro j x hx
              simp [World.cell?, hb', hx]
            refine .gptr _ _ b off (fun j => vs.getD (off + j) undef) (fun j hj => ?_) fun j q hq => ?_
            · rw [List.length_drop, subL_length] at hj
              have hlt : off + j < vs.size := by omega
              have hx : vs[off + j]? = some (vs.getD (off + j) undef) := by
                simp [Array.getD_eq_getD_getElem?, hlt]
              exact ⟨.inr ⟨hBs, hcellv _ _ hx⟩, h1 _ (Array.mem_of_getElem? hx)⟩
            · rw [List.getElem?_drop, subL_get] at hq
              cases hc : cs[off + j]? with
              | none => rw [hc] at hq; cases hq
              | some c =>
                rw [hc] at hq
                cases hq
                have hlt : off + j < vs.size := by
                  rw [← hlen]
                  exact (List.getElem?_eq_some_iff.1 hc).1
                have hx : vs[off + j]? = some (vs.getD (off + j) undef) := by
                  simp [Array.getD_eq_getD_getElem?, hlt]
                exact (hr _ c _ hc hx).sub hC fun p v ha hr => hown ha hr
      · exact .junk _ _
/-- no pointer comes out of it -/
def noPtr (P : Program) (fn : Func) : Bool := fn.resultTypes.toList.all fun t => match P.underlying t with
  | some (.pointer _) => false
  | some _ => true
  | none => false
/-- functions that are run as a whole, so deep -/
def inl (P : Program) (G : GT) (pu : FuncId → Option (List PV → Tr PV)) (full : FuncId → Option (List PV → Mem → Tr (PV × Mem))) (n : Nat) : Nat → Env
  | 0 => ⟨pu, fun _ => none, full, noCuts⟩
  | d + 1 => ⟨pu, fun f => match full f with
      | some _ => none
      | none => match P.funcs[f]? with
        | some fn => match canEnter fn && noPtr P fn with
          | true => some (fnPure P (inl P G pu full n d) n fn G)
          | false => none
        | none => none, fun f => match full f with
      | some g => some g
      | none => match P.funcs[f]? with
        | some fn => match canEnter fn with
          | true => some (fnEv P (inl P G pu full n d) n fn)
          | false => none
        | none => none, noCuts⟩
theorem inl_cuts (P : Program) (G : GT) (pu : FuncId → Option (List PV → Tr PV)) (full : FuncId → Option (List PV → Mem → Tr (PV × Mem))) (n d : Nat) : (inl P G pu full n d).cuts = noCuts := by
  cases d <;> rfl
theorem inl_ok {P : Program} {G : GT} (hmo : P.follows .mixedOrders = true) {pu : FuncId → Option (List PV → Tr PV)} {full : FuncId → Option (List PV → Mem → Tr (PV × Mem))} (hp : ∀ f g, pu f = some g → PureOK P G f g ∧ Enters P f)
    (hf : ∀ f g, full f = some g → FnOK P G f g ∧ Enters P f) (n : Nat) : ∀ (d : Nat), Env.ok (inl P G pu full n d) P G
  | 0 => ⟨hp, fun f g h => (by cases h), hf⟩
  | d + 1 => by
    have ih := inl_ok hmo hp hf n d
    refine ⟨hp, fun f g hg => ?_, fun f g hg => ?_⟩
    · simp only [inl] at hg
      split at hg
      · cases hg
      split at hg
      · rename_i fn hfn
        split at hg
        · rename_i hc
          simp only [Bool.and_eq_true] at hc
          cases hg
          exact ⟨pure_of_ev ih hmo hfn fun c _ => noCuts_ok (inl_cuts ..) c, enters_of hfn hc.1⟩
        · cases hg
      · cases hg
    · simp only [inl] at hg
      split at hg
      · rename_i g' hg'
        cases hg
        exact hf f _ hg'
      · split at hg
        · rename_i fn hfn
          split at hg
          · rename_i hc
            cases hg
            exact ⟨fnEv_ok ih hmo hfn fun c _ => noCuts_ok (inl_cuts ..) c, enters_of hfn hc⟩
          · cases hg
        · cases hg
/-- with a function's cuts -/
def Env.withCuts (E : Env) (cuts : Nat → Option (St → Tr (Exit × St))) : Env := ⟨E.pure, E.ipure, E.fns, cuts⟩
theorem Env.ok.withCuts {E : Env} {P : Program} {G : GT} (h : E.ok P G) (cuts : Nat → Option (St → Tr (Exit × St))) : (E.withCuts cuts).ok P G := ⟨h.pure, h.ipure, h.fns⟩
/-- a contract at given arguments -/
theorem PureOK.at {P : Program} {G : GT} {f : FuncId} {g : List PV → Tr PV} (h : PureOK P G f g) {ps : List PV} {p : PV} (hp : (g ps).run = some p) : PureAt P G f ps p := h ps p hp

end Go.Proofs.YtlngnfkjpfokhaaDoor.Ev
