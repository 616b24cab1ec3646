/- JBox05: several texts in one. Condition: each part's own. -/
import Derived.Test.YtlngnfkjpfokhaaDoorJBox04
import Derived.Test.YtlngnfkjpfokhaaDoorJBox03
/- The evaluator: a region that only reads, told by one truth that comes out of it. No condition. -/
namespace Go.Proofs.YtlngnfkjpfokhaaDoor.Ev
open Go Go.RowKit
set_option linter.unusedVariables false
set_option linter.unusedSimpArgs false
/-- operations in order, that only read -/
def evC (P : Program) (E : Env) (ops : Array Oper) : List Oper → St → Tr St
  | [], st => .leaf st
  | o :: r, st => match o.guard with
    | none => (readOp P E st o).bind fun p => (st.put o.dst p).bind (evC P E ops r)
    | some (j, b) => match (ops[j]?).bind (·.dst) with
      | none => .fail
      | some s => match look st.slots s with
        | some (.lit (.bool t)) => match b with
          | true => .br t ((readOp P E (st.know s true) o).bind fun p => ((st.know s true).put o.dst p).bind (evC P E ops r)) (((st.know s false).put o.dst (.lit undef)).bind (evC P E ops r))
          | false => .br t (((st.know s true).put o.dst (.lit undef)).bind (evC P E ops r)) ((readOp P E (st.know s false) o).bind fun p => ((st.know s false).put o.dst p).bind (evC P E ops r))
        | some (.lit (.tuple _)) => (st.put o.dst (.lit undef)).bind (evC P E ops r)
        | _ => .fail
def quietI : List (Cls × Mem) → Bool
  | [] => true
  | (.write, _) :: _ => false
  | (.make, _) :: _ => false
  | _ :: r => quietI r
/-- .. in any order -/
def evQ (P : Program) (E : Env) (ops : Array Oper) (st : St) : Tr St := match slotsOK ops ops.toList && dataOK ops ops.toList (masks ops.toList []) [] with
  | true => (evD P E st.mem.glob ops ops.toList st).bind fun y => match ordOK (masks ops.toList []) y.2 [] && quietI y.2 with
    | true => .leaf y.1
    | false => .fail
  | false => .fail
def lastDst : List Oper → Option Nat
  | [] => none
  | [o] => o.dst
  | _ :: r => lastDst r
def bval (d : Nat) (st : St) : Option Bool := match look st.slots d with
  | some (.lit (.bool b)) => some b
  | _ => none
/-- the truths that the ways tell -/
def bT (d : Nat) : Tr St → Tr Bool
  | .leaf st => match bval d st with
    | some b => .leaf b
    | none => .fail
  | .br c t e => .br c (bT d t) (bT d e)
  | .fail => .fail
/-- each way tells a truth -/
def okB : Tr Bool → Bool
  | .leaf _ => true
  | .br c t e => bif c then okB t else okB e
  | .fail => false
/-- which one -/
def valB : Tr Bool → Bool
  | .leaf b => b
  | .br c t e => bif c then valB t else valB e
  | .fail => false
theorem okT_ok {d : Nat} : ∀ {t : Tr St}, okB (bT d t) = true → ∃ st, t.run = some st ∧ bval d st = some (valB (bT d t))
  | .leaf st, h => by
    refine ⟨st, rfl, ?_⟩
    unfold bT at h ⊢
    split at h
    · rename_i b hb
      rw [hb]
      rfl
    · cases h
  | .br c t e, h => by
    simp only [bT, okB, valB] at h ⊢
    cases c with
    | true =>
      simp only [cond_true] at h ⊢
      obtain ⟨st, h1, h2⟩ := okT_ok (t := t) h
      exact ⟨st, h1, h2⟩
    | false =>
      simp only [cond_false] at h ⊢
      obtain ⟨st, h1, h2⟩ := okT_ok (t := e) h
      exact ⟨st, h1, h2⟩
  | .fail, h => by cases h
def without (ds : List Nat) : List (Nat × PV) → List (Nat × PV)
  | [] => []
  | (k, p) :: r => match ds.any (Nat.beq k) with
    | true => without ds r
    | false => (k, p) :: without ds r
theorem look_without (ds : List Nat) : ∀ (l : List (Nat × PV)) (i : Nat) (p : PV), look (without ds l) i = some p → i ∉ ds ∧ look l i = some p
  | [], i, p, h => by cases h
  | (k, q) :: r, i, p, h => by
    unfold without at h
    split at h
    · rename_i hk
      obtain ⟨h1, h2⟩ := look_without ds r i p h
      refine ⟨h1, ?_⟩
      rw [look_cons]
      by_cases e : k = i
      · subst e
        rw [List.any_eq_true] at hk
        obtain ⟨x, hx, hxe⟩ := hk
        rw [Nat.eq_of_beq_eq_true hxe] at h1
        exact absurd hx h1
      · rw [if_neg e]
        exact h2
    · rename_i hk
      rw [look_cons] at h ⊢
      by_cases e : k = i
      · subst e
        rw [if_pos rfl] at h ⊢
        refine ⟨fun hx => ?_, h⟩
        rw [List.any_eq_false] at hk
        exact hk k hx (by simp)
      · rw [if_neg e] at h ⊢
        exact look_without ds r i p h
/-- a truth that is named ahead, if there is one -/
def named : Tr (Exit × St) → Option Bool
  | .br b _ _ => some b
  | _ => none
def sameB (x : Bool) : Option Bool → Bool
  | some b => x == b
  | none => true
def orB (x : Bool) : Option Bool → Bool
  | some b => b
  | none => x
theorem same_or {x : Bool} {o : Option Bool} (h : sameB x o = true) : orB x o = x := by
  cases o with
  | none => rfl
  | some b => exact (by simpa [sameB] using h : x = b).symm
/-- the region, told by the truth of its last operation -/
def mergeR (P : Program) (E : Env) (ops : Array Oper) (draw : Bool) (ob : Option Bool) (st : St) : Tr St := match lastDst ops.toList with
  | some d => .br (okB (bT d (match draw with
      | false => evC P E ops ops.toList st
      | true => evQ P E ops st))) (.br (sameB (valB (bT d (match draw with
      | false => evC P E ops ops.toList st
      | true => evQ P E ops st))) ob)
    (.leaf ⟨st.n, (d, .lit (.bool (orB (valB (bT d (match draw with
      | false => evC P E ops ops.toList st
      | true => evQ P E ops st))) ob))) :: without (dsts ops.toList) st.slots, st.mem⟩) .fail) .fail
  | none => .fail
section
variable {P : Program} {E : Env} {β : Base}
theorem putS_other {st st' : St} {d : Option Nat} {p : PV} (h : (st.put d p).run = some st') : st'.n = st.n ∧ st'.mem = st.mem ∧ ∀ i, d ≠ some i → look st'.slots i = look st.slots i := by
  unfold St.put at h
  cases d with
  | none =>
    simp only [Tr.run, Option.some.injEq] at h
    subst h
    exact ⟨rfl, rfl, fun _ _ => rfl⟩
  | some d =>
    dsimp only at h
    split at h
    · simp only [Tr.run, Option.some.injEq] at h
      subst h
      refine ⟨rfl, rfl, fun i hi => ?_⟩
      dsimp only
      rw [look_setL, if_neg fun e => hi (by rw [e])]
    · cases h
theorem evC_keeps {ops : Array Oper} : ∀ (l : List Oper) (st st' : St), (evC P E ops l st).run = some st' → st'.n = st.n ∧ st'.mem = st.mem ∧ ∀ i, i ∉ dsts l → look st'.slots i = look st.slots i
  | [], st, st', h => by
    simp only [evC, Tr.run, Option.some.injEq] at h
    subst h
    exact ⟨rfl, rfl, fun _ _ => rfl⟩
  | o :: r, st, st', h => by
    have hds : ∀ i, i ∉ dsts (o :: r) → o.dst ≠ some i ∧ i ∉ dsts r := by
      intro i hi
      unfold dsts at hi ⊢
      rw [List.filterMap_cons] at hi
      cases hd : o.dst with
      | none => rw [hd] at hi; exact ⟨by simp, hi⟩
      | some d =>
        rw [hd] at hi
        simp only [List.mem_cons, not_or] at hi
        exact ⟨fun e => hi.1 (by simpa using e.symm), hi.2⟩
    have step : ∀ {st1 : St} {p : PV}, st1.n = st.n → st1.mem = st.mem → (∀ i, look st1.slots i = look st.slots i) → ((st1.put o.dst p).bind (evC P E ops r)).run = some st' → st'.n = st.n ∧ st'.mem = st.mem ∧ ∀ i, i ∉ dsts (o :: r) → look st'.slots i = look st.slots i := by
      intro st1 p h1 h2 h3 hp
      obtain ⟨st2, hs2, hp⟩ := Tr.of_bind hp
      obtain ⟨k1, k2, k3⟩ := putS_other hs2
      obtain ⟨l1, l2, l3⟩ := evC_keeps r st2 st' hp
      refine ⟨l1.trans (k1.trans h1), l2.trans (k2.trans h2), fun i hi => ?_⟩
      obtain ⟨i1, i2⟩ := hds i hi
      rw [l3 i i2, k3 i i1, h3 i]
    have take : ∀ {st1 : St}, st1.n = st.n → st1.mem = st.mem → (∀ i, look st1.slots i = look st.slots i) → ((readOp P E st1 o).bind fun p => (st1.put o.dst p).bind (evC P E ops r)).run = some st' → st'.n = st.n ∧ st'.mem = st.mem ∧ ∀ i, i ∉ dsts (o :: r) → look st'.slots i = look st.slots i := by
      intro st1 h1 h2 h3 hp
      obtain ⟨p, _, hp⟩ := Tr.of_bind hp
      exact step h1 h2 h3 hp
    simp only [evC] at h
    split at h
    · exact take rfl rfl (fun _ => rfl) h
    · split at h
      · cases h
      · rename_i s hs
        split at h
        · rename_i t hl
          have kn : ∀ b, t = b → ∀ i, look (st.know s b).slots i = look st.slots i := by
            intro b hb i
            subst hb
            unfold St.know
            dsimp only
            rw [look_setL]
            by_cases e : s = i
            · subst e
              rw [if_pos rfl, hl]
            · rw [if_neg e]
          split at h
          · cases t with
            | true => exact take (st1 := st.know s true) rfl rfl (kn true rfl) h
            | false => exact step (st1 := st.know s false) rfl rfl (kn false rfl) h
          · cases t with
            | true => exact step (st1 := st.know s true) rfl rfl (kn true rfl) h
            | false => exact take (st1 := st.know s false) rfl rfl (kn false rfl) h
        · exact step rfl rfl (fun _ => rfl) h
        · cases h
theorem know_rel {st : St} {m : Nat → Option Value} {a : Act} {w : World} (h : Rel β st m a w) {s : Nat} {b : Bool} (hs : look st.slots s = some (.lit (.bool b))) : Rel β (st.know s b) m a w :=
  ⟨h.size, h.defers, fun i p hp => by
    unfold St.know at hp
    dsimp only at hp
    rw [look_setL] at hp
    by_cases e : s = i
    · subst e
      rw [if_pos rfl] at hp
      cases hp
      exact h.slots s _ hs
    · rw [if_neg e] at hp
      exact h.slots i p hp, h.mem⟩
theorem evC_ok (hE : E.ok P β.G) {ops : Array Oper} {Q : Exit → Act → World → Prop} : ∀ (l : List Oper) (is : List Nat), (∀ k : Nat, (is[k]?).bind (fun i => ops[i]?) = l[k]?) → is.length = l.length → ∀ (st st' : St) (m : Nat → Option Value) (a : Act) (w : World),
    Rel β st m a w → (evC P E ops l st).run = some st' → (∀ a' w', Ext β st.mem m w st.mem m w' → Rel β st' m a' w' → Q .normal a' w') → wpOps P ops Q is a w
  | [], is, his, hlen, st, st', m, a, w, h, hp, hQ => by
    have : is = [] := List.eq_nil_of_length_eq_zero hlen
    subst this
    simp only [evC, Tr.run, Option.some.injEq] at hp
    subst hp
    exact hQ a w (Ext.refl _ _ _ _) h
  | o :: r, [], his, hlen, st, st', m, a, w, h, hp, hQ => by cases hlen
  | o :: r, i :: is, his, hlen, st, st', m, a, w, h, hp, hQ => by
    have ho : ops[i]? = some o := by simpa using his 0
    have his' : ∀ k : Nat, (is[k]?).bind (fun i => ops[i]?) = r[k]? := fun k => by simpa using his (k + 1)
    have hlen' : is.length = r.length := by simpa using hlen
    unfold wpOps
    rw [ho]
    dsimp only
    have take : ∀ st1, st1.mem = st.mem → Rel β st1 m a w → ((readOp P E st1 o).bind fun p => (st1.put o.dst p).bind (evC P E ops r)).run = some st' → Region.wanted o (yielded ops a.tmps) = true →
        (if Region.wanted o (yielded ops a.tmps) then o.wp P a w (wpOps P ops Q is) Q ∨ (o.asks P a w ∧ LetsOut Q) else wpOps P ops Q is (a.put o.dst undef) w) := by
      intro st1 hm1 h1 hp1 hw
      rw [if_pos hw]
      left
      obtain ⟨p, hpp, hp2⟩ := Tr.of_bind hp1
      obtain ⟨st2, hst2, hp2⟩ := Tr.of_bind hp2
      refine readOp_ok hE h1 hpp fun v w' hk hr => ?_
      obtain ⟨hM, hX⟩ := h1.mem.keep hk
      have h2 := (h1.turn hX hM).put hr hst2
      refine evC_ok hE r is his' hlen' st2 st' m _ w' h2 hp2 fun a'' w'' hext' hrel' => hQ a'' w'' ?_ hrel'
      rw [(putS_other hst2).2.1, hm1] at hext'
      rw [hm1] at hX
      exact hX.trans hext'
    have skip : ∀ st1, st1.mem = st.mem → Rel β st1 m a w → ((st1.put o.dst (.lit undef)).bind (evC P E ops r)).run = some st' → Region.wanted o (yielded ops a.tmps) = false →
        (if Region.wanted o (yielded ops a.tmps) then o.wp P a w (wpOps P ops Q is) Q ∨ (o.asks P a w ∧ LetsOut Q) else wpOps P ops Q is (a.put o.dst undef) w) := by
      intro st1 hm1 h1 hp1 hw
      rw [hw]
      simp only [Bool.false_eq_true, if_false]
      obtain ⟨st2, hst2, hp2⟩ := Tr.of_bind hp1
      refine evC_ok hE r is his' hlen' st2 st' m _ w (h1.put (.lit _ _) hst2) hp2 fun a'' w'' hext' hrel' => hQ a'' w'' ?_ hrel'
      rw [(putS_other hst2).2.1, hm1] at hext'
      exact hext'
    simp only [evC] at hp
    split at hp
    · rename_i hg
      exact take st rfl h hp (by unfold Region.wanted; rw [hg])
    · rename_i j b hg
      split at hp
      · cases hp
      · rename_i s hs
        split at hp
        · rename_i t hl
          obtain ⟨v, hv, hr⟩ := h.slots s _ hl
          have hvt := litOf_rep hr rfl
          subst hvt
          have hy : yielded ops a.tmps j = some t := by
            unfold yielded
            rw [hs]
            simp [hv]
          have hw : Region.wanted o (yielded ops a.tmps) = (t == b) := by
            unfold Region.wanted
            rw [hg]
            dsimp only
            rw [hy]
            cases t <;> cases b <;> rfl
          cases t <;> cases b <;> simp only [Tr.run, cond_true, cond_false] at hp
          · exact take (st.know s false) rfl (know_rel h hl) hp (by rw [hw]; rfl)
          · exact skip (st.know s false) rfl (know_rel h hl) hp (by rw [hw]; rfl)
          · exact skip (st.know s true) rfl (know_rel h hl) hp (by rw [hw]; rfl)
          · exact take (st.know s true) rfl (know_rel h hl) hp (by rw [hw]; rfl)
        · rename_i vs hl
          obtain ⟨v, hv, hr⟩ := h.slots s _ hl
          have hvt := litOf_rep hr rfl
          subst hvt
          refine skip st rfl h hp ?_
          unfold Region.wanted
          rw [hg]
          dsimp only
          unfold yielded
          rw [hs]
          cases b <;> simp [hv]
        · cases hp
/-- what comes of a region that only reads: other slots and one's own places stay -/
theorem quiet_mem {G : GT} {ops : Array Oper} {n : Nat} {L : List (Nat × PV)} : ∀ (l : List Oper) (info : List (Cls × Mem)) (M M' : Mem), Facts P E G ops n L M l info M' → quietI info = true → M' = M
  | [], [], M, M', h, _ => h
  | [], _ :: _, M, M', h, _ => h.elim
  | _ :: _, [], M, M', h, _ => h.elim
  | o :: r, (c, M1) :: info, M, M', h, hq => by
    obtain ⟨h1, h2⟩ := h
    have e : M1 = M := by
      cases c with
      | write => cases hq
      | make => cases hq
      | cell =>
        rcases h1 with ⟨_, h, _⟩ | ⟨_, p, _, h⟩
        · exact h
        · exact h.2.2
      | free =>
        rcases h1 with ⟨_, h, _⟩ | ⟨_, p, _, h⟩
        · exact h
        · exact h.2.2
      | read =>
        rcases h1 with ⟨_, h, _⟩ | ⟨_, p, _, h⟩
        · exact h
        · exact h.2
      | still =>
        rcases h1 with ⟨_, h, _⟩ | ⟨_, p, _, h⟩
        · exact h
        · exact h.2.2
    rw [quiet_mem r info M1 M' h2 (by cases c <;> first | exact hq | cases hq), e]
theorem br_same {α : Type} {c : Bool} {x y : α} (h : (bif c then some x else none) = some y) : c = true ∧ x = y := by
  cases c with
  | true => exact ⟨rfl, by simpa using h⟩
  | false => cases h
theorem mergeR_ok (hE : E.ok P β.G) (hmo : P.follows .mixedOrders = true) {ops : Array Oper} {draw : Bool} {ob : Option Bool} {st st' : St} {m : Nat → Option Value} {a : Act} {w : World} (h : Rel β st m a w) (hp : (mergeR P E ops draw ob st).run = some st') {id : Nat} {Q : Exit → Act → World → Prop}
    (hQ : ∀ m' a' w', Ext β st.mem m w st'.mem m' w' → Rel β st' m' a' w' → Q .normal a' w') : (Code.region id ops draw).wp P Q a w := by
  unfold mergeR at hp
  split at hp
  · rename_i d hd
    have fin : ∀ {tr : Tr St} {st1 : St} {m1 : Nat → Option Value} {a' : Act} {w' : World}, tr.run = some st1 → bval d st1 = some (valB (bT d tr)) → st1.n = st.n → st1.mem = st.mem → (∀ i, i ∉ dsts ops.toList → look st1.slots i = look st.slots i) → Rel β st1 m1 a' w' →
        Rel β ⟨st.n, (d, .lit (.bool (valB (bT d tr)))) :: without (dsts ops.toList) st.slots, st.mem⟩ m1 a' w' := by
      intro tr st1 m1 a' w' h1 h2 h3 h4 h5 r
      refine ⟨by rw [r.size, h3], r.defers, fun i p hp => ?_, by rw [← h4]; exact r.mem⟩
      dsimp only at hp
      rw [look_cons] at hp
      have : ∃ v, a'.tmps[i]? = some v ∧ Rep (Cell β w' st1.mem m1) m1 p v := by
        by_cases e : d = i
        · subst e
          rw [if_pos rfl] at hp
          cases hp
          refine r.slots d _ ?_
          unfold bval at h2
          split at h2
          · rename_i b hb
            cases h2
            exact hb
          · cases h2
        · rw [if_neg e] at hp
          obtain ⟨i1, i2⟩ := look_without _ _ _ _ hp
          exact r.slots i p (by rw [h5 i i1]; exact i2)
      rw [h4] at this
      exact this
    cases draw with
    | false =>
      dsimp only at hp
      simp only [Tr.run] at hp
      cases hok : okB (bT d (evC P E ops ops.toList st)) with
      | false => rw [hok] at hp; cases hp
      | true =>
        rw [hok] at hp
        simp only [cond_true] at hp
        obtain ⟨hsm, hp⟩ := br_same hp
        rw [same_or hsm] at hp
        subst hp
        obtain ⟨st1, h1, h2⟩ := okT_ok hok
        obtain ⟨k1, k2, k3⟩ := evC_keeps ops.toList st st1 h1
        refine wp_region (evC_ok hE ops.toList (List.range ops.size) (fun k => ?_) (by simp) st st1 m a w h h1 fun a' w' hext hrel => hQ m a' w' hext (fin h1 h2 k1 k2 k3 hrel))
        by_cases hk : k < ops.size
        · rw [List.getElem?_range hk]
          simp [hk]
        · simp [hk]
    | true =>
      dsimp only at hp
      simp only [Tr.run] at hp
      cases hok : okB (bT d (evQ P E ops st)) with
      | false => rw [hok] at hp; cases hp
      | true =>
        rw [hok] at hp
        simp only [cond_true] at hp
        obtain ⟨hsm, hp⟩ := br_same hp
        rw [same_or hsm] at hp
        subst hp
        obtain ⟨st1, h1, h2⟩ := okT_ok hok
        have h1' := h1
        unfold evQ at h1
        split at h1
        · rename_i hc
          obtain ⟨⟨y1, info⟩, hy, h1⟩ := Tr.of_bind h1
          dsimp only at h1
          split at h1
          · rename_i hord
            simp only [Tr.run, Option.some.injEq] at h1
            subst h1
            simp only [Bool.and_eq_true] at hord
            have hc' := hc
            simp only [Bool.and_eq_true] at hc'
            obtain ⟨f1, f2, f3⟩ := evD_facts ops.toList st y1 info hc'.1 hy
            have hm := quiet_mem _ _ _ _ f1 hord.2
            have hev : (evDraw P E ops st).run = some y1 := by
              unfold evDraw
              rw [hc]
              dsimp only
              rw [Tr.run_bind, hy]
              simp only [Option.bind_some, hord.1]
              rfl
            exact evDraw_ok hE hmo h hev fun m' a' w' hext hrel => hQ m' a' w' (by have := hext; rw [hm] at this; exact this) (fin h1' h2 f3 hm f2 hrel)
          · cases h1
        · cases h1
  · cases hp
end
end Go.Proofs.YtlngnfkjpfokhaaDoor.Ev

/- The end of one's own row is made zero: a slice, and a clear of it, one behind the other. No condition. -/
namespace Go.Proofs.YtlngnfkjpfokhaaDoor.Ev
open Go Go.RowKit
set_option linter.unusedVariables false
set_option linter.unusedSimpArgs false
def isClear (o : Oper) : Bool := match o.op with
  | .call c => match c.callee with
    | .builtin .clear => true
    | _ => false
  | _ => false
/-- a row whose end is zero -/
def rowClr (f : Nat → List PV) (l : Nat) (zc : List PV) (k : Nat) : List PV := match Nat.blt k l with
  | true => f k
  | false => zc
def opClear (P : Program) (st : St) (o o2 : Oper) : Tr St := match o.op, o.dst, o2.op, o2.guard, o2.dst with
  | .slice t x (some lo) none none, some d, .call c, none, none => match c.args.toList, c.argTypes.toList, P.underlying t, st.val x with
    | [.tmp d'], [t'], some (.slice e), .own id => match P.info? e, look st.mem.blks id with
      | some ie, some (.row e' sz n f) => match ie.zero with
        | some z => match pcells (.lit z), bound st 0 (some lo) with
          | some zc, some l => match isClear o2 && Nat.beq d d' && Nat.beq t t' && zc.all one && Nat.beq zc.length ie.size && Nat.beq sz ie.size && PV.closL zc && Nat.blt 0 sz && Nat.blt d st.n with
            | true => .br (decide (0 ≤ l) && decide (l < n)) ({ st with mem := ⟨setL st.mem.blks id (.row e' sz n (rowClr f l.toNat zc)), st.mem.nid, st.mem.glob⟩ }.put (some d) .junk) .fail
            | false => .fail
          | _, _ => .fail
        | none => .fail
      | _, _ => .fail
    | _, _, _, _ => .fail
  | _, _, _, _, _ => .fail
theorem run_clear {P : Program} {t e ty : TypeId} {z : Value} {a : Addr} {k cap : Nat} {w : World} (hd : P.underlying t = some (.slice e)) (hz : zeroT P e = some z) (hk : 0 < k) {w' : World} (hs : (storeCells a (Builtin.zeroCells z.cells k).toList).run P w = .ok () w') :
    (Builtin.clear_ #[t] ty #[.slice (some a) k cap]).run P w = .ok (.tuple #[]) w' := by
  obtain ⟨k, rfl⟩ : ∃ j, k = j + 1 := ⟨k - 1, by omega⟩
  simp [Builtin.clear_, run_underlying hd, run_zeroT hz, hs]
section
variable {P : Program} {β : Base} {st st' : St} {m : Nat → Option Value} {a : Act} {w : World}
theorem opClear_ok (h : Rel β st m a w) {o o2 : Oper} (hp : (opClear P st o o2).run = some st') {K K1 : Act → World → Prop} {Q : Exit → Act → World → Prop} (hK1 : o2.guard = none → ∀ a1 w1, o2.wp P a1 w1 K Q → K1 a1 w1)
    (hK : ∀ m' a' w', Ext β st.mem m w st'.mem m' w' → Rel β st' m' a' w' → K a' w') : o.wp P a w K1 Q := by
  unfold opClear at hp
  split at hp
  · rename_i t x lo d c ho hd1 ho2 hg2 hd2
    have hx := h.val x
    generalize st.val x = q at hx hp
    split at hp
    · rename_i d' t' e id hargs htys hu
      split at hp
      · rename_i ie e' sz n f hie hlk
        split at hp
        · rename_i z hz
          split at hp
          · rename_i zc l hzc hlo
            split at hp
            · rename_i hc
              simp only [Bool.and_eq_true, Nat.blt_eq] at hc
              obtain ⟨⟨⟨⟨⟨⟨⟨⟨c1, c2⟩, c3⟩, c4⟩, c5⟩, c6⟩, c7⟩, c8⟩, c9⟩ := hc
              have c2 := Nat.eq_of_beq_eq_true c2
              have c3 := Nat.eq_of_beq_eq_true c3
              have c5 := Nat.eq_of_beq_eq_true c5
              have c6 := Nat.eq_of_beq_eq_true c6
              subst c2 c3 c6
              simp only [Tr.run] at hp
              cases hb : (decide (0 ≤ l) && decide (l < (n : Int))) with
              | false => rw [hb] at hp; cases hp
              | true =>
                rw [hb] at hp
                simp only [cond_true] at hp
                simp only [Bool.and_eq_true, decide_eq_true_eq] at hb
                obtain ⟨b0, b1⟩ := hb
                have hcal : c.callee = .builtin .clear := by
                  unfold isClear at c1
                  rw [ho2] at c1
                  dsimp only at c1
                  split at c1
                  · assumption
                  · cases c1
                generalize hv : a.eval x = v at hx
                cases hx with
                | own m id v hm h1 =>
                  have hbk := h.mem.blk id _ hlk
                  cases hbk with
                  | row e1 sz1 n1 f1 v' xs hm' hown hKr h1' hl' hr =>
                    rw [hm] at hm'
                    cases hm'
                    rcases hown.2 with ⟨rfl, hxs⟩ | ⟨b, cap, cur, rfl, hbg, hg, hnc, hcm, hcs, htake⟩
                    · subst hxs
                      omega
                    · obtain ⟨g1, g2, g3⟩ := pcells_lit (C := Cell β w st.mem m) (m := m) hzc c4
                      have hzs : z.cells.size = ie.size := by omega
                      have hbn := run_bounds (P := P) (w := w) (isS := true) (n := n) (cap := cap) (hi := none) (h := (n : Int)) (bound_ok h hlo) (.inl ⟨rfl, rfl⟩) b0 (by omega) (by omega) hnc
                      have hsz : sizeT P e = some ie.size := by unfold sizeT; rw [hie]; rfl
                      have hne : ¬ cap = l.toNat := by omega
                      have hrun1 : (Instr.sliceAt t (.slice (some ⟨b, 0, none⟩) n cap) ((some lo).map a.eval) none none).run P w = .ok (.slice (some ⟨b, l.toNat * ie.size, none⟩) (n - l.toNat) (cap - l.toNat)) w := by
                        rw [Int.toNat_natCast] at hbn
                        rw [Option.map_some] at hbn ⊢
                        simp [Instr.sliceAt, Instr.slice, run_underlying hu, hbn, run_sizeT hsz, hne, addr_add]
                      have hex1 : (execOp a.eval o).run P w = .ok (.value (.slice (some ⟨b, l.toNat * ie.size, none⟩) (n - l.toNat) (cap - l.toNat))) w := by
                        unfold execOp
                        rw [ho]
                        dsimp only
                        rw [hv, Sem.run_bind, Option.map_none, hrun1]
                        rfl
                      unfold Oper.wp
                      rw [hex1, Oper.upon_value, hd1]
                      generalize hv1 : (Value.slice (some ⟨b, l.toNat * ie.size, none⟩) (n - l.toNat) (cap - l.toNat)) = v1
                      have hmul : l.toNat * ie.size + (n - l.toNat) * ie.size = n * ie.size := by
                        rw [← Nat.add_mul]
                        congr 1
                        omega
                      have hpos : 0 < ie.size := c8
                      have hzget : ∀ k, k < (n - l.toNat) * ie.size → (Builtin.zeroCells z.cells (n - l.toNat)).toList[k]? = z.cells[k % z.cells.size]? := by
                        intro k hk
                        have hlt : k % z.cells.size < z.cells.size := Nat.mod_lt _ (by omega)
                        have hk' : k < (n - l.toNat) * z.cells.size := by rw [hzs]; exact hk
                        simp [Builtin.zeroCells, hk', getElem!_pos z.cells (k % z.cells.size) hlt]
                      have hzone : ∀ u ∈ Builtin.zeroCells z.cells (n - l.toNat), u.oneCell' = true := by
                        intro u hu'
                        obtain ⟨k, hk, rfl⟩ := Array.mem_iff_getElem.1 hu'
                        have hk2 : k < (n - l.toNat) * ie.size := by rw [size_zeroCells, hzs] at hk; exact hk
                        have := hzget k hk2
                        rw [List.getElem?_eq_getElem (by simpa using hk)] at this
                        exact g3 _ (Array.mem_of_getElem? this.symm)
                      obtain ⟨vs, s1, s2, _⟩ := storeRow hown (l.toNat * ie.size) (Builtin.zeroCells z.cells (n - l.toNat)) hzone (by rw [size_zeroCells, hzs]; omega) P
                      have hus : (Builtin.zeroCells z.cells (n - l.toNat)).size = (n - l.toNat) * ie.size := by rw [size_zeroCells, hzs]
                      obtain ⟨hM, hE⟩ := h.mem.write id _ (.row e' ie.size n (rowClr f l.toNat zc)) hlk rfl rfl _ hm (w' := w.setRow b vs)
                        ⟨rfl, rfl, rfl, by simp [World.setRow], fun k hk => setRow_other w b k _ (fun e => hKr b rfl (e ▸ hk))⟩ (fun k hk => setRow_other w b k _ (fun e => hk (by simp [blkOf, e]))) fun he => by
                          refine .row e' ie.size n _ _ _ hm s2 hKr ?_ ?_ ?_
                          · intro u hu'
                            simp only [List.mem_append] at hu'
                            rcases hu' with (hu' | hu') | hu'
                            · exact h1' u (List.mem_of_mem_take hu')
                            · exact hzone u (by simpa using hu')
                            · exact h1' u (List.mem_of_mem_drop hu')
                          · intro k hk
                            unfold rowClr
                            split
                            · exact hl' k hk
                            · rw [g1, hzs]
                          · intro k jj q hk hq
                            have hxl := hown.1
                            unfold rowClr at hq
                            have hin : k * ie.size + ie.size ≤ n * ie.size := by
                              have := Nat.mul_le_mul_right ie.size (Nat.succ_le_of_lt hk)
                              rw [Nat.succ_mul] at this
                              exact this
                            cases hki : Nat.blt k l.toNat with
                            | true =>
                              rw [hki] at hq
                              dsimp only at hq
                              have hlt : k < l.toNat := by simpa [Nat.blt_eq] using hki
                              have hjj : jj < ie.size := by
                                rw [← hl' k hk]
                                exact (List.getElem?_eq_some_iff.1 hq).1
                              obtain ⟨u, hu', hru⟩ := hr k jj q hk hq
                              refine ⟨u, ?_, hru.mono he.cell fun _ _ h => h⟩
                              have h3 : k * ie.size + ie.size ≤ l.toNat * ie.size := by
                                have := Nat.mul_le_mul_right ie.size (Nat.succ_le_of_lt hlt)
                                rw [Nat.succ_mul] at this
                                exact this
                              have d1 : k * ie.size + jj < l.toNat * ie.size := by omega
                              rw [List.append_assoc, List.getElem?_append_left (by rw [List.length_take]; omega), List.getElem?_take, if_pos d1]
                              exact hu'
                            | false =>
                              rw [hki] at hq
                              dsimp only at hq
                              have hge : l.toNat ≤ k := by
                                have : ¬ k < l.toNat := fun hh => by
                                  have : Nat.blt k l.toNat = true := by rw [Nat.blt_eq]; exact hh
                                  rw [this] at hki
                                  cases hki
                                omega
                              have hjj : jj < ie.size := by
                                rw [← hzs, ← g1]
                                exact (List.getElem?_eq_some_iff.1 hq).1
                              have h3 : l.toNat * ie.size ≤ k * ie.size := Nat.mul_le_mul_right _ hge
                              have e1 : k * ie.size + jj - l.toNat * ie.size = (k - l.toNat) * ie.size + jj := by
                                rw [Nat.sub_mul]
                                omega
                              have hlt2 : (k - l.toNat) * ie.size + jj < (n - l.toNat) * ie.size := by omega
                              have hmod : ((k - l.toNat) * ie.size + jj) % z.cells.size = jj := by
                                rw [hzs, Nat.mul_comm, Nat.mul_add_mod, Nat.mod_eq_of_lt hjj]
                              have hjz : jj < z.cells.size := by omega
                              refine ⟨z.cells[jj], ?_, ?_⟩
                              · rw [List.append_assoc, List.getElem?_append_right (by rw [List.length_take]; omega), List.length_take, Nat.min_eq_left (by omega), e1, List.getElem?_append_left (by simp only [Array.length_toList]; omega), hzget _ hlt2, hmod, Array.getElem?_eq_getElem hjz]
                              · have := g2 jj q _ hq (Array.getElem?_eq_getElem hjz)
                                exact (this.clos (m' := fun _ => none) (closL_get c7 hq)).mono he.cell fun _ _ h => h
                      have h2 := (h.turn hE hM).put (d := some d) (p := .junk) (v := v1) (.junk _ _) hp
                      have hdl : d < a.tmps.size := by rw [h.size]; exact c9
                      have hev : (a.put (some d) v1).eval (.tmp d) = v1 := by
                        simp [Act.put, Act.eval, Array.getD_eq_getD_getElem?, Array.getElem?_setIfInBounds, hdl]
                      have hkk : 0 < n - l.toNat := by omega
                      have hz' : zeroT P e = some z := by unfold zeroT; rw [hie]; exact hz
                      have hrun2 := run_clear (ty := o2.type) (a := ⟨b, l.toNat * ie.size, none⟩) (cap := cap - l.toNat) hu hz' hkk s1
                      have hargs' : c.args = #[.tmp d] := by rw [← Array.toArray_toList (xs := c.args), hargs]
                      have htys' : c.argTypes = #[t] := by rw [← Array.toArray_toList (xs := c.argTypes), htys]
                      have hex2 : (execOp (a.put (some d) v1).eval o2).run P w = .ok (.value (.tuple #[])) (w.setRow b vs) := by
                        unfold execOp
                        rw [ho2]
                        dsimp only
                        rw [← hv1] at hev ⊢
                        simp [resolve, hcal, hargs', htys', invoke, builtin, hev, hrun2]
                      refine hK1 hg2 _ _ ?_
                      show (match (execOp (a.put (some d) v1).eval o2).run P w with | r => o2.upon P (a.put (some d) v1) K Q r)
                      rw [hex2, Oper.upon_value, hd2]
                      refine hK m _ _ ?_ h2
                      rw [put_mem hp]
                      exact hE
            · cases hp
          · cases hp
        · cases hp
      · cases hp
    · cases hp
  · cases hp
end
end Go.Proofs.YtlngnfkjpfokhaaDoor.Ev
