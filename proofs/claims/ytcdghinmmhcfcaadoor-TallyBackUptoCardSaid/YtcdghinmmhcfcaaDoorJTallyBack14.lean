/- JTallyBack14: several texts in one. Condition: each part's own. -/
import Derived.Test.YtcdghinmmhcfcaaDoorJTallyBack07
import Derived.Test.YtcdghinmmhcfcaaDoorJTallyBack13
/- The evaluator: functions that write places of one's own which they are handed; the rest stays as it is. No condition. -/
namespace Go.Proofs.YtcdghinmmhcfcaaDoor.Ev
open Go Go.RowKit Go.Proofs
set_option linter.unusedVariables false
set_option linter.unusedSimpArgs false
mutual
/-- the places that a word tells of -/
def PV.pls : PV → List Nat
  | .agg ps => PV.plsL ps
  | .tup ps => PV.plsL ps
  | .iface _ p => PV.pls p
  | .clo _ ps => PV.plsL ps
  | .own id => [id]
  | .ptr id _ => [id]
  | .optr id _ _ _ => [id]
  | _ => []
def PV.plsL : List PV → List Nat
  | [] => []
  | p :: r => PV.pls p ++ PV.plsL r
end
def addN : List Nat → List Nat → List Nat
  | acc, [] => acc
  | acc, x :: r => match acc.any (Nat.beq x) with
    | true => addN acc r
    | false => addN (acc ++ [x]) r
def reachB (l : List (Nat × Blk)) : List Nat → List Nat → List Nat
  | [], acc => acc
  | id :: r, acc => match look l id with
    | some (.cells _ cs) => reachB l r (addN acc (PV.plsL cs))
    | _ => reachB l r acc
/-- the places that can be reached from some words -/
def Mem.reach (M : Mem) (ps : List PV) : List Nat :=
  reachB M.blks (reachB M.blks (addN [] (PV.plsL ps)) (addN [] (PV.plsL ps))) (reachB M.blks (addN [] (PV.plsL ps)) (addN [] (PV.plsL ps)))
/-- the new numbers: the first place is the first still, all others are new -/
def backN (L : List Nat) (nid : Nat) : Nat → Nat
  | 0 => match L with
    | x :: _ => x
    | [] => nid
  | i + 1 => nid + (i + 1)
def backP (L : List Nat) (nid : Nat) : PV → PV
  | .own id => .own (backN L nid id)
  | .ptr id off => .ptr (backN L nid id) off
  | .optr id sz i j => .optr (backN L nid id) sz i j
  | p => p
def backB (L : List Nat) (nid : Nat) : Blk → Blk
  | .cells ty cs => .cells ty (PV.subL (backP L nid) cs)
  | b => b
def delAll (l : List (Nat × Blk)) : List Nat → List (Nat × Blk)
  | [] => l
  | x :: r => delAll (delL l x) r
/-- a function that is handed places of one's own, and keeps the first of them in its place -/
def PinOK (P : Program) (G : GT) (f : FuncId) (g : List PV → Mem → Tr (PV × Mem)) : Prop :=
  ∀ (β : Base), β.G = G → ∀ (M : Mem) (m : Nat → Option Value) (w : World) (ps : List PV) (args : Array Value), MRel β M m w → ps.length = args.size →
    (∀ (i : Nat) (p : PV) (v : Value), ps[i]? = some p → args[i]? = some v → Rep (Cell β w M m) m p v) → ∀ (p : PV) (M' : Mem), (g ps M).run = some (p, M') →
    Calls P f args w fun
      | .returned v, w' => ∃ m', (∀ v, m 0 = some v → m' 0 = some v) ∧ MRel β M' m' w' ∧ Rep (Cell β w' M' m') m' p v
      | _, _ => False
theorem pin_of_ev {P : Program} {E : Env} {n : Nat} {G : GT} (hE : E.ok P G) (hmo : P.follows .mixedOrders = true) {f : FuncId} {fn : Func} (hf : P.funcs[f]? = some fn) (hc : ∀ c, fn.body = some c → CutsOK .pin P G E c) : PinOK P G f (fnEv P E n fn) :=
  fun β hG M m w ps args hM hlen hrep p M' hp => fnEv_wp hE hmo hf hc hG hM hlen hrep hp
theorem look_app {α : Type} : ∀ (l l' : List (Nat × α)) (i : Nat), look (l ++ l') i = match look l i with
    | some x => some x
    | none => look l' i
  | [], l', i => rfl
  | (k, x) :: r, l', i => by
    rw [List.cons_append, look_cons, look_cons, look_app r l' i]
    by_cases h : k = i <;> simp [h]
theorem look_delAll : ∀ (L : List Nat) (l : List (Nat × Blk)) (i : Nat), look (delAll l L) i = if i ∈ L then none else look l i
  | [], l, i => by simp [delAll]
  | x :: r, l, i => by
    rw [delAll, look_delAll r, look_delL]
    by_cases h : i ∈ r
    · simp [h]
    · by_cases h2 : x = i
      · subst h2; simp
      · simp [h, h2, Ne.symm h2]
theorem look_back {L : List Nat} {nid : Nat} (hL : ∀ x ∈ L, x < nid) : ∀ (l : List (Nat × Blk)) (i : Nat), look (l.map fun x => (backN L nid x.1, backB L nid x.2)) (backN L nid i) = (look l i).map (backB L nid)
  | [], i => rfl
  | (k, x) :: r, i => by
    have inj : backN L nid k = backN L nid i → k = i := by
      intro h
      match k, i, L, hL with
      | 0, 0, _, _ => rfl
      | 0, i + 1, [], _ => simp [backN] at h
      | 0, i + 1, y :: _, hL => have := hL y (by simp); simp [backN] at h; omega
      | k + 1, 0, [], _ => simp [backN] at h
      | k + 1, 0, y :: _, hL => have := hL y (by simp); simp [backN] at h; omega
      | k + 1, i + 1, _, _ => simp [backN] at h; omega
    rw [List.map_cons, look_cons, look_cons, look_back hL r i]
    by_cases h : k = i
    · subst h; simp
    · rw [if_neg h, if_neg fun e => h (inj e)]
theorem look_back_inv {L : List Nat} {nid : Nat} : ∀ {l : List (Nat × Blk)} {j : Nat} {b : Blk}, look (l.map fun x => (backN L nid x.1, backB L nid x.2)) j = some b → ∃ i, j = backN L nid i
  | [], j, b, h => by cases h
  | (k, x) :: r, j, b, h => by
    rw [List.map_cons, look_cons] at h
    by_cases hk : backN L nid k = j
    · exact ⟨k, hk.symm⟩
    · rw [if_neg hk] at h
      exact look_back_inv h
/-- a weaker telling of it -/
theorem PinOK.of {P : Program} {G : GT} {f : FuncId} {g k : List PV → Mem → Tr (PV × Mem)} (hg : PinOK P G f g) (hle : ∀ ps M p M', (k ps M).run = some (p, M') → (g ps M).run = some (p, M')) : PinOK P G f k :=
  fun β hG M m w ps args hM hlen hrep p M' hp => hg β hG M m w ps args hM hlen hrep p M' (hle ps M p M' hp)
/-- some of the places, with new numbers -/
theorem MRel.pick {β : Base} {M : Mem} {m : Nat → Option Value} {w : World} (h : MRel β M m w) {L : List Nat} {bs : List Blk} (hnd : ndup L = true) (hbs : getAll M.blks L = some bs) :
    MRel β ⟨number (bs.map (renB L)) 0, (bs.map (renB L)).length, M.glob⟩ (fun i => (L[i]?).bind m) w ∧
      ∀ p v, Rep (Cell β w M m) m p v → Rep (Cell β w ⟨number (bs.map (renB L)) 0, (bs.map (renB L)).length, M.glob⟩ (fun i => (L[i]?).bind m)) (fun i => (L[i]?).bind m) (p.sub (ren L)) v := by
  have hget : ∀ {i k : Nat}, L[i]? = some k → ∃ b, bs[i]? = some b ∧ look M.blks k = some b := fun hi => getAll_get hbs hi
  let M0 : Mem := ⟨number (bs.map (renB L)) 0, (bs.map (renB L)).length, M.glob⟩
  let m0 : Nat → Option Value := fun i => (L[i]?).bind m
  have hm0 : ∀ {i id : Nat}, L[i]? = some id → m0 i = m id := fun hi => by simp [m0, hi]
  have at0 : ∀ {i : Nat} {b : Blk}, look M0.blks i = some b → ∃ id b0, L[i]? = some id ∧ bs[i]? = some b0 ∧ look M.blks id = some b0 ∧ b = renB L b0 := by
    intro i b hb
    simp only [M0] at hb
    rw [look_number] at hb
    simp only [Nat.zero_le, if_true, Nat.sub_zero, List.getElem?_map] at hb
    cases hq2 : bs[i]? with
    | none => rw [hq2] at hb; cases hb
    | some b0 =>
      rw [hq2] at hb
      cases hb
      have hlt : i < L.length := by
        have := (List.getElem?_eq_some_iff.1 hq2).1
        rwa [getAll_len hbs] at this
      have hid : L[i]? = some L[i] := List.getElem?_eq_getElem hlt
      obtain ⟨b1, hb1, hlk⟩ := hget hid
      rw [hq2] at hb1
      cases hb1
      exact ⟨_, b0, hid, rfl, hlk, rfl⟩
  have live0 : ∀ {i : Nat}, liv M0.blks i = true → ∃ id, L[i]? = some id ∧ liv M.blks id = true := by
    intro i hs
    obtain ⟨bb, hbb, hlv⟩ := liv_some hs
    obtain ⟨id, b0, hid, _, hlk, rfl⟩ := at0 hbb
    refine ⟨_, hid, ?_⟩
    rw [liv_of hlk]
    cases b0 <;> exact hlv
  have hcell : ∀ b o v, Cell β w M m b o v → Cell β w M0 m0 b o v := by
    rintro b o v hc
    refine ⟨?_, hc.2.1, hc.2.2⟩
    rintro ⟨i, v, hs, hv, hb⟩
    obtain ⟨id, hid, hl⟩ := live0 hs
    rw [hm0 hid] at hv
    exact hc.1 ⟨id, v, hl, hv, hb⟩
  refine ⟨⟨fun id b hb => ?_, fun id hid => ?_, fun i j v v' b hi hj hv hv' hb hb' => ?_, h.bsz, h.below, fun g cs hgc => (h.glob g cs hgc).mono hcell fun _ _ h => h, h.gl, h.objs⟩, fun p v hr => hr.sub hcell fun p v ha hr => ren_rep ha hr⟩
  · obtain ⟨id', b0, hid, _, hlk, rfl⟩ := at0 hb
    have hbk := h.blk _ _ hlk
    cases hbk with
    | cells ty cs b vs hm hb0 hl h1 hr hB =>
      refine .cells ty _ b vs ((hm0 hid).trans hm) hb0 (by rw [subL_length]; exact hl) h1 (fun i p v hp hv => ?_) hB
      rw [subL_get] at hp
      cases hc : cs[i]? with
      | none => rw [hc] at hp; cases hp
      | some c =>
        rw [hc] at hp
        cases hp
        exact (hr i c v hc hv).sub hcell fun p v ha hr => ren_rep ha hr
    | row e sz n f v xs hm ho hKr h1 hl hr =>
      exact .row e sz n f v xs ((hm0 hid).trans hm) ho hKr h1 hl fun i j p hi hp =>
        let ⟨x, hx, hrr⟩ := hr i j p hi hp
        ⟨x, hx, hrr.mono hcell fun _ _ h => h⟩
    | frz sz n f v hm h1 hr hk => exact .frz sz n f v ((hm0 hid).trans hm) h1 (hr.mono hcell fun _ _ h => h) hk
  · simp only [List.length_map, getAll_len hbs] at hid
    simp [List.getElem?_eq_none hid]
  · obtain ⟨i', hi', hli⟩ := live0 hi
    obtain ⟨j', hj', hlj⟩ := live0 hj
    have e1 := hm0 hi'
    have e2 := hm0 hj'
    simp only [m0] at e1 e2
    rw [e1] at hv
    rw [e2] at hv'
    have := h.inj i' j' v v' b hli hlj hv hv' hb hb'
    subst this
    exact ndup_ok hnd hi' hj'
/-- told by the places alone, numbered from 0 on; the first one stays the first -/
def PinB (P : Program) (G : GT) (f : FuncId) (g : List PV → List Blk → Tr (PV × List Blk)) : Prop :=
  ∀ (β : Base), β.G = G → ∀ (bs : List Blk) (m : Nat → Option Value) (w : World) (ps : List PV) (args : Array Value), MRel β ⟨number bs 0, bs.length, G⟩ m w → ps.length = args.size →
    (∀ (i : Nat) (p : PV) (v : Value), ps[i]? = some p → args[i]? = some v → Rep (Cell β w ⟨number bs 0, bs.length, G⟩ m) m p v) → ∀ (p : PV) (bs' : List Blk), (g ps bs).run = some (p, bs') →
    Calls P f args w fun
      | .returned v, w' => ∃ m', (∀ v, m 0 = some v → m' 0 = some v) ∧ MRel β ⟨number bs' 0, bs'.length, G⟩ m' w' ∧ Rep (Cell β w' ⟨number bs' 0, bs'.length, G⟩ m') m' p v
      | _, _ => False
/-- .. as it is evaluated -/
def fnPin (P : Program) (E : Env) (n : Nat) (fn : Func) (G : GT) (ps : List PV) (bs : List Blk) : Tr (PV × List Blk) := (fnEv P E n fn ps ⟨number bs 0, bs.length, G⟩).bind fun r => match r.2.reach [.ptr 0 0, r.1] with
  | L => match ndup L && pinOK true L, getAll r.2.blks L with
    | true, some bs' => .leaf (r.1.sub (ren L), bs'.map (renB L))
    | _, _ => .fail
theorem pinB_of_ev {P : Program} {E : Env} {n : Nat} {G : GT} (hE : E.ok P G) (hmo : P.follows .mixedOrders = true) {f : FuncId} {fn : Func} (hf : P.funcs[f]? = some fn) (hc : ∀ c, fn.body = some c → CutsOK .pin P G E c) : PinB P G f (fnPin P E n fn G) := by
  intro β hG bs m w ps args hM hlen hrep p bs' hp
  obtain ⟨⟨q, M'⟩, hq, hp⟩ := Tr.of_bind hp
  dsimp only at hp
  generalize hL : M'.reach [.ptr 0 0, q] = L at hp
  split at hp
  · rename_i bs2 hnd hbs
    simp only [Tr.run, Option.some.injEq, Prod.mk.injEq] at hp
    obtain ⟨rfl, rfl⟩ := hp
    simp only [Bool.and_eq_true] at hnd
    refine (pin_of_ev hE hmo hf hc β hG _ m w ps args hM hlen hrep q M' hq).mono ?_
    intro e w' he
    cases e with
    | panicked _ => exact he.elim
    | outgrown => exact he.elim
    | returned v =>
      obtain ⟨m', hpin, hM', hr⟩ := he
      obtain ⟨h1, h2⟩ := hM'.pick hnd.1 hbs
      have hg : M'.glob = G := hM'.gl.trans hG
      rw [hg] at h1 h2
      refine ⟨_, fun v hv => ?_, h1, h2 q v hr⟩
      have hp0 := hnd.2
      unfold pinOK at hp0
      split at hp0
      · rename_i h0
        cases h0
      · split at hp0
        · simp only [List.getElem?_cons_zero, Option.bind_some]
          exact hpin v hv
        · cases hp0
  · cases hp
theorem PinB.of {P : Program} {G : GT} {f : FuncId} {g k : List PV → List Blk → Tr (PV × List Blk)} (hg : PinB P G f g) (hle : ∀ ps bs p bs', (k ps bs).run = some (p, bs') → (g ps bs).run = some (p, bs')) : PinB P G f k :=
  fun β hG bs m w ps args hM hlen hrep p bs' hp => hg β hG bs m w ps args hM hlen hrep p bs' (hle ps bs p bs' hp)
theorem MRel.le {β : Base} {G : GT} {bs bs' : List Blk} {m : Nat → Option Value} {w : World} (h : MRel β ⟨number bs 0, bs.length, G⟩ m w) (hl : BLeL bs bs') :
    MRel β ⟨number bs' 0, bs'.length, G⟩ m w ∧ ∀ b o v, Cell β w ⟨number bs 0, bs.length, G⟩ m b o v → Cell β w ⟨number bs' 0, bs'.length, G⟩ m b o v := by
  have r : Rel β (stOf 0 G [] ([], bs)) m { tmps := #[], defers := [] } w := ⟨rfl, rfl, fun i p hp => (by cases hp), h⟩
  have r' := stOf_le0 (G := G) (N := 0) (ks := []) (x := ([], bs)) (y := ([], bs')) ⟨.nil, hl⟩ β h.gl.symm m _ w r
  refine ⟨r'.mem, fun b o v hc => ⟨?_, hc.2.1, hc.2.2⟩⟩
  rintro ⟨id, u, hs, hu, hb⟩
  refine hc.1 ⟨id, u, ?_, hu, hb⟩
  obtain ⟨b1, hb1, hlv⟩ := liv_some hs
  rw [look_number] at hb1
  simp only [Nat.zero_le, if_true, Nat.sub_zero] at hb1
  have hlt : id < bs.length := by rw [hl.1]; exact (List.getElem?_eq_some_iff.1 hb1).1
  have hb0 : bs[id]? = some bs[id] := List.getElem?_eq_getElem hlt
  have hle := hl.2 id _ _ hb0 hb1
  have : look (number bs 0) id = some bs[id] := by
    rw [look_number]
    simp [hlt]
  rw [liv_of this, hle.liv]
  exact hlv
/-- .. where more is told than is wanted, of what is given and of what comes out -/
theorem PinB.le {P : Program} {G : GT} {f : FuncId} {g k : List PV → List Blk → Tr (PV × List Blk)} (hg : PinB P G f g)
    (hle : ∀ ps bs p bs', (k ps bs).run = some (p, bs') → ∃ qs cs q cs', PLeL ps qs ∧ BLeL bs cs ∧ (g qs cs).run = some (q, cs') ∧ PLe q p ∧ BLeL cs' bs') : PinB P G f k := by
  intro β hG bs m w ps args hM hlen hrep p bs' hp
  obtain ⟨qs, cs, q, cs', h1, h2, h3, h4, h5⟩ := hle ps bs p bs' hp
  obtain ⟨k1, k2⟩ := hM.le h2
  refine (hg β hG cs m w qs args k1 (by rw [← h1.1]; exact hlen) (fun i p v hp hv => ?_) q cs' h3).mono ?_
  · have hlt : i < ps.length := by rw [h1.1]; exact (List.getElem?_eq_some_iff.1 hp).1
    have hq : ps[i]? = some ps[i] := List.getElem?_eq_getElem hlt
    exact h1.2 i _ _ hq hp _ _ _ ((hrep i _ v hq hv).mono k2 fun _ _ h => h)
  · intro e w' he
    cases e with
    | panicked _ => exact he.elim
    | outgrown => exact he.elim
    | returned v =>
      obtain ⟨m', hpin, hM', hr⟩ := he
      obtain ⟨l1, l2⟩ := hM'.le h5
      exact ⟨m', hpin, l1, h4 _ _ _ (hr.mono l2 fun _ _ h => h)⟩
/-- .. for a caller -/
def pinG (g : List PV → List Blk → Tr (PV × List Blk)) (ps : List PV) (M : Mem) : Tr (PV × Mem) := match M.reach ps with
  | L => match ndup L, getAll M.blks L with
    | true, some bs => (g (PV.subL (ren L) ps) (bs.map (renB L))).bind fun r => .leaf (r.1.sub (backP L M.nid), ⟨((number r.2 0).map fun x => (backN L M.nid x.1, backB L M.nid x.2)) ++ delAll M.blks L, M.nid + r.2.length + 1, M.glob⟩)
    | _, _ => .fail
theorem pin_fn {P : Program} {G : GT} {f : FuncId} {g : List PV → List Blk → Tr (PV × List Blk)} (hg : PinB P G f g) : FnOK P G f (pinG g) := by
  intro β hβ M m w ps args h hlen hreps p M2 hp
  unfold pinG at hp
  generalize hLe : M.reach ps = L at hp
  dsimp only at hp
  split at hp
  · rename_i bs hnd hbs
    obtain ⟨⟨q, bs'⟩, hq, hp⟩ := Tr.of_bind hp
    simp only [Tr.run, Option.some.injEq, Prod.mk.injEq] at hp
    obtain ⟨rfl, rfl⟩ := hp
    -- the places that are handed in
    have hget : ∀ {i k : Nat}, L[i]? = some k → ∃ b, bs[i]? = some b ∧ look M.blks k = some b := fun hi => getAll_get hbs hi
    let Fr : Nat → Prop := fun k => ∃ (i : Nat) (id : Nat) (v : Value), L[i]? = some id ∧ liv M.blks id = true ∧ m id = some v ∧ blkOf v = some k
    let β' : Base := ⟨w, Cell β w M m, fun k => k < w.heap.size ∧ ¬ Fr k, G⟩
    have hgl : M.glob = G := h.gl.trans hβ
    let M' : Mem := ⟨number bs' 0, bs'.length, G⟩
    let M0 : Mem := ⟨number (bs.map (renB L)) 0, (bs.map (renB L)).length, G⟩
    let m0 : Nat → Option Value := fun i => (L[i]?).bind m
    have hKF : ∀ k, β.K k → ¬ Fr k := by
      rintro k hk ⟨i, id, v, hi, hl, hm, hb⟩
      obtain ⟨b, hb1, hlv⟩ := liv_some hl
      have hbk := h.blk id b hb1
      cases hbk with
      | cells ty cs b vs hm' _ _ _ _ hB =>
        rw [hm] at hm'
        cases hm'
        cases hb
        exact hB hk
      | row e sz n f v xs hm' _ hKr _ _ _ =>
        rw [hm] at hm'
        cases hm'
        exact hKr k hb hk
      | frz => cases hlv
    have hKK : ∀ k, β.K k → β'.K k := fun k hk => ⟨h.kLt hk, hKF k hk⟩
    have live0 : ∀ {i : Nat}, liv M0.blks i = true → ∃ id, L[i]? = some id ∧ liv M.blks id = true := by
      intro i hs
      obtain ⟨bb, hbb, hlv⟩ := liv_some hs
      simp only [M0] at hbb
      rw [look_number] at hbb
      simp only [Nat.zero_le, if_true, Nat.sub_zero, List.getElem?_map] at hbb
      cases hq2 : bs[i]? with
      | none => rw [hq2] at hbb; cases hbb
      | some b0 =>
        have hlt : i < L.length := by
          have := (List.getElem?_eq_some_iff.1 hq2).1
          rwa [getAll_len hbs] at this
        have hid : L[i]? = some L[i] := List.getElem?_eq_getElem hlt
        obtain ⟨b1, hb1, hlk⟩ := hget hid
        rw [hq2] at hb1
        cases hb1
        rw [hq2] at hbb
        simp only [Option.map_some, Option.some.injEq] at hbb
        refine ⟨_, hid, ?_⟩
        rw [liv_of hlk]
        subst hbb
        cases b0 <;> exact hlv
    have hm0 : ∀ {i id : Nat}, L[i]? = some id → m0 i = m id := fun hi => by simp [m0, hi]
    have hLive : ∀ {b : Nat}, Live M0 m0 b → Live M m b ∧ Fr b := by
      rintro b ⟨i, v, hs, hv, hb⟩
      obtain ⟨id, hid, hl⟩ := live0 hs
      rw [hm0 hid] at hv
      exact ⟨⟨id, v, hl, hv, hb⟩, i, id, v, hid, hl, hv, hb⟩
    have hcell : ∀ b o v, Cell β w M m b o v → Cell β' w M0 m0 b o v := fun b o v hc => ⟨fun hl => hc.1 (hLive hl).1, hc.2.1, fun _ => hc⟩
    have hM : MRel β' M0 m0 w := by
      refine ⟨fun id b hb => ?_, fun id hid => ?_, fun i j v v' b hi hj hv hv' hb hb' => ?_, fun k hk => hk.1, Keeps.refl _ _, fun g cs hgc => (h.glob g cs (by rw [hgl]; exact hgc)).mono hcell fun _ _ h => h, rfl, fun g o hgo => ?_⟩
      · simp only [M0] at hb
        rw [look_number] at hb
        simp only [Nat.zero_le, if_true, Nat.sub_zero, List.getElem?_map] at hb
        cases hq2 : bs[id]? with
        | none => rw [hq2] at hb; cases hb
        | some b0 =>
          rw [hq2] at hb
          cases hb
          have hlt : id < L.length := by
            have := (List.getElem?_eq_some_iff.1 hq2).1
            rwa [getAll_len hbs] at this
          have hid : L[id]? = some L[id] := List.getElem?_eq_getElem hlt
          obtain ⟨b1, hb1, hlk⟩ := hget hid
          rw [hq2] at hb1
          cases hb1
          have hbk := h.blk _ _ hlk
          have hfr : ∀ v k, b0.liv = true → m L[id] = some v → blkOf v = some k → Fr k := fun v k hlv hm hk => ⟨id, _, v, hid, by rw [liv_of hlk]; exact hlv, hm, hk⟩
          cases hbk with
          | cells ty cs b vs hm hb hl h1 hr hB =>
            refine .cells ty _ b vs (by rw [hm0 hid]; exact hm) hb (by rw [subL_length]; exact hl) h1 (fun i p v hp hv => ?_) (fun hk => hk.2 (hfr _ _ rfl hm rfl))
            rw [subL_get] at hp
            cases hc : cs[i]? with
            | none => rw [hc] at hp; cases hp
            | some c =>
              rw [hc] at hp
              cases hp
              exact (hr i c v hc hv).sub hcell fun p v ha hr => ren_rep ha hr
          | row e sz n f v xs hm ho hKr h1 hl hr =>
            exact .row e sz n f v xs (by rw [hm0 hid]; exact hm) ho (fun k hk hkk => hkk.2 (hfr _ _ rfl hm hk)) h1 hl fun i j p hi hp =>
              let ⟨x, hx, hrr⟩ := hr i j p hi hp
              ⟨x, hx, hrr.mono hcell fun _ _ h => h⟩
          | frz sz n f v hm h1 hr hk => exact .frz sz n f v (by rw [hm0 hid]; exact hm) h1 (hr.mono hcell fun _ _ h => h) hk
      · simp only [M0, List.length_map, getAll_len hbs] at hid
        simp [m0, List.getElem?_eq_none hid]
      · obtain ⟨i', hi', hli⟩ := live0 hi
        obtain ⟨j', hj', hlj⟩ := live0 hj
        rw [hm0 hi'] at hv
        rw [hm0 hj'] at hv'
        have := h.inj i' j' v v' b hli hlj hv hv' hb hb'
        subst this
        exact ndup_ok hnd hi' hj'
      · have := h.objs g o (by rw [hβ]; exact hgo)
        exact ⟨hKK g this.1, by show w.heap[g]? = _; rw [h.below.block g this.1]; exact this.2⟩
    refine Calls.mono (hg β' rfl (bs.map (renB L)) m0 w (PV.subL (ren L) ps) args hM (by rw [subL_length]; exact hlen) (fun i p v hp hv => ?_) q bs' hq) ?_
    · rw [subL_get] at hp
      cases hc : ps[i]? with
      | none => rw [hc] at hp; cases hp
      | some c =>
        rw [hc] at hp
        cases hp
        exact (hreps i c v hc hv).sub hcell fun p v ha hr => ren_rep ha hr
    · intro e w' he
      cases e with
      | panicked _ => exact he.elim
      | outgrown => exact he.elim
      | returned v =>
        obtain ⟨m', hpin, hM', hrep⟩ := he
        have hLlt : ∀ x ∈ L, x < M.nid := by
          intro x hx
          obtain ⟨i, hi⟩ := List.mem_iff_getElem?.1 hx
          obtain ⟨b, _, hlk⟩ := hget hi
          obtain ⟨v, hv, _⟩ := (h.blk x b hlk).lt
          exact h.lt hv
        let ρ := backN L M.nid
        let M2 : Mem := ⟨(M'.blks.map fun x => (backN L M.nid x.1, backB L M.nid x.2)) ++ delAll M.blks L, M.nid + M'.nid + 1, M.glob⟩
        let m2 : Nat → Option Value := fun j => if j < M.nid then m j else m' (j - M.nid)
        have hmold : ∀ {i v}, m i = some v → m2 i = some v := fun {i v} hm => by simp [m2, h.lt hm, hm]
        have hmnew : ∀ {i v}, m' i = some v → look M'.blks i ≠ none ∨ True → (i ≠ 0 ∨ ∃ x r, L = x :: r) → m2 (ρ i) = some v := by
          intro i v hm _ hi
          cases i with
          | zero =>
            rcases hi with hi | ⟨x, r, hL⟩
            · exact absurd rfl hi
            · have hx : L[0]? = some x := by rw [hL]; rfl
              obtain ⟨b, _, hlk⟩ := hget hx
              obtain ⟨u, hu, _⟩ := (h.blk x b hlk).lt
              have := hpin u (by rw [hm0 hx]; exact hu)
              rw [hm] at this
              cases this
              have e : ρ 0 = x := by simp only [ρ, backN, hL]
              rw [e]
              exact hmold hu
          | succ i =>
            have e : ρ (i + 1) = M.nid + (i + 1) := rfl
            have : ¬ M.nid + (i + 1) < M.nid := by omega
            have e2 : M.nid + (i + 1) - M.nid = i + 1 := by omega
            rw [e]
            simp only [m2, if_neg this, e2]
            exact hm
        have hmn : ∀ {i v}, m' i = some v → m2 (ρ i) = some v := by
          intro i v hm
          cases i with
          | succ i => exact hmnew hm (.inr trivial) (.inl (by simp))
          | zero =>
            cases hL : L with
            | cons x r => exact hmnew hm (.inr trivial) (.inr ⟨x, r, hL⟩)
            | nil =>
              have e : ρ 0 = M.nid := by simp only [ρ, backN, hL]
              rw [e]
              simp only [m2, Nat.lt_irrefl, if_false, Nat.sub_self]
              exact hm
        have hk' : Keeps β'.K w w' := hM'.below
        -- the rest lies elsewhere
        have hrest : ∀ {j u k}, j ∉ L → liv M.blks j = true → m j = some u → blkOf u = some k → β'.K k := by
          intro j u k hj hl hu hb
          refine ⟨h.livLt hl hu hb, ?_⟩
          rintro ⟨i, id, v, hi, hl', hm, hb'⟩
          have := h.inj j id u v k hl hl' hu hm hb hb'
          subst this
          exact hj (List.mem_of_getElem? hi)
        have hlive' : ∀ {i u k}, liv M'.blks i = true → m' i = some u → blkOf u = some k → ¬ β'.K k := by
          intro i u k hl hu hb hk
          obtain ⟨b, hb1, hlv⟩ := liv_some hl
          have hbk := hM'.blk i b hb1
          cases hbk with
          | cells ty cs b vs hm' _ _ _ _ hB =>
            rw [hu] at hm'
            cases hm'
            cases hb
            exact hB hk
          | row e sz n f v xs hm' _ hKr _ _ _ =>
            rw [hu] at hm'
            cases hm'
            exact hKr k hb hk
          | frz => cases hlv
        have hlook : ∀ {j b}, look M2.blks j = some b → (∃ i b', j = ρ i ∧ look M'.blks i = some b' ∧ b = backB L M.nid b') ∨ (j ∉ L ∧ look M.blks j = some b) := by
          intro j b hj
          simp only [M2] at hj
          rw [look_app] at hj
          cases hl : look (M'.blks.map fun x => (backN L M.nid x.1, backB L M.nid x.2)) j with
          | some b1 =>
            rw [hl] at hj
            cases hj
            obtain ⟨i, rfl⟩ := look_back_inv hl
            rw [look_back hLlt] at hl
            cases hi : look M'.blks i with
            | none => rw [hi] at hl; cases hl
            | some b' =>
              rw [hi] at hl
              cases hl
              exact .inl ⟨i, b', rfl, hi, rfl⟩
          | none =>
            rw [hl] at hj
            simp only [look_delAll] at hj
            split at hj
            · cases hj
            · rename_i hn
              exact .inr ⟨hn, hj⟩
        have hmr : ∀ {i u}, look M'.blks i ≠ none → m2 (ρ i) = some u → m' i = some u := by
          intro i u hi hu
          cases hb : look M'.blks i with
          | none => exact absurd hb hi
          | some b =>
            obtain ⟨v, hv, _⟩ := (hM'.blk i b hb).lt
            have := hmn hv
            rw [hu] at this
            cases this
            exact hv
        have hliv2 : ∀ {j u k}, liv M2.blks j = true → m2 j = some u → blkOf u = some k → (∃ i, j = ρ i ∧ liv M'.blks i = true ∧ m' i = some u) ∨ (j ∉ L ∧ liv M.blks j = true ∧ m j = some u) := by
          intro j u k hl hu hb
          obtain ⟨b, hb1, hlv⟩ := liv_some hl
          rcases hlook hb1 with ⟨i, b', rfl, hi, rfl⟩ | ⟨hj, hlk⟩
          · refine .inl ⟨i, rfl, ?_, hmr (by rw [hi]; simp) hu⟩
            rw [liv_of hi]
            cases b' <;> exact hlv
          · refine .inr ⟨hj, by rw [liv_of hlk]; exact hlv, ?_⟩
            obtain ⟨v, hv, _⟩ := (h.blk j b hlk).lt
            have := hmold hv
            rw [hu] at this
            cases this
            exact hv
        have hnl : ∀ {b : Nat}, β'.K b → ¬ Live M m b → ¬ Live M2 m2 b := by
          rintro b hk hn ⟨j, u, hl, hu, hb⟩
          rcases hliv2 hl hu hb with ⟨i, _, hl', hu'⟩ | ⟨_, hl', hu'⟩
          · exact hlive' hl' hu' hb hk
          · exact hn ⟨j, u, hl', hu', hb⟩
        have he : Ext β M m w M2 m2 w' := by
          refine ⟨fun i v hm => hmold hm, fun b o v hc => ?_, rfl⟩
          have hlt : b < w.heap.size := World.block_lt_of_cell? w ⟨b, o, none⟩ hc.2.1
          have hK' : β'.K b := ⟨hlt, fun ⟨i, id, v, hi, hl, hm, hb⟩ => hc.1 ⟨id, v, hl, hm, hb⟩⟩
          refine ⟨hnl hK' hc.1, ?_, hc.2.2⟩
          rw [World.cell?_of_block (w := w) (a := ⟨b, o, none⟩) (hk'.block b hK')]
          exact hc.2.1
        have hback : ∀ b o v, Cell β' w' M' m' b o v → Cell β w' M2 m2 b o v := by
          intro b o v hc
          refine ⟨?_, hc.2.1, fun hk => (hc.2.2 (hKK b hk)).2.2 hk⟩
          rintro ⟨j, u, hl, hu, hb⟩
          rcases hliv2 hl hu hb with ⟨i, _, hl', hu'⟩ | ⟨hj, hl', hu'⟩
          · exact hc.1 ⟨i, u, hl', hu', hb⟩
          · exact (hc.2.2 (hrest hj hl' hu' hb)).1 ⟨j, u, hl', hu', hb⟩
        have hatom : ∀ p v, Atom p → Rep (Cell β' w' M' m') m' p v → Rep (Cell β w' M2 m2) m2 (backP L M.nid p) v := by
          intro p v ha hr
          cases ha with
          | own id =>
            cases hr with
            | own m id v hm h1 => exact .own _ _ v (hmn hm) h1
          | ptr id off =>
            cases hr with
            | ptr m id off b hm => exact .ptr _ _ off b (hmn hm)
          | optr id sz i j =>
            cases hr with
            | optr m id sz i j b n cap hm => exact .optr _ _ sz i j b n cap (hmn hm)
        have hKnew : ∀ k, ¬ β'.K k → ¬ β.K k := fun k hk hkk => hk (hKK k hkk)
        refine ⟨m2, he, ⟨fun id b hb => ?_, fun id hid => ?_, fun i j v v' b hi hj hv hv' hb hb' => ?_, h.bsz, h.below.trans hk' hKK, fun g cs hgc => (h.glob g cs hgc).mono he.cell fun _ _ h => h, h.gl, h.objs⟩, hrep.sub hback hatom⟩
        · rcases hlook hb with ⟨i, b', rfl, hi, rfl⟩ | ⟨hj, hlk⟩
          · have hbk := hM'.blk i b' hi
            cases hbk with
            | cells ty cs b vs hm hb0 hl h1 hr hB =>
              refine .cells ty _ b vs (hmn hm) hb0 (by rw [subL_length]; exact hl) h1 (fun i p v hp hv => ?_) (hKnew _ hB)
              rw [subL_get] at hp
              cases hc : cs[i]? with
              | none => rw [hc] at hp; cases hp
              | some c =>
                rw [hc] at hp
                cases hp
                exact (hr i c v hc hv).sub hback hatom
            | row e sz n f v xs hm ho hKr h1 hl hr =>
              exact .row e sz n f v xs (hmn hm) ho (fun k hk => hKnew k (hKr k hk)) h1 hl fun i j p hi hp =>
                let ⟨x, hx, hrr⟩ := hr i j p hi hp
                ⟨x, hx, hrr.mono hback fun _ _ h => h⟩
            | frz sz n f v hm h1 hr hk => exact .frz sz n f v (hmn hm) h1 (hr.mono hback fun _ _ h => h) hk
          · exact (h.blk id b hlk).turn he hk'.size fun hlv u k hu hk => hk'.block k (hrest hj (by rw [liv_of hlk]; exact hlv) hu hk)
        · have hge : M.nid + M'.nid + 1 ≤ id := hid
          have h1 : ¬ id < M.nid := by omega
          simp only [m2, if_neg h1]
          exact hM'.fresh _ (by show bs'.length ≤ _; simp only [M'] at hge; omega)
        · rcases hliv2 hi hv hb with ⟨i', rfl, hl1, hu1⟩ | ⟨hj1, hl1, hu1⟩
          · rcases hliv2 hj hv' hb' with ⟨j', rfl, hl2, hu2⟩ | ⟨hj2, hl2, hu2⟩
            · rw [hM'.inj i' j' v v' b hl1 hl2 hu1 hu2 hb hb']
            · exact absurd (hrest hj2 hl2 hu2 hb') (hlive' hl1 hu1 hb)
          · rcases hliv2 hj hv' hb' with ⟨j', rfl, hl2, hu2⟩ | ⟨hj2, hl2, hu2⟩
            · exact absurd (hrest hj1 hl1 hu1 hb) (hlive' hl2 hu2 hb')
            · exact h.inj i j v v' b hl1 hl2 hu1 hu2 hb hb'
  · cases hp
end Go.Proofs.YtcdghinmmhcfcaaDoor.Ev

/- tally: what is asked of a tally that is looked at. No condition. -/
namespace Go.Proofs.YtcdghinmmhcfcaaDoor.Ev
open Go Go.RowKit Go.Proofs Go.Proofs.YtcdghinmmhcfcaaDoor.Str
set_option linter.unusedVariables false
set_option linter.unusedSimpArgs false
section
variable {m : Int} {t : TypeId} {fr : Nat × Nat}
theorem wants_raw (m : Int) (t : TypeId) (fr : Nat × Nat) (w k : Int) (cs : List PV) : (fnPure Tryd.prog (E12 (GG m t fr)) 60 Tryd.f28 (GG m t fr) [.gptr (.lit (.int .u8 w) :: cs), .lit (.int .u8 k)]).run2 =
    ((.some ((.lit (.bool (bne (IntKind.wrap .u8 (((BitVec.toNat (HAnd.hAnd (BitVec.ofInt 8 w) (BitVec.ofInt 8 k))) : Nat) : Int)) (0 : Int)))), [])) : Option (PV × List Bool)) := by
  kernel_rfl
theorem has_raw2 (m : Int) (t : TypeId) (fr : Nat × Nat) (w many least most c : Int) (q : PV) : (fnPure Tryd.prog (E12 (GG m t fr)) 60 Tryd.f27 (GG m t fr) [.gptr [.lit (.int .u8 w), int many, .lit (.int .u32 least), .lit (.int .u32 most), q, .lit (.int .u64 c)]]).run2 =
    ((.some ((.agg [(.lit (.bool (decide (least > (0 : Int))))), (.lit (.bool (decide (most > (0 : Int))))), (.lit (.bool (decide (c > (0 : Int))))), (.lit (.bool (decide (many > (0 : Int)))))]), [])) : Option (PV × List Bool)) := by
  kernel_rfl
def wb (w k : Int) : Bool := bne (IntKind.wrap .u8 (((BitVec.toNat (HAnd.hAnd (BitVec.ofInt 8 w) (BitVec.ofInt 8 k))) : Nat) : Int)) (0 : Int)
def wantsG : List PV → Tr PV
  | [.gptr (.lit (.int .u8 w) :: _), .lit (.int .u8 k)] => .leaf (bool (wb w k))
  | _ => .fail
theorem wants_ok : PureOK Tryd.prog (GG m t fr) 28 wantsG := by
  refine PureOK.of (fn_pure mixed E12_ok (envOf_cuts ..) (fn := Tryd.f28) (by kernel_rfl)) fun ps p hp => ?_
  unfold wantsG at hp
  split at hp
  · rename_i w cs k
    simp only [Tr.run, Option.some.injEq] at hp
    subst hp
    exact ⟨_, Tr.run_of (wants_raw m t fr w k cs) (by simp), PLe.of_eq rfl⟩
  · cases hp
def posB (x : Int) : Bool := decide (x > 0)
def hasTG : List PV → Tr PV
  | [.gptr [.lit (.int .u8 _), .lit (.int .i64 many), .lit (.int .u32 least), .lit (.int .u32 most), _, .lit (.int .u64 c)]] => .leaf (.agg [bool (posB least), bool (posB most), bool (posB c), bool (posB many)])
  | _ => .fail
theorem hasT_ok : PureOK Tryd.prog (GG m t fr) 27 hasTG := by
  refine PureOK.of (fn_pure mixed E12_ok (envOf_cuts ..) (fn := Tryd.f27) (by kernel_rfl)) fun ps p hp => ?_
  unfold hasTG at hp
  split at hp
  · rename_i w many least most q c
    simp only [Tr.run, Option.some.injEq] at hp
    subst hp
    exact ⟨_, Tr.run_of (has_raw2 m t fr w many least most c q) (by simp), PLe.of_eq rfl⟩
  · cases hp
def taPure : List (Nat × (List PV → Tr PV)) := (28, wantsG) :: (27, hasTG) :: wrPure
theorem taPure_ok {m : Int} {t : TypeId} {fr : Nat × Nat} : TabOK Tryd.prog (GG m t fr) taPure := (TabOK.cons wants_ok (fn := Tryd.f28) (by kernel_rfl) (by kernel_rfl) (TabOK.cons hasT_ok (fn := Tryd.f27) (by kernel_rfl) (by kernel_rfl) wrPure_ok))
noncomputable abbrev E13 (G : GT) : Env := envOf Tryd.prog G taPure nbFull
theorem E13_ok : (E13 (GG m t fr)).ok Tryd.prog (GG m t fr) := envOf_ok mixed taPure_ok nbFull_ok
def evOuts : Exit → Outs
  | .normal => { ks := [0, 5, 25, 26] }
  | .exit _ => { ks := [5] }
  | _ => { ks := [2, 3] }
noncomputable abbrev evRound (G : GT) := roundT Tryd.prog (E13 G) 60 G 52 evOuts .normal (theLoop 0 Tryd.f15)
def evK (w : Int) (cs : List PV) (h0 h1 h2 h3 s : Bool) (i : Int) : Kept := ([.gptr (.lit (.int .u8 w) :: cs), bool s, .agg [bool h0, bool h1, bool h2, bool h3], int i], [])
theorem ev_r0 (m : Int) (t : TypeId) (fr : Nat × Nat) (w : Int) (cs : List PV) (h0 h1 h2 h3 s : Bool) : (evRound (GG m t fr) (evK w cs h0 h1 h2 h3 s 0)).run2 =
    (bif h0 then
        bif (!(wb w (1 : Int))) then
          (.some ((.ret, ([(.lit (.bool false)), (.lit (.bool s))], [])), [true, true, true, true]))
        else bif s then
            bif (wb w (1 : Int)) then
              bif (!h0) then
                (.some ((.ret, ([(.lit (.bool false)), (.lit (.bool s))], [])), [true]))
              else (.some ((.normal, ([(.gptr ((.lit (.int .u8 w)) :: cs)), (.lit (.bool s)), (.agg [(.lit (.bool h0)), (.lit (.bool h1)), (.lit (.bool h2)), (.lit (.bool h3))]), (.lit (.int .i64 (1 : Int)))], [])), [true]))
            else (.some ((.normal, ([(.gptr ((.lit (.int .u8 w)) :: cs)), (.lit (.bool s)), (.agg [(.lit (.bool h0)), (.lit (.bool h1)), (.lit (.bool h2)), (.lit (.bool h3))]), (.lit (.int .i64 (1 : Int)))], [])), [true]))
          else (.some ((.normal, ([(.gptr ((.lit (.int .u8 w)) :: cs)), (.lit (.bool s)), (.agg [(.lit (.bool h0)), (.lit (.bool h1)), (.lit (.bool h2)), (.lit (.bool h3))]), (.lit (.int .i64 (1 : Int)))], [])), [true]))
      else bif s then
          bif (wb w (1 : Int)) then
            bif (!h0) then
              (.some ((.ret, ([(.lit (.bool false)), (.lit (.bool s))], [])), [true]))
            else (.some ((.normal, ([(.gptr ((.lit (.int .u8 w)) :: cs)), (.lit (.bool s)), (.agg [(.lit (.bool h0)), (.lit (.bool h1)), (.lit (.bool h2)), (.lit (.bool h3))]), (.lit (.int .i64 (1 : Int)))], [])), [true]))
          else (.some ((.normal, ([(.gptr ((.lit (.int .u8 w)) :: cs)), (.lit (.bool s)), (.agg [(.lit (.bool h0)), (.lit (.bool h1)), (.lit (.bool h2)), (.lit (.bool h3))]), (.lit (.int .i64 (1 : Int)))], [])), [true]))
        else (.some ((.normal, ([(.gptr ((.lit (.int .u8 w)) :: cs)), (.lit (.bool s)), (.agg [(.lit (.bool h0)), (.lit (.bool h1)), (.lit (.bool h2)), (.lit (.bool h3))]), (.lit (.int .i64 (1 : Int)))], [])), [true])) : Option ((Exit × Kept) × List Bool)) := by
  kernel_rfl
theorem ev_r1 (m : Int) (t : TypeId) (fr : Nat × Nat) (w : Int) (cs : List PV) (h0 h1 h2 h3 s : Bool) : (evRound (GG m t fr) (evK w cs h0 h1 h2 h3 s 1)).run2 =
    (bif h1 then
        bif (!(wb w (2 : Int))) then
          (.some ((.ret, ([(.lit (.bool false)), (.lit (.bool s))], [])), [true, true, true, true]))
        else bif s then
            bif (wb w (2 : Int)) then
              bif (!h1) then
                (.some ((.ret, ([(.lit (.bool false)), (.lit (.bool s))], [])), [true]))
              else (.some ((.normal, ([(.gptr ((.lit (.int .u8 w)) :: cs)), (.lit (.bool s)), (.agg [(.lit (.bool h0)), (.lit (.bool h1)), (.lit (.bool h2)), (.lit (.bool h3))]), (.lit (.int .i64 (2 : Int)))], [])), [true]))
            else (.some ((.normal, ([(.gptr ((.lit (.int .u8 w)) :: cs)), (.lit (.bool s)), (.agg [(.lit (.bool h0)), (.lit (.bool h1)), (.lit (.bool h2)), (.lit (.bool h3))]), (.lit (.int .i64 (2 : Int)))], [])), [true]))
          else (.some ((.normal, ([(.gptr ((.lit (.int .u8 w)) :: cs)), (.lit (.bool s)), (.agg [(.lit (.bool h0)), (.lit (.bool h1)), (.lit (.bool h2)), (.lit (.bool h3))]), (.lit (.int .i64 (2 : Int)))], [])), [true]))
      else bif s then
          bif (wb w (2 : Int)) then
            bif (!h1) then
              (.some ((.ret, ([(.lit (.bool false)), (.lit (.bool s))], [])), [true]))
            else (.some ((.normal, ([(.gptr ((.lit (.int .u8 w)) :: cs)), (.lit (.bool s)), (.agg [(.lit (.bool h0)), (.lit (.bool h1)), (.lit (.bool h2)), (.lit (.bool h3))]), (.lit (.int .i64 (2 : Int)))], [])), [true]))
          else (.some ((.normal, ([(.gptr ((.lit (.int .u8 w)) :: cs)), (.lit (.bool s)), (.agg [(.lit (.bool h0)), (.lit (.bool h1)), (.lit (.bool h2)), (.lit (.bool h3))]), (.lit (.int .i64 (2 : Int)))], [])), [true]))
        else (.some ((.normal, ([(.gptr ((.lit (.int .u8 w)) :: cs)), (.lit (.bool s)), (.agg [(.lit (.bool h0)), (.lit (.bool h1)), (.lit (.bool h2)), (.lit (.bool h3))]), (.lit (.int .i64 (2 : Int)))], [])), [true])) : Option ((Exit × Kept) × List Bool)) := by
  kernel_rfl
theorem ev_r2 (m : Int) (t : TypeId) (fr : Nat × Nat) (w : Int) (cs : List PV) (h0 h1 h2 h3 s : Bool) : (evRound (GG m t fr) (evK w cs h0 h1 h2 h3 s 2)).run2 =
    (bif h2 then
        bif (!(wb w (4 : Int))) then
          (.some ((.ret, ([(.lit (.bool false)), (.lit (.bool s))], [])), [true, true, true, true]))
        else bif s then
            bif (wb w (4 : Int)) then
              bif (!h2) then
                (.some ((.ret, ([(.lit (.bool false)), (.lit (.bool s))], [])), [true]))
              else (.some ((.normal, ([(.gptr ((.lit (.int .u8 w)) :: cs)), (.lit (.bool s)), (.agg [(.lit (.bool h0)), (.lit (.bool h1)), (.lit (.bool h2)), (.lit (.bool h3))]), (.lit (.int .i64 (3 : Int)))], [])), [true]))
            else (.some ((.normal, ([(.gptr ((.lit (.int .u8 w)) :: cs)), (.lit (.bool s)), (.agg [(.lit (.bool h0)), (.lit (.bool h1)), (.lit (.bool h2)), (.lit (.bool h3))]), (.lit (.int .i64 (3 : Int)))], [])), [true]))
          else (.some ((.normal, ([(.gptr ((.lit (.int .u8 w)) :: cs)), (.lit (.bool s)), (.agg [(.lit (.bool h0)), (.lit (.bool h1)), (.lit (.bool h2)), (.lit (.bool h3))]), (.lit (.int .i64 (3 : Int)))], [])), [true]))
      else bif s then
          bif (wb w (4 : Int)) then
            bif (!h2) then
              (.some ((.ret, ([(.lit (.bool false)), (.lit (.bool s))], [])), [true]))
            else (.some ((.normal, ([(.gptr ((.lit (.int .u8 w)) :: cs)), (.lit (.bool s)), (.agg [(.lit (.bool h0)), (.lit (.bool h1)), (.lit (.bool h2)), (.lit (.bool h3))]), (.lit (.int .i64 (3 : Int)))], [])), [true]))
          else (.some ((.normal, ([(.gptr ((.lit (.int .u8 w)) :: cs)), (.lit (.bool s)), (.agg [(.lit (.bool h0)), (.lit (.bool h1)), (.lit (.bool h2)), (.lit (.bool h3))]), (.lit (.int .i64 (3 : Int)))], [])), [true]))
        else (.some ((.normal, ([(.gptr ((.lit (.int .u8 w)) :: cs)), (.lit (.bool s)), (.agg [(.lit (.bool h0)), (.lit (.bool h1)), (.lit (.bool h2)), (.lit (.bool h3))]), (.lit (.int .i64 (3 : Int)))], [])), [true])) : Option ((Exit × Kept) × List Bool)) := by
  kernel_rfl
theorem ev_r3 (m : Int) (t : TypeId) (fr : Nat × Nat) (w : Int) (cs : List PV) (h0 h1 h2 h3 s : Bool) : (evRound (GG m t fr) (evK w cs h0 h1 h2 h3 s 3)).run2 =
    (bif h3 then
        bif (!(wb w (8 : Int))) then
          (.some ((.ret, ([(.lit (.bool false)), (.lit (.bool s))], [])), [true, true, true, true]))
        else bif s then
            bif (wb w (8 : Int)) then
              bif (!h3) then
                (.some ((.ret, ([(.lit (.bool false)), (.lit (.bool s))], [])), [true]))
              else (.some ((.normal, ([(.gptr ((.lit (.int .u8 w)) :: cs)), (.lit (.bool s)), (.agg [(.lit (.bool h0)), (.lit (.bool h1)), (.lit (.bool h2)), (.lit (.bool h3))]), (.lit (.int .i64 (4 : Int)))], [])), [true]))
            else (.some ((.normal, ([(.gptr ((.lit (.int .u8 w)) :: cs)), (.lit (.bool s)), (.agg [(.lit (.bool h0)), (.lit (.bool h1)), (.lit (.bool h2)), (.lit (.bool h3))]), (.lit (.int .i64 (4 : Int)))], [])), [true]))
          else (.some ((.normal, ([(.gptr ((.lit (.int .u8 w)) :: cs)), (.lit (.bool s)), (.agg [(.lit (.bool h0)), (.lit (.bool h1)), (.lit (.bool h2)), (.lit (.bool h3))]), (.lit (.int .i64 (4 : Int)))], [])), [true]))
      else bif s then
          bif (wb w (8 : Int)) then
            bif (!h3) then
              (.some ((.ret, ([(.lit (.bool false)), (.lit (.bool s))], [])), [true]))
            else (.some ((.normal, ([(.gptr ((.lit (.int .u8 w)) :: cs)), (.lit (.bool s)), (.agg [(.lit (.bool h0)), (.lit (.bool h1)), (.lit (.bool h2)), (.lit (.bool h3))]), (.lit (.int .i64 (4 : Int)))], [])), [true]))
          else (.some ((.normal, ([(.gptr ((.lit (.int .u8 w)) :: cs)), (.lit (.bool s)), (.agg [(.lit (.bool h0)), (.lit (.bool h1)), (.lit (.bool h2)), (.lit (.bool h3))]), (.lit (.int .i64 (4 : Int)))], [])), [true]))
        else (.some ((.normal, ([(.gptr ((.lit (.int .u8 w)) :: cs)), (.lit (.bool s)), (.agg [(.lit (.bool h0)), (.lit (.bool h1)), (.lit (.bool h2)), (.lit (.bool h3))]), (.lit (.int .i64 (4 : Int)))], [])), [true])) : Option ((Exit × Kept) × List Bool)) := by
  kernel_rfl
theorem ev_r4 (m : Int) (t : TypeId) (fr : Nat × Nat) (w : Int) (cs : List PV) (h0 h1 h2 h3 s : Bool) : (evRound (GG m t fr) (evK w cs h0 h1 h2 h3 s 4)).run2 =
    ((.some (((.exit 0), ([(.lit (.bool s))], [])), [])) : Option ((Exit × Kept) × List Bool)) := by
  kernel_rfl
/-- one of what a tally has: it is wanted; and if it is wanted, and anything is there, it is there -/
def evOk (h w s : Bool) : Bool := !(h && !w || s && w && !h)
def evA (w : Int) (h0 h1 h2 h3 s : Bool) : Bool := evOk h0 (wb w 1) s && (evOk h1 (wb w 2) s && (evOk h2 (wb w 4) s && evOk h3 (wb w 8) s))
def evEnd (w : Int) (cs : List PV) (h0 h1 h2 h3 s : Bool) (i : Int) (ok : Bool) : Exit × Kept := bif ok then (.normal, evK w cs h0 h1 h2 h3 s i) else (.ret, ([bool false, bool s], []))
theorem ev_s0 (w : Int) (cs : List PV) (h0 h1 h2 h3 s : Bool) : (evRound (GG m t fr) (evK w cs h0 h1 h2 h3 s 0)).run = some (evEnd w cs h0 h1 h2 h3 s 1 (evOk h0 (wb w 1) s)) := by
  have h := ev_r0 m t fr w cs h0 h1 h2 h3 s
  generalize wb w 1 = b at h ⊢
  cases h0 <;> cases b <;> cases s <;> exact Tr.run_of h rfl
theorem ev_s1 (w : Int) (cs : List PV) (h0 h1 h2 h3 s : Bool) : (evRound (GG m t fr) (evK w cs h0 h1 h2 h3 s 1)).run = some (evEnd w cs h0 h1 h2 h3 s 2 (evOk h1 (wb w 2) s)) := by
  have h := ev_r1 m t fr w cs h0 h1 h2 h3 s
  generalize wb w 2 = b at h ⊢
  cases h1 <;> cases b <;> cases s <;> exact Tr.run_of h rfl
theorem ev_s2 (w : Int) (cs : List PV) (h0 h1 h2 h3 s : Bool) : (evRound (GG m t fr) (evK w cs h0 h1 h2 h3 s 2)).run = some (evEnd w cs h0 h1 h2 h3 s 3 (evOk h2 (wb w 4) s)) := by
  have h := ev_r2 m t fr w cs h0 h1 h2 h3 s
  generalize wb w 4 = b at h ⊢
  cases h2 <;> cases b <;> cases s <;> exact Tr.run_of h rfl
theorem ev_s3 (w : Int) (cs : List PV) (h0 h1 h2 h3 s : Bool) : (evRound (GG m t fr) (evK w cs h0 h1 h2 h3 s 3)).run = some (evEnd w cs h0 h1 h2 h3 s 4 (evOk h3 (wb w 8) s)) := by
  have h := ev_r3 m t fr w cs h0 h1 h2 h3 s
  generalize wb w 8 = b at h ⊢
  cases h3 <;> cases b <;> cases s <;> exact Tr.run_of h rfl
def evF : Kept → Tr (Exit × Kept)
  | ([.gptr (.lit (.int .u8 w) :: cs), .lit (.bool s), .agg [.lit (.bool h0), .lit (.bool h1), .lit (.bool h2), .lit (.bool h3)], .lit (.int .i64 0)], []) => .br (evA w h0 h1 h2 h3 s) (.leaf (.exit 0, ([bool s], []))) (.leaf (.ret, ([bool false, bool s], [])))
  | _ => .fail
theorem evF_ok (k : Kept) (e : Exit) (y : Kept) (h : (evF k).run = some (e, y)) : LR Tryd.prog (E13 (GG m t fr)) 60 (GG m t fr) 52 evOuts .normal (theLoop 0 Tryd.f15) k e y := by
  unfold evF at h
  split at h
  · rename_i w cs s h0 h1 h2 h3
    have no : ∀ {i : Int} {ok : Bool} {i' : Int}, ok = false → (evRound (GG m t fr) (evK w cs h0 h1 h2 h3 s i)).run = some (evEnd w cs h0 h1 h2 h3 s i' ok) →
        LR Tryd.prog (E13 (GG m t fr)) 60 (GG m t fr) 52 evOuts .normal (theLoop 0 Tryd.f15) (evK w cs h0 h1 h2 h3 s i) .ret ([bool false, bool s], []) := by
      intro i ok i' hk hr
      subst hk
      exact .last hr (by simp) (by simp)
    have s0 := ev_s0 (m := m) (t := t) (fr := fr) w cs h0 h1 h2 h3 s
    have s1 := ev_s1 (m := m) (t := t) (fr := fr) w cs h0 h1 h2 h3 s
    have s2 := ev_s2 (m := m) (t := t) (fr := fr) w cs h0 h1 h2 h3 s
    have s3 := ev_s3 (m := m) (t := t) (fr := fr) w cs h0 h1 h2 h3 s
    have s4 := Tr.run_of (ev_r4 m t fr w cs h0 h1 h2 h3 s) rfl
    simp only [Tr.run, evA] at h
    change LR _ _ _ _ _ _ _ _ (evK w cs h0 h1 h2 h3 s 0) _ _
    cases c0 : evOk h0 (wb w 1) s with
    | false =>
      simp only [c0, Bool.false_and, cond_false, Option.some.injEq, Prod.mk.injEq] at h
      obtain ⟨rfl, rfl⟩ := h
      exact no c0 s0
    | true =>
      rw [c0] at s0
      refine .more s0 ?_
      cases c1 : evOk h1 (wb w 2) s with
      | false =>
        simp only [c0, c1, Bool.false_and, Bool.true_and, cond_false, Option.some.injEq, Prod.mk.injEq] at h
        obtain ⟨rfl, rfl⟩ := h
        exact no c1 s1
      | true =>
        rw [c1] at s1
        refine .more s1 ?_
        cases c2 : evOk h2 (wb w 4) s with
        | false =>
          simp only [c0, c1, c2, Bool.false_and, Bool.true_and, cond_false, Option.some.injEq, Prod.mk.injEq] at h
          obtain ⟨rfl, rfl⟩ := h
          exact no c2 s2
        | true =>
          rw [c2] at s2
          refine .more s2 ?_
          cases c3 : evOk h3 (wb w 8) s with
          | false =>
            simp only [c0, c1, c2, c3, Bool.true_and, cond_false, Option.some.injEq, Prod.mk.injEq] at h
            obtain ⟨rfl, rfl⟩ := h
            exact no c3 s3
          | true =>
            rw [c3] at s3
            refine .more s3 ?_
            simp only [c0, c1, c2, c3, Bool.true_and, cond_true, Option.some.injEq, Prod.mk.injEq] at h
            obtain ⟨rfl, rfl⟩ := h
            exact .last s4 (by simp) (by simp)
  · cases h
noncomputable abbrev evCut (G : GT) := cutOf G 52 evOuts 0 evF
theorem even_raw (m : Int) (t : TypeId) (fr : Nat × Nat) (w many least most c : Int) (q : PV) : (fnPure Tryd.prog ((E13 (GG m t fr)).withCuts (cut1 0 (evCut (GG m t fr)))) 60 Tryd.f15 (GG m t fr) [.gptr [.lit (.int .u8 w), int many, .lit (.int .u32 least), .lit (.int .u32 most), q, .lit (.int .u64 c)]]).run2 =
    (bif (posB least) then
        bif (evA w (posB least) (posB most) (posB c) (posB many) true) then
          (.some ((.tup [(.lit (.bool true)), (.lit (.bool true))]), [true, true, true, true, true, true, true]))
        else (.some ((.tup [(.lit (.bool false)), (.lit (.bool true))]), [true, true, true, true, true, true, true]))
      else bif (posB most) then
          bif (evA w (posB least) (posB most) (posB c) (posB many) true) then
            (.some ((.tup [(.lit (.bool true)), (.lit (.bool true))]), [true, true, true, true, true, true]))
          else (.some ((.tup [(.lit (.bool false)), (.lit (.bool true))]), [true, true, true, true, true, true]))
        else bif (posB c) then
            bif (evA w (posB least) (posB most) (posB c) (posB many) true) then
              (.some ((.tup [(.lit (.bool true)), (.lit (.bool true))]), [true, true, true, true, true]))
            else (.some ((.tup [(.lit (.bool false)), (.lit (.bool true))]), [true, true, true, true, true]))
          else bif (evA w (posB least) (posB most) (posB c) (posB many) (posB many)) then
              (.some ((.tup [(.lit (.bool true)), (.lit (.bool (posB many)))]), [true, true, true, true]))
            else (.some ((.tup [(.lit (.bool false)), (.lit (.bool (posB many)))]), [true, true, true, true])) : Option (PV × List Bool)) := by
  kernel_rfl
theorem agrees_raw (m : Int) (t : TypeId) (fr : Nat × Nat) (w many least most c : Int) (n : Nat) (l : List Sp) : (fnPure Tryd.prog (E13 (GG m t fr)) 60 Tryd.f16 (GG m t fr) [.gptr [.lit (.int .u8 w), int many, .lit (.int .u32 least), .lit (.int .u32 most), .gsl 2 n (sRow l), .lit (.int .u64 c)]]).run2 =
    (bif (!(wb w (8 : Int))) then
        bif (!(wb w (1 : Int))) then
          bif (!(wb w (2 : Int))) then
            (.some ((.lit (.bool true)), [true, true, true, true, true, true, true, true, true, true, true, true, true, true, true, true, true, true, true, true, true, true, true, true, true, true, true, true, true, true, true, true, true, true, true]))
          else (.some ((.lit (.bool (most == (Prod.snd (sp l (Int.toNat (IntKind.wrap .i64 (((n : Nat) : Int) - (1 : Int))))))))), [((decide ((0 : Int) ≤ (IntKind.wrap .i64 (((n : Nat) : Int) - (1 : Int))))) && (Nat.blt (Int.toNat (IntKind.wrap .i64 (((n : Nat) : Int) - (1 : Int)))) n)), true, true, true, true, true, true, true, true, true, true, true, true, true, true, true, true, true, true, true, true, true, true]))
        else bif (least == (Prod.fst (sp l 0))) then
            bif (!(wb w (2 : Int))) then
              (.some ((.lit (.bool true)), [true, true, true, true, true, true, true, true, true, true, true, true, true, (Nat.blt 0 n), true, true, true, true, true, true, true, true, true, true]))
            else (.some ((.lit (.bool (most == (Prod.snd (sp l (Int.toNat (IntKind.wrap .i64 (((n : Nat) : Int) - (1 : Int))))))))), [((decide ((0 : Int) ≤ (IntKind.wrap .i64 (((n : Nat) : Int) - (1 : Int))))) && (Nat.blt (Int.toNat (IntKind.wrap .i64 (((n : Nat) : Int) - (1 : Int)))) n)), (Nat.blt 0 n), true, true, true, true, true, true, true, true, true, true]))
          else (.some ((.lit (.bool false)), [(Nat.blt 0 n), true, true, true, true, true, true, true, true, true, true]))
      else bif ((IntKind.wrap .u64 many) == c) then
          bif (!(wb w (1 : Int))) then
            bif (!(wb w (2 : Int))) then
              (.some ((.lit (.bool true)), [true, true, true, true, true, true, true, true, true, true, true, true, true, true, true, true, true, true, true, true, true, true, true, true, true]))
            else (.some ((.lit (.bool (most == (Prod.snd (sp l (Int.toNat (IntKind.wrap .i64 (((n : Nat) : Int) - (1 : Int))))))))), [((decide ((0 : Int) ≤ (IntKind.wrap .i64 (((n : Nat) : Int) - (1 : Int))))) && (Nat.blt (Int.toNat (IntKind.wrap .i64 (((n : Nat) : Int) - (1 : Int)))) n)), true, true, true, true, true, true, true, true, true, true, true, true]))
          else bif (least == (Prod.fst (sp l 0))) then
              bif (!(wb w (2 : Int))) then
                (.some ((.lit (.bool true)), [true, true, true, true, true, true, true, true, true, true, true, true, true, (Nat.blt 0 n)]))
              else (.some ((.lit (.bool (most == (Prod.snd (sp l (Int.toNat (IntKind.wrap .i64 (((n : Nat) : Int) - (1 : Int))))))))), [((decide ((0 : Int) ≤ (IntKind.wrap .i64 (((n : Nat) : Int) - (1 : Int))))) && (Nat.blt (Int.toNat (IntKind.wrap .i64 (((n : Nat) : Int) - (1 : Int)))) n)), (Nat.blt 0 n)]))
            else (.some ((.lit (.bool false)), [(Nat.blt 0 n)]))
        else (.some ((.lit (.bool false)), [])) : Option (PV × List Bool)) := by
  kernel_rfl
theorem fits_raw (m : Int) (t : TypeId) (fr : Nat × Nat) (w many least most c : Int) (q : PV) : (fnPure Tryd.prog (E13 (GG m t fr)) 60 Tryd.f17 (GG m t fr) [.gptr [.lit (.int .u8 w), int many, .lit (.int .u32 least), .lit (.int .u32 most), q, .lit (.int .u64 c)]]).run2 =
    (bif (wb w (1 : Int)) then
        bif (wb w (2 : Int)) then
          bif (wb w (1 : Int)) then
            bif (decide ((IntKind.wrap .u64 least) > (IntKind.wrap .u64 most))) then
              (.some ((.lit (.bool false)), []))
            else bif (!(wb w (8 : Int))) then
                (.some ((.lit (.bool true)), []))
              else bif (decide ((IntKind.wrap .u64 many) ≤ (IntKind.wrap .u64 ((IntKind.wrap .u64 ((IntKind.wrap .u64 most) - (IntKind.wrap .u64 least))) + (1 : Int))))) then
                  bif (!(wb w (2 : Int))) then
                    (.some ((.lit (.bool true)), [true, true, true, true, true, true]))
                  else bif ((IntKind.wrap .u64 least) == (IntKind.wrap .u64 most)) then
                      (.some ((.lit (.bool true)), [true, true, true, true, true]))
                    else (.some ((.lit (.bool (decide (many > (1 : Int))))), []))
                else (.some ((.lit (.bool false)), []))
          else bif (decide ((IntKind.wrap .u64 least) > (IntKind.wrap .u64 most))) then
              (.some ((.lit (.bool false)), []))
            else bif (!(wb w (8 : Int))) then
                (.some ((.lit (.bool true)), []))
              else bif (decide ((IntKind.wrap .u64 many) ≤ (IntKind.wrap .u64 ((IntKind.wrap .u64 ((IntKind.wrap .u64 most) - (IntKind.wrap .u64 least))) + (1 : Int))))) then
                  (.some ((.lit (.bool true)), [true, true, true, true, true, true]))
                else (.some ((.lit (.bool false)), []))
        else bif (wb w (1 : Int)) then
            bif (decide ((IntKind.wrap .u64 least) > (4294967295 : Int))) then
              (.some ((.lit (.bool false)), []))
            else bif (!(wb w (8 : Int))) then
                (.some ((.lit (.bool true)), []))
              else bif (decide ((IntKind.wrap .u64 many) ≤ (IntKind.wrap .u64 ((IntKind.wrap .u64 ((4294967295 : Int) - (IntKind.wrap .u64 least))) + (1 : Int))))) then
                  bif (!(wb w (2 : Int))) then
                    (.some ((.lit (.bool true)), [true, true, true, true, true, true]))
                  else bif ((IntKind.wrap .u64 least) == (4294967295 : Int)) then
                      (.some ((.lit (.bool true)), [true, true, true, true, true]))
                    else (.some ((.lit (.bool (decide (many > (1 : Int))))), []))
                else (.some ((.lit (.bool false)), []))
          else bif (decide ((IntKind.wrap .u64 least) > (4294967295 : Int))) then
              (.some ((.lit (.bool false)), []))
            else bif (!(wb w (8 : Int))) then
                (.some ((.lit (.bool true)), []))
              else bif (decide ((IntKind.wrap .u64 many) ≤ (IntKind.wrap .u64 ((IntKind.wrap .u64 ((4294967295 : Int) - (IntKind.wrap .u64 least))) + (1 : Int))))) then
                  (.some ((.lit (.bool true)), [true, true, true, true, true, true]))
                else (.some ((.lit (.bool false)), []))
      else bif (wb w (2 : Int)) then
          bif (wb w (1 : Int)) then
            bif (decide ((1 : Int) > (IntKind.wrap .u64 most))) then
              (.some ((.lit (.bool false)), []))
            else bif (!(wb w (8 : Int))) then
                (.some ((.lit (.bool true)), []))
              else bif (decide ((IntKind.wrap .u64 many) ≤ (IntKind.wrap .u64 ((IntKind.wrap .u64 ((IntKind.wrap .u64 most) - (1 : Int))) + (1 : Int))))) then
                  bif (!(wb w (2 : Int))) then
                    (.some ((.lit (.bool true)), [true, true, true, true, true, true]))
                  else bif ((1 : Int) == (IntKind.wrap .u64 most)) then
                      (.some ((.lit (.bool true)), [true, true, true, true, true]))
                    else (.some ((.lit (.bool (decide (many > (1 : Int))))), []))
                else (.some ((.lit (.bool false)), []))
          else bif (decide ((1 : Int) > (IntKind.wrap .u64 most))) then
              (.some ((.lit (.bool false)), []))
            else bif (!(wb w (8 : Int))) then
                (.some ((.lit (.bool true)), []))
              else bif (decide ((IntKind.wrap .u64 many) ≤ (IntKind.wrap .u64 ((IntKind.wrap .u64 ((IntKind.wrap .u64 most) - (1 : Int))) + (1 : Int))))) then
                  (.some ((.lit (.bool true)), [true, true, true, true, true, true]))
                else (.some ((.lit (.bool false)), []))
        else bif (wb w (1 : Int)) then
            bif (!(wb w (8 : Int))) then
              (.some ((.lit (.bool true)), []))
            else bif (decide ((IntKind.wrap .u64 many) ≤ (4294967295 : Int))) then
                bif (!(wb w (2 : Int))) then
                  (.some ((.lit (.bool true)), [true, true, true, true, true, true]))
                else (.some ((.lit (.bool (decide (many > (1 : Int))))), []))
              else (.some ((.lit (.bool false)), []))
          else bif (!(wb w (8 : Int))) then
              (.some ((.lit (.bool true)), []))
            else bif (decide ((IntKind.wrap .u64 many) ≤ (4294967295 : Int))) then
                (.some ((.lit (.bool true)), [true, true, true, true, true, true]))
              else (.some ((.lit (.bool false)), [])) : Option (PV × List Bool)) := by
  kernel_rfl
end
end Go.Proofs.YtcdghinmmhcfcaaDoor.Ev

/- tally: what is asked of a tally that is looked at, as contracts. No condition. -/
namespace Go.Proofs.YtcdghinmmhcfcaaDoor.Ev
open Go Go.RowKit Go.Proofs Go.Proofs.YtcdghinmmhcfcaaDoor.Str
set_option linter.unusedVariables false
set_option linter.unusedSimpArgs false
section
variable {m : Int} {t : TypeId} {fr : Nat × Nat}
def evS (many least most c : Int) : Bool := posB least || (posB most || (posB c || posB many))
def evenG : List PV → Tr PV
  | [.gptr [.lit (.int .u8 w), .lit (.int .i64 many), .lit (.int .u32 least), .lit (.int .u32 most), _, .lit (.int .u64 c)]] => .leaf (.tup [bool (evA w (posB least) (posB most) (posB c) (posB many) (evS many least most c)), bool (evS many least most c)])
  | _ => .fail
theorem even_ok : PureOK Tryd.prog (GG m t fr) 15 evenG := by
  refine PureOK.of (fn_cuts mixed E13_ok (fn := Tryd.f15) (cuts := cut1 0 (evCut (GG m t fr))) (by kernel_rfl) (CutLaws.one (by omega) (by kernel_rfl) fun st e st' h => cutOf_ok E13_ok mixed (noCuts_ok (envOf_cuts ..) _) evF_ok h)) fun ps p hp => ?_
  unfold evenG at hp
  split at hp
  · rename_i w many least most q c
    simp only [Tr.run, Option.some.injEq] at hp
    subst hp
    have h := even_raw m t fr w many least most c q
    unfold evS
    generalize posB least = a at h ⊢
    generalize posB most = b at h ⊢
    generalize posB c = d at h ⊢
    generalize posB many = e at h ⊢
    cases a with
    | true =>
      simp only [Bool.true_or] at h ⊢
      generalize evA w true b d e true = z at h ⊢
      cases z <;> exact ⟨_, Tr.run_of h rfl, PLe.of_eq rfl⟩
    | false =>
      cases b with
      | true =>
        simp only [Bool.true_or, Bool.false_or] at h ⊢
        generalize evA w false true d e true = z at h ⊢
        cases z <;> exact ⟨_, Tr.run_of h rfl, PLe.of_eq rfl⟩
      | false =>
        cases d with
        | true =>
          simp only [Bool.true_or, Bool.false_or] at h ⊢
          generalize evA w false false true e true = z at h ⊢
          cases z <;> exact ⟨_, Tr.run_of h rfl, PLe.of_eq rfl⟩
        | false =>
          simp only [Bool.false_or] at h ⊢
          generalize evA w false false false e e = z at h ⊢
          cases z <;> exact ⟨_, Tr.run_of h rfl, PLe.of_eq rfl⟩
  · cases hp
def agB (w many least most : Int) (l : List Sp) (c : Int) : Bool := (!(wb w 8) || (IntKind.u64.wrap many == c)) && ((!(wb w 1) || (least == (sp l 0).1)) && (!(wb w 2) || (most == (sp l (l.length - 1)).2)))
def agreesG : List PV → Tr PV
  | [.gptr [.lit (.int .u8 w), .lit (.int .i64 many), .lit (.int .u32 least), .lit (.int .u32 most), .gsl 2 n f, .lit (.int .u64 c)]] => .br (areSps n f && Nat.blt 0 n && Nat.ble n 4294967280) (.leaf (bool (agB w many least most (spsOf n f) c))) .fail
  | _ => .fail
theorem PLe.gptr {ps qs : List PV} (h : PLeL ps qs) : PLe (.gptr ps) (.gptr qs) := fun C m v hr => by
  cases hr with
  | gptr m cs b o g hc h' =>
    refine .gptr _ _ b o g (fun j hj => hc j (by rw [h.1]; exact hj)) fun j p hp => ?_
    have hlt := (List.getElem?_eq_some_iff.1 hp).1
    have hlt2 : j < ps.length := by rw [h.1]; exact hlt
    have hq : ps[j]? = some ps[j] := List.getElem?_eq_getElem hlt2
    exact h.2 j _ _ hq hp C _ _ (h' j _ hq)
theorem agrees_ok : PureOK Tryd.prog (GG m t fr) 16 agreesG := by
  intro ps p hp
  unfold agreesG at hp
  split at hp
  · rename_i w many least most n f c
    obtain ⟨hc, hp⟩ := br_run hp
    simp only [Bool.and_eq_true, Nat.blt_eq, Nat.ble_eq] at hc
    obtain ⟨⟨hf, h0⟩, hn⟩ := hc
    simp only [Tr.run, Option.some.injEq] at hp
    subst hp
    have hL := sps_len n f
    refine PureAt.pre (qs := [.gptr [.lit (.int .u8 w), int many, .lit (.int .u32 least), .lit (.int .u32 most), .gsl 2 n (sRow (spsOf n f)), .lit (.int .u64 c)]]) ?_ (PLeL.cons (PLe.gptr (PLeL.cons (.refl _) (PLeL.cons (.refl _) (PLeL.cons (.refl _) (PLeL.cons (.refl _) (PLeL.cons (PLe.gsl rfl (sps_row hf)) (.refl _))))))) .nil)
    have h := agrees_raw m t fr w many least most c n (spsOf n f)
    have hw : IntKind.i64.wrap ((n : Int) - 1) = ((n - 1 : Nat) : Int) := by
      have e : (n : Int) - 1 = ((n - 1 : Nat) : Int) := by omega
      rw [e]
      exact wrap_nat (by omega)
    have b1 : Nat.blt 0 n = true := by rw [Nat.blt_eq]; exact h0
    have b2 : Nat.blt (n - 1) n = true := by rw [Nat.blt_eq]; omega
    have b3 : decide ((0 : Int) ≤ ((n - 1 : Nat) : Int)) = true := by simp
    rw [hw, Int.toNat_natCast, b1, b2, b3] at h
    have hE := fn_pure mixed (E13_ok (m := m) (t := t) (fr := fr)) (envOf_cuts ..) (f := 16) (fn := Tryd.f16) (by kernel_rfl)
    unfold agB
    rw [hL]
    generalize wb w 8 = x8 at h ⊢
    generalize wb w 1 = x1 at h ⊢
    generalize wb w 2 = x2 at h ⊢
    generalize (IntKind.u64.wrap many == c) = y8 at h ⊢
    generalize (least == (sp (spsOf n f) 0).1) = y1 at h ⊢
    generalize (most == (sp (spsOf n f) (n - 1)).2) = y2 at h ⊢
    cases x8 <;> cases x1 <;> cases x2 <;> cases y8 <;> cases y1 <;> exact hE _ _ (Tr.run_of h rfl)
  · cases hp
def leB (a b : Int) : Bool := decide (a ≤ b)
def gtB (a b : Int) : Bool := decide (a > b)
def fiB (w many least most : Int) : Bool :=
  bif gtB (bif wb w 1 then least else 1) (bif wb w 2 then most else 4294967295) then false else bif !(wb w 8) then true else
    leB (IntKind.u64.wrap many) ((bif wb w 2 then most else 4294967295) - (bif wb w 1 then least else 1) + 1) && (!(wb w 1 && wb w 2) || (least == most || gtB many 1))
def fitsG : List PV → Tr PV
  | [.gptr [.lit (.int .u8 w), .lit (.int .i64 many), .lit (.int .u32 least), .lit (.int .u32 most), _, .lit (.int .u64 c)]] => .br (u32N least && u32N most) (.leaf (bool (fiB w many least most))) .fail
  | _ => .fail
theorem wrap_u64 {x : Int} (h : 0 ≤ x ∧ x < 18446744073709551616) : IntKind.u64.wrap x = x := by
  have e : IntKind.u64.wrap x = x % 18446744073709551616 := by simp [IntKind.wrap, IntKind.signed, IntKind.bits]
  rw [e]
  omega
theorem fits_ok : PureOK Tryd.prog (GG m t fr) 17 fitsG := by
  refine PureOK.of (fn_pure mixed E13_ok (envOf_cuts ..) (fn := Tryd.f17) (by kernel_rfl)) fun ps p hp => ?_
  unfold fitsG at hp
  split at hp
  · rename_i w many least most q c
    obtain ⟨hc, hp⟩ := br_run hp
    simp only [Bool.and_eq_true, u32N, decide_eq_true_eq] at hc
    obtain ⟨⟨l0, l1⟩, m0, m1⟩ := hc
    simp only [Tr.run, Option.some.injEq] at hp
    subst hp
    have h := fits_raw m t fr w many least most c q
    rw [wrap_u64 (x := least) (by omega), wrap_u64 (x := most) (by omega)] at h
    unfold fiB
    generalize wb w 1 = x1 at h ⊢
    generalize wb w 2 = x2 at h ⊢
    cases x1
    · cases x2
      · simp only [cond_true, cond_false, Bool.and_false, Bool.false_and, Bool.not_false, Bool.true_or, Bool.and_true] at h ⊢
        have e1 : gtB (1 : Int) 4294967295 = false := rfl
        rw [e1, cond_false]
        generalize wb w 8 = x8 at h ⊢
        have e2 : (4294967295 : Int) - 1 + 1 = 4294967295 := rfl
        rw [e2]
        unfold leB
        generalize decide (IntKind.u64.wrap many ≤ 4294967295) = y at h ⊢
        cases x8 <;> cases y <;> exact ⟨_, Tr.run_of h rfl, PLe.of_eq rfl⟩
      simp only [cond_true, cond_false, Bool.and_false, Bool.false_and, Bool.not_false, Bool.true_or, Bool.and_true] at h ⊢
      unfold leB gtB
      by_cases hd : 1 > most
      · rw [decide_eq_true hd] at h ⊢
        exact ⟨_, Tr.run_of h rfl, PLe.of_eq rfl⟩
      · rw [wrap_u64 (x := most - 1) (by omega), wrap_u64 (x := most - 1 + 1) (by omega), decide_eq_false hd] at h
        rw [decide_eq_false hd]
        generalize wb w 8 = x8 at h ⊢
        generalize decide (IntKind.u64.wrap many ≤ most - 1 + 1) = y at h ⊢
        cases x8 <;> cases y <;> exact ⟨_, Tr.run_of h rfl, PLe.of_eq rfl⟩
    · cases x2
      · simp only [cond_true, cond_false, Bool.and_false, Bool.false_and, Bool.not_false, Bool.true_or, Bool.and_true] at h ⊢
        unfold leB gtB
        by_cases hd : least > 4294967295
        · rw [decide_eq_true hd] at h ⊢
          exact ⟨_, Tr.run_of h rfl, PLe.of_eq rfl⟩
        · rw [wrap_u64 (x := 4294967295 - least) (by omega), wrap_u64 (x := 4294967295 - least + 1) (by omega), decide_eq_false hd] at h
          rw [decide_eq_false hd]
          generalize wb w 8 = x8 at h ⊢
          generalize decide (IntKind.u64.wrap many ≤ 4294967295 - least + 1) = y at h ⊢
          cases x8 <;> cases y <;> exact ⟨_, Tr.run_of h rfl, PLe.of_eq rfl⟩
      simp only [cond_true, cond_false, Bool.and_false, Bool.false_and, Bool.not_false, Bool.not_true, Bool.true_or, Bool.false_or, Bool.and_true] at h ⊢
      unfold leB gtB
      by_cases hd : least > most
      · rw [decide_eq_true hd] at h ⊢
        exact ⟨_, Tr.run_of h rfl, PLe.of_eq rfl⟩
      · rw [wrap_u64 (x := most - least) (by omega), wrap_u64 (x := most - least + 1) (by omega), decide_eq_false hd] at h
        rw [decide_eq_false hd]
        generalize wb w 8 = x8 at h ⊢
        generalize decide (IntKind.u64.wrap many ≤ most - least + 1) = y at h ⊢
        generalize (least == most) = z at h ⊢
        cases x8 <;> cases y <;> cases z <;> exact ⟨_, Tr.run_of h rfl, PLe.of_eq rfl⟩
  · cases hp
end
end Go.Proofs.YtcdghinmmhcfcaaDoor.Ev
