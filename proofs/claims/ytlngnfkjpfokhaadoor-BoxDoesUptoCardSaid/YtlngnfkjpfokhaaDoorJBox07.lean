/- JBox07: several texts in one. Condition: each part's own. -/
import Derived.Test.YtlngnfkjpfokhaaDoorJBox06
import Derived.Sort.Grow
import Derived.Lib.ConvBytes
import Derived.Deep.Draws
import Derived.Test.YtlngnfkjpfokhaaDoorShelf
import Derived.Lib.AppendIntMem
import Derived.Lib.Split
import Derived.WalkKit
import Derived.BigCall
import Derived.BigGuard
/- Loops and jumps over the evaluator: what is kept from round to round, and what comes out. No condition. -/
namespace Go.Proofs.YtlngnfkjpfokhaaDoor.Ev
open Go Go.RowKit
set_option linter.unusedVariables false
set_option linter.unusedSimpArgs false

/-- where one's own places are told: in a slot; in a cell of one that was told before; in what the function in a slot caught -/
inductive Ref where
  | slot (k : Nat)
  | cell (i off : Nat)
  | cap (k i : Nat)
def idOfPV : PV → Option Nat
  | .own id => some id
  | .ptr id _ => some id
  | .optr id _ _ _ => some id
  | _ => none
def refIds (st : St) : List Ref → List Nat → Option (List Nat)
  | [], acc => some acc
  | .slot k :: r, acc => match look st.slots k with
    | some p => match idOfPV p with
      | some id => refIds st r (acc ++ [id])
      | none => none
    | none => none
  | .cell i off :: r, acc => match acc[i]? with
    | some id => match look st.mem.blks id with
      | some (.cells _ cs) => match cs[off]? with
        | some p => match idOfPV p with
          | some id => refIds st r (acc ++ [id])
          | none => none
        | none => none
      | _ => none
    | none => none
  | .cap k i :: r, acc => match look st.slots k with
    | some (.clo _ ps) => match ps[i]? with
      | some p => match idOfPV p with
        | some id => refIds st r (acc ++ [id])
        | none => none
      | none => none
    | _ => none
def idxOf : List Nat → Nat → Nat → Option Nat
  | [], _, _ => none
  | x :: r, id, i => match Nat.beq x id with
    | true => some i
    | false => idxOf r id (i + 1)
theorem idxOf_ok : ∀ {ids : List Nat} {id i j : Nat}, idxOf ids id i = some j → ∃ k, j = i + k ∧ ids[k]? = some id
  | [], id, i, j, h => by cases h
  | x :: r, id, i, j, h => by
    unfold idxOf at h
    split at h
    · rename_i hb
      cases h
      exact ⟨0, rfl, by rw [Nat.eq_of_beq_eq_true hb]; rfl⟩
    · obtain ⟨k, hk, hr⟩ := idxOf_ok h
      exact ⟨k + 1, by omega, by simpa using hr⟩
def ndup : List Nat → Bool
  | [] => true
  | x :: r => !(r.any (Nat.beq x)) && ndup r
theorem ndup_ok : ∀ {ids : List Nat}, ndup ids = true → ∀ {i j a : Nat}, ids[i]? = some a → ids[j]? = some a → i = j
  | [], h, i, j, a, hi, hj => by simp at hi
  | x :: r, h, i, j, a, hi, hj => by
    simp only [ndup, Bool.and_eq_true, Bool.not_eq_true', List.any_eq_false] at h
    have hx : ∀ {j : Nat}, r[j]? = some x → False := fun hj => h.1 x (List.mem_of_getElem? hj) (by simp)
    cases i with
    | zero =>
      simp at hi
      subst hi
      cases j with
      | zero => rfl
      | succ j => exact (hx (by simpa using hj)).elim
    | succ i =>
      cases j with
      | zero =>
        simp at hj
        subst hj
        exact (hx (by simpa using hi)).elim
      | succ j => rw [ndup_ok h.2 (by simpa using hi : r[i]? = some a) (by simpa using hj)]
/-- one's own places get new numbers -/
def ren (ids : List Nat) : PV → PV
  | .own id => match idxOf ids id 0 with
    | some i => .own i
    | none => .junk
  | .ptr id off => match idxOf ids id 0 with
    | some i => .ptr i off
    | none => .junk
  | .optr id sz i j => match idxOf ids id 0 with
    | some k => .optr k sz i j
    | none => .junk
  | _ => .junk
def renB (ids : List Nat) : Blk → Blk
  | .cells ty cs => .cells ty (PV.subL (ren ids) cs)
  | b => b
theorem ren_rep {C : Nat → Nat → Value → Prop} {m : Nat → Option Value} {ids : List Nat} {p : PV} {v : Value} (ha : Atom p) (hr : Rep C m p v) {C' : Nat → Nat → Value → Prop} : Rep C' (fun i => (ids[i]?).bind m) (ren ids p) v := by
  cases ha with
  | own id =>
    cases hr with
    | own m id v hm h1 =>
      simp only [ren]
      split
      · rename_i i hi
        obtain ⟨k, hk, hid⟩ := idxOf_ok hi
        have : i = k := by omega
        subst this
        exact .own _ _ v (by simp [hid, hm]) h1
      · exact .junk _ _
  | ptr id off =>
    cases hr with
    | ptr m id off b hm =>
      simp only [ren]
      split
      · rename_i i hi
        obtain ⟨k, hk, hid⟩ := idxOf_ok hi
        have : i = k := by omega
        subst this
        exact .ptr _ _ _ _ (by simp [hid, hm])
      · exact .junk _ _
  | optr id sz i j =>
    cases hr with
    | optr m id sz i j b n cap hm =>
      simp only [ren]
      split
      · rename_i k' hi
        obtain ⟨k, hk, hid⟩ := idxOf_ok hi
        have : k' = k := by omega
        subst this
        exact .optr _ _ _ _ _ b n cap (by simp [hid, hm])
      · exact .junk _ _
def getAll {α : Type} (l : List (Nat × α)) : List Nat → Option (List α)
  | [] => some []
  | k :: r => match look l k, getAll l r with
    | some p, some ps => some (p :: ps)
    | _, _ => none
theorem getAll_len {α : Type} {l : List (Nat × α)} : ∀ {ks : List Nat} {ps : List α}, getAll l ks = some ps → ps.length = ks.length
  | [], ps, h => by cases h; rfl
  | k :: r, ps, h => by
    unfold getAll at h
    split at h
    · rename_i p ps' hp hps
      cases h
      simp [getAll_len hps]
    · cases h
theorem getAll_get {α : Type} {l : List (Nat × α)} : ∀ {ks : List Nat} {ps : List α}, getAll l ks = some ps → ∀ {i k : Nat}, ks[i]? = some k → ∃ p, ps[i]? = some p ∧ look l k = some p
  | [], ps, h, i, k, hi => by simp at hi
  | k :: r, ps, h, i, k', hi => by
    unfold getAll at h
    split at h
    · rename_i p ps' hp hps
      cases h
      cases i with
      | zero =>
        simp at hi
        subst hi
        exact ⟨p, rfl, hp⟩
      | succ i => exact getAll_get hps (by simpa using hi)
    · cases h
/-- what is kept: slots, and one's own places -/
abbrev Kept := List PV × List Blk
/-- a slot that may hold no row yet: its row's element, and how many cells that has -/
def nilRows : List (Nat × TypeId × Nat) → St → St
  | [], st => st
  | (k, e, sz) :: r, st => match look st.slots k with
    | some (.lit (.slice none 0 0)) => nilRows r ⟨st.n, setL st.slots k (.own st.mem.nid), st.mem.new (.row e sz 0 fun _ => [])⟩
    | _ => nilRows r st
/-- the block that a slot points to; 1000000 * (i + 1) + k: the i-th of what the function in slot k caught -/
def ptrAt (st : St) (k : Nat) : Option Nat := match Nat.blt k 1000000 with
  | true => match look st.slots k with
    | some (.ptr id 0) => some id
    | _ => none
  | false => match look st.slots (k % 1000000) with
    | some (.clo _ ps) => match ps[k / 1000000 - 1]? with
      | some (.ptr id 0) => some id
      | _ => none
    | _ => none
/-- a cell of one's own block that may hold no row yet: the slot that points to the block, the cell, the row's element, and how many cells that has -/
def nilCells : List (Nat × Nat × TypeId × Nat) → St → St
  | [], st => st
  | (k, c, e, sz) :: r, st => match ptrAt st k with
    | some id => match look st.mem.blks id with
      | some (.cells ty cs) => match cs[c]? with
        | some (.lit (.slice none 0 0)) => nilCells r ⟨st.n, st.slots, ⟨setL (st.mem.new (.row e sz 0 fun _ => [])).blks id (.cells ty (cs.set c (.own st.mem.nid))), st.mem.nid + 1, st.mem.glob⟩⟩
        | _ => nilCells r st
      | _ => nilCells r st
    | _ => nilCells r st
/-- rows that are written no more from here: these slots hold them as slices -/
def frzSlots : List Nat → St → St
  | [], st => st
  | k :: r, st => match look st.slots k with
    | some (.own id) => match look st.mem.blks id with
      | some (.row _ sz n f) => frzSlots r ⟨st.n, setL st.slots k (.gsl sz n f), ⟨setL st.mem.blks id (.frz sz n f), st.mem.nid, st.mem.glob⟩⟩
      | _ => frzSlots r st
    | _ => frzSlots r st
structure Outs where
  ks : List Nat
  rs : List Ref := []
  nils : List (Nat × TypeId × Nat) := []
  nilc : List (Nat × Nat × TypeId × Nat) := []
  pin : Bool := false
  pins : Nat := 0
  frz : List Nat := []
/-- how many of one's own places stay where they are -/
def Outs.pinN (o : Outs) : Nat := match o.pin with
  | true => 1
  | false => o.pins
def pinGo : Nat → Nat → List Nat → Bool
  | 0, _, _ => true
  | _ + 1, _, [] => false
  | k + 1, i, x :: r => Nat.beq x i && pinGo k (i + 1) r
/-- the first of one's own places are the first still -/
def pinOK (y : Nat) (ids : List Nat) : Bool := pinGo y 0 ids
theorem pinGo_at : ∀ {k i : Nat} {ids : List Nat}, pinGo k i ids = true → ∀ j, j < k → ids[j]? = some (i + j)
  | 0, i, ids, h, j, hj => by omega
  | k + 1, i, [], h, j, hj => by cases h
  | k + 1, i, x :: r, h, j, hj => by
    simp only [pinGo, Bool.and_eq_true] at h
    have hx := Nat.eq_of_beq_eq_true h.1
    subst hx
    cases j with
    | zero => rfl
    | succ j =>
      have := pinGo_at h.2 j (by omega)
      rw [List.getElem?_cons_succ, this]
      congr 1
      omega
theorem pinOK_at {y : Nat} {ids : List Nat} (h : pinOK y ids = true) {i : Nat} (hi : i < y) : ids[i]? = some i := by
  have := pinGo_at h i hi
  rwa [Nat.zero_add] at this
def headOf (N : Nat) (o : Outs) (st0 : St) : Option Kept :=
  match frzSlots o.frz (nilCells o.nilc (nilRows o.nils st0)) with
  | st => match Nat.beq st.n N, refIds st o.rs [] with
    | true, some ids => match ndup ids && pinOK o.pinN ids, getAll st.mem.blks ids, getAll st.slots o.ks with
      | true, some bs, some ps => some (PV.subL (ren ids) ps, bs.map (renB ids))
      | _, _, _ => none
    | _, _ => none
def zipK : List Nat → List PV → List (Nat × PV)
  | k :: ks, p :: ps => (k, p) :: zipK ks ps
  | _, _ => []
def stOf (N : Nat) (G : GT) (ks : List Nat) (x : Kept) : St := ⟨N, zipK ks x.1, ⟨number x.2 0, x.2.length, G⟩⟩

def Pn (y : Nat) (m m' : Nat → Option Value) : Prop := ∀ i, i < y → ∀ v, m i = some v → m' i = some v
theorem Pn.refl (y : Nat) (m : Nat → Option Value) : Pn y m m := fun _ _ _ h => h
theorem Pn.trans {y : Nat} {m m' m'' : Nat → Option Value} (h : Pn y m m') (k : Pn y m' m'') : Pn y m m'' := fun i hi v hv => k i hi v (h i hi v hv)
def Mode.pinned : Mode → Nat
  | .pins k => k
  | _ => 0
theorem ExtM.pre {x : Mode} (hx : x ≠ .full) {β : Base} {M M1 M' : Mem} {m m1 m' : Nat → Option Value} {w w1 w' : World} (h : Pn x.pinned m m1) (k : ExtM x β M1 m1 w1 M' m' w') : ExtM x β M m w M' m' w' := by
  cases x with
  | full => exact absurd rfl hx
  | pins j => exact fun i hi v hv => k i hi v (h i hi v hv)
  | none => trivial
theorem ExtM.post {x : Mode} (hx : x ≠ .full) {β : Base} {M M1 M' : Mem} {m m1 m' : Nat → Option Value} {w w1 w' : World} (k : ExtM x β M m w M1 m1 w1) (h : Pn x.pinned m1 m') : ExtM x β M m w M' m' w' := by
  cases x with
  | full => exact absurd rfl hx
  | pins j => exact fun i hi v hv => h i hi v (k i hi v hv)
  | none => trivial
/-- whatever st tells, st' tells too, with other numbers for one's own places -/
def LessR (y : Nat) (G : GT) (st st' : St) : Prop := ∀ (β : Base), β.G = G → ∀ (m : Nat → Option Value) (a : Act) (w : World), Rel β st m a w → ∃ m', Rel β st' m' a w ∧ Pn y m m'
theorem LessR.trans {y : Nat} {G : GT} {s t u : St} (h : LessR y G s t) (k : LessR y G t u) : LessR y G s u := fun β hG m a w r =>
  let ⟨m1, r1, p1⟩ := h β hG m a w r
  let ⟨m2, r2, p2⟩ := k β hG m1 a w r1
  ⟨m2, r2, p1.trans p2⟩
theorem nilRows_less {y : Nat} {G : GT} : ∀ (l : List (Nat × TypeId × Nat)) (st : St), LessR y G st (nilRows l st)
  | [], st => fun β hG m a w r => ⟨m, r, .refl _ _⟩
  | (k, e, sz) :: r, st => by
    unfold nilRows
    split
    · rename_i hl
      refine LessR.trans (fun β hG m a w h => ?_) (nilRows_less r _)
      obtain ⟨v, hv, hr⟩ := h.slots k _ hl
      have := litOf_rep hr rfl
      subst this
      obtain ⟨hM, hE⟩ := h.mem.grow (.row e sz 0 fun _ => []) (.slice none 0 0) (Keeps.refl _ _) (fun _ _ => rfl) (fun k hk => by cases hk) fun he =>
        .row e sz 0 _ _ [] (upd_same ..) (World.ownsRow_nil w _ _ _) (fun k hk => by cases hk) (by simp) (fun i hi => by omega) fun i j p hi => by omega
      refine ⟨_, ⟨h.size, h.defers, fun i p hp => ?_, hM⟩, fun i _ v hv => hE.own i v hv⟩
      simp only [look_setL] at hp
      by_cases hi : k = i
      · subst hi
        rw [if_pos rfl] at hp
        cases hp
        exact ⟨_, hv, .own _ _ _ (upd_same ..) rfl⟩
      · rw [if_neg hi] at hp
        obtain ⟨u, hu, hru⟩ := h.slots i p hp
        exact ⟨u, hu, hru.ext hE⟩
    · exact nilRows_less r st
theorem nilCells_less {y : Nat} {G : GT} : ∀ (l : List (Nat × Nat × TypeId × Nat)) (st : St), LessR y G st (nilCells l st)
  | [], st => fun β hG m a w r => ⟨m, r, .refl _ _⟩
  | (k, c, e, sz) :: r, st => by
    unfold nilCells
    split
    · rename_i id hl
      split
      · rename_i ty cs hb
        split
        · rename_i hc
          refine LessR.trans (fun β hG m a w h => ?_) (nilCells_less r _)
          obtain ⟨hM, hE⟩ := h.mem.grow (.row e sz 0 fun _ => []) (.slice none 0 0) (Keeps.refl _ _) (fun _ _ => rfl) (fun k hk => by cases hk) fun he =>
            .row e sz 0 _ _ [] (upd_same ..) (World.ownsRow_nil w _ _ _) (fun k hk => by cases hk) (by simp) (fun i hi => by omega) fun i j p hi => by omega
          have hne : st.mem.nid ≠ id := by
            intro he
            have hbr := h.mem.blk id _ hb
            cases hbr with
            | cells _ _ b vs hm hhb hl h1 hh hB => exact absurd (h.mem.lt hm) (by omega)
          have hlk : look (st.mem.new (.row e sz 0 fun _ => [])).blks id = some (.cells ty cs) := by
            unfold Mem.new
            rw [look_cons, if_neg hne]
            exact hb
          have hbr := hM.blk id _ hlk
          cases hbr with
          | cells _ _ b vs hm hhb hlen h1 hh hB =>
            obtain ⟨hW, hE2⟩ := hM.write id (.cells ty cs) (.cells ty (cs.set c (.own st.mem.nid))) hlk rfl rfl _ hm (Keeps.refl _ _) (fun _ _ => rfl) fun hx => by
              refine .cells ty _ b vs hm hhb (by rw [List.length_set]; exact hlen) h1 (fun i p v hp hv => ?_) hB
              rw [List.getElem?_set] at hp
              split at hp
              · rename_i hci
                subst hci
                split at hp
                · simp only [Option.some.injEq] at hp
                  subst hp
                  have hr := hh c _ v hc hv
                  have := litOf_rep hr rfl
                  subst this
                  exact .own _ _ _ (upd_same ..) rfl
                · cases hp
              · exact (hh i p v hp hv).ext hx
            refine ⟨_, ⟨h.size, h.defers, fun i p hp => ?_, hW⟩, fun i _ v hv => hE2.own i v (hE.own i v hv)⟩
            obtain ⟨u, hu, hru⟩ := h.slots i p hp
            exact ⟨u, hu, (hru.ext hE).ext hE2⟩
        · exact nilCells_less r st
      · exact nilCells_less r st
    · exact nilCells_less r st
theorem frzSlots_less {y : Nat} {G : GT} : ∀ (l : List Nat) (st : St), LessR y G st (frzSlots l st)
  | [], st => fun β hG m a w r => ⟨m, r, .refl _ _⟩
  | k :: r, st => by
    unfold frzSlots
    split
    · rename_i id hl
      split
      · rename_i e sz n f hb
        refine LessR.trans (fun β hG m a w h => ?_) (frzSlots_less r _)
        obtain ⟨hM, hE⟩ := h.mem.freeze hb
        refine ⟨m, ⟨h.size, h.defers, fun i p hp => ?_, hM⟩, .refl _ _⟩
        simp only [look_setL] at hp
        by_cases hi : k = i
        · subst hi
          rw [if_pos rfl] at hp
          cases hp
          obtain ⟨v, hv, hr⟩ := h.slots k _ hl
          have hr' := hr.ext hE
          cases hr' with
          | own _ id v hm h1 =>
            have hbr := hM.blk id (.frz sz n f) (by rw [look_setL, if_pos rfl])
            cases hbr with
            | frz sz n f u hu h1u hru hk =>
              rw [hm] at hu
              cases hu
              refine ⟨v, hv, ?_⟩
              cases hru with
              | gnil => exact .gnil _ _ _
              | gspt _ _ _ a => exact .gspt _ _ _ a
              | gsl _ sz n f b o cap g hc hl h hcap => exact .gsl _ sz n f b o cap g hc hl h hcap
        · rw [if_neg hi] at hp
          obtain ⟨u, hu, hru⟩ := h.slots i p hp
          exact ⟨u, hu, hru.ext hE⟩
      · exact frzSlots_less r st
    · exact frzSlots_less r st
theorem look_zipK : ∀ (ks : List Nat) (ps : List PV) (i : Nat) (p : PV), look (zipK ks ps) i = some p → ∃ j : Nat, ks[j]? = some i ∧ ps[j]? = some p
  | [], ps, i, p, h => by simp [zipK, look] at h
  | k :: ks, [], i, p, h => by simp [zipK, look] at h
  | k :: ks, q :: ps, i, p, h => by
    unfold zipK at h
    rw [look_cons] at h
    by_cases hk : k = i
    · rw [if_pos hk] at h
      cases h
      exact ⟨0, by simp [hk], rfl⟩
    · rw [if_neg hk] at h
      obtain ⟨j, h1, h2⟩ := look_zipK ks ps i p h
      exact ⟨j + 1, by simpa using h1, by simpa using h2⟩
theorem head_less {y : Nat} {G : GT} {N : Nat} {o : Outs} (hy : Nat.blt 0 y = true → Nat.ble y o.pinN = true) {st : St} {x : Kept} (h : headOf N o st = some x) : LessR y G st (stOf N G o.ks x) := by
  unfold headOf at h
  dsimp only at h
  refine LessR.trans (nilRows_less o.nils st) (LessR.trans (nilCells_less o.nilc _) (LessR.trans (frzSlots_less o.frz _) ?_))
  generalize frzSlots o.frz (nilCells o.nilc (nilRows o.nils st)) = st at h
  split at h
  · rename_i ids hn hids
    split at h
    · rename_i bs ps hnd hbs hps
      cases h
      have hn := Nat.eq_of_beq_eq_true hn
      rw [Bool.and_eq_true] at hnd
      obtain ⟨hnd, hpn⟩ := hnd
      intro β hG m a w r
      have hcell : ∀ b o v, Cell β w st.mem m b o v → Cell β w ⟨number (bs.map (renB ids)) 0, (bs.map (renB ids)).length, G⟩ (fun i => (ids[i]?).bind m) b o v := by
        rintro b o v ⟨h1, h2, h3⟩
        refine ⟨?_, h2, h3⟩
        rintro ⟨id, u, hs, hu, hb⟩
        dsimp only at hu
        cases hid : ids[id]? with
        | none => rw [hid] at hu; cases hu
        | some k =>
          rw [hid] at hu
          refine h1 ⟨k, u, ?_, hu, hb⟩
          obtain ⟨bb, hbb, hlv⟩ := liv_some hs
          rw [look_number] at hbb
          simp only [Nat.zero_le, if_true, Nat.sub_zero, List.getElem?_map] at hbb
          obtain ⟨q, hq, hlk⟩ := getAll_get hbs hid
          rw [hq] at hbb
          simp only [Option.map_some, Option.some.injEq] at hbb
          rw [liv_of hlk]
          subst hbb
          cases q <;> exact hlv
      refine ⟨fun i => (ids[i]?).bind m, ⟨by rw [r.size]; exact hn, r.defers, fun i p hp => ?_, ⟨fun id b hb => ?_, fun id hid => ?_, fun i j v v' b hi hj hv hv' hb hb' => ?_, r.mem.bsz, r.mem.below, fun g cs hg => ?_, hG.symm, r.mem.objs⟩⟩, fun i0 hyt v hv => ?_⟩
      · obtain ⟨j, h1, h2⟩ := look_zipK _ _ _ _ hp
        rw [subL_get] at h2
        obtain ⟨q, hq, hlk⟩ := getAll_get hps h1
        rw [hq] at h2
        cases h2
        obtain ⟨v, hv, hr⟩ := r.slots i q hlk
        exact ⟨v, hv, hr.sub hcell fun p v ha hr => ren_rep ha hr⟩
      · dsimp only [stOf] at hb
        rw [look_number] at hb
        simp only [Nat.zero_le, if_true, Nat.sub_zero, List.getElem?_map] at hb
        cases hq : bs[id]? with
        | none => rw [hq] at hb; cases hb
        | some q =>
          rw [hq] at hb
          cases hb
          have hlt : id < ids.length := by
            have := (List.getElem?_eq_some_iff.1 hq).1
            rw [getAll_len hbs] at this
            exact this
          have hid : ids[id]? = some ids[id] := List.getElem?_eq_getElem hlt
          obtain ⟨q', hq', hlk⟩ := getAll_get hbs hid
          rw [hq] at hq'
          cases hq'
          have hbk := r.mem.blk _ _ hlk
          cases hbk with
          | cells ty cs b vs hm hb hl h1 hr hB =>
            refine .cells ty _ b vs (by simp [hid, hm]) hb (by rw [subL_length]; exact hl) h1 (fun i p v hp hv => ?_) hB
            rw [subL_get] at hp
            cases hc : cs[i]? with
            | none => rw [hc] at hp; cases hp
            | some c =>
              rw [hc] at hp
              cases hp
              exact (hr i c v hc hv).sub hcell fun p v ha hr => ren_rep ha hr
          | row e sz n f v xs hm ho hKr h1 hl hr =>
            exact .row e sz n f v xs (by simp [hid, hm]) ho hKr h1 hl fun i j p hi hp =>
              let ⟨x, hx, hrr⟩ := hr i j p hi hp
              ⟨x, hx, hrr.mono hcell fun _ _ h => h⟩
          | frz sz n f v hm h1 hr hk => exact .frz sz n f v (by simp [hid, hm]) h1 (hr.mono hcell fun _ _ h => h) hk
      · dsimp only [stOf] at hid
        rw [List.length_map, getAll_len hbs] at hid
        try dsimp only
        rw [List.getElem?_eq_none hid]
        rfl
      · have live : ∀ {i : Nat} {v : Value}, liv (number (bs.map (renB ids)) 0) i = true → (ids[i]?).bind m = some v → ∃ k, ids[i]? = some k ∧ liv st.mem.blks k = true ∧ m k = some v := by
          intro i v hi hv
          cases hid : ids[i]? with
          | none => rw [hid] at hv; cases hv
          | some k =>
            rw [hid] at hv
            refine ⟨k, rfl, ?_, hv⟩
            obtain ⟨bb, hbb, hlv⟩ := liv_some hi
            rw [look_number] at hbb
            simp only [Nat.zero_le, if_true, Nat.sub_zero, List.getElem?_map] at hbb
            obtain ⟨q, hq, hlk⟩ := getAll_get hbs hid
            rw [hq] at hbb
            simp only [Option.map_some, Option.some.injEq] at hbb
            rw [liv_of hlk]
            subst hbb
            cases q <;> exact hlv
        obtain ⟨k, hk, hlk, hmk⟩ := live hi hv
        obtain ⟨k', hk', hlk', hmk'⟩ := live hj hv'
        have := r.mem.inj k k' v v' b hlk hlk' hmk hmk' hb hb'
        subst this
        exact ndup_ok hnd hk hk'
      · exact (r.mem.glob g cs (by rw [r.mem.gl, hG]; exact hg)).mono hcell fun _ _ h => h
      · have h0 := Nat.le_of_ble_eq_true (hy (by rw [Nat.blt_eq]; omega))
        have := pinOK_at hpn (i := i0) (by omega)
        show (ids[i0]?).bind m = some v
        rw [this]
        exact hv
    · cases h
  · cases h

/-- a block tells what another one tells -/
inductive BLe : Blk → Blk → Prop where
  | refl (b : Blk) : BLe b b
  | cells (ty : TypeId) {cs cs' : List PV} (h : PLeL cs cs') : BLe (.cells ty cs) (.cells ty cs')
  | row (e sz : Nat) {n n' : Nat} {f g : Nat → List PV} (hn : n = n') (h : ∀ i, i < n → f i = g i) : BLe (.row e sz n f) (.row e sz n' g)
  | frz (sz : Nat) {n n' : Nat} {f g : Nat → List PV} (hn : n = n') (h : ∀ i, i < n → f i = g i) : BLe (.frz sz n f) (.frz sz n' g)
def BLeL (l l' : List Blk) : Prop := l.length = l'.length ∧ ∀ (i : Nat) (b b' : Blk), l[i]? = some b → l'[i]? = some b' → BLe b b'
theorem BLeL.nil : BLeL [] [] := ⟨rfl, fun i p q h => by simp at h⟩
theorem BLeL.cons {p q : Blk} {ps qs : List Blk} (h : BLe p q) (hs : BLeL ps qs) : BLeL (p :: ps) (q :: qs) :=
  ⟨by simp [hs.1], fun i a b ha hb => by
    cases i with
    | zero =>
      simp at ha hb
      subst ha
      subst hb
      exact h
    | succ i => exact hs.2 i a b (by simpa using ha) (by simpa using hb)⟩
theorem BLeL.refl : ∀ (l : List Blk), BLeL l l
  | [] => .nil
  | b :: r => .cons (.refl b) (BLeL.refl r)
theorem BLe.liv {b b' : Blk} (h : BLe b b') : b.liv = b'.liv := by cases h <;> rfl
theorem BRep.le {C : Nat → Nat → Value → Prop} {m : Nat → Option Value} {β : Base} {w : World} {id : Nat} {b b' : Blk} (h : BLe b b') (hr : BRep C m β w id b) : BRep C m β w id b' := by
  cases h with
  | refl => exact hr
  | @cells ty cs cs' h =>
    cases hr with
    | cells ty cs b vs hm hb hl h1 hr hB =>
      refine .cells ty _ b vs hm hb (h.1 ▸ hl) h1 (fun i q v hq hv => ?_) hB
      have hi : i < cs.length := by
        rw [h.1]
        exact (List.getElem?_eq_some_iff.1 hq).1
      exact h.2 i _ q (List.getElem?_eq_getElem hi) hq _ _ _ (hr i _ v (List.getElem?_eq_getElem hi) hv)
  | @row e sz n n' f g hn h =>
    subst hn
    cases hr with
    | row e sz n f v xs hm ho hKr h1 hl hr => exact .row e sz n g v xs hm ho hKr h1 (fun i hi => by rw [← h i hi]; exact hl i hi) fun i j p hi hp => hr i j p hi (by rw [h i hi]; exact hp)
  | frz sz hn h =>
    cases hr with
    | frz sz n f v hm h1 hr hk => exact .frz sz _ _ v hm h1 (PLe.gsl hn h _ _ _ hr) hk
def KLe (x y : Kept) : Prop := PLeL x.1 y.1 ∧ BLeL x.2 y.2
theorem stOf_le0 {G : GT} {N : Nat} {ks : List Nat} {x y : Kept} (h : KLe x y) : ∀ (β : Base), β.G = G → ∀ (m : Nat → Option Value) (a : Act) (w : World), Rel β (stOf N G ks x) m a w → Rel β (stOf N G ks y) m a w := by
  obtain ⟨xs, xb⟩ := x
  obtain ⟨ys, yb⟩ := y
  obtain ⟨hs, hb⟩ := h
  intro β hG m a w r
  have hbl : xb.length = yb.length := hb.1
  have hlk : ∀ i b', look (number yb 0) i = some b' → ∃ b, look (number xb 0) i = some b ∧ BLe b b' := by
    intro i b' hb'
    rw [look_number] at hb' ⊢
    simp only [Nat.zero_le, if_true, Nat.sub_zero] at hb' ⊢
    have hi : i < xb.length := by
      rw [hb.1]
      exact (List.getElem?_eq_some_iff.1 hb').1
    exact ⟨xb[i], List.getElem?_eq_getElem hi, hb.2 i _ b' (List.getElem?_eq_getElem hi) hb'⟩
  have hliv : ∀ i, liv (number yb 0) i = true → liv (number xb 0) i = true := by
    intro i hi
    obtain ⟨b', hb', hl⟩ := liv_some hi
    obtain ⟨b, hb, hle⟩ := hlk i b' hb'
    rw [liv_of hb, hle.liv]
    exact hl
  have hmem := r.mem
  dsimp only [stOf] at hmem
  have he : Ext β ⟨number xb 0, xb.length, G⟩ m w ⟨number yb 0, yb.length, G⟩ m w := ext_of (fun _ _ h => h) (fun _ _ _ => rfl) (fun k hk hL => by
    obtain ⟨i, u, hs, hm, hbu⟩ := hL
    exact ⟨i, u, hliv i hs, hm, hbu⟩) rfl
  refine ⟨r.size, r.defers, fun i p hp => ?_, ⟨fun id b' hb' => ?_, fun id hid => hmem.fresh id (Nat.le_trans (Nat.le_of_eq hbl) hid), fun i j v v' b hi hj => hmem.inj i j v v' b (hliv i hi) (hliv j hj), hmem.bsz, hmem.below,
    fun g cs hg => (hmem.glob g cs hg).mono he.cell fun _ _ h => h, hmem.gl, hmem.objs⟩⟩
  · dsimp only [stOf] at hp
    have : ∀ (ks : List Nat) (xs ys : List PV), PLeL xs ys → look (zipK ks ys) i = some p → ∃ q, look (zipK ks xs) i = some q ∧ PLe q p := by
      intro ks
      induction ks with
      | nil => intro xs ys _ h; simp [zipK, look] at h
      | cons k ks ih =>
        intro xs ys hle h
        cases ys with
        | nil => simp [zipK, look] at h
        | cons y ys =>
          cases xs with
          | nil => cases hle.1
          | cons x xs =>
            unfold zipK at h ⊢
            rw [look_cons] at h ⊢
            by_cases hk : k = i
            · rw [if_pos hk] at h ⊢
              cases h
              exact ⟨x, rfl, hle.2 0 x _ rfl rfl⟩
            · rw [if_neg hk] at h ⊢
              exact ih xs ys ⟨by simpa using hle.1, fun i a b ha hb => hle.2 (i + 1) a b (by simpa using ha) (by simpa using hb)⟩ h
    obtain ⟨q, hq, hle⟩ := this ks xs ys hs hp
    obtain ⟨v, hv, hr⟩ := r.slots i q hq
    exact ⟨v, hv, hle _ _ _ (hr.ext he)⟩
  · obtain ⟨b, hb, hle⟩ := hlk id b' hb'
    exact ((hmem.blk id b hb).turn he (Nat.le_refl _) fun _ u k hu hk => rfl).le hle

theorem stOf_le {G : GT} {N : Nat} {ks : List Nat} {b : Nat} {x y : Kept} (h : KLe x y) : LessR b G (stOf N G ks x) (stOf N G ks y) := fun β hG m a w r => ⟨m, stOf_le0 h β hG m a w r, .refl _ _⟩
section
variable {P : Program} {E : Env} {n : Nat} {G : GT} {c : Code}
theorem Run.pre {x : Mode} (hx : x ≠ .full) {st st1 st' : St} {e : Exit} (h : LessR x.pinned G st st1) (k : Run x P G c st1 e st') : Run x P G c st e st' := by
  intro β hG m a w r
  obtain ⟨m1, r1, p1⟩ := h β hG m a w r
  refine wp_mono (k β hG m1 a w r1) ?_
  rintro e' a' w' ⟨rfl, m', hext, hrel⟩
  exact ⟨rfl, m', hext.pre hx p1, hrel⟩
theorem Run.post {x : Mode} (hx : x ≠ .full) {st st1 st' : St} {e : Exit} (k : Run x P G c st e st1) (h : LessR x.pinned G st1 st') : Run x P G c st e st' := by
  intro β hG m a w r
  refine wp_mono (k β hG m a w r) ?_
  rintro e' a' w' ⟨rfl, m', hext, hrel⟩
  obtain ⟨m1, r1, p1⟩ := h β hG m' a' w' hrel
  exact ⟨rfl, m1, hext.post hx p1, r1⟩
/-- one round: what is kept, and how it ends -/
def roundT (P : Program) (E : Env) (n : Nat) (G : GT) (N : Nat) (outs : Exit → Outs) (cont : Exit) (c : Code) (x : Kept) : Tr (Exit × Kept) :=
  (ev P E n c (stOf N G (outs cont).ks x)).bind fun r => match headOf N (outs r.1) r.2 with
    | some y => .leaf (r.1, y)
    | none => .fail
/-- rounds, until one ends otherwise -/
inductive LR (P : Program) (E : Env) (n : Nat) (G : GT) (N : Nat) (outs : Exit → Outs) (cont : Exit) (c : Code) : Kept → Exit → Kept → Prop where
  | last {x y : Kept} {e : Exit} (h : (roundT P E n G N outs cont c x).run = some (e, y)) (hne : e ≠ cont) (hg : ∀ l, e ≠ .goto l) : LR P E n G N outs cont c x e y
  | more {x y z : Kept} {e : Exit} (h : (roundT P E n G N outs cont c x).run = some (cont, y)) (k : LR P E n G N outs cont c y e z) : LR P E n G N outs cont c x e z
  | le {x y z : Kept} {e : Exit} (h : KLe x y) (k : LR P E n G N outs cont c y e z) : LR P E n G N outs cont c x e z
  | out {x y z : Kept} {e : Exit} (k : LR P E n G N outs cont c x e y) (h : KLe y z) : LR P E n G N outs cont c x e z
theorem roundT_ok {x0 : Mode} (hx0 : x0 ≠ .full) (hE : E.ok P G) (hmo : P.follows .mixedOrders = true) (hc : CutsOK x0 P G E c) {N : Nat} {outs : Exit → Outs} (hpin : Nat.blt 0 x0.pinned = true → ∀ e, Nat.ble x0.pinned (outs e).pinN = true) {cont e : Exit} {x y : Kept} (h : (roundT P E n G N outs cont c x).run = some (e, y)) :
    Run x0 P G c (stOf N G (outs cont).ks x) e (stOf N G (outs e).ks y) := by
  obtain ⟨⟨e1, st1⟩, h1, h2⟩ := Tr.of_bind h
  split at h2
  · rename_i y' hy
    simp only [Tr.run, Option.some.injEq, Prod.mk.injEq] at h2
    obtain ⟨rfl, rfl⟩ := h2
    exact (ev_ok hE hmo hc h1).post hx0 (head_less (fun h => hpin h _) hy)
  · cases h2
theorem LR.rounds {x0 : Mode} (hx0 : x0 ≠ .full) (hE : E.ok P G) (hmo : P.follows .mixedOrders = true) (hc : CutsOK x0 P G E c) {N : Nat} {outs : Exit → Outs} (hpin : Nat.blt 0 x0.pinned = true → ∀ e, Nat.ble x0.pinned (outs e).pinN = true) {x y : Kept} {e : Exit} (h : LR P E n G N outs .normal c x e y) :
    e ≠ .normal ∧ ∃ k, ∀ (β : Base), β.G = G → ∀ (m : Nat → Option Value) (a : Act) (w : World), Rel β (stOf N G (outs .normal).ks x) m a w → Code.rounds P c (fun e' a' w' => e' = e ∧ ∃ m', ExtM x0 β (stOf N G (outs .normal).ks x).mem m w (stOf N G (outs e).ks y).mem m' w' ∧ Rel β (stOf N G (outs e).ks y) m' a' w') k a w := by
  induction h with
  | @last x y e h hne hg =>
    refine ⟨hne, 1, fun β hG m a w r => ?_⟩
    rw [rounds_succ]
    refine wp_mono (roundT_ok hx0 hE hmo hc hpin h β hG m a w r) ?_
    rintro e' a' w' ⟨rfl, m', hext, hrel⟩
    cases e' with
    | normal => exact absurd rfl hne
    | _ => exact ⟨rfl, m', hext, hrel⟩
  | more h k ih =>
    obtain ⟨hne, k, ih⟩ := ih
    refine ⟨hne, k + 1, fun β hG m a w r => ?_⟩
    rw [rounds_succ]
    refine wp_mono (roundT_ok hx0 hE hmo hc hpin h β hG m a w r) ?_
    rintro e' a' w' ⟨rfl, m', hext, hrel⟩
    refine rounds_mono k ?_ (ih β hG m' a' w' hrel)
    rintro e' a' w' ⟨rfl, m', hext', hrel⟩
    exact ⟨rfl, m', hext.trans hext', hrel⟩
  | le h k ih =>
    obtain ⟨hne, k, ih⟩ := ih
    refine ⟨hne, k, fun β hG m a w r => ?_⟩
    obtain ⟨m1, r1, p1⟩ := stOf_le (b := x0.pinned) h β hG m a w r
    refine rounds_mono k ?_ (ih β hG m1 a w r1)
    rintro e' a' w' ⟨rfl, m', hext', hrel⟩
    exact ⟨rfl, m', hext'.pre hx0 p1, hrel⟩
  | out k h ih =>
    obtain ⟨hne, k, ih⟩ := ih
    refine ⟨hne, k, fun β hG m a w r => ?_⟩
    refine rounds_mono k ?_ (ih β hG m a w r)
    rintro e' a' w' ⟨rfl, m', hext, hrel⟩
    obtain ⟨m1, r1, p1⟩ := stOf_le (b := x0.pinned) h β hG m' a' w' hrel
    exact ⟨rfl, m1, hext.post hx0 p1, r1⟩
theorem LR.jumps {x0 : Mode} (hx0 : x0 ≠ .full) (hE : E.ok P G) (hmo : P.follows .mixedOrders = true) (hc : CutsOK x0 P G E c) {N : Nat} {outs : Exit → Outs} (hpin : Nat.blt 0 x0.pinned = true → ∀ e, Nat.ble x0.pinned (outs e).pinN = true) {x y : Kept} {e : Exit} {l : Nat} (h : LR P E n G N outs (.goto l) c x e y) :
    ∃ k, ∀ (β : Base), β.G = G → ∀ (m : Nat → Option Value) (a : Act) (w : World), Rel β (stOf N G (outs (.goto l)).ks x) m a w → JR P c l (fun e' a' w' => e' = e ∧ ∃ m', ExtM x0 β (stOf N G (outs (.goto l)).ks x).mem m w (stOf N G (outs e).ks y).mem m' w' ∧ Rel β (stOf N G (outs e).ks y) m' a' w') k a w := by
  induction h with
  | @last x y e h hne hg =>
    refine ⟨1, fun β hG m a w r => ?_⟩
    unfold JR
    refine wp_mono (roundT_ok hx0 hE hmo hc hpin h β hG m a w r) ?_
    rintro e' a' w' ⟨rfl, m', hext, hrel⟩
    cases e' with
    | goto l' => exact absurd rfl (hg l')
    | normal => exact ⟨rfl, m', hext, hrel⟩
    | exit i => exact ⟨rfl, m', hext, hrel⟩
    | ret => exact ⟨rfl, m', hext, hrel⟩
    | panic c => exact ⟨rfl, m', hext, hrel⟩
    | outgrown => exact ⟨rfl, m', hext, hrel⟩
  | more h k ih =>
    obtain ⟨k, ih⟩ := ih
    refine ⟨k + 1, fun β hG m a w r => ?_⟩
    unfold JR
    refine wp_mono (roundT_ok hx0 hE hmo hc hpin h β hG m a w r) ?_
    rintro e' a' w' ⟨rfl, m', hext, hrel⟩
    refine ⟨rfl, JR_mono ?_ k (ih β hG m' a' w' hrel)⟩
    rintro e' a' w' ⟨rfl, m', hext', hrel⟩
    exact ⟨rfl, m', hext.trans hext', hrel⟩
  | le h k ih =>
    obtain ⟨k, ih⟩ := ih
    refine ⟨k, fun β hG m a w r => ?_⟩
    obtain ⟨m1, r1, p1⟩ := stOf_le (b := x0.pinned) h β hG m a w r
    refine JR_mono ?_ k (ih β hG m1 a w r1)
    rintro e' a' w' ⟨rfl, m', hext', hrel⟩
    exact ⟨rfl, m', hext'.pre hx0 p1, hrel⟩
  | out k h ih =>
    obtain ⟨k, ih⟩ := ih
    refine ⟨k, fun β hG m a w r => ?_⟩
    refine JR_mono ?_ k (ih β hG m a w r)
    rintro e' a' w' ⟨rfl, m', hext, hrel⟩
    obtain ⟨m1, r1, p1⟩ := stOf_le (b := x0.pinned) h β hG m' a' w' hrel
    exact ⟨rfl, m1, hext.post hx0 p1, r1⟩
/-- a loop's cut, by what it comes to -/
def cutOf (G : GT) (N : Nat) (outs : Exit → Outs) (id : Nat) (F : Kept → Tr (Exit × Kept)) (st : St) : Tr (Exit × St) := match headOf N (outs .normal) st with
  | none => .fail
  | some x => (F x).bind fun r => match r.1 with
    | .exit j => match Nat.beq j id with
      | true => .leaf (.normal, stOf N G (outs (.exit j)).ks r.2)
      | false => .leaf (.exit j, stOf N G (outs (.exit j)).ks r.2)
    | e => .leaf (e, stOf N G (outs e).ks r.2)
theorem cutOf_okM {x0 : Mode} (hx0 : x0 ≠ .full) (hE : E.ok P G) (hmo : P.follows .mixedOrders = true) (hc : CutsOK x0 P G E c) {N : Nat} {outs : Exit → Outs} (hpin : Nat.blt 0 x0.pinned = true → ∀ e, Nat.ble x0.pinned (outs e).pinN = true) {id : Nat} {F : Kept → Tr (Exit × Kept)} (hF : ∀ x e y, (F x).run = some (e, y) → LR P E n G N outs .normal c x e y)
    {st st' : St} {e : Exit} (h : (cutOf G N outs id F st).run = some (e, st')) : Run x0 P G (.block id (.loop c)) st e st' := by
  unfold cutOf at h
  split at h
  · cases h
  · rename_i x hx
    obtain ⟨⟨e1, y⟩, hy, h⟩ := Tr.of_bind h
    obtain ⟨hne, k, hk⟩ := (hF x e1 y hy).rounds hx0 hE hmo hc hpin
    refine Run.pre hx0 (head_less (fun h => hpin h _) hx) ?_
    intro β hG m a w r
    refine wp_block (wp_loop_rounds k (rounds_mono k ?_ (hk β hG m a w r)))
    rintro e' a' w' ⟨rfl, m', hext, hrel⟩
    cases e' with
    | exit j =>
      dsimp only at h
      simp only [Exit.inBlock]
      cases hj : Nat.beq j id with
      | true =>
        rw [hj] at h
        simp only [Tr.run, Option.some.injEq, Prod.mk.injEq] at h
        obtain ⟨rfl, rfl⟩ := h
        rw [if_pos (Nat.eq_of_beq_eq_true hj)]
        exact ⟨rfl, m', hext, hrel⟩
      | false =>
        rw [hj] at h
        simp only [Tr.run, Option.some.injEq, Prod.mk.injEq] at h
        obtain ⟨rfl, rfl⟩ := h
        rw [if_neg (fun e => by subst e; simp at hj)]
        exact ⟨rfl, m', hext, hrel⟩
    | _ =>
      simp only [Tr.run, Option.some.injEq, Prod.mk.injEq] at h
      obtain ⟨rfl, rfl⟩ := h
      exact ⟨rfl, m', hext, hrel⟩
theorem cutOf_ok (hE : E.ok P G) (hmo : P.follows .mixedOrders = true) (hc : CutsOK .none P G E c) {N : Nat} {outs : Exit → Outs} {id : Nat} {F : Kept → Tr (Exit × Kept)} (hF : ∀ x e y, (F x).run = some (e, y) → LR P E n G N outs .normal c x e y)
    {st st' : St} {e : Exit} (h : (cutOf G N outs id F st).run = some (e, st')) : Run .none P G (.block id (.loop c)) st e st' :=
  cutOf_okM (fun h => by cases h) hE hmo hc (fun h => by cases h) hF h
/-- a label's cut -/
def cutJ (G : GT) (N : Nat) (outs : Exit → Outs) (l : Nat) (F : Kept → Tr (Exit × Kept)) (st : St) : Tr (Exit × St) := match headOf N (outs (.goto l)) st with
  | none => .fail
  | some x => (F x).bind fun r => .leaf (r.1, stOf N G (outs r.1).ks r.2)
theorem cutJ_okM {x0 : Mode} (hx0 : x0 ≠ .full) (hE : E.ok P G) (hmo : P.follows .mixedOrders = true) (hc : CutsOK x0 P G E c) {N : Nat} {outs : Exit → Outs} (hpin : Nat.blt 0 x0.pinned = true → ∀ e, Nat.ble x0.pinned (outs e).pinN = true) {l : Nat} {F : Kept → Tr (Exit × Kept)} (hF : ∀ x e y, (F x).run = some (e, y) → LR P E n G N outs (.goto l) c x e y)
    {st st' : St} {e : Exit} (h : (cutJ G N outs l F st).run = some (e, st')) : Jumps x0 P G c l st e st' := by
  unfold cutJ at h
  split at h
  · cases h
  · rename_i x hx
    obtain ⟨⟨e1, y⟩, hy, h⟩ := Tr.of_bind h
    simp only [Tr.run, Option.some.injEq, Prod.mk.injEq] at h
    obtain ⟨rfl, rfl⟩ := h
    obtain ⟨k, hk⟩ := (hF x _ y hy).jumps hx0 hE hmo hc hpin
    intro β hG m a w r
    obtain ⟨m1, r1, p1⟩ := head_less (y := x0.pinned) (fun h => hpin h _) hx β hG m a w r
    refine ⟨k, JR_mono ?_ k (hk β hG m1 a w r1)⟩
    rintro e' a' w' ⟨rfl, m', hext, hrel⟩
    exact ⟨rfl, m', hext.pre hx0 p1, hrel⟩
theorem cutJ_ok (hE : E.ok P G) (hmo : P.follows .mixedOrders = true) (hc : CutsOK .none P G E c) {N : Nat} {outs : Exit → Outs} {l : Nat} {F : Kept → Tr (Exit × Kept)} (hF : ∀ x e y, (F x).run = some (e, y) → LR P E n G N outs (.goto l) c x e y)
    {st st' : St} {e : Exit} (h : (cutJ G N outs l F st).run = some (e, st')) : Jumps .none P G c l st e st' :=
  cutJ_okM (fun h => by cases h) hE hmo hc (fun h => by cases h) hF h
end

end Go.Proofs.YtlngnfkjpfokhaaDoor.Ev

/- Contracts out of what the guide's library proves of Go's; words for values. No condition. -/
namespace Go.Proofs.YtlngnfkjpfokhaaDoor.Ev
open Go Go.RowKit
set_option linter.unusedVariables false
set_option linter.unusedSimpArgs false
abbrev str (s : ByteArray) : PV := .lit (.string s)
abbrev int (i : Int) : PV := .lit (.int .i64 i)
abbrev bool (b : Bool) : PV := .lit (.bool b)
/-- a text that fits into any memory -/
def okS (s : ByteArray) : Bool := Nat.ble s.size 4294967280
theorem okS_le {s : ByteArray} (h : okS s = true) : s.size ≤ 4294967280 := Nat.le_of_ble_eq_true h
theorem okS_of {s : ByteArray} (h : s.size ≤ 4294967280) : okS s = true := Nat.ble_eq ▸ h
theorem Keeps.drewN {K : Nat → Prop} {w : World} (n : Nat) : Keeps K w (w.drewN n) := ⟨rfl, rfl, rfl, Nat.le_refl _, fun _ _ => rfl⟩
theorem Keeps.grow {w w' : World} (h : Keeps (· < w.heap.size) w w') (os : Array Obj) : Keeps (· < w.heap.size) w (Go.Sort.grow w' os) := by
  refine ⟨h.os, h.tape, h.output, Nat.le_trans h.size (by simp [Go.Sort.grow]), fun k hk => ?_⟩
  rw [← h.block k hk]
  show (w'.heap ++ os)[k]? = _
  rw [Array.getElem?_append_left (Nat.lt_of_lt_of_le hk h.size)]
theorem Keeps.bytes {w : World} (e : TypeId) (s : ByteArray) : Keeps (· < w.heap.size) w (Lib.bytesWorld w e s) := by
  have h1 : Keeps (· < w.heap.size) w (w.drew.alloc (.cells (Lib.bytesCells w e s) e)) := ⟨rfl, rfl, rfl, by simp, fun k hk => heap_alloc_old w.drew _ hk⟩
  unfold Lib.bytesWorld
  generalize w.drew.alloc (.cells (Lib.bytesCells w e s) e) = w1 at h1
  unfold World.freeze
  split
  · exact h1
  · refine ⟨h1.os, h1.tape, h1.output, by simpa using h1.size, fun k hk => ?_⟩
    rw [← h1.block k hk]
    show (w1.heap.modify w.heap.size _)[k]? = _
    rw [Array.getElem?_modify, if_neg (Nat.ne_of_gt hk)]
theorem litL_args {C : Nat → Nat → Value → Prop} {vs : List Value} {args : Array Value} (h : RepL C (vs.map .lit) args) : args = vs.toArray := by
  apply Array.ext
  · rw [← h.1]
    simp
  · intro i h1 h2
    have h2' : i < vs.length := by simpa using h2
    have := h.2 i (.lit vs[i]) args[i] (by simp [h2']) (by simp [h1])
    have := litOf_rep this rfl
    rw [this]
    simp
/-- a contract at known arguments -/
theorem PureAt.lits {P : Program} {G : GT} {f : FuncId} {vs : List Value} {p : PV}
    (h : ∀ (w : World) (C : Nat → Nat → Value → Prop), Known C w → Globs G C → Objs G w → Calls P f vs.toArray w fun
      | .returned v, w' => Keeps (· < w.heap.size) w w' ∧ Rep (Grown C w w') (fun _ => none) p v
      | _, _ => False) : PureAt P G f (vs.map .lit) p := by
  intro w C hK hG hO args hr
  rw [litL_args hr]
  exact h w C hK hG hO
/-- .. that gives back a known value -/
theorem PureAt.known {P : Program} {G : GT} {f : FuncId} {vs : List Value} {v : Value}
    (h : ∀ (w : World) (C : Nat → Nat → Value → Prop), Known C w → Globs G C → Objs G w → Calls P f vs.toArray w fun e w' => e = .returned v ∧ Keeps (· < w.heap.size) w w') : PureAt P G f (vs.map .lit) (.lit v) :=
  PureAt.lits fun w C hK hG hO => (h w C hK hG hO).mono fun e w' he => by
    obtain ⟨rfl, hk⟩ := he
    exact ⟨hk, .lit _ _⟩
theorem PureOK.of {P : Program} {G : GT} {f : FuncId} {g g' : List PV → Tr PV} (h : PureOK P G f g) (hg : ∀ ps p, (g' ps).run = some p → ∃ q, (g ps).run = some q ∧ PLe q p) : PureOK P G f g' := fun ps p hp =>
  let ⟨q, hq, hl⟩ := hg ps p hp
  (h ps q hq).post hl
/-- a variable that nobody writes, in its cell -/
theorem glob_cell {G : GT} {C : Nat → Nat → Value → Prop} {w : World} (hK : Known C w) (hG : Globs G C) {g : Nat} {v : Value} (h : G.tab g = some [.lit v]) : w.cell? ⟨g, 0, none⟩ = some v := by
  have := hG g _ h
  cases this with
  | gptr m cs b o gv hc hr =>
    have h1 := (hc 0 (by simp)).1
    have h2 := litOf_rep (hr 0 (.lit v) rfl) rfl
    rw [← h2]
    exact hK _ _ _ h1
theorem glob_iface {G : GT} {C : Nat → Nat → Value → Prop} {w : World} (hK : Known C w) (hG : Globs G C) {g : Nat} {t : TypeId} (h : G.tab g = some [.iface t .junk]) : ∃ v, w.cell? ⟨g, 0, none⟩ = some (.iface t v) := by
  have := hG g _ h
  cases this with
  | gptr m cs b o gv hc hr =>
    have h1 := (hc 0 (by simp)).1
    have h2 := hr 0 (.iface t .junk) rfl
    generalize hx : gv 0 = x at h1 h2
    cases h2 with
    | iface m t p v hv => exact ⟨v, hK _ _ _ h1⟩
theorem br_run {α : Type} {c : Bool} {t : Tr α} {r : α} (h : (Tr.br c t .fail).run = some r) : c = true ∧ t.run = some r := by
  cases c with
  | true => exact ⟨rfl, h⟩
  | false => cases h
/-- a function's loop, by its block's number -/
def theLoop (id : Nat) (fn : Func) : Code := match fn.body with
  | some c => match blocksOf id c with
    | [.loop b] => b
    | _ => .skip
  | none => .skip
def hasLoop (id : Nat) (fn : Func) : Bool := match fn.body with
  | some c => match blocksOf id c with
    | [.loop _] => true
    | _ => false
  | none => false
theorem hasLoop_ok {id : Nat} {fn : Func} (h : hasLoop id fn = true) {c : Code} (hc : fn.body = some c) {b : Code} (hb : b ∈ blocksOf id c) : b = .loop (theLoop id fn) := by
  unfold hasLoop at h
  unfold theLoop
  rw [hc] at h ⊢
  dsimp only at h ⊢
  split at h
  · rename_i x hx
    rw [hx] at hb
    rw [List.mem_singleton] at hb
    exact hb
  · cases h
/-- what is behind a label -/
def theRest (l : Nat) (fn : Func) : Code := match fn.body with
  | some c => match scopesOf l c with
    | [b] => b
    | _ => .skip
  | none => .skip
def hasRest (l : Nat) (fn : Func) : Bool := match fn.body with
  | some c => match scopesOf l c with
    | [_] => true
    | _ => false
  | none => false
theorem hasRest_ok {l : Nat} {fn : Func} (h : hasRest l fn = true) {c : Code} (hc : fn.body = some c) {b : Code} (hb : b ∈ scopesOf l c) : b = theRest l fn := by
  unfold hasRest at h
  unfold theRest
  rw [hc] at h ⊢
  dsimp only at h ⊢
  split at h
  · rename_i x hx
    rw [hx] at hb
    rw [List.mem_singleton] at hb
    exact hb
  · cases h
/-- one cut -/
def cut1 (k : Nat) (g : St → Tr (Exit × St)) : Nat → Option (St → Tr (Exit × St)) := fun i => match Nat.beq i k with
  | true => some g
  | false => none
/-- one cut more -/
def cutAlso (k : Nat) (g : St → Tr (Exit × St)) (r : Nat → Option (St → Tr (Exit × St))) : Nat → Option (St → Tr (Exit × St)) := fun i => match Nat.beq i k with
  | true => some g
  | false => r i
/-- the cuts of a function: loops and labels, each by its own law -/
structure CutLaws (x : Mode) (P : Program) (G : GT) (fn : Func) (cuts : Nat → Option (St → Tr (Exit × St))) : Prop where
  blk : ∀ id g, cuts id = some g → hasLoop id fn = true ∧ ∀ st e st', (g st).run = some (e, st') → Run x P G (.block id (.loop (theLoop id fn))) st e st'
  lab : ∀ l g, cuts (1000000 + l) = some g → hasRest l fn = true ∧ ∀ st e st', (g st).run = some (e, st') → Jumps x P G (theRest l fn) l st e st'
theorem CutLaws.ok {x : Mode} {P : Program} {G : GT} {fn : Func} {E : Env} (h : CutLaws x P G fn E.cuts) : ∀ c, fn.body = some c → CutsOK x P G E c := fun c hc =>
  ⟨fun id g hg b hb st e st' hp => by
    obtain ⟨h1, h2⟩ := h.blk id g hg
    rw [hasLoop_ok h1 hc hb]
    exact h2 st e st' hp,
   fun l g hg b hb st e st' hp => by
    obtain ⟨h1, h2⟩ := h.lab l g hg
    rw [hasRest_ok h1 hc hb]
    exact h2 st e st' hp⟩


/-- what comes out where all that must be so is so; and what must be so, the last first -/
def Tr.runA {α : Type} : Tr α → List Bool → Option (α × List Bool)
  | .leaf a, acc => some (a, acc)
  | .br c t .fail, acc => t.runA (c :: acc)
  | .br c t e, acc => bif c then t.runA acc else e.runA acc
  | .fail, _ => none
def Tr.run2 {α : Type} (t : Tr α) : Option (α × List Bool) := t.runA []
theorem Tr.runA_run {α : Type} : ∀ {t : Tr α} {acc : List Bool} {a : α} {l : List Bool}, t.runA acc = some (a, l) → (∀ b ∈ l, b = true) → t.run = some a ∧ ∀ b ∈ acc, b = true
  | .leaf _, acc, a, l, h, hl => by
    simp only [Tr.runA, Option.some.injEq, Prod.mk.injEq] at h
    obtain ⟨rfl, rfl⟩ := h
    exact ⟨rfl, hl⟩
  | .fail, acc, a, l, h, _ => by cases h
  | .br c t .fail, acc, a, l, h, hl => by
    simp only [Tr.runA] at h
    obtain ⟨h1, h2⟩ := Tr.runA_run h hl
    have hc := h2 c List.mem_cons_self
    refine ⟨?_, fun b hb => h2 b (List.mem_cons_of_mem _ hb)⟩
    simp only [Tr.run, hc, cond_true]
    exact h1
  | .br c t (.leaf x), acc, a, l, h, hl => by
    have h : (bif c then t.runA acc else (Tr.leaf x).runA acc) = some (a, l) := h
    cases c with
    | true => exact Tr.runA_run (t := t) h hl
    | false => exact Tr.runA_run (t := .leaf x) h hl
  | .br c t (.br d u v), acc, a, l, h, hl => by
    have h : (bif c then t.runA acc else (Tr.br d u v).runA acc) = some (a, l) := h
    cases c with
    | true => exact Tr.runA_run (t := t) h hl
    | false => exact Tr.runA_run (t := .br d u v) h hl
/-- with all that must be so at hand -/
theorem Tr.run_of {α : Type} {t : Tr α} {a : α} {l : List Bool} (h : t.run2 = some (a, l)) (hl : l.all (fun b => b) = true) : t.run = some a :=
  (Tr.runA_run h fun b hb => List.all_eq_true.1 hl b hb).1
theorem wrap_nat {n : Nat} (h : n ≤ 9223372036854775807) : IntKind.i64.wrap (n : Int) = n := by
  have : (0 : Int) ≤ n := by omega
  simp [IntKind.wrap, IntKind.bits, IntKind.signed]
  omega
theorem wrap_succ {n : Nat} (h : n < 9223372036854775807) : IntKind.i64.wrap ((n : Int) + 1) = ((n + 1 : Nat) : Int) := by
  have := wrap_nat (n := n + 1) (by omega)
  simpa using this
/-- a table of contracts -/
def tabOf {α : Type} : List (Nat × α) → Nat → Option α
  | [], _ => none
  | (k, x) :: r, i => match Nat.beq k i with
    | true => some x
    | false => tabOf r i
theorem tabOf_mem {α : Type} : ∀ {l : List (Nat × α)} {i : Nat} {x : α}, tabOf l i = some x → (i, x) ∈ l
  | [], i, x, h => by cases h
  | (k, y) :: r, i, x, h => by
    unfold tabOf at h
    split at h
    · rename_i hb
      cases h
      rw [← Nat.eq_of_beq_eq_true hb]
      exact List.mem_cons_self
    · exact List.mem_cons_of_mem _ (tabOf_mem h)
def TabOK (P : Program) (G : GT) (l : List (Nat × (List PV → Tr PV))) : Prop := ∀ f g, (f, g) ∈ l → PureOK P G f g ∧ Enters P f
def FullOK (P : Program) (G : GT) (l : List (Nat × (List PV → Mem → Tr (PV × Mem)))) : Prop := ∀ f g, (f, g) ∈ l → FnOK P G f g ∧ Enters P f
theorem TabOK.cons {P : Program} {G : GT} {l : List (Nat × (List PV → Tr PV))} {f : Nat} {g : List PV → Tr PV} {fn : Func} (h : PureOK P G f g) (hf : P.funcs[f]? = some fn) (hc : canEnter fn = true) (hl : TabOK P G l) : TabOK P G ((f, g) :: l) := fun f' g' hm => by
  rcases List.mem_cons.1 hm with e | hm
  · cases e
    exact ⟨h, enters_of hf hc⟩
  · exact hl f' g' hm
/-- the known functions, and those that are run as a whole -/
def envOf (P : Program) (G : GT) (l : List (Nat × (List PV → Tr PV))) (full : List (Nat × (List PV → Mem → Tr (PV × Mem)))) : Env := inl P G (tabOf l) (tabOf full) 60 10
theorem envOf_ok {P : Program} {G : GT} (hmo : P.follows .mixedOrders = true) {l : List (Nat × (List PV → Tr PV))} {full : List (Nat × (List PV → Mem → Tr (PV × Mem)))} (hl : TabOK P G l) (hf : FullOK P G full) : (envOf P G l full).ok P G :=
  inl_ok hmo (fun f g h => hl f g (tabOf_mem h)) (fun f g h => hf f g (tabOf_mem h)) 60 10
theorem envOf_cuts (P : Program) (G : GT) (l : List (Nat × (List PV → Tr PV))) (full : List (Nat × (List PV → Mem → Tr (PV × Mem)))) : (envOf P G l full).cuts = noCuts := inl_cuts ..
/-- what a function without great loops does -/
theorem fn_pure {P : Program} {G : GT} (hmo : P.follows .mixedOrders = true) {E : Env} (hE : E.ok P G) (hc : E.cuts = noCuts) {f : FuncId} {fn : Func} (hf : P.funcs[f]? = some fn) : PureOK P G f (fnPure P E 60 fn G) := pure_of_ev hE hmo hf fun c _ => noCuts_ok hc c
/-- .. one with great loops -/
theorem fn_cuts {P : Program} {G : GT} (hmo : P.follows .mixedOrders = true) {E : Env} (hE : E.ok P G) {cuts : Nat → Option (St → Tr (Exit × St))} {f : FuncId} {fn : Func} (hf : P.funcs[f]? = some fn) (hc : CutLaws .none P G fn cuts) : PureOK P G f (fnPure P (E.withCuts cuts) 60 fn G) :=
  pure_of_ev (hE.withCuts cuts) hmo hf (CutLaws.ok (E := E.withCuts cuts) hc)
theorem CutLaws.one {x : Mode} {P : Program} {G : GT} {fn : Func} {id : Nat} (hid : id < 1000000) {g : St → Tr (Exit × St)} (h1 : hasLoop id fn = true) (h2 : ∀ st e st', (g st).run = some (e, st') → Run x P G (.block id (.loop (theLoop id fn))) st e st') : CutLaws x P G fn (cut1 id g) := by
  refine ⟨fun i g' hg => ?_, fun l g' hg => ?_⟩
  · unfold cut1 at hg
    split at hg
    · rename_i hb
      have := Nat.eq_of_beq_eq_true hb
      subst this
      cases hg
      exact ⟨h1, h2⟩
    · cases hg
  · unfold cut1 at hg
    split at hg
    · rename_i hb
      have := Nat.eq_of_beq_eq_true hb
      omega
    · cases hg
theorem CutLaws.jump {x : Mode} {P : Program} {G : GT} {fn : Func} {l : Nat} {g : St → Tr (Exit × St)} (h1 : hasRest l fn = true) (h2 : ∀ st e st', (g st).run = some (e, st') → Jumps x P G (theRest l fn) l st e st') (h3 : ∀ c, fn.body = some c → blocksOf (1000000 + l) c = [])
    (E : Env) : ∀ c, fn.body = some c → CutsOK x P G (E.withCuts (cut1 (1000000 + l) g)) c := by
  intro c hc
  refine ⟨fun id g' hg b hb st e st' hp => ?_, fun l' g' hg b hb st e st' hp => ?_⟩
  · have hg : cut1 (1000000 + l) g id = some g' := hg
    unfold cut1 at hg
    split at hg
    · rename_i hbq
      have := Nat.eq_of_beq_eq_true hbq
      subst this
      rw [h3 c hc] at hb
      cases hb
    · cases hg
  · have hg : cut1 (1000000 + l) g (1000000 + l') = some g' := hg
    unfold cut1 at hg
    split at hg
    · rename_i hbq
      have he : l' = l := by
        have := Nat.eq_of_beq_eq_true hbq
        omega
      clear hbq
      cases hg
      subst he
      rw [hasRest_ok h1 hc hb]
      exact h2 st e st' hp
    · cases hg
theorem CutLaws.add {x : Mode} {P : Program} {G : GT} {fn : Func} {id : Nat} (hid : id < 1000000) {g : St → Tr (Exit × St)} {r : Nat → Option (St → Tr (Exit × St))} (h1 : hasLoop id fn = true)
    (h2 : ∀ st e st', (g st).run = some (e, st') → Run x P G (.block id (.loop (theLoop id fn))) st e st') (hr : CutLaws x P G fn r) : CutLaws x P G fn (cutAlso id g r) := by
  refine ⟨fun i g' hg => ?_, fun l g' hg => ?_⟩
  · unfold cutAlso at hg
    split at hg
    · rename_i hb
      have := Nat.eq_of_beq_eq_true hb
      subst this
      cases hg
      exact ⟨h1, h2⟩
    · exact hr.blk i g' hg
  · unfold cutAlso at hg
    split at hg
    · rename_i hb
      have := Nat.eq_of_beq_eq_true hb
      omega
    · exact hr.lab l g' hg
theorem cutsOK_env {x : Mode} {P : Program} {G : GT} {E E' : Env} {c : Code} (h : CutsOK x P G E c) (he : E.cuts = E'.cuts) : CutsOK x P G E' c :=
  ⟨fun id g hg => h.blk id g (by rw [he]; exact hg), fun l g hg => h.lab l g (by rw [he]; exact hg)⟩
/-- regions that are told by one truth, each with a name for it, or with none -/
def mrg : List (Nat × Option Bool) → (Nat → Option (St → Tr (Exit × St))) → Nat → Option (St → Tr (Exit × St))
  | [], r, i => r i
  | (k, o) :: l, r, i => match Nat.beq i (3000000 + k) with
    | true => some fun st => match o with
      | some b => .br b .fail .fail
      | none => .fail
    | false => mrg l r i
theorem mrg_or {l : List (Nat × Option Bool)} {r : Nat → Option (St → Tr (Exit × St))} {i : Nat} : (∃ k, k ∈ l.map (·.1) ∧ i = 3000000 + k) ∨ mrg l r i = r i := by
  induction l with
  | nil => exact .inr rfl
  | cons x l ih =>
    obtain ⟨k, o⟩ := x
    cases hb : Nat.beq i (3000000 + k) with
    | true => exact .inl ⟨k, by simp, Nat.eq_of_beq_eq_true hb⟩
    | false =>
      rcases ih with ⟨k', h1, h2⟩ | h
      · exact .inl ⟨k', by simp only [List.map_cons, List.mem_cons]; exact .inr h1, h2⟩
      · right
        unfold mrg
        rw [hb]
        exact h
def mrgOK (rs : List Nat) (fn : Func) : Bool := match fn.body with
  | some c => rs.all fun k => (blocksOf (3000000 + k) c).isEmpty && (scopesOf (2000000 + k) c).isEmpty
  | none => true
theorem cutsOK_mrg {x : Mode} {P : Program} {G : GT} {fn : Func} {E : Env} {rs : List (Nat × Option Bool)} {r : Nat → Option (St → Tr (Exit × St))} (h1 : mrgOK (rs.map (·.1)) fn = true) (h : ∀ c, fn.body = some c → CutsOK x P G (E.withCuts r) c) :
    ∀ c, fn.body = some c → CutsOK x P G (E.withCuts (mrg rs r)) c := by
  intro c hc
  unfold mrgOK at h1
  rw [hc] at h1
  have hall := List.all_eq_true.1 h1
  refine ⟨fun id g hg b hb => ?_, fun l g hg rest hrest => ?_⟩
  · have hg' : mrg rs r id = some g := hg
    rcases mrg_or (l := rs) (r := r) (i := id) with ⟨k, hk, rfl⟩ | he
    · have := hall k hk
      simp only [Bool.and_eq_true, List.isEmpty_iff] at this
      rw [this.1] at hb
      cases hb
    · rw [he] at hg'
      exact (h c hc).blk id g hg' b hb
  · have hg' : mrg rs r (1000000 + l) = some g := hg
    rcases mrg_or (l := rs) (r := r) (i := 1000000 + l) with ⟨k, hk, he⟩ | he
    · have := hall k hk
      simp only [Bool.and_eq_true, List.isEmpty_iff] at this
      have e : l = 2000000 + k := by omega
      rw [e, this.2] at hrest
      cases hrest
    · rw [he] at hg'
      exact (h c hc).lab l g hg' rest hrest
theorem fn_mrg {P : Program} {G : GT} (hmo : P.follows .mixedOrders = true) {E : Env} (hE : E.ok P G) {rs : List (Nat × Option Bool)} {f : FuncId} {fn : Func} (hf : P.funcs[f]? = some fn) (h1 : mrgOK (rs.map (·.1)) fn = true) :
    PureOK P G f (fnPure P (E.withCuts (mrg rs noCuts)) 60 fn G) :=
  pure_of_ev (hE.withCuts _) hmo hf (cutsOK_mrg h1 fun c _ => noCuts_ok rfl c)
theorem fn_mrgCuts {P : Program} {G : GT} (hmo : P.follows .mixedOrders = true) {E : Env} (hE : E.ok P G) {rs : List (Nat × Option Bool)} {cuts : Nat → Option (St → Tr (Exit × St))} {f : FuncId} {fn : Func} (hf : P.funcs[f]? = some fn) (h1 : mrgOK (rs.map (·.1)) fn = true) (hc : CutLaws .none P G fn cuts) :
    PureOK P G f (fnPure P (E.withCuts (mrg rs cuts)) 60 fn G) :=
  pure_of_ev (hE.withCuts _) hmo hf (cutsOK_mrg h1 fun c hb => CutLaws.ok (E := E.withCuts cuts) hc c hb)
/-- what comes out, where all that must be so is so -/
def Tr.val {α : Type} : Tr α → Option α
  | .leaf a => some a
  | .br _ t .fail => t.val
  | .br c t e => bif c then t.val else e.val
  | .fail => none
/-- all that must be so -/
def Tr.conds {α : Type} : Tr α → Bool
  | .leaf _ => true
  | .br c t .fail => bif c then t.conds else false
  | .br c t e => bif c then t.conds else e.conds
  | .fail => true
theorem Tr.run_val {α : Type} : ∀ {t : Tr α}, t.conds = true → t.run = t.val
  | .leaf _, _ => rfl
  | .fail, _ => rfl
  | .br c t .fail, h => by
    cases c with
    | true => exact Tr.run_val (t := t) h
    | false => cases h
  | .br c t (.leaf a), h => by
    cases c with
    | true => exact Tr.run_val (t := t) h
    | false => rfl
  | .br c t (.br c' t' e'), h => by
    cases c with
    | true => exact Tr.run_val (t := t) h
    | false => exact Tr.run_val (t := .br c' t' e') h
/-- .. in two parts -/
theorem Tr.run_vc {α : Type} {t : Tr α} {v : Option α} {c : Bool} {a : α} (hv : t.val = v) (hc : t.conds = c) (h1 : c = true) (h2 : v = some a) : t.run = some a := by
  rw [Tr.run_val (hc.trans h1), hv, h2]
end Go.Proofs.YtlngnfkjpfokhaaDoor.Ev

/- The program's own variables that nobody writes: none. No condition. -/
namespace Go.Proofs.YtlngnfkjpfokhaaDoor.Ev
open Go Go.RowKit Go.Proofs
def bs (l : List UInt8) : ByteArray := ⟨l.toArray⟩
def gxTab (_g : Nat) : Option (List PV) := none
end Go.Proofs.YtlngnfkjpfokhaaDoor.Ev

/- What the library's functions do that the box layer calls, as contracts. No condition. -/
namespace Go.Proofs.YtlngnfkjpfokhaaDoor.Ev
open Go Go.RowKit Go.Proofs Go.Lib
set_option linter.unusedVariables false
/-- the program's variables that nobody writes -/
def GG (m : Int) (t : TypeId) (fr : Nat × Nat) : GT where
  tab := fun g => gxTab g
  obj := fun g => match Nat.beq g 0 with
    | true => some (.cells ((Lib.pow10Tab.map fun z => Value.int .u64 z).toArray) t fr)
    | false => none
theorem mixed : (Tryd.prog).follows .mixedOrders = true := by kernel_rfl
section
variable {m : Int} {t : TypeId} {fr : Nat × Nat}
/-- a number's text -/
def itoaB (n : Int) : ByteArray := bs (Lib.itoa n)
def fmtIntG : List PV → Tr PV
  | [.lit (.int .i64 n), .lit (.int .i64 b)] => match decide (b = 10) with
    | true => .br (decide (-9223372036854775808 ≤ n) && decide (n ≤ 9223372036854775807)) (.leaf (str (itoaB n))) .fail
    | false => .fail
  | _ => .fail
theorem fmtInt_ok : PureOK Tryd.prog (GG m t fr) 67 fmtIntG := by
  intro ps p hp
  unfold fmtIntG at hp
  split at hp
  · rename_i n b
    split at hp
    · rename_i hb
      simp only [decide_eq_true_eq] at hb
      subst hb
      obtain ⟨hn, hp⟩ := br_run hp
      simp only [Bool.and_eq_true, decide_eq_true_eq] at hn
      simp only [Tr.run, Option.some.injEq] at hp
      subst hp
      refine PureAt.known (vs := [.int .i64 n, .int .i64 10]) fun w C hK hG hO => ?_
      have hobj := hO 0 _ rfl
      have htab : Lib.TabIs Tryd.prog w "internal/strconv.uint64pow10" .u64 Lib.pow10Tab := by
        unfold Lib.TabIs World.var?
        have hg : Tryd.prog.globalNamed "internal/strconv.uint64pow10" = some 0 := by kernel_rfl
        rw [hg]
        dsimp only [Option.bind]
        rw [hobj]
      refine (Tryd.strconv_FormatInt_10 n hn.1 hn.2 w htab).mono ?_
      rintro e w' ⟨rfl, k, os, rfl⟩
      exact ⟨rfl, (Keeps.drewN k).grow os⟩
    · cases hp
  · cases hp
/-- one text so many times -/
def repB (s : ByteArray) (n : Int) : ByteArray := bs (Lib.repeatL s.data.toList n.toNat)
def repeatG : List PV → Tr PV
  | [.lit (.string s), .lit (.int .i64 n)] => .br (Nat.ble s.size 1000 && decide (0 ≤ n) && decide (n ≤ 1000)) (.leaf (str (repB s n))) .fail
  | _ => .fail
theorem repeat_ok : PureOK Tryd.prog (GG m t fr) 68 repeatG := by
  intro ps p hp
  unfold repeatG at hp
  split at hp
  · rename_i s n
    obtain ⟨hn, hp⟩ := br_run hp
    simp only [Bool.and_eq_true, decide_eq_true_eq] at hn
    obtain ⟨⟨h1, h2⟩, h3⟩ := hn
    have h1 := Nat.le_of_ble_eq_true h1
    simp only [Tr.run, Option.some.injEq] at hp
    subst hp
    obtain ⟨c, rfl⟩ : ∃ c : Nat, n = c := ⟨n.toNat, by omega⟩
    have hc : c ≤ 1000 := by omega
    have hle : s.size * c ≤ 1000 * 1000 := Nat.mul_le_mul h1 hc
    refine PureAt.known (vs := [.string s, .int .i64 c]) fun w C hK hG hO => ?_
    refine (Tryd.strings_Repeat s c w (by omega) (by omega)).mono ?_
    rintro e w' ⟨rfl, hb⟩
    exact ⟨rfl, Keeps.of_below hb fun _ h => h⟩
  · cases hp
end
def libPure : List (Nat × (List PV → Tr PV)) := (67, fmtIntG) :: (68, repeatG) :: []
theorem libPure_ok {m : Int} {t : TypeId} {fr : Nat × Nat} : TabOK Tryd.prog (GG m t fr) libPure := (TabOK.cons fmtInt_ok (fn := Tryd.f67) (by kernel_rfl) (by kernel_rfl) (TabOK.cons repeat_ok (fn := Tryd.f68) (by kernel_rfl) (by kernel_rfl) (fun f g h => by cases h)))
def libFull : List (Nat × (List PV → Mem → Tr (PV × Mem))) := []
theorem libFull_ok {m : Int} {t : TypeId} {fr : Nat × Nat} : FullOK Tryd.prog (GG m t fr) libFull := (fun f g h => by cases h)
end Go.Proofs.YtlngnfkjpfokhaaDoor.Ev
