/- What the evaluator's memory turns into: a new block, a store, an append. No condition. -/
import Derived.Test.YtbpmfaghjlmjmaaDoorEv
namespace Go.Proofs.YtbpmfaghjlmjmaaDoor.Ev
open Go Go.RowKit
set_option linter.unusedVariables false
set_option linter.unusedSimpArgs false

theorem ext_of {β : Base} {M M' : Mem} {m m' : Nat → Option Value} {w w' : World} (hown : ∀ i v, m i = some v → m' i = some v) (hw : ∀ b, b < w.heap.size → ¬ Live M m b → w'.heap[b]? = w.heap[b]?)
    (hlive : ∀ b, b < w.heap.size → Live M' m' b → Live M m b) (hg : M'.glob = M.glob) : Ext β M m w M' m' w' := by
  refine ⟨hown, fun b o v h => ?_, hg⟩
  have hb : b < w.heap.size := World.block_lt_of_cell? w ⟨b, o, none⟩ h.2.1
  refine ⟨fun hl => h.1 (hlive b hb hl), ?_, h.2.2⟩
  rw [World.cell?_of_block (w := w) (a := ⟨b, o, none⟩) (hw b hb h.1)]
  exact h.2.1
theorem BRep.lt {C : Nat → Nat → Value → Prop} {m : Nat → Option Value} {β : Base} {w : World} {id : Nat} {b : Blk} (h : BRep C m β w id b) : ∃ v, m id = some v ∧ ∀ k, blkOf v = some k → k < w.heap.size := by
  cases h with
  | cells ty cs b vs hm hb hl h1 h hB =>
    refine ⟨_, hm, fun k hk => ?_⟩
    simp only [blkOf, Option.some.injEq] at hk
    subst hk
    exact (Array.getElem?_eq_some_iff.1 hb).1
  | row e sz n f v xs hm ho h1 hl h =>
    refine ⟨_, hm, fun k hk => (ho.lt k ?_).2⟩
    rcases ho.2 with ⟨rfl, _⟩ | ⟨g, cap, cur, rfl, _⟩
    · simp [blkOf] at hk
    · simpa [blkOf, Value.ownBlock] using hk
  | frz sz n f v hm h1 h hk => exact ⟨_, hm, hk⟩
theorem BRep.turn {β : Base} {M M' : Mem} {m m' : Nat → Option Value} {w w' : World} {id : Nat} {b : Blk} (h : BRep (Cell β w M m) m β w id b) (e : Ext β M m w M' m' w') (hsz : w.heap.size ≤ w'.heap.size)
    (hk : b.liv = true → ∀ v k, m id = some v → blkOf v = some k → w'.heap[k]? = w.heap[k]?) : BRep (Cell β w' M' m') m' β w' id b := by
  cases h with
  | cells ty cs b vs hm hb hl h1 h hB => exact .cells ty cs b vs (e.own _ _ hm) ((hk rfl _ b hm rfl).trans hb) hl h1 (fun i p v hp hv => (h i p v hp hv).ext e) hB
  | row el sz n f v xs hm ho h1 hl h =>
    refine .row el sz n f v xs (e.own _ _ hm) ?_ h1 hl fun i j p hi hp => ?_
    · refine ⟨ho.1, ?_⟩
      rcases ho.2 with hn | ⟨g, cap, cur, rfl, hb, hg, r⟩
      · exact .inl hn
      · exact .inr ⟨g, cap, cur, rfl, hb, (hk rfl _ g hm rfl).trans hg, r⟩
    · obtain ⟨x, hx, hr⟩ := h i j p hi hp
      exact ⟨x, hx, hr.mono e.cell fun _ _ h => h⟩
  | frz sz n f v hm h1 h hk' => exact .frz sz n f v (e.own _ _ hm) h1 (h.mono e.cell fun _ _ h => h) fun k h => Nat.lt_of_lt_of_le (hk' k h) hsz

def upd (m : Nat → Option Value) (id : Nat) (v : Value) : Nat → Option Value := fun i => if i = id then some v else m i
theorem upd_same (m : Nat → Option Value) (id : Nat) (v : Value) : upd m id v id = some v := by simp [upd]
theorem upd_other (m : Nat → Option Value) (id : Nat) (v : Value) (i : Nat) (h : i ≠ id) : upd m id v i = m i := by simp [upd, h]
theorem look_cons {α : Type} (k : Nat) (x : α) (r : List (Nat × α)) (i : Nat) : look ((k, x) :: r) i = if k = i then some x else look r i := by
  simp only [look]
  by_cases h : k = i
  · subst h; simp
  · have : Nat.beq k i = false := by
      cases hb : Nat.beq k i with
      | false => rfl
      | true => exact absurd (Nat.eq_of_beq_eq_true hb) h
    simp [this, h]
theorem liv_cons (k : Nat) (x : Blk) (r : List (Nat × Blk)) (i : Nat) : liv ((k, x) :: r) i = if k = i then x.liv else liv r i := by
  unfold liv
  rw [look_cons]
  by_cases h : k = i <;> simp [h]
theorem liv_setL (l : List (Nat × Blk)) (i j : Nat) (y : Blk) : liv (setL l i y) j = if i = j then y.liv else liv l j := by
  unfold liv
  rw [look_setL]
  by_cases h : i = j <;> simp [h]
/-- a block is put in front of all -/
def Mem.new (M : Mem) (b : Blk) : Mem := ⟨(M.nid, b) :: M.blks, M.nid + 1, M.glob⟩

section
variable {β : Base} {M : Mem} {m : Nat → Option Value} {w : World}
theorem MRel.lt (h : MRel β M m w) {id : Nat} {v : Value} (hm : m id = some v) : id < M.nid := by
  rcases Nat.lt_or_ge id M.nid with h' | h'
  · exact h'
  · rw [h.fresh id h'] at hm; cases hm
theorem MRel.livLt (h : MRel β M m w) {i k : Nat} {u : Value} (hs : liv M.blks i = true) (hm : m i = some u) (hk : blkOf u = some k) : k < w.heap.size := by
  obtain ⟨bb, hbb, _⟩ := liv_some hs
  obtain ⟨u', hu', hl⟩ := (h.blk i bb hbb).lt
  rw [hm] at hu'
  cases hu'
  exact hl k hk
theorem MRel.kLt (h : MRel β M m w) {k : Nat} (hk : β.K k) : k < w.heap.size := Nat.lt_of_lt_of_le (h.bsz k hk) h.below.size
/-- a new place of one's own, in a block that was not there or holds nothing that is known -/
theorem MRel.grow (h : MRel β M m w) (b : Blk) (v : Value) {w' : World} (hb : Keeps β.K w w') (hw : ∀ k, k < w.heap.size → w'.heap[k]? = w.heap[k]?) (hv : ∀ k, blkOf v = some k → w.heap.size ≤ k)
    (hrep : Ext β M m w (M.new b) (upd m M.nid v) w' → BRep (Cell β w' (M.new b) (upd m M.nid v)) (upd m M.nid v) β w' M.nid b) :
    MRel β (M.new b) (upd m M.nid v) w' ∧ Ext β M m w (M.new b) (upd m M.nid v) w' := by
  have hne : ∀ {i u}, m i = some u → i ≠ M.nid := fun hm => Nat.ne_of_lt (h.lt hm)
  have hlt : ∀ {i u k}, liv M.blks i = true → m i = some u → blkOf u = some k → k < w.heap.size := h.livLt
  have he : Ext β M m w (M.new b) (upd m M.nid v) w' := by
    refine ext_of (fun i u hm => ?_) (fun k hk _ => hw k hk) (fun k hk hl => ?_) rfl
    · rw [upd_other _ _ _ _ (hne hm)]; exact hm
    · obtain ⟨id, u, hs, hm, hbu⟩ := hl
      by_cases hid : id = M.nid
      · subst hid
        rw [upd_same] at hm
        cases hm
        have := hv k hbu
        omega
      · rw [upd_other _ _ _ _ hid] at hm
        simp only [Mem.new, liv_cons, if_neg (Ne.symm hid)] at hs
        exact ⟨id, u, hs, hm, hbu⟩
  refine ⟨⟨fun id bb hl => ?_, fun id hid => ?_, fun i j u u' k hi hj hu hu' hk hk' => ?_, h.bsz, h.below.trans hb fun _ h => h, fun g cs hg => (h.glob g cs hg).mono he.cell fun _ _ h => h, h.gl, h.objs⟩, he⟩
  · simp only [Mem.new, look_cons] at hl
    by_cases hid : M.nid = id
    · subst hid
      simp only [if_true, Option.some.injEq] at hl
      subst hl
      exact hrep he
    · rw [if_neg hid] at hl
      refine (h.blk id bb hl).turn he hb.size fun hlv u k hu hk => hw k ?_
      exact hlt (by rw [liv_of hl]; exact hlv) hu hk
  · simp only [Mem.new] at hid
    rw [upd_other _ _ _ _ (by omega)]
    exact h.fresh id (by omega)
  · simp only [Mem.new, liv_cons] at hi hj
    by_cases h1 : i = M.nid
    · by_cases h2 : j = M.nid
      · omega
      · rw [if_neg (Ne.symm h2)] at hj
        rw [upd_other _ _ _ _ h2] at hu'
        rw [h1, upd_same] at hu
        cases hu
        have := hv k hk
        have := hlt hj hu' hk'
        omega
    · rw [if_neg (Ne.symm h1)] at hi
      rw [upd_other _ _ _ _ h1] at hu
      by_cases h2 : j = M.nid
      · rw [h2, upd_same] at hu'
        cases hu'
        have := hv k hk'
        have := hlt hi hu hk
        omega
      · rw [if_neg (Ne.symm h2)] at hj
        rw [upd_other _ _ _ _ h2] at hu'
        exact h.inj i j u u' k hi hj hu hu' hk hk'
theorem MRel.notK (h : MRel β M m w) : ¬ β.K w.heap.size := fun hk => Nat.lt_irrefl _ (h.kLt hk)
theorem keeps_new {K : Nat → Prop} {w w' : World} (ho : w'.os = w.os) (ht : w'.tape = w.tape) (hp : w'.output = w.output) (hs : w.heap.size ≤ w'.heap.size) (hk : ∀ k, K k → k < w.heap.size) (hb : ∀ k, k < w.heap.size → w'.heap[k]? = w.heap[k]?) : Keeps K w w' :=
  ⟨ho, ht, hp, hs, fun k h => hb k (hk k h)⟩
/-- a new variable -/
theorem MRel.alloc (h : MRel β M m w) (ty : TypeId) (cs : List PV) (vs : Array Value) (hl : cs.length = vs.size) (h1 : ∀ v ∈ vs, v.oneCell' = true) (hr : ∀ (i : Nat) (p : PV) (v : Value), cs[i]? = some p → vs[i]? = some v → Rep (Cell β w M m) m p v) :
    MRel β (M.new (.cells ty cs)) (upd m M.nid (.pointer (some ⟨w.heap.size, 0, none⟩))) (w.alloc (.cells vs ty)) ∧ Ext β M m w (M.new (.cells ty cs)) (upd m M.nid (.pointer (some ⟨w.heap.size, 0, none⟩))) (w.alloc (.cells vs ty)) :=
  h.grow _ _ (Keeps.of_below ((Below.refl w.heap.size w).alloc (Nat.le_refl _) _) fun _ => h.kLt) (fun k hk => heap_alloc_old w _ hk) (fun k hk => by simp only [blkOf, Option.some.injEq] at hk; omega)
    fun he => .cells ty cs w.heap.size vs (upd_same ..) (heap_alloc_new w _) hl h1 (fun i p v hp hv => (hr i p v hp hv).ext he) h.notK
/-- the block of one place of one's own is written -/
theorem MRel.write (h : MRel β M m w) (id : Nat) (b b' : Blk) (hl : look M.blks id = some b) (hlv : b.liv = true) (hlv' : b'.liv = true) (v : Value) (hv : m id = some v) {w' : World} (hb : Keeps β.K w w') (hw : ∀ k, blkOf v ≠ some k → w'.heap[k]? = w.heap[k]?)
    (hrep : Ext β M m w ⟨setL M.blks id b', M.nid, M.glob⟩ m w' → BRep (Cell β w' ⟨setL M.blks id b', M.nid, M.glob⟩ m) m β w' id b') : MRel β ⟨setL M.blks id b', M.nid, M.glob⟩ m w' ∧ Ext β M m w ⟨setL M.blks id b', M.nid, M.glob⟩ m w' := by
  have hliv : ∀ i, liv (setL M.blks id b') i = liv M.blks i := by
    intro i
    rw [liv_setL]
    by_cases hi : id = i
    · subst hi; simp [liv_of hl, hlv, hlv']
    · simp [hi]
  have he : Ext β M m w ⟨setL M.blks id b', M.nid, M.glob⟩ m w' := by
    refine ext_of (fun _ _ h => h) (fun k hk hn => hw k fun e => hn ⟨id, v, by rw [liv_of hl]; exact hlv, hv, e⟩) (fun k hk hL => ?_) rfl
    obtain ⟨i, u, hs, hm, hbu⟩ := hL
    exact ⟨i, u, by rw [← hliv]; exact hs, hm, hbu⟩
  refine ⟨⟨fun i bb hi => ?_, h.fresh, fun i j u u' k hi hj hu hu' hk hk' => ?_, h.bsz, h.below.trans hb fun _ h => h, fun g cs hg => (h.glob g cs hg).mono he.cell fun _ _ h => h, h.gl, h.objs⟩, he⟩
  · simp only [look_setL] at hi
    by_cases hid : id = i
    · subst hid
      simp only [if_true, Option.some.injEq] at hi
      subst hi
      exact hrep he
    · rw [if_neg hid] at hi
      refine (h.blk i bb hi).turn he hb.size fun hlvb u k hu hk => hw k fun e => hid ?_
      exact h.inj id i v u k (by rw [liv_of hl]; exact hlv) (by rw [liv_of hi]; exact hlvb) hv hu e hk
  · simp only [hliv] at hi hj
    exact h.inj i j u u' k hi hj hu hu' hk hk'
/-- fewer places may be written, in the same world -/
theorem MRel.less (h : MRel β M m w) (l : List (Nat × Blk)) (hliv : ∀ i, liv l i = true → liv M.blks i = true) (hl : ∀ i b, look l i = some b → look M.blks i = some b ∨ (Ext β M m w ⟨l, M.nid, M.glob⟩ m w → BRep (Cell β w ⟨l, M.nid, M.glob⟩ m) m β w i b)) :
    MRel β ⟨l, M.nid, M.glob⟩ m w ∧ Ext β M m w ⟨l, M.nid, M.glob⟩ m w := by
  have he : Ext β M m w ⟨l, M.nid, M.glob⟩ m w := by
    refine ext_of (fun _ _ h => h) (fun k _ _ => rfl) (fun k hk hL => ?_) rfl
    obtain ⟨i, u, hs, hm, hbu⟩ := hL
    exact ⟨i, u, hliv i hs, hm, hbu⟩
  refine ⟨⟨fun i bb hi => ?_, h.fresh, fun i j u u' k hi hj hu hu' hk hk' => h.inj i j u u' k (hliv i hi) (hliv j hj) hu hu' hk hk', h.bsz, h.below, fun g cs hg => (h.glob g cs hg).mono he.cell fun _ _ h => h, h.gl, h.objs⟩, he⟩
  rcases hl i bb hi with h' | h'
  · exact (h.blk i bb h').turn he (Nat.le_refl _) fun _ u k hu hk => rfl
  · exact h' he
def delL {α : Type} : List (Nat × α) → Nat → List (Nat × α)
  | [], _ => []
  | (k, x) :: r, i => match Nat.beq k i with
    | true => delL r i
    | false => (k, x) :: delL r i
theorem look_delL {α : Type} (l : List (Nat × α)) (i j : Nat) : look (delL l i) j = if i = j then none else look l j := by
  induction l with
  | nil => simp [delL, look]
  | cons a r ih =>
    obtain ⟨k, x⟩ := a
    simp only [delL]
    cases hb : Nat.beq k i with
    | true =>
      have := Nat.eq_of_beq_eq_true hb
      subst this
      rw [look_cons, ih]
      by_cases h : k = j <;> simp [h]
    | false =>
      have hki : k ≠ i := by
        rintro rfl
        simp at hb
      dsimp only
      rw [look_cons, look_cons, ih]
      by_cases h : k = j
      · subst h
        simp [Ne.symm hki]
      · simp [h]
theorem liv_delL (l : List (Nat × Blk)) (i j : Nat) : liv (delL l i) j = if i = j then false else liv l j := by
  unfold liv
  rw [look_delL]
  by_cases h : i = j <;> simp [h]
def Mem.del (M : Mem) (id : Nat) : Mem := ⟨delL M.blks id, M.nid, M.glob⟩
/-- a place of one's own is given up: what stands there is never written again -/
theorem MRel.del (h : MRel β M m w) (id : Nat) : MRel β (M.del id) m w ∧ Ext β M m w (M.del id) m w := by
  refine h.less _ (fun i hi => ?_) fun i b hb => .inl ?_
  · rw [liv_delL] at hi
    split at hi
    · cases hi
    · exact hi
  · rw [look_delL] at hb
    split at hb
    · cases hb
    · exact hb
/-- all places are given up -/
def Mem.drop (M : Mem) : Mem := ⟨[], M.nid, M.glob⟩
theorem MRel.drop (h : MRel β M m w) : MRel β M.drop m w ∧ Ext β M m w M.drop m w :=
  h.less [] (fun i hi => by cases hi) fun i b hb => by cases hb
/-- what a row of one's own tells, as a slice -/
theorem row_gsl {C C' : Nat → Nat → Value → Prop} {id e sz n : Nat} {f : Nat → List PV} (hb : BRep C m β w id (.row e sz n f)) (hC : ∀ b o x, C b o x → C' b o x)
    (hc : ∀ v k o x, m id = some v → blkOf v = some k → β.w0.heap.size ≤ k → w.cell? ⟨k, o, none⟩ = some x → C' k o x) (m' : Nat → Option Value) : ∃ v, m id = some v ∧ v.oneCell' = true ∧ Rep C' m' (.gsl sz n f) v := by
  cases hb with
  | row e sz n f v xs hm ho h1 hl h =>
    refine ⟨v, hm, ?_, ?_⟩
    · rcases ho.2 with ⟨rfl, _⟩ | ⟨g, cap, cur, rfl, _⟩ <;> rfl
    rcases ho.2 with ⟨rfl, rfl⟩ | ⟨g, cap, cur, rfl, hbg, hg, hnc, hcm, hcs, htake⟩
    · exact .gnil _ sz f
    · have hlen := ho.1
      refine .gsl _ sz n f g 0 cap (fun i j => xs.getD (i * sz + j) undef) (fun i j hi hj => ?_) hl (fun i j p hi hp => ?_) hnc
      · have hlt : i * sz + j < xs.length := by
          rw [hlen]
          calc i * sz + j < i * sz + sz := by omega
            _ = (i + 1) * sz := by rw [Nat.add_mul, Nat.one_mul]
            _ ≤ n * sz := Nat.mul_le_mul_right _ hi
        have hx : xs[i * sz + j]? = some (xs.getD (i * sz + j) undef) := by
          rw [List.getD_eq_getElem?_getD, List.getElem?_eq_getElem hlt]
          rfl
        refine ⟨hc _ g _ _ hm rfl hbg ?_, h1 _ (List.mem_of_getElem? hx)⟩
        have := ho.cells (g := g) rfl _ _ hx
        rw [show (⟨g, 0, none⟩ : Addr).add (i * sz + j) = ⟨g, 0 + (i * sz + j), none⟩ from by unfold Addr.add; split <;> simp_all] at this
        exact this
      · obtain ⟨x, hx, hr⟩ := h i j p hi hp
        rw [List.getD_eq_getElem?_getD, hx]
        exact hr.mono hC fun _ _ h => h
/-- a row is written no more -/
theorem MRel.freeze (h : MRel β M m w) {id e sz n : Nat} {f : Nat → List PV} (hlk : look M.blks id = some (.row e sz n f)) :
    MRel β ⟨setL M.blks id (.frz sz n f), M.nid, M.glob⟩ m w ∧ Ext β M m w ⟨setL M.blks id (.frz sz n f), M.nid, M.glob⟩ m w := by
  refine h.less _ (fun i hi => ?_) fun i b hb => ?_
  · rw [liv_setL] at hi
    split at hi
    · cases hi
    · exact hi
  · rw [look_setL] at hb
    by_cases hid : id = i
    · subst hid
      rw [if_pos rfl] at hb
      cases hb
      right
      intro he
      have hbr := h.blk id _ hlk
      obtain ⟨v, hv, h1, hr⟩ := row_gsl hbr he.cell (C' := Cell β w ⟨setL M.blks id (.frz sz n f), M.nid, M.glob⟩ m) (fun v k o x hv hk hle hx => by
        refine ⟨?_, hx, fun hlt => absurd hlt (by omega)⟩
        rintro ⟨j, u, hs, hu, hku⟩
        rw [liv_setL] at hs
        by_cases hj : id = j
        · subst hj
          rw [if_pos rfl] at hs
          cases hs
        · rw [if_neg hj] at hs
          exact hj (h.inj id j v u k (by rw [liv_of hlk]; rfl) hs hv hu hk hku)) (fun _ => none)
      obtain ⟨u, hu, hl⟩ := hbr.lt
      rw [hv] at hu
      cases hu
      exact .frz sz n f v hv h1 hr hl
    · rw [if_neg hid] at hb
      exact .inl hb
/-- a place of one's own is given up for another one, that lies in the same block or in a new one -/
theorem MRel.shift (h : MRel β M m w) (id : Nat) (b : Blk) (hlk : look M.blks id = some b) (hlv : b.liv = true) (v : Value) (hv : m id = some v) (b' : Blk) (v' : Value) {w' : World} (hb : Keeps β.K w w')
    (hw : ∀ k, k < w.heap.size → blkOf v ≠ some k → w'.heap[k]? = w.heap[k]?) (hv' : ∀ k, blkOf v' = some k → blkOf v = some k ∨ w.heap.size ≤ k)
    (hrep : Ext β M m w ((M.del id).new b') (upd m M.nid v') w' → BRep (Cell β w' ((M.del id).new b') (upd m M.nid v')) (upd m M.nid v') β w' M.nid b') :
    MRel β ((M.del id).new b') (upd m M.nid v') w' ∧ Ext β M m w ((M.del id).new b') (upd m M.nid v') w' := by
  have hne : ∀ {i u}, m i = some u → i ≠ M.nid := fun hm => Nat.ne_of_lt (h.lt hm)
  have hidn : id ≠ M.nid := hne hv
  have hlid : liv M.blks id = true := by rw [liv_of hlk]; exact hlv
  have hlt : ∀ {i u k}, liv M.blks i = true → m i = some u → blkOf u = some k → k < w.heap.size := h.livLt
  have hnew : ∀ i, look ((M.del id).new b').blks i = if M.nid = i then some b' else if id = i then none else look M.blks i := by
    intro i
    simp only [Mem.new, Mem.del, look_cons, look_delL]
  have hnewl : ∀ i, liv ((M.del id).new b').blks i = if M.nid = i then b'.liv else if id = i then false else liv M.blks i := by
    intro i
    simp only [Mem.new, Mem.del, liv_cons, liv_delL]
  have he : Ext β M m w ((M.del id).new b') (upd m M.nid v') w' := by
    refine ext_of (fun i u hm => ?_) (fun k hk hn => hw k hk fun e => hn ⟨id, v, hlid, hv, e⟩) (fun k hk hl => ?_) rfl
    · rw [upd_other _ _ _ _ (hne hm)]; exact hm
    · obtain ⟨i, u, hs, hm, hbu⟩ := hl
      by_cases hid : i = M.nid
      · subst hid
        rw [upd_same] at hm
        cases hm
        rcases hv' k hbu with e | e
        · exact ⟨id, v, hlid, hv, e⟩
        · omega
      · rw [upd_other _ _ _ _ hid] at hm
        rw [hnewl, if_neg (Ne.symm hid)] at hs
        by_cases h2 : id = i
        · simp [h2] at hs
        · rw [if_neg h2] at hs
          exact ⟨i, u, hs, hm, hbu⟩
  have hold : ∀ {i u k}, id ≠ i → liv M.blks i = true → m i = some u → blkOf u = some k → blkOf v ≠ some k := by
    intro i u k hid hs hm hk e
    exact hid (h.inj id i v u k hlid hs hv hm e hk)
  refine ⟨⟨fun i bb hl => ?_, fun i hid => ?_, fun i j u u' k hi hj hu hu' hk hk' => ?_, h.bsz, h.below.trans hb fun _ h => h, fun g cs hg => (h.glob g cs hg).mono he.cell fun _ _ h => h, h.gl, h.objs⟩, he⟩
  · rw [hnew] at hl
    by_cases hid : M.nid = i
    · subst hid
      simp only [if_true, Option.some.injEq] at hl
      subst hl
      exact hrep he
    · rw [if_neg hid] at hl
      by_cases h2 : id = i
      · simp [h2] at hl
      · rw [if_neg h2] at hl
        refine (h.blk i bb hl).turn he hb.size fun hlvb u k hu hk => hw k (hlt (by rw [liv_of hl]; exact hlvb) hu hk) (hold h2 (by rw [liv_of hl]; exact hlvb) hu hk)
  · simp only [Mem.new, Mem.del] at hid
    rw [upd_other _ _ _ _ (by omega)]
    exact h.fresh i (by omega)
  · rw [hnewl] at hi hj
    by_cases h1 : i = M.nid
    · by_cases h2 : j = M.nid
      · omega
      · rw [if_neg (Ne.symm h2)] at hj
        by_cases h3 : id = j
        · simp [h3] at hj
        · rw [if_neg h3] at hj
          rw [upd_other _ _ _ _ h2] at hu'
          rw [h1, upd_same] at hu
          cases hu
          have hlj := hlt hj hu' hk'
          rcases hv' k hk with e | e
          · exact absurd e (hold h3 hj hu' hk')
          · omega
    · rw [if_neg (Ne.symm h1)] at hi
      by_cases h3 : id = i
      · simp [h3] at hi
      · rw [if_neg h3] at hi
        rw [upd_other _ _ _ _ h1] at hu
        by_cases h2 : j = M.nid
        · rw [h2, upd_same] at hu'
          cases hu'
          have hli := hlt hi hu hk
          rcases hv' k hk' with e | e
          · exact absurd e (hold h3 hi hu hk)
          · omega
        · rw [if_neg (Ne.symm h2)] at hj
          by_cases h4 : id = j
          · simp [h4] at hj
          · rw [if_neg h4] at hj
            rw [upd_other _ _ _ _ h2] at hu'
            exact h.inj i j u u' k hi hj hu hu' hk hk'
end

end Go.Proofs.YtbpmfaghjlmjmaaDoor.Ev
