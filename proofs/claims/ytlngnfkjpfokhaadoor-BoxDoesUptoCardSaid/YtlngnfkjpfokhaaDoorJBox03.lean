/- JBox03: several texts in one. Condition: each part's own. -/
import Derived.Test.YtlngnfkjpfokhaaDoorJBox02
import Derived.Lib.AppendStr
import Derived.LoopN
/- An append to a row of one's own: it lies in the same block, or in a new one. No condition. -/
namespace Go.Proofs.YtlngnfkjpfokhaaDoor.Ev
open Go Go.RowKit
set_option linter.unusedVariables false
set_option linter.unusedSimpArgs false

theorem run_append2 {P : Program} (w : World) (base : Nat) (t ty e : TypeId) (i : TypeInfo) (z : Value) (size bytes : Nat) (ht : P.underlying t = some (.slice e)) (hi : P.info? e = some i) (hz : i.zero = some z)
    (hsize : i.size = size) (hby : i.bytes = bytes) (hzs : z.cells.size = size) (hsz : 0 < size)
    (v : Value) (n : Nat) (xs : List Value) (hown : w.ownsRow base e size v n xs)
    (a : Addr) (m c : Nat) (news : List Value) (hl : news.length = m * size) (hnews : ∀ (j : Nat) (u : Value), news[j]? = some u → w.cell? (a.add j) = some u) (h1 : ∀ u ∈ news, u.oneCell' = true)
    (h63 : n + m ≤ maxLen) (hbytes : (n + m) * bytes ≤ 140737488355328) (hbase : base ≤ w.heap.size) :
    ∃ v' w', (Builtin.append_ #[t, t] ty #[v, .slice (some a) m c]).run P w = .ok v' w' ∧ w'.ownsRow base e size v' (n + m) (xs ++ news) ∧ w.grownBy w' v.ownBlock ∧ v'.oneCell' = true ∧
      (∀ k, blkOf v' = some k → blkOf v = some k ∨ w.heap.size ≤ k) := by
  obtain ⟨v', w', hr, h2, h3, h4⟩ := run_append_own (P := P) w base t ty e i z size bytes ht hi hz hsize hby hzs hsz v n xs hown a m c news hl hnews h1 h63 hbytes hbase
  have hone : v'.oneCell' = true := by
    rcases h2.2 with ⟨rfl, _⟩ | ⟨g, cap, cur, rfl, _⟩ <;> rfl
  refine ⟨v', w', hr, h2, h3, hone, ?_⟩
  have hsmall : n + m ≤ 9223372036854775807 := by simp only [maxLen] at h63; omega
  rcases hown.2 with ⟨rfl, rfl⟩ | ⟨g, cap, cur, rfl, hbg, hg, hnc, hcm, hcs, htake⟩
  · have hx : xs = [] := List.eq_nil_of_length_eq_zero (by simpa using hown.1)
    subst hx
    obtain ⟨v2, w2, hr2, h22, _⟩ := run_append_own (P := P) w w.heap.size t ty e i z size bytes ht hi hz hsize hby hzs hsz _ 0 [] (World.ownsRow_nil w w.heap.size e size) a m c news hl hnews h1 h63 hbytes (Nat.le_refl _)
    rw [hr] at hr2
    cases hr2
    intro k hk
    right
    refine (h22.lt k ?_).1
    rcases h22.2 with ⟨rfl, _⟩ | ⟨g, cap, cur, rfl, _⟩
    · cases hk
    · exact hk
  · subst hsize
    subst hby
    by_cases hroom : n + m ≤ cap
    · have hfit : n * i.size + news.length ≤ cur.size := by rw [hl, hcs, ← Nat.add_mul]; exact Nat.mul_le_mul_right _ hroom
      have := run_append_room (P := P) w t ty e i ht hi g n cap cur hg a m c news hl hnews h1 hroom hfit
      rw [hr] at this
      cases this
      intro k hk
      exact .inl hk
    · have holds : ∀ (j : Nat) (u : Value), xs[j]? = some u → w.cell? ((⟨g, 0, none⟩ : Addr).add j) = some u := hown.cells (g := g) rfl
      have := run_append_grow (P := P) w t ty e i z ht hi hz ⟨g, 0, none⟩ n cap xs hown.1 holds a m c news hl hnews (by omega) (by omega) (growslice_fits (by omega) hbytes)
      rw [hr] at this
      cases this
      intro k hk
      right
      simp only [blkOf, Option.some.injEq] at hk
      omega
theorem blkOf_own {v : Value} {k : Nat} (h : v.ownBlock = some k) : blkOf v = some k := by
  unfold Value.ownBlock at h
  split at h
  · exact h
  · cases h

/-- the elements of two rows, one behind the other -/
def rowApp (n : Nat) (f g : Nat → List PV) (i : Nat) : List PV := match Nat.blt i n with
  | true => f i
  | false => g (i - n)
theorem keeps_own {β : Base} {M : Mem} {m : Nat → Option Value} {w w' : World} {v : Value} (h : MRel β M m w) (hg : w.grownBy w' v.ownBlock) (hv : ∀ k, v.ownBlock = some k → ¬ β.K k) : Keeps β.K w w' :=
  ⟨hg.os, hg.tape, hg.output, hg.size, fun k hk => hg.block k (h.kLt hk) fun e => hv k e.symm hk⟩
section
variable {β : Base} {M : Mem} {m : Nat → Option Value} {w : World}
theorem rowApp_rep {C C' : Nat → Nat → Value → Prop} (hC : ∀ b o v, C b o v → C' b o v) {sz n k : Nat} {f g : Nat → List PV} {xs ys : List Value} (hx : xs.length = n * sz) (hf : ∀ i, i < n → (f i).length = sz) (hg : ∀ i, i < k → (g i).length = sz)
    (h1 : ∀ (i j : Nat) (p : PV), i < n → (f i)[j]? = some p → ∃ x, xs[i * sz + j]? = some x ∧ Rep C (fun _ => none) p x) (h2 : ∀ (i j : Nat) (p : PV), i < k → (g i)[j]? = some p → ∃ x, ys[i * sz + j]? = some x ∧ Rep C (fun _ => none) p x) :
    (∀ i, i < n + k → (rowApp n f g i).length = sz) ∧ ∀ (i j : Nat) (p : PV), i < n + k → (rowApp n f g i)[j]? = some p → ∃ x, (xs ++ ys)[i * sz + j]? = some x ∧ Rep C' (fun _ => none) p x := by
  constructor
  · intro i hi
    unfold rowApp
    cases hb : Nat.blt i n with
    | true => exact hf i (by simpa [Nat.blt_eq] using hb)
    | false =>
      have : ¬ i < n := by
        intro h
        rw [Nat.blt_eq.symm] at h
        rw [h] at hb
        cases hb
      exact hg _ (by omega)
  · intro i j p hi hp
    unfold rowApp at hp
    cases hb : Nat.blt i n with
    | true =>
      rw [hb] at hp
      obtain ⟨x, hx', hr⟩ := h1 i j p (by simpa [Nat.blt_eq] using hb) hp
      refine ⟨x, ?_, hr.mono hC fun _ _ h => h⟩
      rw [List.getElem?_append_left (List.getElem?_eq_some_iff.1 hx').1]
      exact hx'
    | false =>
      rw [hb] at hp
      have hn : n ≤ i := by
        rcases Nat.lt_or_ge i n with h | h
        · rw [Nat.blt_eq.symm] at h
          rw [h] at hb
          cases hb
        · exact h
      obtain ⟨x, hx', hr⟩ := h2 (i - n) j p (by omega) hp
      refine ⟨x, ?_, hr.mono hC fun _ _ h => h⟩
      have hle : n * sz ≤ i * sz := Nat.mul_le_mul_right _ hn
      rw [List.getElem?_append_right (by omega), hx]
      rw [Nat.sub_mul] at hx'
      have : i * sz + j - n * sz = i * sz - n * sz + j := by omega
      rw [this]
      exact hx'
/-- an append to a row of one's own, in the memory -/
theorem MRel.app (h : MRel β M m w) {id : Nat} {e sz n k : Nat} {f g : Nat → List PV} (hlk : look M.blks id = some (.row e sz n f)) {v v' : Value} {w' : World} {xs ys : List Value} (hv : m id = some v) (ho : w.ownsRow 0 e sz v n xs)
    (hb : BRep (Cell β w M m) m β w id (.row e sz n f)) (ho' : w'.ownsRow 0 e sz v' (n + k) (xs ++ ys)) (hgr : w.grownBy w' v.ownBlock) (hnew : ∀ k, blkOf v' = some k → blkOf v = some k ∨ w.heap.size ≤ k)
    (hy1 : ∀ y ∈ ys, y.oneCell' = true) (hgl : ∀ i, i < k → (g i).length = sz) (hy : ∀ (i j : Nat) (p : PV), i < k → (g i)[j]? = some p → ∃ x, ys[i * sz + j]? = some x ∧ Rep (Cell β w M m) (fun _ => none) p x) (hxs : ∀ xs', w.ownsRow 0 e sz v n xs' → xs' = xs) :
    MRel β ((M.del id).new (.row e sz (n + k) (rowApp n f g))) (upd m M.nid v') w' ∧ Ext β M m w ((M.del id).new (.row e sz (n + k) (rowApp n f g))) (upd m M.nid v') w' := by
  have hKv : ∀ k, blkOf v = some k → ¬ β.K k := by
    cases hb with
    | row e sz n f v1 xs1 hm1 ho1 hKr h11 hl1 hr1 =>
      rw [hv] at hm1
      cases hm1
      exact hKr
  refine h.shift id _ hlk rfl v hv _ v' (keeps_own h hgr fun k hk => hKv k (blkOf_own hk)) (fun k hk hne => hgr.block k hk fun e => hne (blkOf_own e.symm)) hnew fun he => ?_
  cases hb with
  | row e sz n f v1 xs1 hm1 ho1 hKr h11 hl1 hr1 =>
    rw [hv] at hm1
    cases hm1
    have := hxs xs1 ho1
    subst this
    obtain ⟨c1, c2⟩ := rowApp_rep (C' := Cell β w' ((M.del id).new (.row e sz (n + k) (rowApp n f g))) (upd m M.nid v')) he.cell ho1.1 hl1 hgl hr1 hy
    refine .row e sz _ _ v' (xs1 ++ ys) (upd_same ..) ho' (fun k hk hkk => ?_) (fun x hx => ?_) c1 c2
    · rcases hnew k hk with e | e
      · exact hKv k e hkk
      · exact Nat.lt_irrefl _ (Nat.lt_of_lt_of_le (h.kLt hkk) e)
    rcases List.mem_append.1 hx with hx | hx
    · exact h11 x hx
    · exact hy1 x hx
end

theorem ownsRow_inj {w : World} {B e sz : Nat} {v : Value} {n : Nat} {xs ys : List Value} (h : w.ownsRow B e sz v n xs) (k : w.ownsRow B e sz v n ys) : ys = xs := by
  rcases h.2 with ⟨rfl, rfl⟩ | ⟨g, cap, cur, rfl, hb, hg, hn, hc, hs, ht⟩
  · have h1 := h.1
    have h2 := k.1
    rw [Nat.zero_mul] at h1 h2
    rw [List.eq_nil_of_length_eq_zero h1, List.eq_nil_of_length_eq_zero h2]
  · rcases k.2 with ⟨he, _⟩ | ⟨g', cap', cur', he, hb', hg', hn', hc', hs', ht'⟩
    · cases he
    · cases he
      rw [hg] at hg'
      cases hg'
      rw [← ht, ← ht']

/-- an append of a row that may be none -/
theorem run_append3 {P : Program} (w : World) (base : Nat) (t ty e : TypeId) (i : TypeInfo) (z : Value) (size bytes : Nat) (ht : P.underlying t = some (.slice e)) (hi : P.info? e = some i) (hz : i.zero = some z)
    (hsize : i.size = size) (hby : i.bytes = bytes) (hzs : z.cells.size = size) (hsz : 0 < size)
    (v : Value) (n : Nat) (xs : List Value) (hown : w.ownsRow base e size v n xs)
    (vx : Value) (k : Nat) (ys : List Value) (hl : ys.length = k * size) (hx : (vx = .slice none 0 0 ∧ k = 0) ∨ ∃ a c, vx = .slice (some a) k c ∧ ∀ (j : Nat) (u : Value), ys[j]? = some u → w.cell? (a.add j) = some u) (h1 : ∀ u ∈ ys, u.oneCell' = true)
    (h63 : n + k ≤ maxLen) (hbytes : (n + k) * bytes ≤ 140737488355328) (hbase : base ≤ w.heap.size) :
    ∃ v' w', (Builtin.append_ #[t, t] ty #[v, vx]).run P w = .ok v' w' ∧ w'.ownsRow base e size v' (n + k) (xs ++ ys) ∧ w.grownBy w' v.ownBlock ∧ v'.oneCell' = true ∧
      (∀ k, blkOf v' = some k → blkOf v = some k ∨ w.heap.size ≤ k) := by
  rcases hx with ⟨rfl, rfl⟩ | ⟨a, c, rfl, hc⟩
  · have hy : ys = [] := List.eq_nil_of_length_eq_zero (by simpa using hl)
    subst hy
    rw [List.append_nil]
    refine ⟨v, w, ?_, hown, ⟨rfl, rfl, rfl, Nat.le_refl _, fun _ _ _ => rfl⟩, ?_, fun _ h => .inl h⟩
    · rcases hown.2 with ⟨rfl, rfl⟩ | ⟨g, cap, cur, rfl, hbg, hg, hnc, hrest⟩
      · simp [Builtin.append_, run_underlying ht, sizeOf, typeInfo, hi, Builtin.lenOf, Builtin.firstCells]
      · simp [Builtin.append_, run_underlying ht, sizeOf, typeInfo, hi, Builtin.lenOf, Builtin.firstCells, hnc, storeCells]
    · rcases hown.2 with ⟨rfl, _⟩ | ⟨g, cap, cur, rfl, _⟩ <;> rfl
  · exact run_append2 w base t ty e i z size bytes ht hi hz hsize hby hzs hsz v n xs hown a k c ys hl hc h1 h63 hbytes hbase
/-- an append behind a slice of nothing, without room -/
theorem run_append_emp {P : Program} (w : World) (base : Nat) (t ty e : TypeId) (i : TypeInfo) (z : Value) (size bytes : Nat) (ht : P.underlying t = some (.slice e)) (hi : P.info? e = some i) (hz : i.zero = some z)
    (hsize : i.size = size) (hby : i.bytes = bytes) (hzs : z.cells.size = size) (b : Addr) (a : Addr) (k c : Nat) (hk : 0 < k) (ys : List Value) (hl : ys.length = k * size) (hc : ∀ (j : Nat) (u : Value), ys[j]? = some u → w.cell? (a.add j) = some u)
    (h63 : k ≤ maxLen) (hbytes : k * bytes ≤ 140737488355328) (hbase : base ≤ w.heap.size) :
    ∃ v' w', (Builtin.append_ #[t, t] ty #[.slice (some b) 0 0, .slice (some a) k c]).run P w = .ok v' w' ∧ w'.ownsRow base e size v' k ys ∧ w.grownBy w' none ∧ v'.oneCell' = true ∧ (∀ j, blkOf v' = some j → w.heap.size ≤ j) := by
  subst hsize
  subst hby
  have hsmall : k ≤ 9223372036854775807 := by simp only [maxLen] at h63; omega
  have hr := run_append_grow (P := P) w t ty e i z ht hi hz b 0 0 [] (by simp) (by simp) a k c ys hl hc (by omega) (by omega) (growslice_fits (by omega) (by rw [Nat.zero_add]; exact hbytes))
  simp only [Nat.zero_add, Array.empty_append] at hr
  have hge := grownCap_ge w k 0 e
  have hcm : grownCap w k 0 e ≤ maxLen := grownCap_le_maxLen w k 0 e h63
  refine ⟨_, _, hr, ⟨hl, .inr ⟨w.heap.size, _, _, rfl, hbase, heap_alloc_new w.drew _, hge, hcm, ?_, ?_⟩⟩, ⟨rfl, rfl, rfl, by simp, fun j hj _ => heap_alloc_old w.drew _ hj⟩, rfl, fun j hj => ?_⟩
  · simp only [Array.size_append, List.size_toArray, size_zeroCells, hzs, hl, ← Nat.add_mul]
    congr 1
    omega
  · simp only [Array.toList_append]
    rw [← hl]
    exact List.take_left
  · simp only [blkOf, Option.some.injEq] at hj
    omega
/-- what is put behind a row: its elements -/
def argOf (st : St) (e : TypeId) (sz : Nat) (not : Nat → Bool) : PV → Option (Nat × (Nat → List PV))
  | .own d => match look st.mem.blks d with
    | some (.row e' sz' k g) => match Nat.beq e' e && Nat.beq sz' sz && !not d with
      | true => some (k, g)
      | false => none
    | _ => none
  | .gsl sz' k g => match Nat.beq sz' sz with
    | true => some (k, g)
    | false => none
  | .lit (.slice none 0 0) => some (0, fun _ => [])
  | .lit (.slice (some _) 0 _) => some (0, fun _ => [])
  | _ => none
theorem argOf_ok {β : Base} {st : St} {m : Nat → Option Value} {w : World} (h : MRel β st.mem m w) {e sz : Nat} (hsz : 0 < sz) {not : Nat → Bool} {p : PV} {v : Value} (hr : Rep (Cell β w st.mem m) m p v) {k : Nat} {g : Nat → List PV} (ha : argOf st e sz not p = some (k, g)) :
    ∃ ys : List Value, ys.length = k * sz ∧ (∀ u ∈ ys, u.oneCell' = true) ∧ (∀ i, i < k → (g i).length = sz) ∧ (∀ (i j : Nat) (p : PV), i < k → (g i)[j]? = some p → ∃ x, ys[i * sz + j]? = some x ∧ Rep (Cell β w st.mem m) (fun _ => none) p x) ∧
      ((v = .slice none 0 0 ∧ k = 0) ∨ ∃ a c, v = .slice (some a) k c ∧ ∀ (j : Nat) (u : Value), ys[j]? = some u → w.cell? (a.add j) = some u) := by
  unfold argOf at ha
  split at ha
  · rename_i d
    split at ha
    · rename_i e' sz' k' g' hlk
      split at ha
      · rename_i hc
        simp only [Bool.and_eq_true] at hc
        have he := Nat.eq_of_beq_eq_true hc.1.1
        have hs := Nat.eq_of_beq_eq_true hc.1.2
        subst he
        subst hs
        cases ha
        cases hr with
        | own m id v hm h1 =>
          have hb := h.blk d _ hlk
          cases hb with
          | row e sz n f v1 xs hm1 ho hKr h11 hl1 hr1 =>
            rw [hm] at hm1
            cases hm1
            refine ⟨xs, ho.1, h11, hl1, hr1, ?_⟩
            rcases ho.2 with ⟨rfl, rfl⟩ | ⟨g1, cap, cur, rfl, hbg, hg, hnc, hrest⟩
            · exact .inl ⟨rfl, rfl⟩
            · exact .inr ⟨⟨g1, 0, none⟩, cap, rfl, ho.cells (g := g1) rfl⟩
      · cases ha
    · cases ha
  · rename_i sz' k' g'
    split at ha
    · rename_i hs
      have hs := Nat.eq_of_beq_eq_true hs
      subst hs
      cases ha
      cases hr with
      | gnil m sz f => exact ⟨[], by simp, by simp, fun i hi => by omega, fun i j p hi => by omega, .inl ⟨rfl, rfl⟩⟩
      | gspt m sz f a => exact ⟨[], by simp, by simp, fun i hi => by omega, fun i j p hi => by omega, .inr ⟨a, 0, rfl, by simp⟩⟩
      | gsl m sz n f b o cap gv hc hl hrr hcap =>
        have hidx : ∀ i j, j < sz' → (i * sz' + j) / sz' = i ∧ (i * sz' + j) % sz' = j := by
          intro i j hj
          constructor
          · rw [Nat.mul_comm, Nat.mul_add_div hsz, Nat.div_eq_of_lt hj, Nat.add_zero]
          · rw [Nat.mul_comm, Nat.mul_add_mod, Nat.mod_eq_of_lt hj]
        have hdiv : ∀ t, t < k * sz' → t / sz' < k ∧ t % sz' < sz' ∧ t / sz' * sz' + t % sz' = t := by
          intro t ht
          refine ⟨(Nat.div_lt_iff_lt_mul hsz).2 ht, Nat.mod_lt _ hsz, ?_⟩
          rw [Nat.mul_comm]
          exact Nat.div_add_mod t sz'
        refine ⟨(List.range (k * sz')).map fun t => gv (t / sz') (t % sz'), by simp, ?_, hl, ?_, .inr ⟨⟨b, o, none⟩, cap, rfl, ?_⟩⟩
        · intro u hu
          simp only [List.mem_map, List.mem_range] at hu
          obtain ⟨t, ht, rfl⟩ := hu
          exact (hc _ _ (hdiv t ht).1 (hdiv t ht).2.1).2
        · intro i j p hi hp
          have hj : j < sz' := by
            rw [← hl i hi]
            exact (List.getElem?_eq_some_iff.1 hp).1
          have hlt : i * sz' + j < k * sz' := by
            have := Nat.mul_le_mul_right sz' (Nat.succ_le_of_lt hi)
            rw [Nat.succ_mul] at this
            omega
          refine ⟨gv i j, ?_, hrr i j p hi hp⟩
          rw [List.getElem?_map, List.getElem?_range hlt, Option.map_some, (hidx i j hj).1, (hidx i j hj).2]
        · intro j u hu
          rw [List.getElem?_map] at hu
          rcases Nat.lt_or_ge j (k * sz') with hj | hj
          · rw [List.getElem?_range hj] at hu
            simp only [Option.map_some, Option.some.injEq] at hu
            subst hu
            obtain ⟨h1, h2, h3⟩ := hdiv j hj
            have := (hc _ _ h1 h2).1.2.1
            rw [h3] at this
            rw [addr_add]
            exact this
          · rw [List.getElem?_eq_none (by simpa using hj)] at hu
            cases hu
    · cases ha
  · cases ha
    have := litOf_rep hr rfl
    exact ⟨[], by simp, by simp, fun i hi => by omega, fun i j p hi => by omega, .inl ⟨this, rfl⟩⟩
  · cases ha
    have := litOf_rep hr rfl
    exact ⟨[], by simp, by simp, fun i hi => by omega, fun i j p hi => by omega, .inr ⟨_, _, this, fun j u hu => by simp at hu⟩⟩
  · cases ha
/-- an append of a text's bytes -/
theorem run_append_str {P : Program} (w : World) (base : Nat) (t u ty e : TypeId) (i : TypeInfo) (ht : P.underlying t = some (.slice e)) (hu : P.underlying u = some .string) (hi : P.info? e = some i) (hz : i.zero = some (.int .u8 0))
    (hsize : i.size = 1) (hby : i.bytes = 1) (v : Value) (n : Nat) (xs : List Value) (hown : w.ownsRow base e 1 v n xs) (s : ByteArray) (h63 : n + s.size ≤ maxLen) (hbytes : n + s.size ≤ 140737488355328) (hbase : base ≤ w.heap.size) :
    ∃ v' w', (Builtin.append_ #[t, u] ty #[v, .string s]).run P w = .ok v' w' ∧ w'.ownsRow base e 1 v' (n + s.size) (xs ++ Lib.strCells s) ∧ w.grownBy w' v.ownBlock ∧ v'.oneCell' = true ∧
      (∀ k, blkOf v' = some k → blkOf v = some k ∨ w.heap.size ≤ k) := by
  obtain ⟨v', w', hr, h2, h3, -⟩ := Lib.run_append_own_string (P := P) w base t u ty e i ht hu hi hz hsize hby v n xs hown s h63 hbytes hbase
  have hone : v'.oneCell' = true := by
    rcases h2.2 with ⟨rfl, _⟩ | ⟨g, cap, cur, rfl, _⟩ <;> rfl
  refine ⟨v', w', hr, h2, h3, hone, ?_⟩
  have hsmall : n + s.size ≤ 9223372036854775807 := by simp only [maxLen] at h63; omega
  rcases hown.2 with ⟨rfl, rfl⟩ | ⟨g, cap, cur, rfl, hbg, hg, hnc, hcm, hcs, htake⟩
  · have hx : xs = [] := List.eq_nil_of_length_eq_zero (by simpa using hown.1)
    subst hx
    obtain ⟨v2, w2, hr2, h22, _⟩ := Lib.run_append_own_string (P := P) w w.heap.size t u ty e i ht hu hi hz hsize hby _ 0 [] (World.ownsRow_nil w w.heap.size e 1) s h63 hbytes (Nat.le_refl _)
    rw [hr] at hr2
    cases hr2
    intro k hk
    right
    refine (h22.lt k ?_).1
    rcases h22.2 with ⟨rfl, _⟩ | ⟨g, cap, cur, rfl, _⟩
    · cases hk
    · exact hk
  · by_cases hroom : n + s.size ≤ cap
    · have hfit : n + s.size ≤ cur.size := by rw [hcs, Nat.mul_one]; exact hroom
      have := Lib.run_append_room_string (P := P) w t u ty e i ht hu hi hsize g n cap cur hg s hroom hfit
      rw [hr] at this
      cases this
      intro k hk
      exact .inl hk
    · have holds : ∀ (j : Nat) (u : Value), xs[j]? = some u → w.cell? ((⟨g, 0, none⟩ : Addr).add j) = some u := hown.cells (g := g) rfl
      have := Lib.run_append_grow_string (P := P) w t u ty e i (.int .u8 0) ht hu hi hz ⟨g, 0, none⟩ n cap xs (by rw [hsize]; exact hown.1) holds s (by omega) (by omega) (growslice_fits (by omega) (by rw [hby, Nat.mul_one]; exact hbytes))
      rw [hr] at this
      cases this
      intro k hk
      right
      simp only [blkOf, Option.some.injEq] at hk
      omega
/-- a text's bytes, as a row -/
def strRow (s : ByteArray) (i : Nat) : List PV := [.lit (.int .u8 (s.data.getD i 0).toNat)]
theorem strRow_rep {C : Nat → Nat → Value → Prop} (s : ByteArray) : (∀ i, i < s.size → (strRow s i).length = 1) ∧ ∀ (i j : Nat) (p : PV), i < s.size → (strRow s i)[j]? = some p → ∃ x, (Lib.strCells s)[i * 1 + j]? = some x ∧ Rep C (fun _ => none) p x := by
  refine ⟨fun _ _ => rfl, fun i j p hi hp => ?_⟩
  cases j with
  | zero =>
    simp only [strRow, List.getElem?_cons_zero, Option.some.injEq] at hp
    subst hp
    refine ⟨.int .u8 (s.data.getD i 0).toNat, ?_, .lit _ _⟩
    have hlt : i < s.data.size := hi
    unfold Lib.strCells
    rw [Nat.mul_one, Nat.add_zero, List.getElem?_map, Array.getElem?_toList, Array.getElem?_eq_getElem hlt]
    simp [Array.getD, hlt, hi]
  | succ j => simp [strRow] at hp
/-- which operations are appends -/
def isApp (o : Oper) : Bool := match o.op with
  | .call c => match c.callee with
    | .builtin .append => true
    | _ => false
  | _ => false
/-- an append of elements to a row of one's own, or to none -/
def opApp (P : Program) (st : St) (o : Oper) : Tr St := match o.op with
  | .call c => match c.callee, c.args.toList, c.argTypes.toList with
    | .builtin .append, [s, x], [t, u] => match Nat.beq t u, P.underlying t with
      | true, some (.slice e) => match P.info? e with
        | some i => match i.zero with
          | some z => match Nat.beq z.cells.size i.size && Nat.blt 0 i.size && Nat.blt 0 i.bytes with
            | true => match st.val s with
              | .own id => match look st.mem.blks id with
                | some (.row e2 sz2 n f) => match Nat.beq e2 e && Nat.beq sz2 i.size, argOf st e i.size (Nat.beq id) (st.val x) with
                  | true, some (k, g) => .br (Nat.ble ((n + k) * i.bytes) 140737488355328) ({ st with mem := (st.mem.del id).new (.row e i.size (n + k) (rowApp n f g)) }.put o.dst (.own st.mem.nid)) .fail
                  | _, _ => .fail
                | _ => .fail
              | .lit (.slice none 0 0) => match argOf st e i.size (fun _ => false) (st.val x) with
                | some (k, g) => .br (Nat.ble (k * i.bytes) 140737488355328) ({ st with mem := st.mem.new (.row e i.size k g) }.put o.dst (.own st.mem.nid)) .fail
                | none => .fail
              | .emp => match argOf st e i.size (fun _ => false) (st.val x) with
                | some (k, g) => .br (Nat.blt 0 k && Nat.ble (k * i.bytes) 140737488355328) ({ st with mem := st.mem.new (.row e i.size k g) }.put o.dst (.own st.mem.nid)) .fail
                | none => .fail
              | _ => .fail
            | false => .fail
          | none => .fail
        | none => .fail
      | false, some (.slice e) => match P.underlying u, st.val x with
        | some .string, .lit (.string y) => match P.info? e with
          | some i => match i.zero with
            | some (.int .u8 0) => match Nat.beq i.size 1 && Nat.beq i.bytes 1 with
              | true => match st.val s with
                | .own id => match look st.mem.blks id with
                  | some (.row e2 sz2 n f) => match Nat.beq e2 e && Nat.beq sz2 1 with
                    | true => .br (Nat.ble (n + y.size) 140737488355328) ({ st with mem := (st.mem.del id).new (.row e 1 (n + y.size) (rowApp n f (strRow y))) }.put o.dst (.own st.mem.nid)) .fail
                    | false => .fail
                  | _ => .fail
                | .lit (.slice none 0 0) => .br (Nat.ble y.size 140737488355328) ({ st with mem := st.mem.new (.row e 1 y.size (strRow y)) }.put o.dst (.own st.mem.nid)) .fail
                | _ => .fail
              | false => .fail
            | _ => .fail
          | none => .fail
        | _, _ => .fail
      | _, _ => .fail
    | _, _, _ => .fail
  | _ => .fail
section
variable {P : Program} {β : Base} {st st' : St} {m : Nat → Option Value} {a : Act} {w : World}
theorem opApp_ok (h : Rel β st m a w) {o : Oper} (hp : (opApp P st o).run = some st') {K : Act → World → Prop} {Q : Exit → Act → World → Prop}
    (hK : ∀ m' v w', Ext β st.mem m w st'.mem m' w' → Rel β st' m' (a.put o.dst v) w' → K (a.put o.dst v) w') : o.wp P a w K Q := by
  unfold opApp at hp
  split at hp
  · rename_i c ho
    split at hp
    · rename_i s x t u hcal hargs htys
      obtain ⟨callee, args, tys⟩ := c
      dsimp only at hcal hargs htys
      have hargs' : args = #[s, x] := by rw [← Array.toArray_toList (xs := args), hargs]
      have htys' : tys = #[t, u] := by rw [← Array.toArray_toList (xs := tys), htys]
      subst hcal
      subst hargs'
      subst htys'
      split at hp
      · rename_i e htu hu
        have := Nat.eq_of_beq_eq_true htu
        subst this
        split at hp
        · rename_i i hi
          split at hp
          · rename_i z hz
            have hx := h.val x
            have hs := h.val s
            generalize st.val x = q at hx hp
            generalize st.val s = r at hs hp
            split at hp
            · rename_i hconds
              simp only [Bool.and_eq_true, Nat.blt_eq] at hconds
              obtain ⟨⟨hzs, hsz⟩, hby⟩ := hconds
              have hzs := Nat.eq_of_beq_eq_true hzs
              have hmaxOf : ∀ N, N * i.bytes ≤ 140737488355328 → N ≤ maxLen := by
                intro N hN
                have : N * 1 ≤ N * i.bytes := Nat.mul_le_mul_left _ hby
                simp only [maxLen]
                omega
              split at hp
              · rename_i id
                split at hp
                · rename_i e2 sz2 n f hlk
                  split at hp
                  · rename_i k g hc2 hag
                    simp only [Bool.and_eq_true] at hc2
                    have he2 := Nat.eq_of_beq_eq_true hc2.1
                    have hs2 := Nat.eq_of_beq_eq_true hc2.2
                    subst he2
                    subst hs2
                    simp only [Tr.run] at hp
                    cases hb : Nat.ble ((n + k) * i.bytes) 140737488355328 with
                    | false => rw [hb] at hp; cases hp
                    | true =>
                      rw [hb] at hp
                      simp only [cond_true] at hp
                      have hbytes := Nat.le_of_ble_eq_true hb
                      obtain ⟨ys, y1, y2, y3, y4, y5⟩ := argOf_ok h.mem hsz hx hag
                      generalize hsv : a.eval s = vs at hs
                      cases hs with
                      | own m id vs hmi h1i =>
                        have hbi := h.mem.blk id _ hlk
                        have hbi' := hbi
                        cases hbi with
                        | row e sz n f v2 xs hm2 ho2 hKr h12 hl2 hr2 =>
                          rw [hmi] at hm2
                          cases hm2
                          obtain ⟨v', w', hrun, hown', hgr, hone, hnew⟩ := run_append3 (P := P) w 0 t o.type _ i z i.size i.bytes hu hi hz rfl rfl hzs hsz vs n xs ho2 (a.eval x) k ys y1 y5 y2 (hmaxOf _ hbytes) hbytes (Nat.zero_le _)
                          obtain ⟨hM, hE⟩ := h.mem.app hlk hmi ho2 hbi' hown' hgr hnew y2 y3 y4 fun xs' h' => ownsRow_inj ho2 h'
                          have h2 := (h.turn hE hM).put (d := o.dst) (p := .own st.mem.nid) (v := v') (.own _ _ _ (upd_same ..) hone) hp
                          unfold Oper.wp
                          have hx : (execOp a.eval o).run P w = .ok (.value v') w' := by
                            unfold execOp
                            rw [ho]
                            simp [resolve, invoke, builtin, hsv, hrun]
                          rw [hx, Oper.upon_value]
                          refine hK _ _ _ ?_ h2
                          rw [put_mem hp]
                          exact hE
                  · cases hp
                · cases hp
              · split at hp
                · rename_i k g hag
                  simp only [Tr.run] at hp
                  cases hb : Nat.ble (k * i.bytes) 140737488355328 with
                  | false => rw [hb] at hp; cases hp
                  | true =>
                    rw [hb] at hp
                    simp only [cond_true] at hp
                    have hbytes := Nat.le_of_ble_eq_true hb
                    have hsv := litOf_rep hs rfl
                    obtain ⟨ys, y1, y2, y3, y4, y5⟩ := argOf_ok h.mem hsz hx hag
                    obtain ⟨v', w', hrun, hown', hgr, hone, hnew⟩ := run_append3 (P := P) w 0 t o.type _ i z i.size i.bytes hu hi hz rfl rfl hzs hsz (.slice none 0 0) 0 [] (World.ownsRow_nil w _ _ _) (a.eval x) k ys y1 y5 y2 (by rw [Nat.zero_add]; exact hmaxOf _ hbytes) (by rw [Nat.zero_add]; exact hbytes) (Nat.zero_le _)
                    rw [Nat.zero_add, List.nil_append] at hown'
                    have hnew' : ∀ j, blkOf v' = some j → w.heap.size ≤ j := fun j hj => (hnew j hj).resolve_left (by simp [blkOf])
                    obtain ⟨hM, hE⟩ := h.mem.grow (.row _ i.size k g) v' (keeps_own h.mem hgr fun j hj => by cases hj) (fun j hj => hgr.block j hj (by simp [Value.ownBlock])) hnew' fun he =>
                      .row _ i.size k g v' ys (upd_same ..) hown' (fun j hj hjk => Nat.lt_irrefl _ (Nat.lt_of_lt_of_le (h.mem.kLt hjk) (hnew' j hj))) y2 y3 fun i' j p hi' hp' => by
                        obtain ⟨x', hx', hr'⟩ := y4 i' j p hi' hp'
                        exact ⟨x', hx', hr'.mono he.cell fun _ _ h => h⟩
                    have h2 := (h.turn hE hM).put (d := o.dst) (p := .own st.mem.nid) (v := v') (.own _ _ _ (upd_same ..) hone) hp
                    unfold Oper.wp
                    have hx : (execOp a.eval o).run P w = .ok (.value v') w' := by
                      unfold execOp
                      rw [ho]
                      simp [resolve, invoke, builtin, hsv, hrun]
                    rw [hx, Oper.upon_value]
                    refine hK _ _ _ ?_ h2
                    rw [put_mem hp]
                    exact hE
                · cases hp
              · split at hp
                · rename_i k g hag
                  simp only [Tr.run] at hp
                  cases hb : (Nat.blt 0 k && Nat.ble (k * i.bytes) 140737488355328) with
                  | false => rw [hb] at hp; cases hp
                  | true =>
                    rw [hb] at hp
                    simp only [cond_true] at hp
                    simp only [Bool.and_eq_true, Nat.blt_eq] at hb
                    obtain ⟨hk0, hb⟩ := hb
                    have hbytes := Nat.le_of_ble_eq_true hb
                    obtain ⟨ys, y1, y2, y3, y4, y5⟩ := argOf_ok h.mem hsz hx hag
                    have hrun' : ∃ v' w', (Builtin.append_ #[t, t] o.type #[a.eval s, a.eval x]).run P w = .ok v' w' ∧ w'.ownsRow 0 e i.size v' k ys ∧ w.grownBy w' none ∧ v'.oneCell' = true ∧ (∀ j, blkOf v' = some j → w.heap.size ≤ j) := by
                      rcases y5 with ⟨_, rfl⟩ | ⟨a', c', hxe, hcell⟩
                      · exact absurd hk0 (by omega)
                      · rw [hxe]
                        generalize a.eval s = vs at hs
                        cases hs with
                        | emp m v h =>
                          rcases h with rfl | ⟨b', rfl⟩
                          · obtain ⟨v', w', hrun, hown', hgr, hone, hnew⟩ := run_append3 (P := P) w 0 t o.type e i z i.size i.bytes hu hi hz rfl rfl hzs hsz (.slice none 0 0) 0 [] (World.ownsRow_nil w _ _ _) (.slice (some a') k c') k ys y1 (.inr ⟨a', c', rfl, hcell⟩) y2 (by rw [Nat.zero_add]; exact hmaxOf _ hbytes) (by rw [Nat.zero_add]; exact hbytes) (Nat.zero_le _)
                            rw [Nat.zero_add, List.nil_append] at hown'
                            exact ⟨v', w', hrun, hown', hgr, hone, fun j hj => (hnew j hj).resolve_left (by simp [blkOf])⟩
                          · exact run_append_emp w 0 t o.type e i z i.size i.bytes hu hi hz rfl rfl hzs b' a' k c' hk0 ys y1 hcell (hmaxOf _ hbytes) hbytes (Nat.zero_le _)
                    obtain ⟨v', w', hrun, hown', hgr, hone, hnew'⟩ := hrun'
                    obtain ⟨hM, hE⟩ := h.mem.grow (.row _ i.size k g) v' (keeps_own (v := .slice none 0 0) h.mem hgr fun j hj => by cases hj) (fun j hj => hgr.block j hj (by simp)) hnew' fun he =>
                      .row _ i.size k g v' ys (upd_same ..) hown' (fun j hj hjk => Nat.lt_irrefl _ (Nat.lt_of_lt_of_le (h.mem.kLt hjk) (hnew' j hj))) y2 y3 fun i' j p hi' hp' => by
                        obtain ⟨x', hx', hr'⟩ := y4 i' j p hi' hp'
                        exact ⟨x', hx', hr'.mono he.cell fun _ _ h => h⟩
                    have h2 := (h.turn hE hM).put (d := o.dst) (p := .own st.mem.nid) (v := v') (.own _ _ _ (upd_same ..) hone) hp
                    unfold Oper.wp
                    have hx : (execOp a.eval o).run P w = .ok (.value v') w' := by
                      unfold execOp
                      rw [ho]
                      simp [resolve, invoke, builtin, hrun]
                    rw [hx, Oper.upon_value]
                    refine hK _ _ _ ?_ h2
                    rw [put_mem hp]
                    exact hE
                · cases hp
              · cases hp
            · cases hp
          · cases hp
        · cases hp
      · rename_i e htu hut
        split at hp
        · rename_i y huu hxy
          split at hp
          · rename_i i hi
            split at hp
            · rename_i hz
              have hx := litOf_rep (h.val x) (by rw [hxy]; rfl)
              have hs := h.val s
              generalize st.val s = r at hs hp
              split at hp
              · rename_i hconds
                simp only [Bool.and_eq_true] at hconds
                have hsz := Nat.eq_of_beq_eq_true hconds.1
                have hby := Nat.eq_of_beq_eq_true hconds.2
                have hmaxOf : ∀ N, N ≤ 140737488355328 → N ≤ maxLen := by
                  intro N hN
                  simp only [maxLen]
                  omega
                have hs1 : ∀ u ∈ Lib.strCells y, u.oneCell' = true := Lib.strCells_oneCell y
                obtain ⟨y3, y4⟩ := strRow_rep (C := Cell β w st.mem m) y
                split at hp
                · rename_i id
                  split at hp
                  · rename_i e2 sz2 n f hlk
                    split at hp
                    · rename_i hc2
                      simp only [Bool.and_eq_true] at hc2
                      have he2 := Nat.eq_of_beq_eq_true hc2.1
                      have hs2 := Nat.eq_of_beq_eq_true hc2.2
                      subst he2
                      subst hs2
                      simp only [Tr.run] at hp
                      cases hb : Nat.ble (n + y.size) 140737488355328 with
                      | false => rw [hb] at hp; cases hp
                      | true =>
                        rw [hb] at hp
                        simp only [cond_true] at hp
                        have hbytes := Nat.le_of_ble_eq_true hb
                        generalize hsv : a.eval s = vs at hs
                        cases hs with
                        | own m id vs hmi h1i =>
                          have hbi := h.mem.blk id _ hlk
                          have hbi' := hbi
                          cases hbi with
                          | row e sz n f v2 xs hm2 ho2 hKr h12 hl2 hr2 =>
                            rw [hmi] at hm2
                            cases hm2
                            obtain ⟨v', w', hrun, hown', hgr, hone, hnew⟩ := run_append_str (P := P) w 0 t u o.type _ i hut huu hi hz hsz hby vs n xs ho2 y (hmaxOf _ hbytes) hbytes (Nat.zero_le _)
                            obtain ⟨hM, hE⟩ := h.mem.app hlk hmi ho2 hbi' hown' hgr hnew hs1 y3 y4 fun xs' h' => ownsRow_inj ho2 h'
                            have h2 := (h.turn hE hM).put (d := o.dst) (p := .own st.mem.nid) (v := v') (.own _ _ _ (upd_same ..) hone) hp
                            unfold Oper.wp
                            have hx : (execOp a.eval o).run P w = .ok (.value v') w' := by
                              unfold execOp
                              rw [ho]
                              simp [resolve, invoke, builtin, hsv, hx, hrun]
                            rw [hx, Oper.upon_value]
                            refine hK _ _ _ ?_ h2
                            rw [put_mem hp]
                            exact hE
                    · cases hp
                  · cases hp
                · simp only [Tr.run] at hp
                  cases hb : Nat.ble y.size 140737488355328 with
                  | false => rw [hb] at hp; cases hp
                  | true =>
                    rw [hb] at hp
                    simp only [cond_true] at hp
                    have hbytes := Nat.le_of_ble_eq_true hb
                    have hsv := litOf_rep hs rfl
                    obtain ⟨v', w', hrun, hown', hgr, hone, hnew⟩ := run_append_str (P := P) w 0 t u o.type _ i hut huu hi hz hsz hby (.slice none 0 0) 0 [] (World.ownsRow_nil w _ _ _) y (by rw [Nat.zero_add]; exact hmaxOf _ hbytes) (by rw [Nat.zero_add]; exact hbytes) (Nat.zero_le _)
                    rw [Nat.zero_add, List.nil_append] at hown'
                    have hnew' : ∀ j, blkOf v' = some j → w.heap.size ≤ j := fun j hj => (hnew j hj).resolve_left (by simp [blkOf])
                    obtain ⟨hM, hE⟩ := h.mem.grow (.row _ 1 y.size (strRow y)) v' (keeps_own h.mem hgr fun j hj => by cases hj) (fun j hj => hgr.block j hj (by simp [Value.ownBlock])) hnew' fun he =>
                      .row _ 1 y.size _ v' _ (upd_same ..) hown' (fun j hj hjk => Nat.lt_irrefl _ (Nat.lt_of_lt_of_le (h.mem.kLt hjk) (hnew' j hj))) hs1 y3 fun i' j p hi' hp' => by
                        obtain ⟨x', hx', hr'⟩ := y4 i' j p hi' hp'
                        exact ⟨x', hx', hr'.mono he.cell fun _ _ h => h⟩
                    have h2 := (h.turn hE hM).put (d := o.dst) (p := .own st.mem.nid) (v := v') (.own _ _ _ (upd_same ..) hone) hp
                    unfold Oper.wp
                    have hx : (execOp a.eval o).run P w = .ok (.value v') w' := by
                      unfold execOp
                      rw [ho]
                      simp [resolve, invoke, builtin, hsv, hx, hrun]
                    rw [hx, Oper.upon_value]
                    refine hK _ _ _ ?_ h2
                    rw [put_mem hp]
                    exact hE
                · cases hp
              · cases hp
            · cases hp
          · cases hp
        · cases hp
      · cases hp
    · cases hp
  · cases hp
end

mutual
/-- the rows of one's own that a word tells of -/
def PV.ids : PV → List Nat
  | .agg ps => PV.idsL ps
  | .tup ps => PV.idsL ps
  | .iface _ p => PV.ids p
  | .clo _ ps => PV.idsL ps
  | .own id => [id]
  | _ => []
def PV.idsL : List PV → List Nat
  | [] => []
  | p :: r => PV.ids p ++ PV.idsL r
end
/-- rows that are written no more -/
def Mem.freezeL (M : Mem) : List Nat → Mem
  | [] => M
  | id :: r => match look M.blks id with
    | some (.row _ sz n f) => Mem.freezeL ⟨setL M.blks id (.frz sz n f), M.nid, M.glob⟩ r
    | _ => M.freezeL r
theorem MRel.freezeL {β : Base} {m : Nat → Option Value} {w : World} : ∀ (l : List Nat) {M : Mem}, MRel β M m w → MRel β (M.freezeL l) m w ∧ Ext β M m w (M.freezeL l) m w
  | [], M, h => ⟨h, Ext.refl _ _ _ _⟩
  | id :: r, M, h => by
    unfold Mem.freezeL
    split
    · rename_i e sz n f hlk
      obtain ⟨h1, e1⟩ := h.freeze hlk
      obtain ⟨h2, e2⟩ := MRel.freezeL r h1
      exact ⟨h2, e1.trans e2⟩
    · exact MRel.freezeL r h
/-- rows that an operation may not share are frozen ahead of it -/
def prep (st : St) (o : Oper) : St := match o.op with
  | .slice _ x _ _ _ => { st with mem := st.mem.freezeL (st.val x).ids }
  | .buildSlice _ _ parts => { st with mem := st.mem.freezeL (PV.idsL (parts.toList.map fun x => st.val x.2)) }
  | .store _ x y => match st.val x with
    | .optr _ _ _ _ => { st with mem := st.mem.freezeL (st.val y).ids }
    | _ => st
  | _ => st
theorem Rel.prep {β : Base} {st : St} {m : Nat → Option Value} {a : Act} {w : World} (h : Rel β st m a w) (o : Oper) : Rel β (prep st o) m a w ∧ Ext β st.mem m w (prep st o).mem m w := by
  have key : ∀ l, Rel β { st with mem := st.mem.freezeL l } m a w ∧ Ext β st.mem m w (st.mem.freezeL l) m w := by
    intro l
    obtain ⟨h1, e1⟩ := h.mem.freezeL l
    exact ⟨h.turn e1 h1, e1⟩
  unfold Ev.prep
  split
  · exact key _
  · exact key _
  · split
    · exact key _
    · exact ⟨h, Ext.refl _ _ _ _⟩
  · exact ⟨h, Ext.refl _ _ _ _⟩

end Go.Proofs.YtlngnfkjpfokhaaDoor.Ev

/- Functions that the code calls, by what they are known to do; one operation. No condition. -/
namespace Go.Proofs.YtlngnfkjpfokhaaDoor.Ev
open Go Go.RowKit
set_option linter.unusedVariables false
set_option linter.unusedSimpArgs false

def Known (C : Nat → Nat → Value → Prop) (w : World) : Prop := ∀ b o v, C b o v → w.cell? ⟨b, o, none⟩ = some v
def Globs (G : GT) (C : Nat → Nat → Value → Prop) : Prop := ∀ g cs, G.tab g = some cs → Rep C (fun _ => none) (.gptr cs) (.pointer (some ⟨g, 0, none⟩))
def Objs (G : GT) (w : World) : Prop := ∀ g o, G.obj g = some o → w.heap[g]? = some o
theorem MRel.objs' {β : Base} {M : Mem} {m : Nat → Option Value} {w : World} (h : MRel β M m w) : Objs β.G w := fun g o hg => by
  obtain ⟨h1, h2⟩ := h.objs g o hg
  rw [h.below.block g h1]
  exact h2
def Grown (C : Nat → Nat → Value → Prop) (w w' : World) (b o : Nat) (v : Value) : Prop := C b o v ∨ (w.heap.size ≤ b ∧ w'.cell? ⟨b, o, none⟩ = some v)
def RepL (C : Nat → Nat → Value → Prop) (ps : List PV) (args : Array Value) : Prop := ps.length = args.size ∧ ∀ (i : Nat) (p : PV) (v : Value), ps[i]? = some p → args[i]? = some v → Rep C (fun _ => none) p v
/-- a function that reads what it is given, and writes nothing that was there: what it gives back at these arguments -/
def PureAt (P : Program) (G : GT) (f : FuncId) (ps : List PV) (p : PV) : Prop :=
  ∀ (w : World) (C : Nat → Nat → Value → Prop), Known C w → Globs G C → Objs G w → ∀ (args : Array Value), RepL C ps args →
    Calls P f args w fun
      | .returned v, w' => Keeps (· < w.heap.size) w w' ∧ Rep (Grown C w w') (fun _ => none) p v
      | _, _ => False
def PureOK (P : Program) (G : GT) (f : FuncId) (g : List PV → Tr PV) : Prop := ∀ ps p, (g ps).run = some p → PureAt P G f ps p
/-- a function of the program, and what it is told to do with one's own places -/
def FnOK (P : Program) (G : GT) (f : FuncId) (g : List PV → Mem → Tr (PV × Mem)) : Prop :=
  ∀ (β : Base), β.G = G → ∀ (M : Mem) (m : Nat → Option Value) (w : World) (ps : List PV) (args : Array Value), MRel β M m w → ps.length = args.size →
    (∀ (i : Nat) (p : PV) (v : Value), ps[i]? = some p → args[i]? = some v → Rep (Cell β w M m) m p v) → ∀ (p : PV) (M' : Mem), (g ps M).run = some (p, M') →
    Calls P f args w fun
      | .returned v, w' => ∃ m', Ext β M m w M' m' w' ∧ MRel β M' m' w' ∧ Rep (Cell β w' M' m') m' p v
      | _, _ => False
structure Env where
  pure : FuncId → Option (List PV → Tr PV)
  ipure : FuncId → Option (List PV → Tr PV)
  fns : FuncId → Option (List PV → Mem → Tr (PV × Mem))
  cuts : Nat → Option (St → Tr (Exit × St))
/-- a call of the function enters it -/
def Enters (P : Program) (f : FuncId) : Prop := ∀ (args : Array Value) (w : World), (callFunc f args).run P w = .ok (.enter f args) w
/-- a function that writes nothing: known; or run as a whole, if what it is given hangs on no place of one's own -/
def Env.pureAt (E : Env) (f : FuncId) (ps : List PV) : Option (List PV → Tr PV) := match E.pure f with
  | some g => some g
  | none => match PV.closL ps with
    | true => E.ipure f
    | false => none
structure Env.ok (E : Env) (P : Program) (G : GT) : Prop where
  pure : ∀ f g, E.pure f = some g → PureOK P G f g ∧ Enters P f
  ipure : ∀ f g, E.ipure f = some g → PureOK P G f g ∧ Enters P f
  fns : ∀ f g, E.fns f = some g → FnOK P G f g ∧ Enters P f

theorem Env.ok.pureAt {E : Env} {P : Program} {G : GT} (h : E.ok P G) {f : FuncId} {ps : List PV} {g : List PV → Tr PV} (hg : E.pureAt f ps = some g) : PureOK P G f g ∧ Enters P f := by
  unfold Env.pureAt at hg
  split at hg
  · rename_i g' hp
    cases hg
    exact h.pure f _ hp
  · split at hg
    · exact h.ipure f g hg
    · cases hg
/-- the world grows: what is known stays -/
theorem MRel.keep {β : Base} {M : Mem} {m : Nat → Option Value} {w w' : World} (h : MRel β M m w) (hk : Keeps (· < w.heap.size) w w') : MRel β M m w' ∧ Ext β M m w M m w' := by
  have he : Ext β M m w M m w' := ext_of (fun _ _ h => h) (fun k hk' _ => hk.block k hk') (fun _ _ h => h) rfl
  exact ⟨⟨fun id b hl => (h.blk id b hl).turn he hk.size fun hlv v k hv hkk => hk.block k (h.livLt (by rw [liv_of hl]; exact hlv) hv hkk), h.fresh, h.inj, h.bsz,
    h.below.trans ⟨hk.os, hk.tape, hk.output, hk.size, fun k hkk => hk.block k (h.kLt hkk)⟩ fun _ h => h, fun g cs hg => (h.glob g cs hg).mono he.cell fun _ _ h => h, h.gl, h.objs⟩, he⟩
theorem Rep.grown {β : Base} {M : Mem} {m m' : Nat → Option Value} {w w' : World} (h : MRel β M m w) (hk : Keeps (· < w.heap.size) w w') {C : Nat → Nat → Value → Prop} (hC : ∀ b o v, C b o v → Cell β w M m b o v) {p : PV} {v : Value}
    (hr : Rep (Grown C w w') (fun _ => none) p v) : Rep (Cell β w' M m) m' p v := by
  obtain ⟨h', he⟩ := h.keep hk
  refine (hr.mono (fun b o u hu => ?_) (m' := m') fun _ _ e => by cases e)
  rcases hu with hu | ⟨hle, hu⟩
  · exact he.cell _ _ _ (hC _ _ _ hu)
  · refine ⟨?_, hu, fun hlt => ?_⟩
    · rintro ⟨id, x, hs, hx, hb⟩
      have := h.livLt hs hx hb
      omega
    · exact absurd (h.kLt hlt) (by omega)

/-- one's own rows, seen by another function -/
def Mem.ownAtom (M : Mem) : PV → PV
  | .own id => match look M.blks id with
    | some (.row _ sz n f) => .gsl sz n f
    | some (.frz sz n f) => .gsl sz n f
    | _ => .junk
  | _ => .junk
/-- one's own rows and variables, seen by another function -/
def Mem.viewAtom (M : Mem) : PV → PV
  | .own id => M.ownAtom (.own id)
  | .ptr id off => match look M.blks id with
    | some (.cells _ cs) => .gptr ((PV.subL M.ownAtom cs).drop off)
    | _ => .junk
  | _ => .junk
theorem ownAtom_rep {β : Base} {M : Mem} {m : Nat → Option Value} {w : World} (h : MRel β M m w) {C : Nat → Nat → Value → Prop} (hC : ∀ b o v, Cell β w M m b o v → C b o v)
    (hR : ∀ id e sz n f, look M.blks id = some (.row e sz n f) → ∀ v k o x, m id = some v → blkOf v = some k → w.cell? ⟨k, o, none⟩ = some x → C k o x) {p : PV} {v : Value} (ha : Atom p) (hr : Rep (Cell β w M m) m p v) : Rep C (fun _ => none) (M.ownAtom p) v := by
  cases ha with
  | own id =>
    cases hr with
    | own m id v hm h1 =>
      simp only [Mem.ownAtom]
      split
      · rename_i e sz n f hl
        obtain ⟨u, hu, hu1, hru⟩ := row_gsl (h.blk id _ hl) hC (fun v k o x hv hk _ hx => hR id e sz n f hl v k o x hv hk hx) (fun _ => none)
        rw [hm] at hu
        cases hu
        exact hru
      · rename_i sz n f hl
        have hb := h.blk id _ hl
        cases hb with
        | frz sz n f u hu h1u hru hk =>
          rw [hm] at hu
          cases hu
          exact hru.mono hC fun _ _ h => h
      · exact .junk _ _
  | ptr id off => exact .junk _ _
  | optr id sz i j => exact .junk _ _
theorem viewAtom_rep {β : Base} {M : Mem} {m : Nat → Option Value} {w : World} (h : MRel β M m w) {p : PV} {v : Value} (ha : Atom p) (hr : Rep (Cell β w M m) m p v) :
    Rep (fun b o v => w.cell? ⟨b, o, none⟩ = some v) (fun _ => none) (M.viewAtom p) v := by
  cases ha with
  | own id => exact ownAtom_rep h (fun _ _ _ h => h.2.1) (fun _ _ _ _ _ _ _ _ _ _ _ _ hx => hx) (.own _) hr
  | ptr id off =>
    simp only [Mem.viewAtom]
    split
    · rename_i ty cs hl
      have hb := h.blk id _ hl
      cases hr with
      | ptr m id off b hm =>
        cases hb with
        | cells ty cs b' vs hm' hb' hlen h1 hr hB =>
          rw [hm] at hm'
          cases hm'
          have hcell : ∀ j (x : Value), vs[j]? = some x → w.cell? ⟨b, j, none⟩ = some x := by
            intro j x hx
            simp [World.cell?, hb', hx]
          refine .gptr _ _ b off (fun j => vs.getD (off + j) undef) (fun j hj => ?_) fun j q hq => ?_
          · rw [List.length_drop, subL_length] at hj
            have hlt : off + j < vs.size := by omega
            have hx : vs[off + j]? = some (vs.getD (off + j) undef) := by
              simp [Array.getD_eq_getD_getElem?, hlt]
            exact ⟨hcell _ _ hx, h1 _ (Array.mem_of_getElem? hx)⟩
          · rw [List.getElem?_drop, subL_get] at hq
            cases hc : cs[off + j]? with
            | none => rw [hc] at hq; cases hq
            | some c =>
              rw [hc] at hq
              cases hq
              have hlt : off + j < vs.size := by
                rw [← hlen]
                exact (List.getElem?_eq_some_iff.1 hc).1
              have hx : vs[off + j]? = some (vs.getD (off + j) undef) := by
                simp [Array.getD_eq_getD_getElem?, hlt]
              exact (hr _ c _ hc hx).sub (fun _ _ _ h => h.2.1) fun p v ha hr => ownAtom_rep h (fun _ _ _ h => h.2.1) (fun _ _ _ _ _ _ _ _ _ _ _ _ hx => hx) ha hr
    · exact .junk _ _
  | optr id sz i j => exact .junk _ _
/-- rows that are written no more, seen by another function -/
def Mem.frzAtom (M : Mem) : PV → PV
  | .own id => match look M.blks id with
    | some (.frz sz n f) => .gsl sz n f
    | _ => .junk
  | _ => .junk
theorem frzAtom_rep {β : Base} {M : Mem} {m : Nat → Option Value} {w : World} (h : MRel β M m w) {p : PV} {v : Value} (ha : Atom p) (hr : Rep (Cell β w M m) m p v) : Rep (Cell β w M m) (fun _ => none) (M.frzAtom p) v := by
  cases ha with
  | own id =>
    cases hr with
    | own m id v hm h1 =>
      simp only [Mem.frzAtom]
      split
      · rename_i sz n f hl
        have hb := h.blk id _ hl
        cases hb with
        | frz sz n f u hu h1u hru hk =>
          rw [hm] at hu
          cases hu
          exact hru
      · exact .junk _ _
  | ptr id off => exact .junk _ _
  | optr id sz i j => exact .junk _ _

/-- a call of a function that writes nothing -/
def pureCall (st : St) (g : List PV → Tr PV) (ps : List PV) (d : Option Nat) : Tr St := (g (PV.subL st.mem.viewAtom ps)).bind fun p => match p.flat with
  | true => st.put d p
  | false => (g (PV.subL (st.mem.freezeL (PV.idsL ps)).frzAtom ps)).bind fun p => { st with mem := st.mem.freezeL (PV.idsL ps) }.put d p
/-- a call, wanted -/
def evCall (E : Env) (st : St) (o : Oper) : Tr St := match o.op with
  | .call c => match c.callee with
    | .value f => match st.val f with
      | .clo id caps => match E.pureAt id (c.args.toList.map st.val ++ caps) with
        | some g => pureCall st g (c.args.toList.map st.val ++ caps) o.dst
        | none => match E.fns id with
          | some g => (g (c.args.toList.map st.val ++ caps) st.mem).bind fun r => { st with mem := r.2 }.put o.dst r.1
          | none => .fail
      | _ => .fail
    | _ => .fail
  | _ => .fail
/-- which operations call a function -/
def isCall (o : Oper) : Bool := match o.op with
  | .call c => match c.callee with
    | .value _ => true
    | _ => false
  | _ => false
/-- one operation, wanted -/
def evOp (P : Program) (E : Env) (st : St) (o : Oper) : Tr St := match isCall o with
  | true => evCall E st o
  | false => match isMem o with
    | true => opMem P (prep st o) o
    | false => match isApp o with
      | true => opApp P st o
      | false => (opVal P (prep st o) o).bind fun p => (prep st o).put o.dst p

section
variable {P : Program} {E : Env} {β : Base} {st st' : St} {m : Nat → Option Value} {a : Act} {w : World}
theorem RepL.of_val (h : Rel β st m a w) {C : Nat → Nat → Value → Prop} {hh : PV → PV} (hC : ∀ b o v, Cell β w st.mem m b o v → C b o v) (hA : ∀ p v, Atom p → Rep (Cell β w st.mem m) m p v → Rep C (fun _ => none) (hh p) v)
    {ps : List PV} {args : Array Value} (hl : ps.length = args.size) (hr : ∀ (i : Nat) (p : PV) (v : Value), ps[i]? = some p → args[i]? = some v → Rep (Cell β w st.mem m) m p v) : RepL C (PV.subL hh ps) args := by
  refine ⟨by rw [subL_length]; exact hl, fun i p v hp hv => ?_⟩
  rw [subL_get] at hp
  cases hq : ps[i]? with
  | none => rw [hq] at hp; cases hp
  | some q =>
    rw [hq] at hp
    cases hp
    exact (hr i q v hq hv).sub hC hA
theorem pureCall_ok {f : FuncId} {g : List PV → Tr PV} (hg : PureOK P β.G f g) (h : Rel β st m a w) {ps : List PV} {args : Array Value} (hl : ps.length = args.size)
    (hr : ∀ (i : Nat) (p : PV) (v : Value), ps[i]? = some p → args[i]? = some v → Rep (Cell β w st.mem m) m p v) {d : Option Nat} (hp : (pureCall st g ps d).run = some st') :
    Calls P f args w fun
      | .returned v, w' => ∃ m', Ext β st.mem m w st'.mem m' w' ∧ Rel β st' m' (a.put d v) w'
      | _, _ => False := by
  unfold pureCall at hp
  obtain ⟨p, hp1, hp⟩ := Tr.of_bind hp
  have hgl : β.G = st.mem.glob := h.mem.gl.symm
  split at hp
  · rename_i hf
    have hc := hg _ p hp1 w (fun b o v => w.cell? ⟨b, o, none⟩ = some v) (fun _ _ _ h => h) (fun g cs hgc => (h.mem.glob g cs (by rw [← hgl]; exact hgc)).mono (fun _ _ _ h => h.2.1) fun _ _ h => h) h.mem.objs' args
      (RepL.of_val h (fun _ _ _ h => h.2.1) (fun p v ha hr => viewAtom_rep h.mem ha hr) hl hr)
    refine Calls.mono hc ?_
    intro e w' he
    cases e with
    | returned v =>
      obtain ⟨hk, hrep⟩ := he
      obtain ⟨h1, h2⟩ := h.mem.keep hk
      have h3 := (h.turn h2 h1).put (d := d) (p := p) (v := v) (hrep.flat hf) hp
      refine ⟨m, ?_, h3⟩
      rw [put_mem hp]
      exact h2
    | panicked _ => exact he.elim
    | outgrown => exact he.elim
  · obtain ⟨q, hq, hp⟩ := Tr.of_bind hp
    obtain ⟨f1, f2⟩ := h.mem.freezeL (PV.idsL ps)
    have hrel := h.turn f2 f1
    have hc := hg _ q hq w (Cell β w (st.mem.freezeL (PV.idsL ps)) m) (fun _ _ _ h => h.2.1) (fun g cs hgc => f1.glob g cs (by rw [f2.glob, ← hgl]; exact hgc)) h.mem.objs' args
      (RepL.of_val hrel (fun _ _ _ h => h) (fun p v ha hr => frzAtom_rep f1 ha hr) hl fun i p v hp hv => (hr i p v hp hv).ext f2)
    refine Calls.mono hc ?_
    intro e w' he
    cases e with
    | returned v =>
      obtain ⟨hk, hrep⟩ := he
      obtain ⟨h1, h2⟩ := f1.keep hk
      have h3 := (hrel.turn h2 h1).put (d := d) (p := q) (v := v) (hrep.grown f1 hk fun _ _ _ h => h) hp
      refine ⟨m, ?_, h3⟩
      rw [put_mem hp]
      exact f2.trans h2
    | panicked _ => exact he.elim
    | outgrown => exact he.elim
theorem evCall_ok (hE : E.ok P β.G) (h : Rel β st m a w) {o : Oper} (hp : (evCall E st o).run = some st') {K : Act → World → Prop} {Q : Exit → Act → World → Prop}
    (hK : ∀ m' v w', Ext β st.mem m w st'.mem m' w' → Rel β st' m' (a.put o.dst v) w' → K (a.put o.dst v) w') : o.wp P a w K Q := by
  unfold evCall at hp
  split at hp
  · rename_i c ho
    split at hp
    · rename_i f hcal
      have hx := h.val f
      generalize st.val f = q at hx hp
      split at hp
      · rename_i id caps
        generalize hv : a.eval f = v at hx
        cases hx with
        | clo m f ps vs hl hr =>
          have hres : (resolve a.eval c o.type).run P w = .ok { target := .fn (.func id) vs, args := #[] ++ c.args.map a.eval } w := by
            unfold resolve
            rw [hcal]
            dsimp only
            rw [hv]
            rfl
          have hlen : (c.args.toList.map st.val ++ caps).length = (#[] ++ c.args.map a.eval ++ vs).size := by simp [hl]
          have hreps : ∀ (i : Nat) (p : PV) (v : Value), (c.args.toList.map st.val ++ caps)[i]? = some p → (#[] ++ c.args.map a.eval ++ vs)[i]? = some v → Rep (Cell β w st.mem m) m p v := by
            intro i p v hp hv
            rw [List.getElem?_append] at hp
            simp only [Array.empty_append, Array.getElem?_append, Array.size_map, List.length_map, Array.length_toList] at hp hv
            split at hp
            · rename_i hlt
              rw [if_pos hlt] at hv
              simp only [List.getElem?_map, Array.getElem?_map, Array.getElem?_toList] at hp hv
              cases hc : c.args[i]? with
              | none => rw [hc] at hp; cases hp
              | some x =>
                rw [hc] at hp hv
                simp only [Option.map_some, Option.some.injEq] at hp hv
                subst hp
                subst hv
                exact h.val x
            · rename_i hlt
              rw [if_neg hlt] at hv
              exact hr _ p v hp hv
          have enter : Enters P id → Calls P id (#[] ++ c.args.map a.eval ++ vs) w (fun
              | .returned v, w' => ∃ m', Ext β st.mem m w st'.mem m' w' ∧ Rel β st' m' (a.put o.dst v) w'
              | _, _ => False) → o.wp P a w K Q := by
            intro hent hc
            unfold Oper.wp execOp
            rw [ho]
            dsimp only
            rw [Sem.run_bind, hres, Result.andThen_ok]
            dsimp only [invoke]
            rw [hent, Oper.upon_enter]
            refine Calls.mono hc ?_
            intro e w' he
            cases e with
            | returned v =>
              obtain ⟨m', hext, hrel⟩ := he
              exact hK m' _ w' hext hrel
            | panicked _ => exact he.elim
            | outgrown => exact he.elim
          split at hp
          · rename_i g hg
            obtain ⟨hfn, hent⟩ := hE.pureAt hg
            exact enter hent (pureCall_ok hfn h hlen hreps hp)
          · split at hp
            · rename_i g hg
              obtain ⟨hfn, hent⟩ := hE.fns id g hg
              obtain ⟨⟨p, M'⟩, hgp, hput⟩ := Tr.of_bind hp
              refine enter hent (Calls.mono (hfn β rfl st.mem m w _ _ h.mem hlen hreps p M' hgp) ?_)
              intro e w' he
              cases e with
              | returned v =>
                obtain ⟨m', hext, hmem, hrep⟩ := he
                have h1 := h.turn hext hmem
                have h2 := h1.put (p := p) (v := v) hrep hput
                refine ⟨m', ?_, h2⟩
                have := put_mem hput
                rw [this]
                exact hext
              | panicked _ => exact he.elim
              | outgrown => exact he.elim
            · cases hp
      · cases hp
    · cases hp
  · cases hp
theorem evOp_ok (hE : E.ok P β.G) (h : Rel β st m a w) {o : Oper} (hp : (evOp P E st o).run = some st') {K : Act → World → Prop} {Q : Exit → Act → World → Prop}
    (hK : ∀ m' v w', Ext β st.mem m w st'.mem m' w' → Rel β st' m' (a.put o.dst v) w' → K (a.put o.dst v) w') : o.wp P a w K Q := by
  unfold evOp at hp
  obtain ⟨h1, e1⟩ := h.prep o
  split at hp
  · exact evCall_ok hE h hp hK
  split at hp
  · exact opMem_ok h1 hp fun m' v w' he hr => hK m' v w' (e1.trans he) hr
  split at hp
  · exact opApp_ok h hp hK
  obtain ⟨p, hp, hput⟩ := Tr.of_bind hp
  obtain ⟨v, hv, hr⟩ := opVal_ok h1 hp
  unfold Oper.wp
  rw [hv, Oper.upon_value]
  refine hK m _ w ?_ (h1.put hr hput)
  rw [put_mem hput]
  exact e1
end

end Go.Proofs.YtlngnfkjpfokhaaDoor.Ev
