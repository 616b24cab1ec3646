/- JBox09: several texts in one. Condition: each part's own. -/
import Derived.Test.YtlngnfkjpfokhaaDoorJBox07
import Derived.Test.YtlngnfkjpfokhaaDoorJBox08
import Derived.Laws.StructEq
/- Small lemmas on bytes, rows and whole numbers. No condition. -/
namespace Go.Proofs.YtlngnfkjpfokhaaDoor.Ev
open Go Go.RowKit Go.Proofs Go.Proofs.YtlngnfkjpfokhaaDoor.Str
set_option linter.unusedVariables false
set_option linter.unusedSimpArgs false

theorem beqD {α : Type} [BEq α] [LawfulBEq α] [DecidableEq α] (a b : α) : (a == b) = decide (a = b) := by
  by_cases h : a = b
  · rw [decide_eq_true h, h]
    exact beq_self_eq_true b
  · rw [decide_eq_false h]
    exact beq_false_of_ne h
theorem bs_ls (s : ByteArray) : bs (ls s) = s := mk_ls s
theorem ls_bs (l : List UInt8) : ls (bs l) = l := ls_mk l
theorem bs_len (l : List UInt8) : (bs l).size = l.length := by rw [← ls_len, ls_bs]
theorem eqB (s t : ByteArray) : (ByteArray.toList s == ByteArray.toList t) = decide (ls s = ls t) := by
  rw [ByteArray.toList_eq, ByteArray.toList_eq, beqD]
  rfl
theorem bs_ext (s : ByteArray) (a b : Nat) : s.extract a b = bs (((ls s).take b).drop a) := ls_inj (by rw [ls_ext, ls_bs])
theorem getD_ls (s : ByteArray) (i : Nat) : Array.getD s.data i (0 : UInt8) = (ls s).getD i 0 := by
  simp [ls, Array.getD, List.getD]
  split <;> simp_all
theorem byte_eq (c d : UInt8) : ((c.toNat : Int) == (d.toNat : Int)) = decide (c = d) := by
  rw [beqD]
  congr 1
  refine propext ⟨fun h => UInt8.toNat_inj.1 (by omega), fun h => by rw [h]⟩
theorem byte_lt (c : UInt8) (d : Nat) : decide (((c.toNat : Nat) : Int) < (d : Int)) = decide (c.toNat < d) := by
  rw [decide_eq_decide]
  omega
theorem byte_gt (c : UInt8) (d : Nat) : decide (((c.toNat : Nat) : Int) > (d : Int)) = decide (d < c.toNat) := by
  rw [decide_eq_decide]
  omega
theorem ext_tail (c : UInt8) (r : List UInt8) : (bs (c :: r)).extract 1 (c :: r).length = bs r := by
  rw [bs_ext, ls_bs, List.take_length]
  rfl
theorem snoc (l : List UInt8) : l = [] ∨ ∃ a x, l = a ++ [x] := by
  rcases List.eq_nil_or_concat l with h | ⟨a, x, h⟩
  · exact .inl h
  · exact .inr ⟨a, x, by rw [h, List.concat_eq_append]⟩
theorem ext_last (a : List UInt8) (x : UInt8) : (bs (a ++ [x])).extract 0 a.length = bs a := by
  rw [bs_ext, ls_bs]
  simp
theorem wrap_pred {n : Nat} (h : n ≤ 4294967296) : IntKind.i64.wrap ((n : Int) - 1) = (n : Int) - 1 := by
  simp [IntKind.wrap, IntKind.bits, IntKind.signed]
  omega
theorem wrap_mid {i : Int} (h1 : -4611686018427387904 ≤ i) (h2 : i ≤ 4611686018427387904) : IntKind.i64.wrap i = i := by
  simp [IntKind.wrap, IntKind.bits, IntKind.signed]
  omega
theorem wrap_u8 {n : Nat} (h : n < 256) : IntKind.u8.wrap (n : Int) = n := by
  simp [IntKind.wrap, IntKind.bits, IntKind.signed]
  omega
theorem get_drop {s : ByteArray} {i : Nat} {c : UInt8} {r : List UInt8} (h : (ls s).drop i = c :: r) : i < s.size ∧ s.data.getD i 0 = c ∧ (ls s).drop (i + 1) = r := by
  have hlt : i < (ls s).length := by
    rcases Nat.lt_or_ge i (ls s).length with h' | h'
    · exact h'
    · rw [List.drop_eq_nil_of_le h'] at h
      cases h
  rw [List.drop_eq_getElem_cons hlt] at h
  simp only [List.cons.injEq] at h
  refine ⟨by rw [← ls_len]; exact hlt, ?_, h.2⟩
  rw [← h.1]
  have h1 : i < s.data.size := by simpa [ls] using hlt
  have h2 : i < s.size := h1
  simp [ls, Array.getD, h2]
theorem app_lo {n i : Nat} (f g : Nat → List PV) (h : i < n) : rowApp n f g i = f i := by
  have : Nat.blt i n = true := by rw [Nat.blt_eq]; exact h
  unfold rowApp
  rw [this]
theorem app_hi (n i : Nat) (f g : Nat → List PV) : rowApp n f g (n + i) = g i := by
  have h1 : Nat.blt (n + i) n = false := by rw [Bool.eq_false_iff, ne_eq, Nat.blt_eq]; omega
  unfold rowApp
  rw [h1, Nat.add_sub_cancel_left]
def bRow (l : List UInt8) (i : Nat) : List PV := [.lit (.int .u8 (((l.getD i 0).toNat : Nat) : Int))]
theorem app_push (k : Nat) (f : Nat → List PV) (c : UInt8) (l : List UInt8) (i : Nat) : rowApp (k + 1) (rowApp k f (rowOf [.lit (.int .u8 ((c.toNat : Nat) : Int))] 1)) (bRow l) i = rowApp k f (bRow (c :: l)) i := by
  unfold rowApp
  rcases Nat.lt_trichotomy i k with h | h | h
  · have h1 : Nat.blt i k = true := by rw [Nat.blt_eq]; exact h
    have h2 : Nat.blt i (k + 1) = true := by rw [Nat.blt_eq]; omega
    rw [h1, h2]
  · subst h
    have h1 : Nat.blt i i = false := by rw [Bool.eq_false_iff, ne_eq, Nat.blt_eq]; omega
    have h2 : Nat.blt i (i + 1) = true := by rw [Nat.blt_eq]; omega
    rw [h1, h2, Nat.sub_self]
    rfl
  · have h1 : Nat.blt i k = false := by rw [Bool.eq_false_iff, ne_eq, Nat.blt_eq]; omega
    have h2 : Nat.blt i (k + 1) = false := by rw [Bool.eq_false_iff, ne_eq, Nat.blt_eq]; omega
    rw [h1, h2]
    obtain ⟨j, rfl⟩ : ∃ j, i = k + 1 + j := ⟨i - (k + 1), by omega⟩
    have e1 : k + 1 + j - (k + 1) = j := by omega
    have e2 : k + 1 + j - k = j + 1 := by omega
    rw [e1, e2]
    rfl
theorem app_assoc (k : Nat) (f : Nat → List PV) (a b : List UInt8) (i : Nat) : rowApp (k + a.length) (rowApp k f (bRow a)) (bRow b) i = rowApp k f (bRow (a ++ b)) i := by
  rcases Nat.lt_or_ge i k with h | h
  · rw [app_lo _ _ (show i < k + a.length by omega), app_lo _ _ h, app_lo _ _ h]
  · obtain ⟨j, rfl⟩ : ∃ j, i = k + j := ⟨i - k, by omega⟩
    rw [app_hi]
    rcases Nat.lt_or_ge j a.length with h2 | h2
    · rw [app_lo _ _ (show k + j < k + a.length by omega), app_hi]
      simp [bRow, List.getElem?_append_left h2]
    · obtain ⟨e, rfl⟩ : ∃ e, j = a.length + e := ⟨j - a.length, by omega⟩
      have : k + (a.length + e) = k + a.length + e := by omega
      rw [this, app_hi]
      simp [bRow, List.getElem?_append_right]
theorem app_nil (k : Nat) (f : Nat → List PV) (i : Nat) (h : i < k + 0) (g : Nat → List PV) : f i = rowApp k f g i := by
  unfold rowApp
  have h1 : Nat.blt i k = true := by rw [Nat.blt_eq]; omega
  rw [h1]
theorem beq_ba (a b : ByteArray) : (a == b) = decide (a = b) := by
  rw [beq_toListBytes, eqB, decide_eq_decide]
  exact ⟨fun h => ls_inj h, fun h => by rw [h]⟩
theorem dropW_nil {p : UInt8 → Bool} : ∀ {l : List UInt8}, l.dropWhile p = [] ↔ l.all p = true
  | [] => by simp
  | c :: r => by
    rw [List.dropWhile_cons, List.all_cons]
    cases hc : p c with
    | true => simp [dropW_nil (l := r)]
    | false => simp
def smallS (s : ByteArray) : Bool := Nat.ble s.size 2000000
theorem smallS_le {s : ByteArray} (h : smallS s = true) : s.size ≤ 2000000 := Nat.le_of_ble_eq_true h
end Go.Proofs.YtlngnfkjpfokhaaDoor.Ev

/- The evaluator: functions that write places of one's own which they are handed; the rest stays as it is. No condition. -/
namespace Go.Proofs.YtlngnfkjpfokhaaDoor.Ev
open Go Go.RowKit Go.Proofs
set_option linter.unusedVariables false
set_option linter.unusedSimpArgs false
mutual
/-- the places that a word tells of -/
def PV.pls : PV → List Nat
  | .agg ps => PV.plsL ps
  | .tup ps => PV.plsL ps
  | .iface _ p => PV.pls p
  | .clo _ ps => PV.plsL ps
  | .own id => [id]
  | .ptr id _ => [id]
  | .optr id _ _ _ => [id]
  | _ => []
def PV.plsL : List PV → List Nat
  | [] => []
  | p :: r => PV.pls p ++ PV.plsL r
end
def addN : List Nat → List Nat → List Nat
  | acc, [] => acc
  | acc, x :: r => match acc.any (Nat.beq x) with
    | true => addN acc r
    | false => addN (acc ++ [x]) r
def reachB (l : List (Nat × Blk)) : List Nat → List Nat → List Nat
  | [], acc => acc
  | id :: r, acc => match look l id with
    | some (.cells _ cs) => reachB l r (addN acc (PV.plsL cs))
    | _ => reachB l r acc
/-- the places that can be reached from some words -/
def Mem.reach (M : Mem) (ps : List PV) : List Nat :=
  reachB M.blks (reachB M.blks (addN [] (PV.plsL ps)) (addN [] (PV.plsL ps))) (reachB M.blks (addN [] (PV.plsL ps)) (addN [] (PV.plsL ps)))
/-- the new numbers: the first places are the first still, all others are new -/
def backN (k : Nat) (L : List Nat) (nid : Nat) (i : Nat) : Nat := match Nat.blt i k with
  | true => match L[i]? with
    | some x => x
    | none => nid + i
  | false => nid + i
def backP (k : Nat) (L : List Nat) (nid : Nat) : PV → PV
  | .own id => .own (backN k L nid id)
  | .ptr id off => .ptr (backN k L nid id) off
  | .optr id sz i j => .optr (backN k L nid id) sz i j
  | p => p
def backB (k : Nat) (L : List Nat) (nid : Nat) : Blk → Blk
  | .cells ty cs => .cells ty (PV.subL (backP k L nid) cs)
  | b => b
def delAll (l : List (Nat × Blk)) : List Nat → List (Nat × Blk)
  | [] => l
  | x :: r => delAll (delL l x) r
/-- a function that is handed places of one's own, and keeps the first of them in their places -/
def PinOK (K : Nat) (P : Program) (G : GT) (f : FuncId) (g : List PV → Mem → Tr (PV × Mem)) : Prop :=
  ∀ (β : Base), β.G = G → ∀ (M : Mem) (m : Nat → Option Value) (w : World) (ps : List PV) (args : Array Value), MRel β M m w → ps.length = args.size →
    (∀ (i : Nat) (p : PV) (v : Value), ps[i]? = some p → args[i]? = some v → Rep (Cell β w M m) m p v) → ∀ (p : PV) (M' : Mem), (g ps M).run = some (p, M') →
    Calls P f args w fun
      | .returned v, w' => ∃ m', (∀ i, i < K → ∀ v, m i = some v → m' i = some v) ∧ MRel β M' m' w' ∧ Rep (Cell β w' M' m') m' p v
      | _, _ => False
theorem pin_of_ev {K : Nat} {P : Program} {E : Env} {n : Nat} {G : GT} (hE : E.ok P G) (hmo : P.follows .mixedOrders = true) {f : FuncId} {fn : Func} (hf : P.funcs[f]? = some fn) (hc : ∀ c, fn.body = some c → CutsOK (.pins K) P G E c) : PinOK K P G f (fnEv P E n fn) :=
  fun β hG M m w ps args hM hlen hrep p M' hp => fnEv_wp hE hmo hf hc hG hM hlen hrep hp
theorem look_app {α : Type} : ∀ (l l' : List (Nat × α)) (i : Nat), look (l ++ l') i = match look l i with
    | some x => some x
    | none => look l' i
  | [], l', i => rfl
  | (k, x) :: r, l', i => by
    rw [List.cons_append, look_cons, look_cons, look_app r l' i]
    by_cases h : k = i <;> simp [h]
theorem look_delAll : ∀ (L : List Nat) (l : List (Nat × Blk)) (i : Nat), look (delAll l L) i = if i ∈ L then none else look l i
  | [], l, i => by simp [delAll]
  | x :: r, l, i => by
    rw [delAll, look_delAll r, look_delL]
    by_cases h : i ∈ r
    · simp [h]
    · by_cases h2 : x = i
      · subst h2; simp
      · simp [h, h2, Ne.symm h2]
theorem backN_lt {k nid i : Nat} {L : List Nat} (h : i < k) {x : Nat} (hx : L[i]? = some x) : backN k L nid i = x := by
  unfold backN
  have : Nat.blt i k = true := by rw [Nat.blt_eq]; exact h
  rw [this, hx]
theorem backN_no {k nid i : Nat} {L : List Nat} (h : L[i]? = none ∨ k ≤ i) : backN k L nid i = nid + i := by
  unfold backN
  split
  · rename_i hb
    rw [Nat.blt_eq] at hb
    rcases h with h | h
    · rw [h]
    · omega
  · rfl
theorem backN_inj {k nid i j : Nat} {L : List Nat} (hnd : ndup L = true) (hL : ∀ x ∈ L, x < nid) (h : backN k L nid i = backN k L nid j) : i = j := by
  have key : ∀ i : Nat, (∃ x, i < k ∧ L[i]? = some x ∧ backN k L nid i = x ∧ x < nid) ∨ backN k L nid i = nid + i := by
    intro i
    rcases Nat.lt_or_ge i k with h1 | h1
    · cases h2 : L[i]? with
      | none => exact .inr (backN_no (.inl h2))
      | some x => exact .inl ⟨x, h1, rfl, backN_lt h1 h2, hL x (List.mem_of_getElem? h2)⟩
    · exact .inr (backN_no (.inr h1))
  rcases key i with ⟨x, a1, a2, a3, a4⟩ | a
  · rcases key j with ⟨y, b1, b2, b3, b4⟩ | b
    · rw [a3, b3] at h
      subst h
      exact ndup_ok hnd a2 b2
    · omega
  · rcases key j with ⟨y, b1, b2, b3, b4⟩ | b
    · omega
    · omega
theorem look_back {k : Nat} {L : List Nat} {nid : Nat} (hnd : ndup L = true) (hL : ∀ x ∈ L, x < nid) : ∀ (l : List (Nat × Blk)) (i : Nat), look (l.map fun x => (backN k L nid x.1, backB k L nid x.2)) (backN k L nid i) = (look l i).map (backB k L nid)
  | [], i => rfl
  | (c, x) :: r, i => by
    rw [List.map_cons, look_cons, look_cons, look_back hnd hL r i]
    by_cases h : c = i
    · subst h; simp
    · rw [if_neg h, if_neg fun e => h (backN_inj hnd hL e)]
theorem look_back_inv {k : Nat} {L : List Nat} {nid : Nat} : ∀ {l : List (Nat × Blk)} {j : Nat} {b : Blk}, look (l.map fun x => (backN k L nid x.1, backB k L nid x.2)) j = some b → ∃ i, j = backN k L nid i
  | [], j, b, h => by cases h
  | (c, x) :: r, j, b, h => by
    rw [List.map_cons, look_cons] at h
    by_cases hk : backN k L nid c = j
    · exact ⟨c, hk.symm⟩
    · rw [if_neg hk] at h
      exact look_back_inv h
/-- a weaker telling of it -/
theorem PinOK.of {K : Nat} {P : Program} {G : GT} {f : FuncId} {g k : List PV → Mem → Tr (PV × Mem)} (hg : PinOK K P G f g) (hle : ∀ ps M p M', (k ps M).run = some (p, M') → (g ps M).run = some (p, M')) : PinOK K P G f k :=
  fun β hG M m w ps args hM hlen hrep p M' hp => hg β hG M m w ps args hM hlen hrep p M' (hle ps M p M' hp)
/-- some of the places, with new numbers -/
theorem MRel.pick {β : Base} {M : Mem} {m : Nat → Option Value} {w : World} (h : MRel β M m w) {L : List Nat} {bs : List Blk} (hnd : ndup L = true) (hbs : getAll M.blks L = some bs) :
    MRel β ⟨number (bs.map (renB L)) 0, (bs.map (renB L)).length, M.glob⟩ (fun i => (L[i]?).bind m) w ∧
      ∀ p v, Rep (Cell β w M m) m p v → Rep (Cell β w ⟨number (bs.map (renB L)) 0, (bs.map (renB L)).length, M.glob⟩ (fun i => (L[i]?).bind m)) (fun i => (L[i]?).bind m) (p.sub (ren L)) v := by
  have hget : ∀ {i k : Nat}, L[i]? = some k → ∃ b, bs[i]? = some b ∧ look M.blks k = some b := fun hi => getAll_get hbs hi
  let M0 : Mem := ⟨number (bs.map (renB L)) 0, (bs.map (renB L)).length, M.glob⟩
  let m0 : Nat → Option Value := fun i => (L[i]?).bind m
  have hm0 : ∀ {i id : Nat}, L[i]? = some id → m0 i = m id := fun hi => by simp [m0, hi]
  have at0 : ∀ {i : Nat} {b : Blk}, look M0.blks i = some b → ∃ id b0, L[i]? = some id ∧ bs[i]? = some b0 ∧ look M.blks id = some b0 ∧ b = renB L b0 := by
    intro i b hb
    simp only [M0] at hb
    rw [look_number] at hb
    simp only [Nat.zero_le, if_true, Nat.sub_zero, List.getElem?_map] at hb
    cases hq2 : bs[i]? with
    | none => rw [hq2] at hb; cases hb
    | some b0 =>
      rw [hq2] at hb
      cases hb
      have hlt : i < L.length := by
        have := (List.getElem?_eq_some_iff.1 hq2).1
        rwa [getAll_len hbs] at this
      have hid : L[i]? = some L[i] := List.getElem?_eq_getElem hlt
      obtain ⟨b1, hb1, hlk⟩ := hget hid
      rw [hq2] at hb1
      cases hb1
      exact ⟨_, b0, hid, rfl, hlk, rfl⟩
  have live0 : ∀ {i : Nat}, liv M0.blks i = true → ∃ id, L[i]? = some id ∧ liv M.blks id = true := by
    intro i hs
    obtain ⟨bb, hbb, hlv⟩ := liv_some hs
    obtain ⟨id, b0, hid, _, hlk, rfl⟩ := at0 hbb
    refine ⟨_, hid, ?_⟩
    rw [liv_of hlk]
    cases b0 <;> exact hlv
  have hcell : ∀ b o v, Cell β w M m b o v → Cell β w M0 m0 b o v := by
    rintro b o v hc
    refine ⟨?_, hc.2.1, hc.2.2⟩
    rintro ⟨i, v, hs, hv, hb⟩
    obtain ⟨id, hid, hl⟩ := live0 hs
    rw [hm0 hid] at hv
    exact hc.1 ⟨id, v, hl, hv, hb⟩
  refine ⟨⟨fun id b hb => ?_, fun id hid => ?_, fun i j v v' b hi hj hv hv' hb hb' => ?_, h.bsz, h.below, fun g cs hgc => (h.glob g cs hgc).mono hcell fun _ _ h => h, h.gl, h.objs⟩, fun p v hr => hr.sub hcell fun p v ha hr => ren_rep ha hr⟩
  · obtain ⟨id', b0, hid, _, hlk, rfl⟩ := at0 hb
    have hbk := h.blk _ _ hlk
    cases hbk with
    | cells ty cs b vs hm hb0 hl h1 hr hB =>
      refine .cells ty _ b vs ((hm0 hid).trans hm) hb0 (by rw [subL_length]; exact hl) h1 (fun i p v hp hv => ?_) hB
      rw [subL_get] at hp
      cases hc : cs[i]? with
      | none => rw [hc] at hp; cases hp
      | some c =>
        rw [hc] at hp
        cases hp
        exact (hr i c v hc hv).sub hcell fun p v ha hr => ren_rep ha hr
    | row e sz n f v xs hm ho hKr h1 hl hr =>
      exact .row e sz n f v xs ((hm0 hid).trans hm) ho hKr h1 hl fun i j p hi hp =>
        let ⟨x, hx, hrr⟩ := hr i j p hi hp
        ⟨x, hx, hrr.mono hcell fun _ _ h => h⟩
    | frz sz n f v hm h1 hr hk => exact .frz sz n f v ((hm0 hid).trans hm) h1 (hr.mono hcell fun _ _ h => h) hk
  · simp only [List.length_map, getAll_len hbs] at hid
    simp [List.getElem?_eq_none hid]
  · obtain ⟨i', hi', hli⟩ := live0 hi
    obtain ⟨j', hj', hlj⟩ := live0 hj
    have e1 := hm0 hi'
    have e2 := hm0 hj'
    simp only [m0] at e1 e2
    rw [e1] at hv
    rw [e2] at hv'
    have := h.inj i' j' v v' b hli hlj hv hv' hb hb'
    subst this
    exact ndup_ok hnd hi' hj'
/-- told by the places alone, numbered from 0 on; the first ones stay -/
def PinBn (K : Nat) (P : Program) (G : GT) (f : FuncId) (g : List PV → List Blk → Tr (PV × List Blk)) : Prop :=
  ∀ (β : Base), β.G = G → ∀ (bs : List Blk) (m : Nat → Option Value) (w : World) (ps : List PV) (args : Array Value), MRel β ⟨number bs 0, bs.length, G⟩ m w → ps.length = args.size →
    (∀ (i : Nat) (p : PV) (v : Value), ps[i]? = some p → args[i]? = some v → Rep (Cell β w ⟨number bs 0, bs.length, G⟩ m) m p v) → ∀ (p : PV) (bs' : List Blk), (g ps bs).run = some (p, bs') →
    Calls P f args w fun
      | .returned v, w' => ∃ m', (∀ i, i < K → ∀ v, m i = some v → m' i = some v) ∧ MRel β ⟨number bs' 0, bs'.length, G⟩ m' w' ∧ Rep (Cell β w' ⟨number bs' 0, bs'.length, G⟩ m') m' p v
      | _, _ => False
/-- .. the first one stays the first -/
abbrev PinB (P : Program) (G : GT) (f : FuncId) (g : List PV → List Blk → Tr (PV × List Blk)) : Prop := PinBn 1 P G f g
/-- words for the first places -/
def rootsN : Nat → Nat → List PV
  | 0, _ => []
  | k + 1, i => .ptr i 0 :: rootsN k (i + 1)
/-- .. as it is evaluated -/
def fnPinN (K : Nat) (P : Program) (E : Env) (n : Nat) (fn : Func) (G : GT) (ps : List PV) (bs : List Blk) : Tr (PV × List Blk) := (fnEv P E n fn ps ⟨number bs 0, bs.length, G⟩).bind fun r => match r.2.reach (rootsN K 0 ++ [r.1]) with
  | L => match ndup L && pinOK K L, getAll r.2.blks L with
    | true, some bs' => .leaf (r.1.sub (ren L), bs'.map (renB L))
    | _, _ => .fail
theorem pinBn_of_ev {K : Nat} {P : Program} {E : Env} {n : Nat} {G : GT} (hE : E.ok P G) (hmo : P.follows .mixedOrders = true) {f : FuncId} {fn : Func} (hf : P.funcs[f]? = some fn) (hc : ∀ c, fn.body = some c → CutsOK (.pins K) P G E c) : PinBn K P G f (fnPinN K P E n fn G) := by
  intro β hG bs m w ps args hM hlen hrep p bs' hp
  obtain ⟨⟨q, M'⟩, hq, hp⟩ := Tr.of_bind hp
  dsimp only at hp
  generalize hL : M'.reach (rootsN K 0 ++ [q]) = L at hp
  split at hp
  · rename_i bs2 hnd hbs
    simp only [Tr.run, Option.some.injEq, Prod.mk.injEq] at hp
    obtain ⟨rfl, rfl⟩ := hp
    simp only [Bool.and_eq_true] at hnd
    refine (pin_of_ev hE hmo hf hc β hG _ m w ps args hM hlen hrep q M' hq).mono ?_
    intro e w' he
    cases e with
    | panicked _ => exact he.elim
    | outgrown => exact he.elim
    | returned v =>
      obtain ⟨m', hpin, hM', hr⟩ := he
      obtain ⟨h1, h2⟩ := hM'.pick hnd.1 hbs
      have hg : M'.glob = G := hM'.gl.trans hG
      rw [hg] at h1 h2
      refine ⟨_, fun i hi v hv => ?_, h1, h2 q v hr⟩
      show (L[i]?).bind m' = some v
      rw [pinOK_at hnd.2 hi]
      exact hpin i hi v hv
  · cases hp
/-- .. the first one stays -/
def fnPin (P : Program) (E : Env) (n : Nat) (fn : Func) (G : GT) (ps : List PV) (bs : List Blk) : Tr (PV × List Blk) := fnPinN 1 P E n fn G ps bs
theorem pinB_of_ev {P : Program} {E : Env} {n : Nat} {G : GT} (hE : E.ok P G) (hmo : P.follows .mixedOrders = true) {f : FuncId} {fn : Func} (hf : P.funcs[f]? = some fn) (hc : ∀ c, fn.body = some c → CutsOK .pin P G E c) : PinB P G f (fnPin P E n fn G) := pinBn_of_ev hE hmo hf hc
theorem PinBn.of {K : Nat} {P : Program} {G : GT} {f : FuncId} {g k : List PV → List Blk → Tr (PV × List Blk)} (hg : PinBn K P G f g) (hle : ∀ ps bs p bs', (k ps bs).run = some (p, bs') → (g ps bs).run = some (p, bs')) : PinBn K P G f k :=
  fun β hG bs m w ps args hM hlen hrep p bs' hp => hg β hG bs m w ps args hM hlen hrep p bs' (hle ps bs p bs' hp)
theorem MRel.le {β : Base} {G : GT} {bs bs' : List Blk} {m : Nat → Option Value} {w : World} (h : MRel β ⟨number bs 0, bs.length, G⟩ m w) (hl : BLeL bs bs') :
    MRel β ⟨number bs' 0, bs'.length, G⟩ m w ∧ ∀ b o v, Cell β w ⟨number bs 0, bs.length, G⟩ m b o v → Cell β w ⟨number bs' 0, bs'.length, G⟩ m b o v := by
  have r : Rel β (stOf 0 G [] ([], bs)) m { tmps := #[], defers := [] } w := ⟨rfl, rfl, fun i p hp => (by cases hp), h⟩
  have r' := stOf_le0 (G := G) (N := 0) (ks := []) (x := ([], bs)) (y := ([], bs')) ⟨.nil, hl⟩ β h.gl.symm m _ w r
  refine ⟨r'.mem, fun b o v hc => ⟨?_, hc.2.1, hc.2.2⟩⟩
  rintro ⟨id, u, hs, hu, hb⟩
  refine hc.1 ⟨id, u, ?_, hu, hb⟩
  obtain ⟨b1, hb1, hlv⟩ := liv_some hs
  rw [look_number] at hb1
  simp only [Nat.zero_le, if_true, Nat.sub_zero] at hb1
  have hlt : id < bs.length := by rw [hl.1]; exact (List.getElem?_eq_some_iff.1 hb1).1
  have hb0 : bs[id]? = some bs[id] := List.getElem?_eq_getElem hlt
  have hle := hl.2 id _ _ hb0 hb1
  have : look (number bs 0) id = some bs[id] := by
    rw [look_number]
    simp [hlt]
  rw [liv_of this, hle.liv]
  exact hlv
/-- .. where more is told than is wanted, of what is given and of what comes out -/
theorem PinBn.le {K : Nat} {P : Program} {G : GT} {f : FuncId} {g k : List PV → List Blk → Tr (PV × List Blk)} (hg : PinBn K P G f g)
    (hle : ∀ ps bs p bs', (k ps bs).run = some (p, bs') → ∃ qs cs q cs', PLeL ps qs ∧ BLeL bs cs ∧ (g qs cs).run = some (q, cs') ∧ PLe q p ∧ BLeL cs' bs') : PinBn K P G f k := by
  intro β hG bs m w ps args hM hlen hrep p bs' hp
  obtain ⟨qs, cs, q, cs', h1, h2, h3, h4, h5⟩ := hle ps bs p bs' hp
  obtain ⟨k1, k2⟩ := hM.le h2
  refine (hg β hG cs m w qs args k1 (by rw [← h1.1]; exact hlen) (fun i p v hp hv => ?_) q cs' h3).mono ?_
  · have hlt : i < ps.length := by rw [h1.1]; exact (List.getElem?_eq_some_iff.1 hp).1
    have hq : ps[i]? = some ps[i] := List.getElem?_eq_getElem hlt
    exact h1.2 i _ _ hq hp _ _ _ ((hrep i _ v hq hv).mono k2 fun _ _ h => h)
  · intro e w' he
    cases e with
    | panicked _ => exact he.elim
    | outgrown => exact he.elim
    | returned v =>
      obtain ⟨m', hpin, hM', hr⟩ := he
      obtain ⟨l1, l2⟩ := hM'.le h5
      exact ⟨m', hpin, l1, h4 _ _ _ (hr.mono l2 fun _ _ h => h)⟩
theorem PinB.of {P : Program} {G : GT} {f : FuncId} {g k : List PV → List Blk → Tr (PV × List Blk)} (hg : PinB P G f g) (hle : ∀ ps bs p bs', (k ps bs).run = some (p, bs') → (g ps bs).run = some (p, bs')) : PinB P G f k := PinBn.of hg hle
theorem PinB.le {P : Program} {G : GT} {f : FuncId} {g k : List PV → List Blk → Tr (PV × List Blk)} (hg : PinB P G f g)
    (hle : ∀ ps bs p bs', (k ps bs).run = some (p, bs') → ∃ qs cs q cs', PLeL ps qs ∧ BLeL bs cs ∧ (g qs cs).run = some (q, cs') ∧ PLe q p ∧ BLeL cs' bs') : PinB P G f k := PinBn.le hg hle
/-- .. for a caller, that tells which places are handed in, the one that stays ahead of all -/
def pinGL (k : Nat) (sel : List PV → Mem → List Nat) (g : List PV → List Blk → Tr (PV × List Blk)) (ps : List PV) (M : Mem) : Tr (PV × Mem) := match sel ps M with
  | L => match ndup L, getAll M.blks L with
    | true, some bs => (g (PV.subL (ren L) ps) (bs.map (renB L))).bind fun r => .leaf (r.1.sub (backP k L M.nid), ⟨((number r.2 0).map fun x => (backN k L M.nid x.1, backB k L M.nid x.2)) ++ delAll M.blks L, M.nid + r.2.length + 1, M.glob⟩)
    | _, _ => .fail
theorem pin_fnL {P : Program} {G : GT} {f : FuncId} {g : List PV → List Blk → Tr (PV × List Blk)} {sel : List PV → Mem → List Nat} {k : Nat} (hg : PinBn k P G f g) : FnOK P G f (pinGL k sel g) := by
  intro β hβ M m w ps args h hlen hreps p M2 hp
  unfold pinGL at hp
  generalize hLe : sel ps M = L at hp
  dsimp only at hp
  split at hp
  · rename_i bs hnd hbs
    obtain ⟨⟨q, bs'⟩, hq, hp⟩ := Tr.of_bind hp
    simp only [Tr.run, Option.some.injEq, Prod.mk.injEq] at hp
    obtain ⟨rfl, rfl⟩ := hp
    -- the places that are handed in
    have hget : ∀ {i k : Nat}, L[i]? = some k → ∃ b, bs[i]? = some b ∧ look M.blks k = some b := fun hi => getAll_get hbs hi
    let Fr : Nat → Prop := fun k => ∃ (i : Nat) (id : Nat) (v : Value), L[i]? = some id ∧ liv M.blks id = true ∧ m id = some v ∧ blkOf v = some k
    let β' : Base := ⟨w, Cell β w M m, fun k => k < w.heap.size ∧ ¬ Fr k, G⟩
    have hgl : M.glob = G := h.gl.trans hβ
    let M' : Mem := ⟨number bs' 0, bs'.length, G⟩
    let M0 : Mem := ⟨number (bs.map (renB L)) 0, (bs.map (renB L)).length, G⟩
    let m0 : Nat → Option Value := fun i => (L[i]?).bind m
    have hKF : ∀ k, β.K k → ¬ Fr k := by
      rintro k hk ⟨i, id, v, hi, hl, hm, hb⟩
      obtain ⟨b, hb1, hlv⟩ := liv_some hl
      have hbk := h.blk id b hb1
      cases hbk with
      | cells ty cs b vs hm' _ _ _ _ hB =>
        rw [hm] at hm'
        cases hm'
        cases hb
        exact hB hk
      | row e sz n f v xs hm' _ hKr _ _ _ =>
        rw [hm] at hm'
        cases hm'
        exact hKr k hb hk
      | frz => cases hlv
    have hKK : ∀ k, β.K k → β'.K k := fun k hk => ⟨h.kLt hk, hKF k hk⟩
    have live0 : ∀ {i : Nat}, liv M0.blks i = true → ∃ id, L[i]? = some id ∧ liv M.blks id = true := by
      intro i hs
      obtain ⟨bb, hbb, hlv⟩ := liv_some hs
      simp only [M0] at hbb
      rw [look_number] at hbb
      simp only [Nat.zero_le, if_true, Nat.sub_zero, List.getElem?_map] at hbb
      cases hq2 : bs[i]? with
      | none => rw [hq2] at hbb; cases hbb
      | some b0 =>
        have hlt : i < L.length := by
          have := (List.getElem?_eq_some_iff.1 hq2).1
          rwa [getAll_len hbs] at this
        have hid : L[i]? = some L[i] := List.getElem?_eq_getElem hlt
        obtain ⟨b1, hb1, hlk⟩ := hget hid
        rw [hq2] at hb1
        cases hb1
        rw [hq2] at hbb
        simp only [Option.map_some, Option.some.injEq] at hbb
        refine ⟨_, hid, ?_⟩
        rw [liv_of hlk]
        subst hbb
        cases b0 <;> exact hlv
    have hm0 : ∀ {i id : Nat}, L[i]? = some id → m0 i = m id := fun hi => by simp [m0, hi]
    have hLive : ∀ {b : Nat}, Live M0 m0 b → Live M m b ∧ Fr b := by
      rintro b ⟨i, v, hs, hv, hb⟩
      obtain ⟨id, hid, hl⟩ := live0 hs
      rw [hm0 hid] at hv
      exact ⟨⟨id, v, hl, hv, hb⟩, i, id, v, hid, hl, hv, hb⟩
    have hcell : ∀ b o v, Cell β w M m b o v → Cell β' w M0 m0 b o v := fun b o v hc => ⟨fun hl => hc.1 (hLive hl).1, hc.2.1, fun _ => hc⟩
    have hM : MRel β' M0 m0 w := by
      refine ⟨fun id b hb => ?_, fun id hid => ?_, fun i j v v' b hi hj hv hv' hb hb' => ?_, fun k hk => hk.1, Keeps.refl _ _, fun g cs hgc => (h.glob g cs (by rw [hgl]; exact hgc)).mono hcell fun _ _ h => h, rfl, fun g o hgo => ?_⟩
      · simp only [M0] at hb
        rw [look_number] at hb
        simp only [Nat.zero_le, if_true, Nat.sub_zero, List.getElem?_map] at hb
        cases hq2 : bs[id]? with
        | none => rw [hq2] at hb; cases hb
        | some b0 =>
          rw [hq2] at hb
          cases hb
          have hlt : id < L.length := by
            have := (List.getElem?_eq_some_iff.1 hq2).1
            rwa [getAll_len hbs] at this
          have hid : L[id]? = some L[id] := List.getElem?_eq_getElem hlt
          obtain ⟨b1, hb1, hlk⟩ := hget hid
          rw [hq2] at hb1
          cases hb1
          have hbk := h.blk _ _ hlk
          have hfr : ∀ v k, b0.liv = true → m L[id] = some v → blkOf v = some k → Fr k := fun v k hlv hm hk => ⟨id, _, v, hid, by rw [liv_of hlk]; exact hlv, hm, hk⟩
          cases hbk with
          | cells ty cs b vs hm hb hl h1 hr hB =>
            refine .cells ty _ b vs (by rw [hm0 hid]; exact hm) hb (by rw [subL_length]; exact hl) h1 (fun i p v hp hv => ?_) (fun hk => hk.2 (hfr _ _ rfl hm rfl))
            rw [subL_get] at hp
            cases hc : cs[i]? with
            | none => rw [hc] at hp; cases hp
            | some c =>
              rw [hc] at hp
              cases hp
              exact (hr i c v hc hv).sub hcell fun p v ha hr => ren_rep ha hr
          | row e sz n f v xs hm ho hKr h1 hl hr =>
            exact .row e sz n f v xs (by rw [hm0 hid]; exact hm) ho (fun k hk hkk => hkk.2 (hfr _ _ rfl hm hk)) h1 hl fun i j p hi hp =>
              let ⟨x, hx, hrr⟩ := hr i j p hi hp
              ⟨x, hx, hrr.mono hcell fun _ _ h => h⟩
          | frz sz n f v hm h1 hr hk => exact .frz sz n f v (by rw [hm0 hid]; exact hm) h1 (hr.mono hcell fun _ _ h => h) hk
      · simp only [M0, List.length_map, getAll_len hbs] at hid
        simp [m0, List.getElem?_eq_none hid]
      · obtain ⟨i', hi', hli⟩ := live0 hi
        obtain ⟨j', hj', hlj⟩ := live0 hj
        rw [hm0 hi'] at hv
        rw [hm0 hj'] at hv'
        have := h.inj i' j' v v' b hli hlj hv hv' hb hb'
        subst this
        exact ndup_ok hnd hi' hj'
      · have := h.objs g o (by rw [hβ]; exact hgo)
        exact ⟨hKK g this.1, by show w.heap[g]? = _; rw [h.below.block g this.1]; exact this.2⟩
    refine Calls.mono (hg β' rfl (bs.map (renB L)) m0 w (PV.subL (ren L) ps) args hM (by rw [subL_length]; exact hlen) (fun i p v hp hv => ?_) q bs' hq) ?_
    · rw [subL_get] at hp
      cases hc : ps[i]? with
      | none => rw [hc] at hp; cases hp
      | some c =>
        rw [hc] at hp
        cases hp
        exact (hreps i c v hc hv).sub hcell fun p v ha hr => ren_rep ha hr
    · intro e w' he
      cases e with
      | panicked _ => exact he.elim
      | outgrown => exact he.elim
      | returned v =>
        obtain ⟨m', hpin, hM', hrep⟩ := he
        have hLlt : ∀ x ∈ L, x < M.nid := by
          intro x hx
          obtain ⟨i, hi⟩ := List.mem_iff_getElem?.1 hx
          obtain ⟨b, _, hlk⟩ := hget hi
          obtain ⟨v, hv, _⟩ := (h.blk x b hlk).lt
          exact h.lt hv
        let ρ := backN k L M.nid
        let M2 : Mem := ⟨(M'.blks.map fun x => (backN k L M.nid x.1, backB k L M.nid x.2)) ++ delAll M.blks L, M.nid + M'.nid + 1, M.glob⟩
        let m2 : Nat → Option Value := fun j => if j < M.nid then m j else m' (j - M.nid)
        have hmold : ∀ {i v}, m i = some v → m2 i = some v := fun {i v} hm => by simp [m2, h.lt hm, hm]
        have hmn : ∀ {i v}, m' i = some v → m2 (ρ i) = some v := by
          intro i v hm
          have new : ρ i = M.nid + i → m2 (ρ i) = some v := by
            intro e
            have h1 : ¬ M.nid + i < M.nid := by omega
            have h2 : M.nid + i - M.nid = i := by omega
            rw [e]
            simp only [m2, if_neg h1, h2]
            exact hm
          rcases Nat.lt_or_ge i k with hi | hi
          · cases hx : L[i]? with
            | none => exact new (backN_no (.inl hx))
            | some x =>
              obtain ⟨b, _, hlk⟩ := hget hx
              obtain ⟨u, hu, _⟩ := (h.blk x b hlk).lt
              have := hpin i hi u (by rw [hm0 hx]; exact hu)
              rw [hm] at this
              cases this
              have e : ρ i = x := backN_lt hi hx
              rw [e]
              exact hmold hu
          · exact new (backN_no (.inr hi))
        have hk' : Keeps β'.K w w' := hM'.below
        -- the rest lies elsewhere
        have hrest : ∀ {j u k}, j ∉ L → liv M.blks j = true → m j = some u → blkOf u = some k → β'.K k := by
          intro j u k hj hl hu hb
          refine ⟨h.livLt hl hu hb, ?_⟩
          rintro ⟨i, id, v, hi, hl', hm, hb'⟩
          have := h.inj j id u v k hl hl' hu hm hb hb'
          subst this
          exact hj (List.mem_of_getElem? hi)
        have hlive' : ∀ {i u k}, liv M'.blks i = true → m' i = some u → blkOf u = some k → ¬ β'.K k := by
          intro i u k hl hu hb hk
          obtain ⟨b, hb1, hlv⟩ := liv_some hl
          have hbk := hM'.blk i b hb1
          cases hbk with
          | cells ty cs b vs hm' _ _ _ _ hB =>
            rw [hu] at hm'
            cases hm'
            cases hb
            exact hB hk
          | row e sz n f v xs hm' _ hKr _ _ _ =>
            rw [hu] at hm'
            cases hm'
            exact hKr k hb hk
          | frz => cases hlv
        have hlook : ∀ {j b}, look M2.blks j = some b → (∃ i b', j = ρ i ∧ look M'.blks i = some b' ∧ b = backB k L M.nid b') ∨ (j ∉ L ∧ look M.blks j = some b) := by
          intro j b hj
          simp only [M2] at hj
          rw [look_app] at hj
          cases hl : look (M'.blks.map fun x => (backN k L M.nid x.1, backB k L M.nid x.2)) j with
          | some b1 =>
            rw [hl] at hj
            cases hj
            obtain ⟨i, rfl⟩ := look_back_inv hl
            rw [look_back hnd hLlt] at hl
            cases hi : look M'.blks i with
            | none => rw [hi] at hl; cases hl
            | some b' =>
              rw [hi] at hl
              cases hl
              exact .inl ⟨i, b', rfl, hi, rfl⟩
          | none =>
            rw [hl] at hj
            simp only [look_delAll] at hj
            split at hj
            · cases hj
            · rename_i hn
              exact .inr ⟨hn, hj⟩
        have hmr : ∀ {i u}, look M'.blks i ≠ none → m2 (ρ i) = some u → m' i = some u := by
          intro i u hi hu
          cases hb : look M'.blks i with
          | none => exact absurd hb hi
          | some b =>
            obtain ⟨v, hv, _⟩ := (hM'.blk i b hb).lt
            have := hmn hv
            rw [hu] at this
            cases this
            exact hv
        have hliv2 : ∀ {j u k}, liv M2.blks j = true → m2 j = some u → blkOf u = some k → (∃ i, j = ρ i ∧ liv M'.blks i = true ∧ m' i = some u) ∨ (j ∉ L ∧ liv M.blks j = true ∧ m j = some u) := by
          intro j u k hl hu hb
          obtain ⟨b, hb1, hlv⟩ := liv_some hl
          rcases hlook hb1 with ⟨i, b', rfl, hi, rfl⟩ | ⟨hj, hlk⟩
          · refine .inl ⟨i, rfl, ?_, hmr (by rw [hi]; simp) hu⟩
            rw [liv_of hi]
            cases b' <;> exact hlv
          · refine .inr ⟨hj, by rw [liv_of hlk]; exact hlv, ?_⟩
            obtain ⟨v, hv, _⟩ := (h.blk j b hlk).lt
            have := hmold hv
            rw [hu] at this
            cases this
            exact hv
        have hnl : ∀ {b : Nat}, β'.K b → ¬ Live M m b → ¬ Live M2 m2 b := by
          rintro b hk hn ⟨j, u, hl, hu, hb⟩
          rcases hliv2 hl hu hb with ⟨i, _, hl', hu'⟩ | ⟨_, hl', hu'⟩
          · exact hlive' hl' hu' hb hk
          · exact hn ⟨j, u, hl', hu', hb⟩
        have he : Ext β M m w M2 m2 w' := by
          refine ⟨fun i v hm => hmold hm, fun b o v hc => ?_, rfl⟩
          have hlt : b < w.heap.size := World.block_lt_of_cell? w ⟨b, o, none⟩ hc.2.1
          have hK' : β'.K b := ⟨hlt, fun ⟨i, id, v, hi, hl, hm, hb⟩ => hc.1 ⟨id, v, hl, hm, hb⟩⟩
          refine ⟨hnl hK' hc.1, ?_, hc.2.2⟩
          rw [World.cell?_of_block (w := w) (a := ⟨b, o, none⟩) (hk'.block b hK')]
          exact hc.2.1
        have hback : ∀ b o v, Cell β' w' M' m' b o v → Cell β w' M2 m2 b o v := by
          intro b o v hc
          refine ⟨?_, hc.2.1, fun hk => (hc.2.2 (hKK b hk)).2.2 hk⟩
          rintro ⟨j, u, hl, hu, hb⟩
          rcases hliv2 hl hu hb with ⟨i, _, hl', hu'⟩ | ⟨hj, hl', hu'⟩
          · exact hc.1 ⟨i, u, hl', hu', hb⟩
          · exact (hc.2.2 (hrest hj hl' hu' hb)).1 ⟨j, u, hl', hu', hb⟩
        have hatom : ∀ p v, Atom p → Rep (Cell β' w' M' m') m' p v → Rep (Cell β w' M2 m2) m2 (backP k L M.nid p) v := by
          intro p v ha hr
          cases ha with
          | own id =>
            cases hr with
            | own m id v hm h1 => exact .own _ _ v (hmn hm) h1
          | ptr id off =>
            cases hr with
            | ptr m id off b hm => exact .ptr _ _ off b (hmn hm)
          | optr id sz i j =>
            cases hr with
            | optr m id sz i j b n cap hm => exact .optr _ _ sz i j b n cap (hmn hm)
        have hKnew : ∀ k, ¬ β'.K k → ¬ β.K k := fun k hk hkk => hk (hKK k hkk)
        refine ⟨m2, he, ⟨fun id b hb => ?_, fun id hid => ?_, fun i j v v' b hi hj hv hv' hb hb' => ?_, h.bsz, h.below.trans hk' hKK, fun g cs hgc => (h.glob g cs hgc).mono he.cell fun _ _ h => h, h.gl, h.objs⟩, hrep.sub hback hatom⟩
        · rcases hlook hb with ⟨i, b', rfl, hi, rfl⟩ | ⟨hj, hlk⟩
          · have hbk := hM'.blk i b' hi
            cases hbk with
            | cells ty cs b vs hm hb0 hl h1 hr hB =>
              refine .cells ty _ b vs (hmn hm) hb0 (by rw [subL_length]; exact hl) h1 (fun i p v hp hv => ?_) (hKnew _ hB)
              rw [subL_get] at hp
              cases hc : cs[i]? with
              | none => rw [hc] at hp; cases hp
              | some c =>
                rw [hc] at hp
                cases hp
                exact (hr i c v hc hv).sub hback hatom
            | row e sz n f v xs hm ho hKr h1 hl hr =>
              exact .row e sz n f v xs (hmn hm) ho (fun k hk => hKnew k (hKr k hk)) h1 hl fun i j p hi hp =>
                let ⟨x, hx, hrr⟩ := hr i j p hi hp
                ⟨x, hx, hrr.mono hback fun _ _ h => h⟩
            | frz sz n f v hm h1 hr hk => exact .frz sz n f v (hmn hm) h1 (hr.mono hback fun _ _ h => h) hk
          · exact (h.blk id b hlk).turn he hk'.size fun hlv u k hu hk => hk'.block k (hrest hj (by rw [liv_of hlk]; exact hlv) hu hk)
        · have hge : M.nid + M'.nid + 1 ≤ id := hid
          have h1 : ¬ id < M.nid := by omega
          simp only [m2, if_neg h1]
          exact hM'.fresh _ (by show bs'.length ≤ _; simp only [M'] at hge; omega)
        · rcases hliv2 hi hv hb with ⟨i', rfl, hl1, hu1⟩ | ⟨hj1, hl1, hu1⟩
          · rcases hliv2 hj hv' hb' with ⟨j', rfl, hl2, hu2⟩ | ⟨hj2, hl2, hu2⟩
            · rw [hM'.inj i' j' v v' b hl1 hl2 hu1 hu2 hb hb']
            · exact absurd (hrest hj2 hl2 hu2 hb') (hlive' hl1 hu1 hb)
          · rcases hliv2 hj hv' hb' with ⟨j', rfl, hl2, hu2⟩ | ⟨hj2, hl2, hu2⟩
            · exact absurd (hrest hj1 hl1 hu1 hb) (hlive' hl2 hu2 hb')
            · exact h.inj i j v v' b hl1 hl2 hu1 hu2 hb hb'
  · cases hp
/-- .. the first one that is reached stays -/
def pinG (g : List PV → List Blk → Tr (PV × List Blk)) : List PV → Mem → Tr (PV × Mem) := pinGL 1 (fun ps M => M.reach ps) g
theorem pin_fn {P : Program} {G : GT} {f : FuncId} {g : List PV → List Blk → Tr (PV × List Blk)} (hg : PinB P G f g) : FnOK P G f (pinG g) := pin_fnL hg
/-- the k-th one that is reached ahead of all -/
def headAt (k : Nat) (l : List Nat) : List Nat := match l[k]? with
  | some x => x :: l.filter fun y => !(Nat.beq y x)
  | none => l
/-- .. the k-th one that is reached stays -/
def pinGk (k : Nat) (g : List PV → List Blk → Tr (PV × List Blk)) : List PV → Mem → Tr (PV × Mem) := pinGL 1 (fun ps M => headAt k (M.reach ps)) g
theorem pin_fnk {P : Program} {G : GT} {f : FuncId} {g : List PV → List Blk → Tr (PV × List Blk)} (k : Nat) (hg : PinB P G f g) : FnOK P G f (pinGk k g) := pin_fnL hg
/-- .. the first n that are reached stay -/
def pinGn (n : Nat) (g : List PV → List Blk → Tr (PV × List Blk)) : List PV → Mem → Tr (PV × Mem) := pinGL n (fun ps M => M.reach ps) g
theorem pin_fnn {P : Program} {G : GT} {f : FuncId} {g : List PV → List Blk → Tr (PV × List Blk)} (n : Nat) (hg : PinBn n P G f g) : FnOK P G f (pinGn n g) := pin_fnL hg
end Go.Proofs.YtlngnfkjpfokhaaDoor.Ev

/- The evaluator: functions that write one's own block of plain cells, which they are pointed to. -/
namespace Go.Proofs.YtlngnfkjpfokhaaDoor.Ev
open Go Go.RowKit Go.Proofs
set_option linter.unusedVariables false
/-- plain values: what they tell needs no memory -/
def RepF (p : PV) (v : Value) : Prop := Rep (fun _ _ _ => False) (fun _ => none) p v
/-- a function whose first argument points to a block of plain cells: what it gives back, and what the block holds then -/
def SpotAt (P : Program) (G : GT) (f : FuncId) (ty : TypeId) (cs ps : List PV) (p : PV) (cs' : List PV) : Prop :=
  ∀ (w : World) (C : Nat → Nat → Value → Prop), Known C w → Globs G C → Objs G w → ∀ (b : Nat) (vs args : Array Value), (∀ o v, ¬ C b o v) → (∀ g o, G.obj g = some o → g ≠ b) →
    w.heap[b]? = some (.cells vs ty (0, 0)) → cs.length = vs.size → (∀ v ∈ vs, v.oneCell' = true) → (∀ (i : Nat) (q : PV) (v : Value), cs[i]? = some q → vs[i]? = some v → RepF q v) →
    args.size = ps.length + 1 → args[0]? = some (.pointer (some ⟨b, 0, none⟩)) → (∀ (i : Nat) (q : PV) (v : Value), ps[i]? = some q → args[i + 1]? = some v → RepF q v) →
    Calls P f args w fun
      | .returned v, w' => Keeps (fun k => k < w.heap.size ∧ k ≠ b) w w' ∧ RepF p v ∧ ∃ vs', w'.heap[b]? = some (.cells vs' ty (0, 0)) ∧ cs'.length = vs'.size ∧ (∀ v ∈ vs', v.oneCell' = true) ∧
          ∀ (i : Nat) (q : PV) (v : Value), cs'[i]? = some q → vs'[i]? = some v → RepF q v
      | _, _ => False
def SpotOK (P : Program) (G : GT) (f : FuncId) (ty : TypeId) (g : List PV → List PV → Tr (PV × List PV)) : Prop := ∀ cs ps p cs', (g cs ps).run = some (p, cs') → SpotAt P G f ty cs ps p cs'
/-- a function's end, told by that one block -/
def fnSpot (P : Program) (E : Env) (n : Nat) (fn : Func) (G : GT) (ty : TypeId) (cs ps : List PV) : Tr (PV × List PV) := match PV.flatL cs && PV.flatL ps with
  | true => (fnEv P E n fn (.ptr 0 0 :: ps) ⟨[(0, .cells ty cs)], 1, G⟩).bind fun r => match look r.2.blks 0 with
    | some (.cells ty' cs') => match Nat.beq ty' ty && r.1.flat && PV.flatL cs' with
      | true => .leaf (r.1, cs')
      | false => .fail
    | _ => .fail
  | false => .fail
theorem spot_of_ev {P : Program} {E : Env} {n : Nat} {G : GT} (hE : E.ok P G) (hmo : P.follows .mixedOrders = true) {f : FuncId} {fn : Func} (hf : P.funcs[f]? = some fn) (hc : ∀ c, fn.body = some c → CutsOK .pin P G E c) (ty : TypeId) : SpotOK P G f ty (fnSpot P E n fn G ty) := by
  intro cs ps p cs' hp w C hK hG hO b vs args hCb hGb hb hlen h1 hcs hsz ha0 hargs
  unfold fnSpot at hp
  split at hp
  · rename_i hflat
    simp only [Bool.and_eq_true] at hflat
    obtain ⟨⟨q, M'⟩, hq, hp2⟩ := Tr.of_bind hp
    clear hp
    split at hp2
    · rename_i ty' cs2 hl2
      split at hp2
      · rename_i hchk
        simp only [Bool.and_eq_true] at hchk
        obtain ⟨⟨hty, hqf⟩, hcf⟩ := hchk
        obtain rfl := Nat.eq_of_beq_eq_true hty
        simp only [Tr.run, Option.some.injEq, Prod.mk.injEq] at hp2
        obtain ⟨rfl, rfl⟩ := hp2
        let β : Base := ⟨w, C, fun k => k < w.heap.size ∧ k ≠ b, G⟩
        let M0 : Mem := ⟨[(0, .cells ty' cs)], 1, G⟩
        let m0 : Nat → Option Value := fun i => match i with
          | 0 => some (.pointer (some ⟨b, 0, none⟩))
          | _ + 1 => none
        have hm1 : ∀ {i : Nat} {u : Value}, m0 i = some u → i = 0 ∧ u = .pointer (some ⟨b, 0, none⟩) := by
          intro i u h
          cases i with
          | zero => cases h; exact ⟨rfl, rfl⟩
          | succ i => cases h
        have hcell : ∀ b' o v, C b' o v → Cell β w M0 m0 b' o v := by
          intro b' o v h
          refine ⟨?_, hK b' o v h, fun _ => h⟩
          rintro ⟨id, u, hs, hu, hbu⟩
          obtain ⟨rfl, rfl⟩ := hm1 hu
          cases hbu
          exact hCb o v h
        have hM : MRel β M0 m0 w := by
          refine ⟨fun id bb hbb => ?_, fun id hid => ?_, fun i j v v' b' hi hj hv hv' _ _ => ?_, fun k hk => hk.1, Keeps.refl _ _, fun g cs hg => (hG g cs hg).mono hcell fun _ _ h => h, rfl, fun g o hg => ⟨⟨(Array.getElem?_eq_some_iff.1 (hO g o hg)).1, hGb g o hg⟩, hO g o hg⟩⟩
          · cases id with
            | zero =>
              cases hbb
              exact .cells ty' cs b vs rfl hb hlen h1 (fun i p v hp hv => (hcs i p v hp hv).mono (fun _ _ _ h => h.elim) fun _ _ h => by cases h) fun hx => hx.2 rfl
            | succ id => cases hbb
          · cases id with
            | zero => exact absurd hid (Nat.not_succ_le_zero 0)
            | succ id => rfl
          · rw [(hm1 hv).1, (hm1 hv').1]
        refine Calls.mono (fnEv_wp hE hmo hf hc (β := β) rfl hM (by simp [hsz]) (fun i p v hp hv => ?_) hq) ?_
        · cases i with
          | zero =>
            simp only [List.getElem?_cons_zero, Option.some.injEq] at hp
            subst hp
            rw [ha0] at hv
            cases hv
            exact .ptr _ 0 0 b rfl
          | succ i =>
            simp only [List.getElem?_cons_succ] at hp
            exact (hargs i p v hp hv).mono (fun _ _ _ h => h.elim) fun _ _ h => by cases h
        · intro e w' he
          cases e with
          | panicked _ => exact he.elim
          | outgrown => exact he.elim
          | returned v =>
            obtain ⟨m', hE', hM', hrep⟩ := he
            have hm' := hE' 0 (by omega) _ rfl
            refine ⟨hM'.below, hrep.flat hqf, ?_⟩
            have hbr := hM'.blk 0 _ hl2
            cases hbr with
            | cells _ _ b2 vs2 hm2 hb2 hl2 h12 hr2 hB2 =>
              rw [hm'] at hm2
              cases hm2
              exact ⟨vs2, hb2, hl2, h12, fun i p v hp hv => (hr2 i p v hp hv).flat (flatL_get hcf hp)⟩
      · cases hp2
    · cases hp2
  · cases hp
/-- such a function, in one's own memory -/
def spotG (ty : TypeId) (g : List PV → List PV → Tr (PV × List PV)) (ps : List PV) (M : Mem) : Tr (PV × Mem) := match ps with
  | .ptr id 0 :: qs => match look M.blks id with
    | some (.cells ty' cs) => match Nat.beq ty' ty && PV.flatL cs && PV.flatL qs with
      | true => (g cs qs).bind fun r => match PV.flat r.1 && PV.flatL r.2 with
        | true => .leaf (r.1, ⟨setL M.blks id (.cells ty r.2), M.nid, M.glob⟩)
        | false => .fail
      | false => .fail
    | _ => .fail
  | _ => .fail
theorem spot_fn {P : Program} {G : GT} {f : FuncId} {ty : TypeId} {g : List PV → List PV → Tr (PV × List PV)} (hg : SpotOK P G f ty g) : FnOK P G f (spotG ty g) := by
  intro β hβ M m w ps args h hlen hreps p M' hp
  unfold spotG at hp
  split at hp
  · rename_i id qs
    split at hp
    · rename_i ty' cs hl
      split at hp
      · rename_i hchk
        simp only [Bool.and_eq_true] at hchk
        obtain ⟨⟨hty, hcf⟩, hqf⟩ := hchk
        obtain rfl := Nat.eq_of_beq_eq_true hty
        obtain ⟨⟨q, cs'⟩, hq, hp⟩ := Tr.of_bind hp
        dsimp only at hp
        split at hp
        · rename_i hchk2
          simp only [Bool.and_eq_true] at hchk2
          simp only [Tr.run, Option.some.injEq, Prod.mk.injEq] at hp
          obtain ⟨rfl, rfl⟩ := hp
          have hbr := h.blk id _ hl
          cases hbr with
          | cells _ _ b vs hm hb hl1 h1 hr hB =>
            have hlive : Live M m b := ⟨id, _, by rw [liv_of hl]; rfl, hm, rfl⟩
            have hsz : 0 < args.size := by rw [← hlen]; simp
            have ha0 : args[0]? = some (.pointer (some ⟨b, 0, none⟩)) := by
              have hx : args[0]? = some args[0] := Array.getElem?_eq_getElem hsz
              have hr0 := hreps 0 _ _ rfl hx
              generalize args[0] = v0 at hr0 hx
              cases hr0 with
              | ptr _ _ _ b2 hm2 =>
                rw [hm] at hm2
                cases hm2
                exact hx
            have hc := hg cs qs q cs' hq w (fun b' o v => w.cell? ⟨b', o, none⟩ = some v ∧ b' ≠ b) (fun _ _ _ h => h.1)
              (fun g cs hgc => (h.glob g cs (by rw [h.gl, hβ]; exact hgc)).mono (fun b' o v hx => ⟨hx.2.1, fun e => hx.1 (e ▸ hlive)⟩) fun _ _ h => h)
              (by rw [← hβ]; exact h.objs') b vs args (fun o v h => h.2 rfl) (fun g o hgo e => hB (e ▸ (h.objs g o (by rw [hβ]; exact hgo)).1)) hb hl1 h1
              (fun i p v hp hv => (hr i p v hp hv).flat (flatL_get hcf hp)) (by rw [← hlen]; rfl) ha0
              (fun i p v hp hv => (hreps (i + 1) p v (by simpa using hp) hv).flat (flatL_get hqf hp))
            refine Calls.mono hc ?_
            intro e w' he
            cases e with
            | panicked _ => exact he.elim
            | outgrown => exact he.elim
            | returned v =>
              obtain ⟨hk, hv, vs', hb', hl', h1', hr'⟩ := he
              have hblt : b < w.heap.size := (Array.getElem?_eq_some_iff.1 hb).1
              have hblt' : b < w'.heap.size := (Array.getElem?_eq_some_iff.1 hb').1
              let w1 : World := { w' with heap := w'.heap.setIfInBounds b (.cells vs ty' (0, 0)) }
              have hget : ∀ k, k ≠ b → w1.heap[k]? = w'.heap[k]? := fun k hkb => Array.getElem?_setIfInBounds_ne (fun e => hkb e.symm)
              have hgb : w1.heap[b]? = some (.cells vs ty' (0, 0)) := by
                show (w'.heap.setIfInBounds b _)[b]? = _
                rw [Array.getElem?_setIfInBounds_self_of_lt hblt']
              have hk1 : Keeps (· < w.heap.size) w w1 := by
                refine ⟨hk.os, hk.tape, hk.output, ?_, fun k hkk => ?_⟩
                · show w.heap.size ≤ (w'.heap.setIfInBounds b _).size
                  rw [Array.size_setIfInBounds]
                  exact hk.size
                · by_cases e : k = b
                  · subst e
                    rw [hgb, hb]
                  · rw [hget k e]
                    exact hk.block k ⟨hkk, e⟩
              obtain ⟨hM1, hE1⟩ := h.keep hk1
              have hsz1 : w1.heap.size = w'.heap.size := Array.size_setIfInBounds ..
              obtain ⟨hM2, hE2⟩ := hM1.write id (.cells ty' cs) (.cells ty' cs') hl rfl rfl _ hm (w' := w')
                ⟨rfl, rfl, rfl, by rw [hsz1]; exact Nat.le_refl _, fun k hkk => (hget k fun e => hB (e ▸ hkk)).symm⟩
                (fun k hkb => (hget k fun e => hkb (by rw [e]; rfl)).symm)
                (fun _ => .cells ty' cs' b vs' hm hb' hl' h1' (fun i p v hp hv => (hr' i p v hp hv).mono (fun _ _ _ h => h.elim) fun _ _ h => by cases h) hB)
              exact ⟨m, hE1.trans hE2, hM2, hv.mono (fun _ _ _ h => h.elim) fun _ _ h => by cases h⟩
        · cases hp
      · cases hp
    · cases hp
  · cases hp
/-- a weaker telling of it -/
theorem SpotOK.of {P : Program} {G : GT} {f : FuncId} {ty : TypeId} {g h : List PV → List PV → Tr (PV × List PV)} (hg : SpotOK P G f ty g) (hle : ∀ cs ps p cs', (h cs ps).run = some (p, cs') → (g cs ps).run = some (p, cs')) : SpotOK P G f ty h :=
  fun cs ps p cs' hp => hg cs ps p cs' (hle cs ps p cs' hp)
theorem FullOK.cons {P : Program} {G : GT} {l : List (Nat × (List PV → Mem → Tr (PV × Mem)))} {f : Nat} {g : List PV → Mem → Tr (PV × Mem)} {fn : Func} (h : FnOK P G f g) (hf : P.funcs[f]? = some fn) (hc : canEnter fn = true) (hl : FullOK P G l) : FullOK P G ((f, g) :: l) := fun f' g' hm => by
  rcases List.mem_cons.1 hm with e | hm
  · cases e
    exact ⟨h, enters_of hf hc⟩
  · exact hl f' g' hm
end Go.Proofs.YtlngnfkjpfokhaaDoor.Ev

/- Functions that give back a new row, that their caller may write. No condition. -/
namespace Go.Proofs.YtlngnfkjpfokhaaDoor.Ev
open Go Go.RowKit
set_option linter.unusedVariables false
set_option linter.unusedSimpArgs false
/-- a function that writes nothing that was there, and gives back a row of its own make -/
def RowAt (P : Program) (G : GT) (f : FuncId) (ps : List PV) (e : TypeId) (sz n : Nat) (h : Nat → List PV) : Prop :=
  ∀ (w : World) (C : Nat → Nat → Value → Prop), Known C w → Globs G C → Objs G w → ∀ (args : Array Value), RepL C ps args →
    Calls P f args w fun
      | .returned v, w' => Keeps (· < w.heap.size) w w' ∧ ∃ xs, w'.ownsRow w.heap.size e sz v n xs ∧ (∀ x ∈ xs, x.oneCell' = true) ∧ (∀ i, i < n → (h i).length = sz) ∧
          ∀ (i j : Nat) (p : PV), i < n → (h i)[j]? = some p → ∃ x, xs[i * sz + j]? = some x ∧ Rep (fun b o y => Grown C w w' b o y ∧ blkOf v ≠ some b) (fun _ => none) p x
      | _, _ => False
def RowOK (P : Program) (G : GT) (f : FuncId) (g : List PV → Tr (TypeId × Nat × Nat × (Nat → List PV))) : Prop := ∀ ps e sz n h, (g ps).run = some (e, sz, n, h) → RowAt P G f ps e sz n h
theorem RowOK.of {P : Program} {G : GT} {f : FuncId} {g g' : List PV → Tr (TypeId × Nat × Nat × (Nat → List PV))} (h : RowOK P G f g) (hg : ∀ ps e sz n k, (g' ps).run = some (e, sz, n, k) → ∃ k', (g ps).run = some (e, sz, n, k') ∧ ∀ i, i < n → k' i = k i) : RowOK P G f g' := by
  intro ps e sz n k hk w C hK hG hO args hr
  obtain ⟨k', h1, h2⟩ := hg ps e sz n k hk
  refine (h ps e sz n k' h1 w C hK hG hO args hr).mono ?_
  rintro (v | _) w' hq
  · obtain ⟨q1, xs, q2, q3, q4, q5⟩ := hq
    refine ⟨q1, xs, q2, q3, fun i hi => by rw [← h2 i hi]; exact q4 i hi, fun i j p hi hp => q5 i j p hi (by rw [h2 i hi]; exact hp)⟩
  all_goals exact hq.elim
/-- .. as it is evaluated -/
def fnRow (P : Program) (E : Env) (n : Nat) (fn : Func) (G : GT) (ps : List PV) : Tr (TypeId × Nat × Nat × (Nat → List PV)) := (fnEv P E n fn ps ⟨[], 0, G⟩).bind fun r => match r.1 with
  | .own i => match look r.2.blks i with
    | some (.row e sz k h) => .leaf (e, sz, k, h)
    | _ => .fail
  | _ => .fail
theorem row_of_ev {P : Program} {E : Env} {n : Nat} {G : GT} (hE : E.ok P G) (hmo : P.follows .mixedOrders = true) {f : FuncId} {fn : Func} (hf : P.funcs[f]? = some fn) (hc : ∀ c, fn.body = some c → CutsOK .none P G E c) : RowOK P G f (fnRow P E n fn G) := by
  intro ps e sz k h hp w C hK hG hO args hr
  obtain ⟨⟨q, M'⟩, hq, hp⟩ := Tr.of_bind hp
  dsimp only at hp
  split at hp
  · rename_i i
    split at hp
    · rename_i e1 sz1 k1 h1 hlk
      simp only [Tr.run, Option.some.injEq, Prod.mk.injEq] at hp
      obtain ⟨rfl, rfl, rfl, rfl⟩ := hp
      have hcell : ∀ b o v, C b o v → Cell ⟨w, C, (· < w.heap.size), G⟩ w ⟨[], 0, G⟩ (fun _ => none) b o v := fun b o v h => ⟨fun ⟨id, u, hs, _⟩ => (by cases hs), hK b o v h, fun _ => h⟩
      have hM : MRel ⟨w, C, (· < w.heap.size), G⟩ ⟨[], 0, G⟩ (fun _ => none) w :=
        ⟨fun id b hb => (by cases hb), fun _ _ => rfl, fun i j v v' b hi => (by cases hi), fun k hk => hk, Keeps.refl _ _, fun g cs hg => (hG g cs hg).mono hcell fun _ _ h => h, rfl, fun g o hg => ⟨(Array.getElem?_eq_some_iff.1 (hO g o hg)).1, hO g o hg⟩⟩
      refine Calls.mono (fnEv_wp hE hmo hf hc (β := ⟨w, C, (· < w.heap.size), G⟩) rfl hM hr.1 (fun i p v hp hv => (hr.2 i p v hp hv).mono hcell fun _ _ h => h) hq) ?_
      intro e' w' he
      cases e' with
      | panicked _ => exact he.elim
      | outgrown => exact he.elim
      | returned v =>
        obtain ⟨m', -, hM', hrep⟩ := he
        refine ⟨hM'.below, ?_⟩
        cases hrep with
        | own _ _ _ hv _ =>
          have hb := hM'.blk i _ hlk
          cases hb with
          | row _ _ _ _ v' xs hm ho hKr h1 hl hr1 =>
            rw [hv] at hm
            cases hm
            refine ⟨xs, ⟨ho.1, ho.2.imp id fun ⟨g, cap, cur, e1, e2, r⟩ => ⟨g, cap, cur, e1, Nat.le_of_not_lt (hKr g (by rw [e1]; rfl)), r⟩⟩, h1, hl, fun i' j p hi hj => ?_⟩
            obtain ⟨x, hx, hxr⟩ := hr1 i' j p hi hj
            refine ⟨x, hx, hxr.mono (fun b o y hy => ⟨?_, fun hbv => hy.1 ⟨i, _, liv_of hlk, hv, hbv⟩⟩) fun _ _ h => h⟩
            rcases Nat.lt_or_ge b w.heap.size with h | h
            · exact .inl (hy.2.2 h)
            · exact .inr ⟨h, hy.2.1⟩
    · cases hp
  · cases hp
/-- .. for a caller that has memory of its own: one row more -/
def rowFn (g : List PV → Tr (TypeId × Nat × Nat × (Nat → List PV))) (ps : List PV) (M : Mem) : Tr (PV × Mem) := match PV.closL ps with
  | true => (g ps).bind fun r => match r with
    | (e, sz, n, h) => .leaf (.own M.nid, M.new (.row e sz n h))
  | false => .fail
theorem row_fn {P : Program} {G : GT} {f : FuncId} {g : List PV → Tr (TypeId × Nat × Nat × (Nat → List PV))} (hg : RowOK P G f g) : FnOK P G f (rowFn g) := by
  intro β hG M m w ps args hM hlen hrep p M' hp
  unfold rowFn at hp
  split at hp
  · rename_i hcl
    obtain ⟨⟨e, sz, n, h⟩, h1, hp⟩ := Tr.of_bind hp
    simp only [Tr.run, Option.some.injEq, Prod.mk.injEq] at hp
    obtain ⟨rfl, rfl⟩ := hp
    refine (hg ps e sz n h h1 w (Cell β w M m) (fun b o v h => h.2.1) (fun g cs hgc => hM.glob g cs (by rw [hM.gl, hG]; exact hgc)) (by rw [← hG]; exact hM.objs') args ⟨hlen, fun i p v hp hv => (hrep i p v hp hv).clos (closL_get hcl hp)⟩).mono ?_
    rintro (v | _) w' hq
    · obtain ⟨hk, xs, ho, h1x, hl, hr⟩ := hq
      have hbv : ∀ k, blkOf v = some k → w.heap.size ≤ k := by
        intro k hk'
        rcases ho.2 with ⟨rfl, _⟩ | ⟨b, cap, cur, rfl, hb, _⟩
        · cases hk'
        · cases hk'
          exact hb
      have hone : v.oneCell' = true := by
        rcases ho.2 with ⟨rfl, _⟩ | ⟨b, cap, cur, rfl, _⟩ <;> rfl
      obtain ⟨k1, k2⟩ := hM.grow (.row e sz n h) v (w' := w') ⟨hk.os, hk.tape, hk.output, hk.size, fun k hk' => hk.block k (hM.kLt hk')⟩ hk.block hbv fun he =>
        .row e sz n h v xs (upd_same ..) ⟨ho.1, ho.2.imp id fun ⟨g, cap, cur, e1, e2, r⟩ => ⟨g, cap, cur, e1, Nat.zero_le _, r⟩⟩ (fun j hj hjk => Nat.lt_irrefl _ (Nat.lt_of_lt_of_le (hM.kLt hjk) (hbv j hj))) h1x hl fun i j p hi hj => by
          obtain ⟨x, hx, hxr⟩ := hr i j p hi hj
          refine ⟨x, hx, hxr.mono (fun b o y hy => ?_) fun _ _ h => h⟩
          obtain ⟨hy | ⟨hyb, hyc⟩, hyn⟩ := hy
          · exact he.cell b o y hy
          · refine ⟨fun ⟨id, u, hs, hm, hbu⟩ => ?_, hyc, fun hlt => absurd (hM.kLt hlt) (by omega)⟩
            by_cases hid : id = M.nid
            · subst hid
              rw [upd_same] at hm
              cases hm
              exact hyn hbu
            · rw [upd_other _ _ _ _ hid] at hm
              simp only [Mem.new, liv_cons, if_neg (Ne.symm hid)] at hs
              have := hM.livLt hs hm hbu
              omega
      exact ⟨_, k2, k1, .own _ _ _ (upd_same ..) hone⟩
    all_goals exact hq.elim
  · cases hp
/-- no row is one's own row of none -/
theorem RowAt.nil {P : Program} {G : GT} {f : FuncId} {ps : List PV} {e : TypeId} {sz : Nat} {h : Nat → List PV} (hp : PureAt P G f ps (.lit (.slice none 0 0))) : RowAt P G f ps e sz 0 h := by
  intro w C hK hG hO args hr
  refine (hp w C hK hG hO args hr).mono ?_
  rintro (v | _) w' hq
  · obtain ⟨q1, q2⟩ := hq
    have := litOf_rep q2 rfl
    subst this
    exact ⟨q1, [], World.ownsRow_nil w' _ _ _, by simp, fun i hi => by omega, fun i j p hi => by omega⟩
  all_goals exact hq.elim
/-- a slice of nothing: there is none, or it is there -/
theorem RowAt.empty {P : Program} {G : GT} {f : FuncId} {e : TypeId} {s sz n : Nat} {h g : Nat → List PV} (h1 : RowAt P G f [.lit (.slice none 0 0)] e sz n h) (h2 : ∀ a c, RowAt P G f [.lit (.slice (some a) 0 c)] e sz n h) : RowAt P G f [.gsl s 0 g] e sz n h := by
  intro w C hK hG hO args hr
  have hl : 0 < args.size := by
    have := hr.1
    simp at this
    omega
  have hv := hr.2 0 _ args[0] rfl (Array.getElem?_eq_getElem hl)
  have mk : ∀ v, args[0] = v → RepL C [.lit v] args := by
    intro v e
    refine ⟨hr.1, fun i p u hp hu => ?_⟩
    cases i with
    | zero =>
      simp only [List.getElem?_cons_zero, Option.some.injEq] at hp
      subst hp
      rw [Array.getElem?_eq_getElem hl] at hu
      cases hu
      rw [e]
      exact .lit _ _
    | succ i => simp at hp
  generalize hx : args[0] = v at hv mk
  cases hv with
  | gnil => exact h1 w C hK hG hO args (mk _ rfl)
  | gspt _ _ _ a => exact h2 a 0 w C hK hG hO args (mk _ rfl)
  | gsl m sz n f b o cap g' hc hl' hh hcap => exact h2 _ cap w C hK hG hO args (mk _ rfl)
theorem RowAt.pre {P : Program} {G : GT} {f : FuncId} {ps qs : List PV} {e : TypeId} {sz n : Nat} {h : Nat → List PV} (hq : RowAt P G f qs e sz n h) (hl : PLeL ps qs) : RowAt P G f ps e sz n h :=
  fun w C hK hG hO args hr => hq w C hK hG hO args (hr.le hl)
theorem RowAt.congr {P : Program} {G : GT} {f : FuncId} {ps : List PV} {e : TypeId} {sz n : Nat} {h k : Nat → List PV} (hq : RowAt P G f ps e sz n h) (hk : ∀ i, i < n → h i = k i) : RowAt P G f ps e sz n k := by
  intro w C hK hG hO args hr
  refine (hq w C hK hG hO args hr).mono ?_
  rintro (v | _) w' hq
  · obtain ⟨q1, xs, q2, q3, q4, q5⟩ := hq
    refine ⟨q1, xs, q2, q3, fun i hi => by rw [← hk i hi]; exact q4 i hi, fun i j p hi hp => q5 i j p hi (by rw [hk i hi]; exact hp)⟩
  all_goals exact hq.elim
end Go.Proofs.YtlngnfkjpfokhaaDoor.Ev
