/- What a law is given, whatever its types: truths, numbers, texts, structs of these, and slices of these, told as the evaluator tells values; and it reads as it did behind a call. No condition. -/
import Derived.Test.YtbpmfaghjlmjmaaDoorNsG
import Derived.Deep.Slices
import Derived.Carry
namespace Go.Proofs.YtbpmfaghjlmjmaaDoor.Ev
open Go Go.RowKit Go.Proofs Go.ChangeShapes Go.WideShapes Go.ChangeAt
set_option linter.unusedVariables false
set_option linter.unusedSimpArgs false
/-- a cell of one kind -/
inductive Sc where
  | bool
  | int (k : IntKind)
  | str
/-- a cell, or a slice of rows of cells -/
inductive Ak where
  | sc (s : Sc)
  | sl (l : List Sc)
/-- what is given: one cell, or a struct's cells -/
inductive ASh where
  | one (k : Ak)
  | agg (l : List Ak)
def isSc : Sc → Value → Bool
  | .bool, .bool _ => true
  | .int k, .int k' n => decide (k = k') && (decide (k.min ≤ n) && decide (n ≤ k.max))
  | .str, .string _ => true
  | _, _ => false
def areSc : List Sc → List PV → Bool
  | [], [] => true
  | s :: l, .lit v :: r => isSc s v && areSc l r
  | _, _ => false
def isAk : Ak → PV → Bool
  | .sc s, .lit v => isSc s v
  | .sl l, .gsl sz n f => Nat.beq sz l.length && (List.range n).all fun i => areSc l (f i)
  | _, _ => false
def areAk : List Ak → List PV → Bool
  | [], [] => true
  | k :: l, q :: r => isAk k q && areAk l r
  | _, _ => false
def isArg : ASh → PV → Bool
  | .one k, q => isAk k q
  | .agg l, .agg qs => areAk l qs
  | _, _ => false
def areArgs : List ASh → List PV → Bool
  | [], [] => true
  | a :: l, q :: r => isArg a q && areArgs l r
  | _, _ => false
def scBulk : PV → Nat
  | .lit (.string s) => s.size + 1
  | _ => 1
def scsBulk : List PV → Nat
  | [] => 0
  | q :: r => scBulk q + scsBulk r
def akBulk : PV → Nat
  | .gsl _ n f => ((List.range n).map fun i => scsBulk (f i)).sum + 1
  | q => scBulk q
def aksBulk : List PV → Nat
  | [] => 0
  | q :: r => akBulk q + aksBulk r
def argBulk : PV → Nat
  | .agg qs => aksBulk qs
  | q => akBulk q
def argsBulk : List PV → Nat
  | [] => 0
  | q :: r => argBulk q + argsBulk r
/-! ### which cells a type has -/
def flatOf (P : Program) (g : TypeId → Option (List Ak)) : Nat → List Field → Option (List Ak)
  | _, [] => some []
  | o, f :: r => match Nat.beq f.offset o, g f.type with
    | true, some l => match Nat.beq (P.cellsOf f.type) l.length, flatOf P g (o + l.length) r with
      | true, some l' => some (l ++ l')
      | _, _ => none
    | _, _ => none
def scsOf : List Ak → Option (List Sc)
  | [] => some []
  | .sc s :: r => match scsOf r with
    | some l => some (s :: l)
    | none => none
  | .sl _ :: _ => none
def akOf (P : Program) : Nat → TypeId → Option (List Ak)
  | 0 => fun _ => none
  | d + 1 => fun t => match P.underlying t with
    | some .bool => some [.sc .bool]
    | some (.int k) => some [.sc (.int k)]
    | some .string => some [.sc .str]
    | some (.struct fs) => match flatOf P (akOf P d) 0 fs.toList with
      | some l => match Nat.beq (P.cellsOf t) l.length with
        | true => some l
        | false => none
      | none => none
    | some (.slice e) => match akOf P d e with
      | some l => match scsOf l with
        | some s => match Nat.beq (P.cellsOf e) s.length with
          | true => some [.sl s]
          | false => none
        | none => none
      | none => none
    | _ => none
def aShOf (P : Program) (t : TypeId) : Option ASh := match akOf P 10 t with
  | some l => match P.underlying t with
    | some (.struct _) => some (.agg l)
    | _ => match l with
      | [k] => some (.one k)
      | _ => none
  | none => none
def aShsOf (P : Program) : List TypeId → Option (List ASh)
  | [] => some []
  | t :: r => match aShOf P t, aShsOf P r with
    | some a, some l => some (a :: l)
    | _, _ => none
theorem ak_sl {l : List Sc} {q : PV} (h : isAk (.sl l) q = true) : ∃ n f, q = .gsl l.length n f ∧ ∀ i, i < n → areSc l (f i) = true := by
  cases q with
  | gsl sz n f =>
    simp only [isAk, Bool.and_eq_true, List.all_eq_true] at h
    obtain rfl := Nat.eq_of_beq_eq_true h.1
    exact ⟨n, f, rfl, fun i hi => h.2 i (List.mem_range.2 hi)⟩
  | _ => cases h
theorem ak_sc {s : Sc} {q : PV} (h : isAk (.sc s) q = true) : ∃ v, q = .lit v ∧ isSc s v = true := by
  cases q with
  | lit v => exact ⟨v, rfl, h⟩
  | _ => cases h
theorem sc_str {v : Value} (h : isSc .str v = true) : ∃ s, v = .string s := by
  cases v with
  | string s => exact ⟨s, rfl⟩
  | _ => cases h
theorem sc_bool {v : Value} (h : isSc .bool v = true) : ∃ b, v = .bool b := by
  cases v with
  | bool b => exact ⟨b, rfl⟩
  | _ => cases h
theorem sc_int {k : IntKind} {v : Value} (h : isSc (.int k) v = true) : ∃ n, v = .int k n ∧ k.min ≤ n ∧ n ≤ k.max := by
  cases v with
  | int k' n =>
    simp only [isSc, Bool.and_eq_true, decide_eq_true_eq] at h
    obtain ⟨rfl, h1, h2⟩ := h
    exact ⟨n, rfl, h1, h2⟩
  | _ => cases h
/-! ### lists of cells -/
theorem areAk_len : ∀ {l : List Ak} {qs : List PV}, areAk l qs = true → qs.length = l.length
  | [], [], _ => rfl
  | k :: l, q :: r, h => by
    simp only [areAk, Bool.and_eq_true] at h
    simp [areAk_len h.2]
theorem areAk_app : ∀ {l l' : List Ak} {qs qs' : List PV}, areAk l qs = true → areAk l' qs' = true → areAk (l ++ l') (qs ++ qs') = true
  | [], l', [], qs', _, h' => h'
  | k :: l, l', q :: r, qs', h, h' => by
    simp only [areAk, Bool.and_eq_true] at h
    simp only [List.cons_append, areAk, Bool.and_eq_true]
    exact ⟨h.1, areAk_app h.2 h'⟩
theorem aksBulk_app : ∀ (qs qs' : List PV), aksBulk (qs ++ qs') = aksBulk qs + aksBulk qs'
  | [], qs' => by simp [aksBulk]
  | q :: r, qs' => by
    simp only [List.cons_append, aksBulk]
    rw [aksBulk_app r qs']
    omega
theorem areAk_sc : ∀ {l : List Ak} {s : List Sc} {qs : List PV}, scsOf l = some s → areAk l qs = true → areSc s qs = true ∧ aksBulk qs = scsBulk qs ∧ s.length = l.length
  | [], s, [], h, _ => by
    simp only [scsOf, Option.some.injEq] at h
    subst h
    exact ⟨rfl, rfl, rfl⟩
  | .sc a :: l, s, q :: r, h, hq => by
    unfold scsOf at h
    split at h
    · rename_i s' hs
      cases h
      simp only [areAk, Bool.and_eq_true] at hq
      obtain ⟨i1, i2, i3⟩ := areAk_sc hs hq.2
      obtain ⟨v, rfl, h1⟩ := ak_sc hq.1
      refine ⟨?_, ?_, by simp [i3]⟩
      · simp only [areSc, Bool.and_eq_true]
        exact ⟨h1, i1⟩
      · simp only [aksBulk, scsBulk, i2]
        rfl
    · cases h
  | .sl _ :: l, s, qs, h, _ => by cases h
theorem scsOf_all : ∀ {l : List Ak} {s : List Sc}, scsOf l = some s → ∀ (j : Nat) (k : Ak), l[j]? = some k → ∃ a, k = Ak.sc a
  | [], _, _, j, k, h => by simp at h
  | .sc a :: l, s, h, j, k, hj => by
    unfold scsOf at h
    split at h
    · rename_i s' hs
      cases j with
      | zero => exact ⟨a, by simpa using hj.symm⟩
      | succ j => exact scsOf_all hs j k (by simpa using hj)
    · cases h
  | .sl _ :: l, s, h, _, _, _ => by cases h
theorem areSc_len : ∀ {l : List Sc} {qs : List PV}, areSc l qs = true → qs.length = l.length
  | [], [], _ => rfl
  | s :: l, .lit v :: r, h => by
    simp only [areSc, Bool.and_eq_true] at h
    simp [areSc_len h.2]
/-! ### a value's cells -/
def plainC : Value → Prop
  | .slice (some a) _ _ => a.spot = none
  | _ => True
section
variable {H : Type} {enc : TypeId × Value → H} {P : Program} {W : World}
theorem bulk_range {n : Nat} {a : Nat → Nat} {D : Nat → DataW H} (h : ∀ i, i < n → a i ≤ Rows.uptoBulk (D i)) : ((List.range n).map a).sum ≤ Rows.uptoBulkAll ((List.range n).map D) := by
  have key : ∀ L : List Nat, (∀ i ∈ L, a i ≤ Rows.uptoBulk (D i)) → (L.map a).sum ≤ Rows.uptoBulkAll (L.map D) := by
    intro L
    induction L with
    | nil => intro _; simp [Rows.uptoBulkAll]
    | cons i L ih =>
      intro hL
      have h1 := hL i (by simp)
      have h2 := ih fun j hj => hL j (by simp [hj])
      simp only [List.map_cons, List.sum_cons, Rows.uptoBulkAll]
      omega
  exact key _ fun i hi => h i (List.mem_range.1 hi)
/-- what holds of a type's cells -/
def AkAt (enc : TypeId × Value → H) (P : Program) (W : World) (t : TypeId) (l : List Ak) : Prop :=
  ∀ (n : Nat) (cs : List Value) (x : DataW H × List MemPlace), DataW.trod enc P W 0 (fun _ => true) true n t cs = some x → (∀ (j : Nat) (c : Value) (s : List Sc), cs[j]? = some c → l[j]? = some (.sl s) → plainC c) →
    ∃ qs : List PV, cs.length = l.length ∧ areAk l qs = true ∧ (∀ (j : Nat) (q : PV) (c : Value), qs[j]? = some q → cs[j]? = some c → Rep (Held W) (fun _ => none) q c ∧ c.oneCell' = true) ∧ aksBulk qs ≤ Rows.uptoBulk x.1
theorem flat_ok {g : TypeId → Option (List Ak)} (hg : ∀ t l, g t = some l → AkAt enc P W t l) {n : Nat} {cs : List Value} : ∀ (fs : List Field) (o : Nat) (l : List Ak) (xs : List (DataW H × List MemPlace)), flatOf P g o fs = some l → xs.length = fs.length →
    (∀ (i : Nat) (f : Field), fs[i]? = some f → DataW.trod enc P W 0 (fun _ => true) true n f.type ((cs.drop f.offset).take (P.cellsOf f.type)) = xs[i]?) → (∀ (j : Nat) (c : Value) (s : List Sc), cs[o + j]? = some c → l[j]? = some (.sl s) → plainC c) →
    ∃ qs : List PV, areAk l qs = true ∧ (∀ (j : Nat) (q : PV) (c : Value), qs[j]? = some q → cs[o + j]? = some c → Rep (Held W) (fun _ => none) q c ∧ c.oneCell' = true) ∧ aksBulk qs ≤ Rows.uptoBulkAll (xs.map (·.1))
  | [], o, l, xs, h, hl, _, _ => by
    simp only [flatOf, Option.some.injEq] at h
    subst h
    exact ⟨[], rfl, fun j q c hq => by simp at hq, Nat.zero_le _⟩
  | f :: r, o, l, [], _, hl, _, _ => by simp at hl
  | f :: r, o, l, x :: xs, h, hl, hf, hp => by
    unfold flatOf at h
    split at h
    · rename_i l0 ho h0
      split at h
      · rename_i l1 hc h1
        cases h
        have ho := Nat.eq_of_beq_eq_true ho
        have hc := Nat.eq_of_beq_eq_true hc
        have hx := hf 0 f rfl
        rw [ho, hc] at hx
        have hx : DataW.trod enc P W 0 (fun _ => true) true n f.type ((cs.drop o).take l0.length) = some x := hx
        have at0 : ∀ (j : Nat) (c : Value), ((cs.drop o).take l0.length)[j]? = some c → cs[o + j]? = some c := by
          intro j c hj
          rw [List.getElem?_take] at hj
          split at hj
          · rwa [List.getElem?_drop] at hj
          · cases hj
        obtain ⟨qs0, e0, a0, r0, b0⟩ := hg _ _ h0 n _ x hx fun j c s hj hs => hp j c s (at0 j c hj) (by
          have := (List.getElem?_eq_some_iff.1 hs).1
          rwa [List.getElem?_append_left this])
        have hq0 := areAk_len a0
        obtain ⟨qs1, a1, r1, b1⟩ := flat_ok hg r (o + l0.length) l1 xs h1 (by simpa using hl) (fun i f' hi => hf (i + 1) f' (by simpa using hi)) fun j c s hj hs => hp (l0.length + j) c s (by rwa [← Nat.add_assoc]) (by
          rw [List.getElem?_append_right (by omega)]
          simpa using hs)
        refine ⟨qs0 ++ qs1, areAk_app a0 a1, fun j q c hq hc => ?_, ?_⟩
        · rcases Nat.lt_or_ge j qs0.length with hj | hj
          · rw [List.getElem?_append_left hj] at hq
            refine r0 j q c hq ?_
            rw [List.getElem?_take, if_pos (by omega), List.getElem?_drop]
            exact hc
          · rw [List.getElem?_append_right hj] at hq
            refine r1 (j - qs0.length) q c hq ?_
            rw [show o + l0.length + (j - qs0.length) = o + j by omega]
            exact hc
        · rw [aksBulk_app]
          simp only [List.map_cons, Rows.uptoBulkAll]
          omega
      · cases h
    · cases h
theorem cell1_ok {l : Ak} {q : PV} {c : Value} {b : Nat} (ha : isAk l q = true) (hr : Rep (Held W) (fun _ => none) q c) (h1 : c.oneCell' = true) (hb : akBulk q ≤ b) :
    ∃ qs : List PV, [c].length = [l].length ∧ areAk [l] qs = true ∧ (∀ (j : Nat) (q : PV) (c' : Value), qs[j]? = some q → [c][j]? = some c' → Rep (Held W) (fun _ => none) q c' ∧ c'.oneCell' = true) ∧ aksBulk qs ≤ b := by
  refine ⟨[q], rfl, by simp [areAk, ha], fun j q' c' hq hc => ?_, by simp [aksBulk]; exact hb⟩
  cases j with
  | zero =>
    simp only [List.getElem?_cons_zero, Option.some.injEq] at hq hc
    subst hq
    subst hc
    exact ⟨hr, h1⟩
  | succ j => simp at hq
theorem ak_ok : ∀ (d : Nat) (t : TypeId) (l : List Ak), akOf P d t = some l → AkAt enc P W t l := by
  intro d
  induction d with
  | zero => intro t l h; cases h
  | succ d ih =>
    intro t l h n cs x hx hp
    unfold akOf at h
    split at h
    · rename_i hu
      cases h
      obtain ⟨b, rfl, rfl⟩ := DataW.trod_bool hu hx
      exact cell1_ok (q := .lit (.bool b)) rfl (.lit _ _) rfl (by simp [akBulk, scBulk, Rows.uptoBulk])
    · rename_i k hu
      cases h
      obtain ⟨z, rfl, rfl, hw⟩ := DataW.trod_int hu hx
      exact cell1_ok (q := .lit (.int k z)) (by unfold Lit.wf at hw; simp only [isAk, isSc, decide_true, Bool.true_and]; exact hw) (.lit _ _) rfl (by simp [akBulk, scBulk, Rows.uptoBulk])
    · rename_i hu
      cases h
      obtain ⟨s, rfl, rfl, _⟩ := DataW.trod_string hu hx
      exact cell1_ok (q := .lit (.string s)) rfl (.lit _ _) rfl (by simp [akBulk, scBulk, Rows.uptoBulk])
    · rename_i fs hu
      split at h
      · rename_i l' hl
        split at h
        · rename_i hc
          cases h
          have hc := Nat.eq_of_beq_eq_true hc
          obtain ⟨xs, k, _, rfl, hcs, hxs, hf⟩ := DataW.trod_struct hu hx
          obtain ⟨qs, a, r, b⟩ := flat_ok (cs := cs) ih fs.toList 0 _ xs hl (by simpa using hxs) (fun i f hi => hf i f (by simpa using hi)) fun j c s hj hs => hp j c s (by simpa using hj) hs
          refine ⟨qs, by rw [hcs, hc], a, fun j q c hq hc => r j q c hq (by simpa using hc), ?_⟩
          simp only [Rows.uptoBulk]
          omega
        · cases h
      · cases h
    · rename_i e hu
      split at h
      · rename_i l' hl
        split at h
        · rename_i s hs
          split at h
          · rename_i hc
            cases h
            have hc := Nat.eq_of_beq_eq_true hc
            rcases Go.Deep.open_slice hu hx with ⟨rfl, rfl⟩ | ⟨a, len, cap, m, n', D, Pl, rfl, _, hle, _, hm, rfl, hel⟩
            · exact cell1_ok (q := .gsl s.length 0 fun _ => []) (by simp [isAk]) (.gnil ..) rfl (by simp [akBulk, Rows.uptoBulk])
            · have hsp : a.spot = none := hp 0 _ s rfl rfl
              simp only [if_true] at hm
              have each : ∀ i, i < len → ∃ y : List PV × List Value, W.cells? 0 (a.add (i * P.cellsOf e)) (P.cellsOf e) = some y.2 ∧ y.2.length = s.length ∧ areSc s y.1 = true ∧
                  (∀ (j : Nat) (q : PV) (c : Value), y.1[j]? = some q → y.2[j]? = some c → Rep (Held W) (fun _ => none) q c ∧ c.oneCell' = true) ∧ scsBulk y.1 ≤ Rows.uptoBulk (D i) := by
                intro i hi
                obtain ⟨cs', h1, h2⟩ := hel i (by omega)
                obtain ⟨qs, e1, a1, r1, b1⟩ := ih e l' hl n' cs' _ h2 fun j c u _ hj => by
                  obtain ⟨a, ha⟩ := scsOf_all hs j _ hj
                  cases ha
                obtain ⟨i1, i2, i3⟩ := areAk_sc hs a1
                exact ⟨(qs, cs'), h1, by rw [e1, i3], i1, r1, by rw [← i2]; exact b1⟩
              obtain ⟨y, hy⟩ := Go.Deep.choose_lt each
              refine cell1_ok (q := .gsl s.length len fun i => (y i).1) ?_ ?_ rfl ?_
              · simp only [isAk, Bool.and_eq_true, List.all_eq_true]
                exact ⟨Nat.beq_refl _, fun i hi => (hy i (List.mem_range.1 hi)).2.2.1⟩
              · obtain ⟨b, o, sp⟩ := a
                simp only at hsp
                subst hsp
                refine .gsl _ _ _ _ b o cap (fun i j => (y i).2.getD j default) (fun i j hi hj => ?_) (fun i hi => areSc_len (hy i hi).2.2.1) (fun i j p hi hq => ?_) hle
                · obtain ⟨h1, h2, h3, h4, _⟩ := hy i hi
                  obtain ⟨_, hl2, hcell⟩ := World.cells?_some h1
                  have hj2 : j < (y i).2.length := by omega
                  have hc2 := hcell j (by omega)
                  have hq := areSc_len h3
                  have hgd : (y i).2.getD j default = (y i).2[j] := by simp [List.getD, List.getElem?_eq_getElem hj2]
                  rw [List.getElem?_eq_getElem hj2] at hc2
                  have hone := (h4 j _ _ (List.getElem?_eq_getElem (show j < (y i).1.length by omega)) (List.getElem?_eq_getElem hj2)).2
                  rw [hgd]
                  refine ⟨?_, hone⟩
                  unfold Held
                  rw [Go.Deep.add_add, hc] at hc2
                  rw [← hc2]
                  unfold Addr.add
                  split
                  · rename_i h0
                    rw [h0]
                    rfl
                  · rfl
                · obtain ⟨h1, h2, h3, h4, _⟩ := hy i hi
                  have hq := areSc_len h3
                  have hj1 := (List.getElem?_eq_some_iff.1 ‹(y i).1[j]? = some p›).1
                  have hj2 : j < (y i).2.length := by omega
                  have hgd : (y i).2.getD j default = (y i).2[j] := by simp [List.getD, List.getElem?_eq_getElem hj2]
                  rw [hgd]
                  exact (h4 j p _ ‹_› (List.getElem?_eq_getElem hj2)).1
              · have := bulk_range (D := D) (a := fun i => scsBulk (y i).1) fun i hi => (hy i hi).2.2.2.2
                simp only [akBulk, Rows.uptoBulk]
                omega
          · cases h
        · cases h
      · cases h
    · cases h
theorem cell_plain {u : TypeId} {v : Value} (h : Cell.okWide P W .any 0 u v) : plainC v := by
  unfold plainC
  cases v with
  | slice a n c =>
    cases a with
    | none => trivial
    | some a =>
      cases hu : P.underlying u with
      | none =>
        simp only [Cell.okWide, Cell.ok, hu] at h
      | some d =>
        cases d <;> simp only [Cell.okWide, Cell.ok, hu] at h
        all_goals exact h.2.2.2.1
  | _ => trivial
/-- one thing that is given -/
theorem arg_ok {t : TypeId} {a : ASh} {v : Value} {x : DataW H} {ps : List MemPlace} (ha : aShOf P t = some a) (hv : Value.okWide P W .any 0 t v) (h : DataW.Trod enc P W 0 (fun _ => true) true t v x ps) :
    ∃ q, isArg a q = true ∧ Rep (Held W) (fun _ => none) q v ∧ argBulk q ≤ Rows.uptoBulk x := by
  obtain ⟨n, hn⟩ := h
  unfold aShOf at ha
  split at ha
  · rename_i l hl
    split at ha
    · rename_i fs hu
      cases ha
      unfold Value.okWide at hv
      rw [hu] at hv
      obtain ⟨cs, rfl, hsz, ts, _, _, hok⟩ := hv
      obtain ⟨qs, e1, a1, r1, b1⟩ := ak_ok 10 t l hl n _ _ hn fun j c s hj _ => by
        obtain ⟨u, _, hc⟩ := hok j c (by simpa [Value.cells] using hj)
        exact cell_plain hc
      have hq := areAk_len a1
      refine ⟨.agg qs, a1, .agg _ qs cs ?_ (fun i p w hp hw => (r1 i p w hp (by simpa [Value.cells] using hw)).1), b1⟩
      simp only [Value.cells, Array.length_toList] at e1
      omega
    · rename_i hns
      split at ha
      · rename_i k
        cases ha
        have hcell : Cell.okWide P W .any 0 t v := by
          unfold Value.okWide at hv
          split at hv
          · exact absurd ‹_› (hns _)
          · rename_i e n' hu
            rw [akOf] at hl
            dsimp only at hl
            rw [hu] at hl
            cases hl
          · exact hv
        have hnagg : v.cells = #[v] := by
          cases v with
          | agg cs =>
            exfalso
            cases hu : P.underlying t with
            | none =>
              simp only [Cell.okWide, Cell.ok, hu] at hcell
            | some d =>
              cases d <;> simp only [Cell.okWide, Cell.ok, hu] at hcell
          | _ => rfl
        rw [hnagg] at hn
        obtain ⟨qs, e1, a1, r1, b1⟩ := ak_ok 10 t [k] hl n _ _ hn fun j c s hj _ => by
          cases j with
          | zero =>
            have hj : v = c := by simpa using hj
            subst hj
            exact cell_plain hcell
          | succ j => simp at hj
        have hq := areAk_len a1
        match qs, hq with
        | [q], _ =>
          simp only [areAk, Bool.and_true] at a1
          refine ⟨q, a1, (r1 0 q v rfl rfl).1, ?_⟩
          have : argBulk q = akBulk q := by
            cases q with
            | agg qs =>
              cases k <;> cases a1
            | _ => rfl
          rw [this]
          simpa [aksBulk] using b1
      · cases ha
  · cases ha
/-- all that is given -/
theorem args_ok : ∀ {ts : List TypeId} {l : List ASh} {vs : List Value} {ds : List (DataW H)} {ps : List MemPlace}, aShsOf P ts = some l → (∀ (j : Nat) (t : TypeId) (v : Value), ts[j]? = some t → vs[j]? = some v → Value.okWide P W .any 0 t v) →
    DataW.TrodAll enc P W 0 (fun _ => true) true ts vs ds ps → ∃ qs, areArgs l qs = true ∧ RepL (Held W) qs vs.toArray ∧ argsBulk qs ≤ Rows.uptoBulkAll ds
  | [], l, vs, ds, ps, hl, _, h => by
    obtain ⟨rfl, rfl, rfl⟩ := trodAll_nil h
    simp only [aShsOf, Option.some.injEq] at hl
    subst hl
    exact ⟨[], rfl, ⟨rfl, fun i p v hp => by simp at hp⟩, Nat.zero_le _⟩
  | t :: ts, l, vs, ds, ps, hl, hv, h => by
    obtain ⟨v, vs', d, ds', p, q, rfl, rfl, rfl, h0, h1⟩ := trodAll_cons h
    unfold aShsOf at hl
    split at hl
    · rename_i a l' ha hl'
      cases hl
      obtain ⟨x, i1, i2, i3⟩ := arg_ok ha (hv 0 t v rfl rfl) h0
      obtain ⟨xs, j1, j2, j3⟩ := args_ok hl' (fun j t v hj hw => hv (j + 1) t v (by simpa using hj) (by simpa using hw)) h1
      refine ⟨x :: xs, by simp only [areArgs, i1, j1, Bool.and_true], ⟨?_, fun i p w hp hw => ?_⟩, ?_⟩
      · have := j2.1
        simp at this ⊢
        omega
      · cases i with
        | zero =>
          simp only [List.getElem?_cons_zero, Option.some.injEq] at hp
          have hw : v = w := by simpa using hw
          subst hp
          subst hw
          exact i2
        | succ i => exact j2.2 i p w (by simpa using hp) (by simpa using hw)
      · simp only [argsBulk, Rows.uptoBulkAll]
        omega
    · cases hl
/-- behind a call that wrote nothing that was there, all reads as it did -/
theorem trodAll_stays (hl : laidOutB P = true) {W' : World} (hb : Below W.heap.size W W') : ∀ {ts : List TypeId} {vs : List Value} {ds : List (DataW H)} {ps : List MemPlace}, (ts.all fun t => P.readableRec t && decide (t < P.types.size)) = true →
    DataW.TrodAll enc P W 0 (fun _ => true) true ts vs ds ps → (∀ x ∈ ps, x.block < W.heap.size) → DataW.TrodAll enc P W' 0 (fun b => decide (b < W.heap.size)) true ts vs ds ps
  | [], vs, ds, ps, _, h, _ => by
    obtain ⟨rfl, rfl, rfl⟩ := trodAll_nil h
    exact trodAll_mk0
  | t :: ts, vs, ds, ps, ht, h, hp => by
    obtain ⟨v, vs', d, ds', p, q, rfl, rfl, rfl, h0, h1⟩ := trodAll_cons h
    simp only [List.all_cons, Bool.and_eq_true, decide_eq_true_eq] at ht
    exact trodAll_cons_mk (Below.trod hl ht.1.1 ht.1.2 h0 hb fun x hx => hp x (List.mem_append.2 (.inl hx))) (trodAll_stays hl hb ht.2 h1 fun x hx => hp x (List.mem_append.2 (.inr hx)))
end
theorem sc_cons {s : Sc} {l : List Sc} {ps : List PV} (h : areSc (s :: l) ps = true) : ∃ v r, ps = .lit v :: r ∧ isSc s v = true ∧ areSc l r = true := by
  cases ps with
  | nil => cases h
  | cons q r =>
    cases q with
    | lit v =>
      simp only [areSc, Bool.and_eq_true] at h
      exact ⟨v, r, rfl, h.1, h.2⟩
    | _ => cases h
theorem sc_nil {ps : List PV} (h : areSc [] ps = true) : ps = [] := by
  cases ps with
  | nil => rfl
  | cons q r => cases q <;> cases h
theorem aks_cons {k : Ak} {l : List Ak} {qs : List PV} (h : areAk (k :: l) qs = true) : ∃ q r, qs = q :: r ∧ isAk k q = true ∧ areAk l r = true := by
  cases qs with
  | nil => cases h
  | cons q r =>
    simp only [areAk, Bool.and_eq_true] at h
    exact ⟨q, r, rfl, h.1, h.2⟩
theorem aks_nil {qs : List PV} (h : areAk [] qs = true) : qs = [] := by
  cases qs with
  | nil => rfl
  | cons q r => cases h
theorem args_cons {a : ASh} {l : List ASh} {qs : List PV} (h : areArgs (a :: l) qs = true) : ∃ q r, qs = q :: r ∧ isArg a q = true ∧ areArgs l r = true := by
  cases qs with
  | nil => cases h
  | cons q r =>
    simp only [areArgs, Bool.and_eq_true] at h
    exact ⟨q, r, rfl, h.1, h.2⟩
theorem args_nil {qs : List PV} (h : areArgs [] qs = true) : qs = [] := by
  cases qs with
  | nil => rfl
  | cons q r => cases h
theorem arg_agg {l : List Ak} {q : PV} (h : isArg (.agg l) q = true) : ∃ qs, q = .agg qs ∧ areAk l qs = true := by
  cases q with
  | agg qs => exact ⟨qs, rfl, h⟩
  | _ => cases h
/-- a function that answers true at whatever is given to it, called in a world that fits -/
theorem walkArgs {G : GT} {W : World} (hG : Globs G (Held W)) (hO : Objs G W) {f : FuncId} {g : List PV → Tr PV} (h : PureOK Tryd.prog G f g) {qs : List PV} {args : Array Value} (hg : (g qs).run = some (bool true)) (hr : RepL (Held W) qs args) :
    Calls Tryd.prog f args W fun e w' => e = .returned (.bool true) ∧ Below W.heap.size W w' := walkTrue hG hO h hg hr
end Go.Proofs.YtbpmfaghjlmjmaaDoor.Ev
