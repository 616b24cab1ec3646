/- JTopSaved12: several texts in one. Condition: each part's own. -/
import Derived.Test.YtnmgdcggfjnmeaaGreatDoorJTopSaved11
import Derived.Deep.Slices
import Derived.Carry
/- What a law is given, whatever its types: truths, numbers, texts, structs of these, and slices of these, told as the evaluator tells values; and it reads as it did behind a call. No condition. -/
namespace Go.Proofs.YtnmgdcggfjnmeaaGreatDoor.Ev
open Go Go.RowKit Go.Proofs Go.ChangeShapes Go.WideShapes Go.ChangeAt
set_option linter.unusedVariables false
set_option linter.unusedSimpArgs false
/-- a cell of one kind -/
inductive Sc where
  | bool
  | int (k : IntKind)
  | str
/-- a cell, or a slice of rows of cells -/
inductive Ak where
  | sc (s : Sc)
  | sl (l : List Sc)
/-- what is given: one cell, or a struct's cells -/
inductive ASh where
  | one (k : Ak)
  | agg (l : List Ak)
def isSc : Sc → Value → Bool
  | .bool, .bool _ => true
  | .int k, .int k' n => decide (k = k') && (decide (k.min ≤ n) && decide (n ≤ k.max))
  | .str, .string _ => true
  | _, _ => false
def areSc : List Sc → List PV → Bool
  | [], [] => true
  | s :: l, .lit v :: r => isSc s v && areSc l r
  | _, _ => false
def isAk : Ak → PV → Bool
  | .sc s, .lit v => isSc s v
  | .sl l, .gsl sz n f => Nat.beq sz l.length && (List.range n).all fun i => areSc l (f i)
  | _, _ => false
def areAk : List Ak → List PV → Bool
  | [], [] => true
  | k :: l, q :: r => isAk k q && areAk l r
  | _, _ => false
def isArg : ASh → PV → Bool
  | .one k, q => isAk k q
  | .agg l, .agg qs => areAk l qs
  | _, _ => false
def areArgs : List ASh → List PV → Bool
  | [], [] => true
  | a :: l, q :: r => isArg a q && areArgs l r
  | _, _ => false
def scBulk : PV → Nat
  | .lit (.string s) => s.size + 1
  | _ => 1
def scsBulk : List PV → Nat
  | [] => 0
  | q :: r => scBulk q + scsBulk r
def akBulk : PV → Nat
  | .gsl _ n f => ((List.range n).map fun i => scsBulk (f i)).sum + 1
  | q => scBulk q
def aksBulk : List PV → Nat
  | [] => 0
  | q :: r => akBulk q + aksBulk r
def argBulk : PV → Nat
  | .agg qs => aksBulk qs
  | q => akBulk q
def argsBulk : List PV → Nat
  | [] => 0
  | q :: r => argBulk q + argsBulk r
/-! ### which cells a type has -/
def flatOf (P : Program) (g : TypeId → Option (List Ak)) : Nat → List Field → Option (List Ak)
  | _, [] => some []
  | o, f :: r => match Nat.beq f.offset o, g f.type with
    | true, some l => match Nat.beq (P.cellsOf f.type) l.length, flatOf P g (o + l.length) r with
      | true, some l' => some (l ++ l')
      | _, _ => none
    | _, _ => none
def scsOf : List Ak → Option (List Sc)
  | [] => some []
  | .sc s :: r => match scsOf r with
    | some l => some (s :: l)
    | none => none
  | .sl _ :: _ => none
def akOf (P : Program) : Nat → TypeId → Option (List Ak)
  | 0 => fun _ => none
  | d + 1 => fun t => match P.underlying t with
    | some .bool => some [.sc .bool]
    | some (.int k) => some [.sc (.int k)]
    | some .string => some [.sc .str]
    | some (.struct fs) => match flatOf P (akOf P d) 0 fs.toList with
      | some l => match Nat.beq (P.cellsOf t) l.length with
        | true => some l
        | false => none
      | none => none
    | some (.slice e) => match akOf P d e with
      | some l => match scsOf l with
        | some s => match Nat.beq (P.cellsOf e) s.length with
          | true => some [.sl s]
          | false => none
        | none => none
      | none => none
    | _ => none
def aShOf (P : Program) (t : TypeId) : Option ASh := match akOf P 10 t with
  | some l => match P.underlying t with
    | some (.struct _) => some (.agg l)
    | _ => match l with
      | [k] => some (.one k)
      | _ => none
  | none => none
def aShsOf (P : Program) : List TypeId → Option (List ASh)
  | [] => some []
  | t :: r => match aShOf P t, aShsOf P r with
    | some a, some l => some (a :: l)
    | _, _ => none
theorem ak_sl {l : List Sc} {q : PV} (h : isAk (.sl l) q = true) : ∃ n f, q = .gsl l.length n f ∧ ∀ i, i < n → areSc l (f i) = true := by
  cases q with
  | gsl sz n f =>
    simp only [isAk, Bool.and_eq_true, List.all_eq_true] at h
    obtain rfl := Nat.eq_of_beq_eq_true h.1
    exact ⟨n, f, rfl, fun i hi => h.2 i (List.mem_range.2 hi)⟩
  | _ => cases h
theorem ak_sc {s : Sc} {q : PV} (h : isAk (.sc s) q = true) : ∃ v, q = .lit v ∧ isSc s v = true := by
  cases q with
  | lit v => exact ⟨v, rfl, h⟩
  | _ => cases h
theorem sc_str {v : Value} (h : isSc .str v = true) : ∃ s, v = .string s := by
  cases v with
  | string s => exact ⟨s, rfl⟩
  | _ => cases h
theorem sc_bool {v : Value} (h : isSc .bool v = true) : ∃ b, v = .bool b := by
  cases v with
  | bool b => exact ⟨b, rfl⟩
  | _ => cases h
theorem sc_int {k : IntKind} {v : Value} (h : isSc (.int k) v = true) : ∃ n, v = .int k n ∧ k.min ≤ n ∧ n ≤ k.max := by
  cases v with
  | int k' n =>
    simp only [isSc, Bool.and_eq_true, decide_eq_true_eq] at h
    obtain ⟨rfl, h1, h2⟩ := h
    exact ⟨n, rfl, h1, h2⟩
  | _ => cases h
/-! ### lists of cells -/
theorem areAk_len : ∀ {l : List Ak} {qs : List PV}, areAk l qs = true → qs.length = l.length
  | [], [], _ => rfl
  | k :: l, q :: r, h => by
    simp only [areAk, Bool.and_eq_true] at h
    simp [areAk_len h.2]
theorem areAk_app : ∀ {l l' : List Ak} {qs qs' : List PV}, areAk l qs = true → areAk l' qs' = true → areAk (l ++ l') (qs ++ qs') = true
  | [], l', [], qs', _, h' => h'
  | k :: l, l', q :: r, qs', h, h' => by
    simp only [areAk, Bool.and_eq_true] at h
    simp only [List.cons_append, areAk, Bool.and_eq_true]
    exact ⟨h.1, areAk_app h.2 h'⟩
theorem aksBulk_app : ∀ (qs qs' : List PV), aksBulk (qs ++ qs') = aksBulk qs + aksBulk qs'
  | [], qs' => by simp [aksBulk]
  | q :: r, qs' => by
    simp only [List.cons_append, aksBulk]
    rw [aksBulk_app r qs']
    omega
theorem areAk_sc : ∀ {l : List Ak} {s : List Sc} {qs : List PV}, scsOf l = some s → areAk l qs = true → areSc s qs = true ∧ aksBulk qs = scsBulk qs ∧ s.length = l.length
  | [], s, [], h, _ => by
    simp only [scsOf, Option.some.injEq] at h
    subst h
    exact ⟨rfl, rfl, rfl⟩
  | .sc a :: l, s, q :: r, h, hq => by
    unfold scsOf at h
    split at h
    · rename_i s' hs
      cases h
      simp only [areAk, Bool.and_eq_true] at hq
      obtain ⟨i1, i2, i3⟩ := areAk_sc hs hq.2
      obtain ⟨v, rfl, h1⟩ := ak_sc hq.1
      refine ⟨?_, ?_, by simp [i3]⟩
      · simp only [areSc, Bool.and_eq_true]
        exact ⟨h1, i1⟩
      · simp only [aksBulk, scsBulk, i2]
        rfl
    · cases h
  | .sl _ :: l, s, qs, h, _ => by cases h
theorem scsOf_all : ∀ {l : List Ak} {s : List Sc}, scsOf l = some s → ∀ (j : Nat) (k : Ak), l[j]? = some k → ∃ a, k = Ak.sc a
  | [], _, _, j, k, h => by simp at h
  | .sc a :: l, s, h, j, k, hj => by
    unfold scsOf at h
    split at h
    · rename_i s' hs
      cases j with
      | zero => exact ⟨a, by simpa using hj.symm⟩
      | succ j => exact scsOf_all hs j k (by simpa using hj)
    · cases h
  | .sl _ :: l, s, h, _, _, _ => by cases h
theorem areSc_len : ∀ {l : List Sc} {qs : List PV}, areSc l qs = true → qs.length = l.length
  | [], [], _ => rfl
  | s :: l, .lit v :: r, h => by
    simp only [areSc, Bool.and_eq_true] at h
    simp [areSc_len h.2]
/-! ### a value's cells -/
def plainC : Value → Prop
  | .slice (some a) _ _ => a.spot = none
  | _ => True
section
variable {H : Type} {enc : TypeId × Value → H} {P : Program} {W : World}
theorem bulk_range {n : Nat} {a : Nat → Nat} {D : Nat → DataW H} (h : ∀ i, i < n → a i ≤ Rows.uptoBulk (D i)) : ((List.range n).map a).sum ≤ Rows.uptoBulkAll ((List.range n).map D) := by
  have key : ∀ L : List Nat, (∀ i ∈ L, a i ≤ Rows.uptoBulk (D i)) → (L.map a).sum ≤ Rows.uptoBulkAll (L.map D) := by
    intro L
    induction L with
    | nil => intro _; simp [Rows.uptoBulkAll]
    | cons i L ih =>
      intro hL
      have h1 := hL i (by simp)
      have h2 := ih fun j hj => hL j (by simp [hj])
      simp only [List.map_cons, List.sum_cons, Rows.uptoBulkAll]
      omega
  exact key _ fun i hi => h i (List.mem_range.1 hi)
/-- what holds of a type's cells -/
def AkAt (enc : TypeId × Value → H) (P : Program) (W : World) (t : TypeId) (l : List Ak) : Prop :=
  ∀ (n : Nat) (cs : List Value) (x : DataW H × List MemPlace), DataW.trod enc P W 0 (fun _ => true) true n t cs = some x → (∀ (j : Nat) (c : Value) (s : List Sc), cs[j]? = some c → l[j]? = some (.sl s) → plainC c) →
    ∃ qs : List PV, cs.length = l.length ∧ areAk l qs = true ∧ (∀ (j : Nat) (q : PV) (c : Value), qs[j]? = some q → cs[j]? = some c → Rep (Held W) (fun _ => none) q c ∧ c.oneCell' = true) ∧ aksBulk qs ≤ Rows.uptoBulk x.1
theorem flat_ok {g : TypeId → Option (List Ak)} (hg : ∀ t l, g t = some l → AkAt enc P W t l) {n : Nat} {cs : List Value} : ∀ (fs : List Field) (o : Nat) (l : List Ak) (xs : List (DataW H × List MemPlace)), flatOf P g o fs = some l → xs.length = fs.length →
    (∀ (i : Nat) (f : Field), fs[i]? = some f → DataW.trod enc P W 0 (fun _ => true) true n f.type ((cs.drop f.offset).take (P.cellsOf f.type)) = xs[i]?) → (∀ (j : Nat) (c : Value) (s : List Sc), cs[o + j]? = some c → l[j]? = some (.sl s) → plainC c) →
    ∃ qs : List PV, areAk l qs = true ∧ (∀ (j : Nat) (q : PV) (c : Value), qs[j]? = some q → cs[o + j]? = some c → Rep (Held W) (fun _ => none) q c ∧ c.oneCell' = true) ∧ aksBulk qs ≤ Rows.uptoBulkAll (xs.map (·.1))
  | [], o, l, xs, h, hl, _, _ => by
    simp only [flatOf, Option.some.injEq] at h
    subst h
    exact ⟨[], rfl, fun j q c hq => by simp at hq, Nat.zero_le _⟩
  | f :: r, o, l, [], _, hl, _, _ => by simp at hl
  | f :: r, o, l, x :: xs, h, hl, hf, hp => by
    unfold flatOf at h
    split at h
    · rename_i l0 ho h0
      split at h
      · rename_i l1 hc h1
        cases h
        have ho := Nat.eq_of_beq_eq_true ho
        have hc := Nat.eq_of_beq_eq_true hc
        have hx := hf 0 f rfl
        rw [ho, hc] at hx
        have hx : DataW.trod enc P W 0 (fun _ => true) true n f.type ((cs.drop o).take l0.length) = some x := hx
        have at0 : ∀ (j : Nat) (c : Value), ((cs.drop o).take l0.length)[j]? = some c → cs[o + j]? = some c := by
          intro j c hj
          rw [List.getElem?_take] at hj
          split at hj
          · rwa [List.getElem?_drop] at hj
          · cases hj
        obtain ⟨qs0, e0, a0, r0, b0⟩ := hg _ _ h0 n _ x hx fun j c s hj hs => hp j c s (at0 j c hj) (by
          have := (List.getElem?_eq_some_iff.1 hs).1
          rwa [List.getElem?_append_left this])
        have hq0 := areAk_len a0
        obtain ⟨qs1, a1, r1, b1⟩ := flat_ok hg r (o + l0.length) l1 xs h1 (by simpa using hl) (fun i f' hi => hf (i + 1) f' (by simpa using hi)) fun j c s hj hs => hp (l0.length + j) c s (by rwa [← Nat.add_assoc]) (by
          rw [List.getElem?_append_right (by omega)]
          simpa using hs)
        refine ⟨qs0 ++ qs1, areAk_app a0 a1, fun j q c hq hc => ?_, ?_⟩
        · rcases Nat.lt_or_ge j qs0.length with hj | hj
          · rw [List.getElem?_append_left hj] at hq
            refine r0 j q c hq ?_
            rw [List.getElem?_take, if_pos (by omega), List.getElem?_drop]
            exact hc
          · rw [List.getElem?_append_right hj] at hq
            refine r1 (j - qs0.length) q c hq ?_
            rw [show o + l0.length + (j - qs0.length) = o + j by omega]
            exact hc
        · rw [aksBulk_app]
          simp only [List.map_cons, Rows.uptoBulkAll]
          omega
      · cases h
    · cases h
theorem cell1_ok {l : Ak} {q : PV} {c : Value} {b : Nat} (ha : isAk l q = true) (hr : Rep (Held W) (fun _ => none) q c) (h1 : c.oneCell' = true) (hb : akBulk q ≤ b) :
    ∃ qs : List PV, [c].length = [l].length ∧ areAk [l] qs = true ∧ (∀ (j : Nat) (q : PV) (c' : Value), qs[j]? = some q → [c][j]? = some c' → Rep (Held W) (fun _ => none) q c' ∧ c'.oneCell' = true) ∧ aksBulk qs ≤ b := by
  refine ⟨[q], rfl, by simp [areAk, ha], fun j q' c' hq hc => ?_, by simp [aksBulk]; exact hb⟩
  cases j with
  | zero =>
    simp only [List.getElem?_cons_zero, Option.some.injEq] at hq hc
    subst hq
    subst hc
    exact ⟨hr, h1⟩
  | succ j => simp at hq
theorem ak_ok : ∀ (d : Nat) (t : TypeId) (l : List Ak), akOf P d t = some l → AkAt enc P W t l := by
  intro d
  induction d with
  | zero => intro t l h; cases h
  | succ d ih =>
    intro t l h n cs x hx hp
    unfold akOf at h
    split at h
    · rename_i hu
      cases h
      obtain ⟨b, rfl, rfl⟩ := DataW.trod_bool hu hx
      exact cell1_ok (q := .lit (.bool b)) rfl (.lit _ _) rfl (by simp [akBulk, scBulk, Rows.uptoBulk])
    · rename_i k hu
      cases h
      obtain ⟨z, rfl, rfl, hw⟩ := DataW.trod_int hu hx
      exact cell1_ok (q := .lit (.int k z)) (by unfold Lit.wf at hw; simp only [isAk, isSc, decide_true, Bool.true_and]; exact hw) (.lit _ _) rfl (by simp [akBulk, scBulk, Rows.uptoBulk])
    · rename_i hu
      cases h
      obtain ⟨s, rfl, rfl, _⟩ := DataW.trod_string hu hx
      exact cell1_ok (q := .lit (.string s)) rfl (.lit _ _) rfl (by simp [akBulk, scBulk, Rows.uptoBulk])
    · rename_i fs hu
      split at h
      · rename_i l' hl
        split at h
        · rename_i hc
          cases h
          have hc := Nat.eq_of_beq_eq_true hc
          obtain ⟨xs, k, _, rfl, hcs, hxs, hf⟩ := DataW.trod_struct hu hx
          obtain ⟨qs, a, r, b⟩ := flat_ok (cs := cs) ih fs.toList 0 _ xs hl (by simpa using hxs) (fun i f hi => hf i f (by simpa using hi)) fun j c s hj hs => hp j c s (by simpa using hj) hs
          refine ⟨qs, by rw [hcs, hc], a, fun j q c hq hc => r j q c hq (by simpa using hc), ?_⟩
          simp only [Rows.uptoBulk]
          omega
        · cases h
      · cases h
    · rename_i e hu
      split at h
      · rename_i l' hl
        split at h
        · rename_i s hs
          split at h
          · rename_i hc
            cases h
            have hc := Nat.eq_of_beq_eq_true hc
            rcases Go.Deep.open_slice hu hx with ⟨rfl, rfl⟩ | ⟨a, len, cap, m, n', D, Pl, rfl, _, hle, _, hm, rfl, hel⟩
            · exact cell1_ok (q := .gsl s.length 0 fun _ => []) (by simp [isAk]) (.gnil ..) rfl (by simp [akBulk, Rows.uptoBulk])
            · have hsp : a.spot = none := hp 0 _ s rfl rfl
              simp only [if_true] at hm
              have each : ∀ i, i < len → ∃ y : List PV × List Value, W.cells? 0 (a.add (i * P.cellsOf e)) (P.cellsOf e) = some y.2 ∧ y.2.length = s.length ∧ areSc s y.1 = true ∧
                  (∀ (j : Nat) (q : PV) (c : Value), y.1[j]? = some q → y.2[j]? = some c → Rep (Held W) (fun _ => none) q c ∧ c.oneCell' = true) ∧ scsBulk y.1 ≤ Rows.uptoBulk (D i) := by
                intro i hi
                obtain ⟨cs', h1, h2⟩ := hel i (by omega)
                obtain ⟨qs, e1, a1, r1, b1⟩ := ih e l' hl n' cs' _ h2 fun j c u _ hj => by
                  obtain ⟨a, ha⟩ := scsOf_all hs j _ hj
                  cases ha
                obtain ⟨i1, i2, i3⟩ := areAk_sc hs a1
                exact ⟨(qs, cs'), h1, by rw [e1, i3], i1, r1, by rw [← i2]; exact b1⟩
              obtain ⟨y, hy⟩ := Go.Deep.choose_lt each
              refine cell1_ok (q := .gsl s.length len fun i => (y i).1) ?_ ?_ rfl ?_
              · simp only [isAk, Bool.and_eq_true, List.all_eq_true]
                exact ⟨Nat.beq_refl _, fun i hi => (hy i (List.mem_range.1 hi)).2.2.1⟩
              · obtain ⟨b, o, sp⟩ := a
                simp only at hsp
                subst hsp
                refine .gsl _ _ _ _ b o cap (fun i j => (y i).2.getD j default) (fun i j hi hj => ?_) (fun i hi => areSc_len (hy i hi).2.2.1) (fun i j p hi hq => ?_) hle
                · obtain ⟨h1, h2, h3, h4, _⟩ := hy i hi
                  obtain ⟨_, hl2, hcell⟩ := World.cells?_some h1
                  have hj2 : j < (y i).2.length := by omega
                  have hc2 := hcell j (by omega)
                  have hq := areSc_len h3
                  have hgd : (y i).2.getD j default = (y i).2[j] := by simp [List.getD, List.getElem?_eq_getElem hj2]
                  rw [List.getElem?_eq_getElem hj2] at hc2
                  have hone := (h4 j _ _ (List.getElem?_eq_getElem (show j < (y i).1.length by omega)) (List.getElem?_eq_getElem hj2)).2
                  rw [hgd]
                  refine ⟨?_, hone⟩
                  unfold Held
                  rw [Go.Deep.add_add, hc] at hc2
                  rw [← hc2]
                  unfold Addr.add
                  split
                  · rename_i h0
                    rw [h0]
                    rfl
                  · rfl
                · obtain ⟨h1, h2, h3, h4, _⟩ := hy i hi
                  have hq := areSc_len h3
                  have hj1 := (List.getElem?_eq_some_iff.1 ‹(y i).1[j]? = some p›).1
                  have hj2 : j < (y i).2.length := by omega
                  have hgd : (y i).2.getD j default = (y i).2[j] := by simp [List.getD, List.getElem?_eq_getElem hj2]
                  rw [hgd]
                  exact (h4 j p _ ‹_› (List.getElem?_eq_getElem hj2)).1
              · have := bulk_range (D := D) (a := fun i => scsBulk (y i).1) fun i hi => (hy i hi).2.2.2.2
                simp only [akBulk, Rows.uptoBulk]
                omega
          · cases h
        · cases h
      · cases h
    · cases h
theorem cell_plain {u : TypeId} {v : Value} (h : Cell.okWide P W .any 0 u v) : plainC v := by
  unfold plainC
  cases v with
  | slice a n c =>
    cases a with
    | none => trivial
    | some a =>
      cases hu : P.underlying u with
      | none =>
        simp only [Cell.okWide, Cell.ok, hu] at h
      | some d =>
        cases d <;> simp only [Cell.okWide, Cell.ok, hu] at h
        all_goals exact h.2.2.2.1
  | _ => trivial
/-- one thing that is given -/
theorem arg_ok {t : TypeId} {a : ASh} {v : Value} {x : DataW H} {ps : List MemPlace} (ha : aShOf P t = some a) (hv : Value.okWide P W .any 0 t v) (h : DataW.Trod enc P W 0 (fun _ => true) true t v x ps) :
    ∃ q, isArg a q = true ∧ Rep (Held W) (fun _ => none) q v ∧ argBulk q ≤ Rows.uptoBulk x := by
  obtain ⟨n, hn⟩ := h
  unfold aShOf at ha
  split at ha
  · rename_i l hl
    split at ha
    · rename_i fs hu
      cases ha
      unfold Value.okWide at hv
      rw [hu] at hv
      obtain ⟨cs, rfl, hsz, ts, _, _, hok⟩ := hv
      obtain ⟨qs, e1, a1, r1, b1⟩ := ak_ok 10 t l hl n _ _ hn fun j c s hj _ => by
        obtain ⟨u, _, hc⟩ := hok j c (by simpa [Value.cells] using hj)
        exact cell_plain hc
      have hq := areAk_len a1
      refine ⟨.agg qs, a1, .agg _ qs cs ?_ (fun i p w hp hw => (r1 i p w hp (by simpa [Value.cells] using hw)).1), b1⟩
      simp only [Value.cells, Array.length_toList] at e1
      omega
    · rename_i hns
      split at ha
      · rename_i k
        cases ha
        have hcell : Cell.okWide P W .any 0 t v := by
          unfold Value.okWide at hv
          split at hv
          · exact absurd ‹_› (hns _)
          · rename_i e n' hu
            rw [akOf] at hl
            dsimp only at hl
            rw [hu] at hl
            cases hl
          · exact hv
        have hnagg : v.cells = #[v] := by
          cases v with
          | agg cs =>
            exfalso
            cases hu : P.underlying t with
            | none =>
              simp only [Cell.okWide, Cell.ok, hu] at hcell
            | some d =>
              cases d <;> simp only [Cell.okWide, Cell.ok, hu] at hcell
          | _ => rfl
        rw [hnagg] at hn
        obtain ⟨qs, e1, a1, r1, b1⟩ := ak_ok 10 t [k] hl n _ _ hn fun j c s hj _ => by
          cases j with
          | zero =>
            have hj : v = c := by simpa using hj
            subst hj
            exact cell_plain hcell
          | succ j => simp at hj
        have hq := areAk_len a1
        match qs, hq with
        | [q], _ =>
          simp only [areAk, Bool.and_true] at a1
          refine ⟨q, a1, (r1 0 q v rfl rfl).1, ?_⟩
          have : argBulk q = akBulk q := by
            cases q with
            | agg qs =>
              cases k <;> cases a1
            | _ => rfl
          rw [this]
          simpa [aksBulk] using b1
      · cases ha
  · cases ha
/-- all that is given -/
theorem args_ok : ∀ {ts : List TypeId} {l : List ASh} {vs : List Value} {ds : List (DataW H)} {ps : List MemPlace}, aShsOf P ts = some l → (∀ (j : Nat) (t : TypeId) (v : Value), ts[j]? = some t → vs[j]? = some v → Value.okWide P W .any 0 t v) →
    DataW.TrodAll enc P W 0 (fun _ => true) true ts vs ds ps → ∃ qs, areArgs l qs = true ∧ RepL (Held W) qs vs.toArray ∧ argsBulk qs ≤ Rows.uptoBulkAll ds
  | [], l, vs, ds, ps, hl, _, h => by
    obtain ⟨rfl, rfl, rfl⟩ := trodAll_nil h
    simp only [aShsOf, Option.some.injEq] at hl
    subst hl
    exact ⟨[], rfl, ⟨rfl, fun i p v hp => by simp at hp⟩, Nat.zero_le _⟩
  | t :: ts, l, vs, ds, ps, hl, hv, h => by
    obtain ⟨v, vs', d, ds', p, q, rfl, rfl, rfl, h0, h1⟩ := trodAll_cons h
    unfold aShsOf at hl
    split at hl
    · rename_i a l' ha hl'
      cases hl
      obtain ⟨x, i1, i2, i3⟩ := arg_ok ha (hv 0 t v rfl rfl) h0
      obtain ⟨xs, j1, j2, j3⟩ := args_ok hl' (fun j t v hj hw => hv (j + 1) t v (by simpa using hj) (by simpa using hw)) h1
      refine ⟨x :: xs, by simp only [areArgs, i1, j1, Bool.and_true], ⟨?_, fun i p w hp hw => ?_⟩, ?_⟩
      · have := j2.1
        simp at this ⊢
        omega
      · cases i with
        | zero =>
          simp only [List.getElem?_cons_zero, Option.some.injEq] at hp
          have hw : v = w := by simpa using hw
          subst hp
          subst hw
          exact i2
        | succ i => exact j2.2 i p w (by simpa using hp) (by simpa using hw)
      · simp only [argsBulk, Rows.uptoBulkAll]
        omega
    · cases hl
/-- behind a call that wrote nothing that was there, all reads as it did -/
theorem trodAll_stays (hl : laidOutB P = true) {W' : World} (hb : Below W.heap.size W W') : ∀ {ts : List TypeId} {vs : List Value} {ds : List (DataW H)} {ps : List MemPlace}, (ts.all fun t => P.readableRec t && decide (t < P.types.size)) = true →
    DataW.TrodAll enc P W 0 (fun _ => true) true ts vs ds ps → (∀ x ∈ ps, x.block < W.heap.size) → DataW.TrodAll enc P W' 0 (fun b => decide (b < W.heap.size)) true ts vs ds ps
  | [], vs, ds, ps, _, h, _ => by
    obtain ⟨rfl, rfl, rfl⟩ := trodAll_nil h
    exact trodAll_mk0
  | t :: ts, vs, ds, ps, ht, h, hp => by
    obtain ⟨v, vs', d, ds', p, q, rfl, rfl, rfl, h0, h1⟩ := trodAll_cons h
    simp only [List.all_cons, Bool.and_eq_true, decide_eq_true_eq] at ht
    exact trodAll_cons_mk (Below.trod hl ht.1.1 ht.1.2 h0 hb fun x hx => hp x (List.mem_append.2 (.inl hx))) (trodAll_stays hl hb ht.2 h1 fun x hx => hp x (List.mem_append.2 (.inr hx)))
end
theorem sc_cons {s : Sc} {l : List Sc} {ps : List PV} (h : areSc (s :: l) ps = true) : ∃ v r, ps = .lit v :: r ∧ isSc s v = true ∧ areSc l r = true := by
  cases ps with
  | nil => cases h
  | cons q r =>
    cases q with
    | lit v =>
      simp only [areSc, Bool.and_eq_true] at h
      exact ⟨v, r, rfl, h.1, h.2⟩
    | _ => cases h
theorem sc_nil {ps : List PV} (h : areSc [] ps = true) : ps = [] := by
  cases ps with
  | nil => rfl
  | cons q r => cases q <;> cases h
theorem aks_cons {k : Ak} {l : List Ak} {qs : List PV} (h : areAk (k :: l) qs = true) : ∃ q r, qs = q :: r ∧ isAk k q = true ∧ areAk l r = true := by
  cases qs with
  | nil => cases h
  | cons q r =>
    simp only [areAk, Bool.and_eq_true] at h
    exact ⟨q, r, rfl, h.1, h.2⟩
theorem aks_nil {qs : List PV} (h : areAk [] qs = true) : qs = [] := by
  cases qs with
  | nil => rfl
  | cons q r => cases h
theorem args_cons {a : ASh} {l : List ASh} {qs : List PV} (h : areArgs (a :: l) qs = true) : ∃ q r, qs = q :: r ∧ isArg a q = true ∧ areArgs l r = true := by
  cases qs with
  | nil => cases h
  | cons q r =>
    simp only [areArgs, Bool.and_eq_true] at h
    exact ⟨q, r, rfl, h.1, h.2⟩
theorem args_nil {qs : List PV} (h : areArgs [] qs = true) : qs = [] := by
  cases qs with
  | nil => rfl
  | cons q r => cases h
theorem arg_agg {l : List Ak} {q : PV} (h : isArg (.agg l) q = true) : ∃ qs, q = .agg qs ∧ areAk l qs = true := by
  cases q with
  | agg qs => exact ⟨qs, rfl, h⟩
  | _ => cases h
/-- a function that answers true at whatever is given to it, called in a world that fits -/
theorem walkArgs {G : GT} {W : World} (hG : Globs G (Held W)) (hO : Objs G W) {f : FuncId} {g : List PV → Tr PV} (h : PureOK Tryz.prog G f g) {qs : List PV} {args : Array Value} (hg : (g qs).run = some (bool true)) (hr : RepL (Held W) qs args) :
    Calls Tryz.prog f args W fun e w' => e = .returned (.bool true) ∧ Below W.heap.size W w' := walkTrue hG hO h hg hr
end Go.Proofs.YtnmgdcggfjnmeaaGreatDoor.Ev

/- NsetPacks, a law. No condition. -/
namespace Go.Proofs.YtnmgdcggfjnmeaaGreatDoor.Ev
open Go Go.RowKit Go.Proofs Go.Proofs.YtnmgdcggfjnmeaaGreatDoor.Str
set_option linter.unusedVariables false
set_option linter.unusedSimpArgs false
section
variable {m : Int} {t : TypeId} {fr : Nat × Nat}
def nsetPacksG : List PV → Tr PV
  | [.gsl 1 n f] => .br (areNums n f && Nat.ble n 4294967280) (.leaf (bool true)) .fail
  | _ => .fail
end
/-! ### what is given -/
theorem num_row {ps : List PV} (h : areSc [.int .u32] ps = true) : isNum ps = true := by
  obtain ⟨v, r, rfl, h1, h2⟩ := sc_cons h
  obtain rfl := sc_nil h2
  obtain ⟨k, rfl, h3, h4⟩ := sc_int h1
  have e1 : IntKind.u32.min = 0 := by decide
  have e2 : IntKind.u32.max = 4294967295 := by decide
  unfold isNum
  simp
  omega
theorem sp_row {ps : List PV} (h : areSc [.int .u32, .int .u32] ps = true) : isSp ps = true := by
  obtain ⟨v, r, rfl, h1, h2⟩ := sc_cons h
  obtain ⟨v', r', rfl, h3, h4⟩ := sc_cons h2
  obtain rfl := sc_nil h4
  obtain ⟨a, rfl, h5, h6⟩ := sc_int h1
  obtain ⟨b, rfl, h7, h8⟩ := sc_int h3
  have e1 : IntKind.u32.min = 0 := by decide
  have e2 : IntKind.u32.max = 4294967295 := by decide
  unfold isSp
  simp
  omega
theorem row_bulk {l : List Sc} (hl : 1 ≤ l.length) {f : Nat → List PV} : ∀ L : List Nat, (∀ i ∈ L, areSc l (f i) = true) → L.length ≤ (L.map fun i => scsBulk (f i)).sum
  | [], _ => Nat.zero_le _
  | i :: L, h => by
    have ih := row_bulk hl L fun j hj => h j (by simp [hj])
    have hi := h i (by simp)
    have : 1 ≤ scsBulk (f i) := by
      cases l with
      | nil => simp at hl
      | cons s l =>
        obtain ⟨v, r, e, _⟩ := sc_cons hi
        rw [e]
        simp only [scsBulk]
        unfold scBulk
        split <;> omega
    simp only [List.length_cons, List.map_cons, List.sum_cons]
    omega
theorem nums_given {n : Nat} {f : Nat → List PV} (h : ∀ i, i < n → areSc [.int .u32] (f i) = true) (hb : ((List.range n).map fun i => scsBulk (f i)).sum ≤ 1048576) : areNums n f = true ∧ n ≤ 1048576 := by
  refine ⟨List.all_eq_true.2 fun i hi => num_row (h i (List.mem_range.1 hi)), ?_⟩
  have := row_bulk (l := [.int .u32]) (by simp) (List.range n) fun i hi => h i (List.mem_range.1 hi)
  rw [List.length_range] at this
  omega
theorem sps_given {n : Nat} {f : Nat → List PV} (h : ∀ i, i < n → areSc [.int .u32, .int .u32] (f i) = true) (hb : ((List.range n).map fun i => scsBulk (f i)).sum ≤ 1048576) : areSps n f = true ∧ n ≤ 1048576 := by
  refine ⟨List.all_eq_true.2 fun i hi => sp_row (h i (List.mem_range.1 hi)), ?_⟩
  have := row_bulk (l := [.int .u32, .int .u32]) (by simp) (List.range n) fun i hi => h i (List.mem_range.1 hi)
  rw [List.length_range] at this
  omega
def nsetPacksSh : List ASh := [.one (.sl [.int .u32])]
theorem nsetPacks_args {qs : List PV} (ha : areArgs nsetPacksSh qs = true) (hb : argsBulk qs ≤ 1048576) : (nsetPacksG qs).run = some (bool true) := by
  obtain ⟨q0, r0, rfl, h0, hr0⟩ := args_cons ha
  obtain rfl := args_nil hr0
  obtain ⟨n, f, rfl, hf⟩ := ak_sl h0
  have hb' : (((List.range n).map fun i => scsBulk (f i)).sum + 1) + 0 ≤ 1048576 := hb
  obtain ⟨o1, o2⟩ := nums_given hf (by omega)
  have o3 : Nat.ble n 4294967280 = true := Nat.ble_eq_true_of_le (by omega)
  show (nsetPacksG [.gsl 1 n f]).run = some (bool true)
  simp [nsetPacksG, Tr.run, o1, o3]
end Go.Proofs.YtnmgdcggfjnmeaaGreatDoor.Ev

/- nset: Has, and the document's. No condition. -/
namespace Go.Proofs.YtnmgdcggfjnmeaaGreatDoor.Ev
open Go Go.RowKit Go.Proofs Go.Proofs.YtnmgdcggfjnmeaaGreatDoor.Str
set_option linter.unusedVariables false
set_option linter.unusedSimpArgs false
section
variable {m : Int} {t : TypeId} {fr : Nat × Nat}
/-! ### the first span that has a number -/
def ixOuts : Exit → Outs
  | .normal => { ks := [0, 1, 7, 8] }
  | .exit _ => { ks := [] }
  | _ => { ks := [4] }
noncomputable abbrev ixRound (G : GT) := roundT Tryz.prog (E5 G) 60 G 19 ixOuts .normal (theLoop 0 Tryz.f49)
theorem ix_round (m : Int) (t : TypeId) (fr : Nat × Nat) (l : List Sp) (n : Nat) (x u i : Int) : (ixRound (GG m t fr) ([.gsl 2 n (sRow l), .clo 34 [.gptr [.lit (.int .u32 x)]], int u, int i], [])).run2 =
 (bif (decide (i < u)) then
 bif (decide ((Prod.fst (sp l (Int.toNat i))) ≤ x)) then
 bif (decide (x ≤ (Prod.snd (sp l (Int.toNat i))))) then
 (.some ((.ret, ([(.lit (.int .i64 i))], [])), [((decide ((0 : Int) ≤ i)) && (Nat.blt (Int.toNat i) n))]))
 else (.some ((.normal, ([(.gsl 2 n (fun i => [PV.lit (Value.int IntKind.u32 (sp l i).fst), PV.lit (Value.int IntKind.u32 (sp l i).snd)])), (.clo 34 [(.gptr [(.lit (.int .u32 x))])]), (.lit (.int .i64 u)), (.lit (.int .i64 (IntKind.wrap .i64 (i + (1 : Int)))))], [])), [((decide ((0 : Int) ≤ i)) && (Nat.blt (Int.toNat i) n))]))
 else (.some ((.normal, ([(.gsl 2 n (fun i => [PV.lit (Value.int IntKind.u32 (sp l i).fst), PV.lit (Value.int IntKind.u32 (sp l i).snd)])), (.clo 34 [(.gptr [(.lit (.int .u32 x))])]), (.lit (.int .i64 u)), (.lit (.int .i64 (IntKind.wrap .i64 (i + (1 : Int)))))], [])), [((decide ((0 : Int) ≤ i)) && (Nat.blt (Int.toNat i) n))]))
 else (.some (((.exit 0), ([], [])), [])) : Option ((Exit × Kept) × List Bool)) := by
  kernel_rfl
def withinB (x : Int) (b : Sp) : Bool := decide (b.1 ≤ x) && decide (x ≤ b.2)
/-- where the first is, or -1 -/
def ixZ (x : Int) : List Sp → Nat → Int
  | [], _ => -1
  | b :: r, i => bif withinB x b then (i : Int) else ixZ x r (i + 1)
theorem ixZ_any (x : Int) : ∀ (l : List Sp) (i : Nat), decide (ixZ x l i ≥ 0) = l.any (withinB x)
  | [], i => rfl
  | b :: r, i => by
    rw [ixZ, List.any_cons]
    cases withinB x b with
    | true => simp
    | false =>
      rw [cond_false, Bool.false_or]
      exact ixZ_any x r (i + 1)
def ixEnd (x : Int) (r : List Sp) (i : Nat) : Exit × Kept := bif r.any (withinB x) then (.ret, ([int (ixZ x r i)], [])) else (.exit 0, ([], []))
def ixIn (l : List Sp) (x : Int) (i : Nat) : Kept := ([.gsl 2 l.length (sRow l), .clo 34 [.gptr [.lit (.int .u32 x)]], int l.length, int i], [])
theorem ix_LR (l : List Sp) (x : Int) (hn : l.length ≤ 4294967280) : ∀ (r : List Sp) (i : Nat), l.drop i = r →
    LR Tryz.prog (E5 (GG m t fr)) 60 (GG m t fr) 19 ixOuts .normal (theLoop 0 Tryz.f49) (ixIn l x i) (ixEnd x r i).1 (ixEnd x r i).2
  | [], i, hr => by
    have h := ix_round m t fr l l.length x l.length i
    have hlen := List.drop_eq_nil_iff.1 hr
    have hd : decide ((i : Int) < (l.length : Int)) = false := by simp; omega
    rw [hd] at h
    exact .last (Tr.run_of h (by simp)) (by simp [ixEnd]) (by simp [ixEnd])
  | b :: r, i, hr => by
    have h := ix_round m t fr l l.length x l.length i
    obtain ⟨hlt, hx, hdr⟩ := sp_drop hr
    have hd : decide ((i : Int) < (l.length : Int)) = true := by simp; omega
    have hw : IntKind.i64.wrap ((i : Int) + 1) = ((i + 1 : Nat) : Int) := wrap_succ (by omega)
    rw [hd, hw, Int.toNat_natCast, hx] at h
    simp only [cond_true] at h
    have ih := ix_LR l x hn r (i + 1) hdr
    cases c1 : decide (b.1 ≤ x) with
    | false =>
      rw [c1] at h
      have e : ixEnd x (b :: r) i = ixEnd x r (i + 1) := by unfold ixEnd; simp [ixZ, withinB, c1]
      rw [e]
      exact .more (Tr.run_of h (by simp; omega)) ih
    | true =>
      rw [c1] at h
      cases c2 : decide (x ≤ b.2) with
      | false =>
        rw [c2] at h
        have e : ixEnd x (b :: r) i = ixEnd x r (i + 1) := by unfold ixEnd; simp [ixZ, withinB, c1, c2]
        rw [e]
        exact .more (Tr.run_of h (by simp; omega)) ih
      | true =>
        rw [c2] at h
        have e : ixEnd x (b :: r) i = (.ret, ([int (i : Int)], [])) := by unfold ixEnd; simp [ixZ, withinB, c1, c2]
        rw [e]
        exact .last (Tr.run_of h (by simp; omega)) (by simp) (by simp)
def ixF : Kept → Tr (Exit × Kept)
  | ([.gsl 2 n f, .clo g [.gptr [.lit (.int .u32 x)]], .lit (.int .i64 u), .lit (.int .i64 0)], []) => match Nat.beq g 34 with
    | true => .br (areSps n f && decide (u = (n : Int)) && Nat.ble n 4294967280) (.br ((spsOf n f).any (withinB x)) (.leaf (.ret, ([int (ixZ x (spsOf n f) 0)], []))) (.leaf (.exit 0, ([], [])))) .fail
    | false => .fail
  | _ => .fail
theorem ixF_ok (k : Kept) (e : Exit) (y : Kept) (h : (ixF k).run = some (e, y)) : LR Tryz.prog (E5 (GG m t fr)) 60 (GG m t fr) 19 ixOuts .normal (theLoop 0 Tryz.f49) k e y := by
  unfold ixF at h
  split at h
  · rename_i n f g x u
    split at h
    · rename_i hg
      obtain rfl := Nat.eq_of_beq_eq_true hg
      have hb := br_run h
      clear h
      obtain ⟨hc, h⟩ := hb
      simp only [Bool.and_eq_true, decide_eq_true_eq, Nat.ble_eq] at hc
      obtain ⟨⟨hf, rfl⟩, hn⟩ := hc
      have hL := sps_len n f
      have key := ix_LR (m := m) (t := t) (fr := fr) (spsOf n f) x (by omega) (spsOf n f) 0 rfl
      have hin : KLe ([.gsl 2 n f, .clo 34 [.gptr [.lit (.int .u32 x)]], int (n : Int), int 0], []) (ixIn (spsOf n f) x 0) := by
        refine ⟨PLeL.cons (PLe.gsl hL.symm (sps_row hf)) (PLeL.cons (.refl _) (PLeL.cons (PLe.of_eq ?_) (.refl _))), .refl _⟩
        rw [hL]
      unfold ixEnd at key
      cases hd : (spsOf n f).any (withinB x) with
      | true =>
        rw [hd] at key h
        simp only [Tr.run, cond_true, Option.some.injEq, Prod.mk.injEq] at h
        obtain ⟨rfl, rfl⟩ := h
        exact .le hin key
      | false =>
        rw [hd] at key h
        simp only [Tr.run, cond_false, Option.some.injEq, Prod.mk.injEq] at h
        obtain ⟨rfl, rfl⟩ := h
        exact .le hin key
    · cases h
  · cases h
noncomputable abbrev ixCut (G : GT) := cutOf G 19 ixOuts 0 ixF
theorem ix_raw (m : Int) (t : TypeId) (fr : Nat × Nat) (n : Nat) (f : Nat → List PV) (x : Int) : (fnPure Tryz.prog ((E5 (GG m t fr)).withCuts (cut1 0 (ixCut (GG m t fr)))) 60 Tryz.f49 (GG m t fr) [.gsl 2 n f, .clo 34 [.gptr [.lit (.int .u32 x)]]]).run2 =
 (bif (List.any (spsOf n f) (withinB x)) then
 (.some ((.lit (.int .i64 (ixZ x (spsOf n f) 0))), [(((areSps n f) && (decide (((n : Nat) : Int) = ((n : Nat) : Int)))) && (Nat.ble n (4294967280 : Nat)))]))
 else (.some ((.lit (.int .i64 (-1 : Int))), [(((areSps n f) && (decide (((n : Nat) : Int) = ((n : Nat) : Int)))) && (Nat.ble n (4294967280 : Nat)))])) : Option (PV × List Bool)) := by
  kernel_rfl
def ixG : List PV → Tr PV
  | [.gsl 2 n f, .clo g [.gptr [.lit (.int .u32 x)]]] => match Nat.beq g 34 with
    | true => .br (areSps n f && Nat.ble n 4294967280) (.leaf (int (ixZ x (spsOf n f) 0))) .fail
    | false => .fail
  | _ => .fail
theorem ixZ_none (x : Int) : ∀ (l : List Sp) (i : Nat), l.any (withinB x) = false → ixZ x l i = -1
  | [], i, _ => rfl
  | b :: r, i, h => by
    simp only [List.any_cons, Bool.or_eq_false_iff] at h
    rw [ixZ, h.1, cond_false]
    exact ixZ_none x r (i + 1) h.2
theorem ix_ok : PureOK Tryz.prog (GG m t fr) 49 ixG := by
  refine PureOK.of (fn_cuts mixed E5_ok (fn := Tryz.f49) (cuts := cut1 0 (ixCut (GG m t fr))) (by kernel_rfl) (CutLaws.one (by omega) (by kernel_rfl) fun st e st' h => cutOf_ok E5_ok mixed (noCuts_ok (envOf_cuts ..) _) ixF_ok h)) fun ps p hp => ?_
  unfold ixG at hp
  split at hp
  · rename_i n f g x
    split at hp
    · rename_i hg
      obtain rfl := Nat.eq_of_beq_eq_true hg
      obtain ⟨hc, hp⟩ := br_run hp
      simp only [Bool.and_eq_true] at hc
      simp only [Tr.run, Option.some.injEq] at hp
      subst hp
      have h := ix_raw m t fr n f x
      rw [hc.1, hc.2] at h
      cases hd : (spsOf n f).any (withinB x) with
      | true =>
        rw [hd] at h
        exact ⟨_, Tr.run_of h (by simp), PLe.of_eq rfl⟩
      | false =>
        rw [hd] at h
        refine ⟨_, Tr.run_of h (by simp), PLe.of_eq ?_⟩
        rw [ixZ_none x _ 0 hd]
    · cases hp
  · cases hp
def niPure : List (Nat × (List PV → Tr PV)) := (49, ixG) :: npPure
theorem niPure_ok {m : Int} {t : TypeId} {fr : Nat × Nat} : TabOK Tryz.prog (GG m t fr) niPure := (TabOK.cons ix_ok (fn := Tryz.f49) (by kernel_rfl) (by kernel_rfl) npPure_ok)
noncomputable abbrev E6 (G : GT) : Env := envOf Tryz.prog G niPure nbFull
theorem E6_ok : (E6 (GG m t fr)).ok Tryz.prog (GG m t fr) := envOf_ok mixed niPure_ok nbFull_ok
theorem has_raw (m : Int) (t : TypeId) (fr : Nat × Nat) (n : Nat) (f : Nat → List PV) (most x : Int) : (fnPure Tryz.prog (E6 (GG m t fr)) 60 Tryz.f13 (GG m t fr) [.gsl 2 n f, .lit (.int .u32 most), .lit (.int .u32 x)]).run2 =
 ((.some ((.lit (.bool (decide ((ixZ x (spsOf (Prod.fst (Prod.snd (Prod.snd (74, (2, (n, (sRow (List.map (bandS most) (spsOf n f))))))))) (Prod.snd (Prod.snd (Prod.snd (74, (2, (n, (sRow (List.map (bandS most) (spsOf n f)))))))))) 0) ≥ (0 : Int))))), [((areSps (Prod.fst (Prod.snd (Prod.snd (74, (2, (n, (sRow (List.map (bandS most) (spsOf n f))))))))) (Prod.snd (Prod.snd (Prod.snd (74, (2, (n, (sRow (List.map (bandS most) (spsOf n f)))))))))) && (Nat.ble (Prod.fst (Prod.snd (Prod.snd (74, (2, (n, (sRow (List.map (bandS most) (spsOf n f))))))))) (4294967280 : Nat))), ((areSps n f) && (Nat.ble n (4294967280 : Nat)))])) : Option (PV × List Bool)) := by
  kernel_rfl
theorem eS_u32 {most a : Int} (hm : 0 ≤ most ∧ most < 4294967296) (ha : 0 ≤ a ∧ a < 4294967296) : 0 ≤ eS most a ∧ eS most a < 4294967296 := by
  unfold eS
  cases bne a 0 <;> cases bne most 0 <;> simp <;> omega
theorem bandS_u32 {most : Int} {x : Sp} (hm : 0 ≤ most ∧ most < 4294967296) (hx : u32B x = true) : u32B (bandS most x) = true := by
  unfold u32B at hx
  simp only [Bool.and_eq_true, decide_eq_true_eq] at hx
  have h1 := eS_u32 hm hx.1
  have h2 := eS_u32 hm hx.2
  unfold u32B bandS
  cases decide (eS most x.2 < eS most x.1) <;> simp <;> omega
theorem bands_u32 {most : Int} (hm : 0 ≤ most ∧ most < 4294967296) {l : List Sp} (h : l.all u32B = true) : (l.map (bandS most)).all u32B = true := by
  rw [List.all_eq_true] at h ⊢
  intro y hy
  obtain ⟨x, hx, rfl⟩ := List.mem_map.1 hy
  exact bandS_u32 hm (h x hx)
/-- whether a number is in a set -/
def hasS (most x : Int) (l : List Sp) : Bool := (l.map (bandS most)).any (withinB x)
def hasG : List PV → Tr PV
  | [.gsl 2 n f, .lit (.int .u32 most), .lit (.int .u32 x)] => .br (areSps n f && Nat.ble n 4294967280 && u32N most) (.leaf (bool (hasS most x (spsOf n f)))) .fail
  | _ => .fail
theorem has_ok : PureOK Tryz.prog (GG m t fr) 13 hasG := by
  refine PureOK.of (fn_pure mixed E6_ok (envOf_cuts ..) (fn := Tryz.f13) (by kernel_rfl)) fun ps p hp => ?_
  unfold hasG at hp
  split at hp
  · rename_i n f most x
    obtain ⟨hc, hp⟩ := br_run hp
    simp only [Bool.and_eq_true] at hc
    obtain ⟨⟨hf, hn⟩, hm⟩ := hc
    unfold u32N at hm
    simp only [Bool.and_eq_true, decide_eq_true_eq] at hm
    simp only [Tr.run, Option.some.injEq] at hp
    subst hp
    have h := has_raw m t fr n f most x
    have hL : ((spsOf n f).map (bandS most)).length = n := by rw [List.length_map, sps_len]
    have e1 : spsOf n (sRow ((spsOf n f).map (bandS most))) = (spsOf n f).map (bandS most) := by
      have := sps_sRow ((spsOf n f).map (bandS most))
      rwa [hL] at this
    have e2 : areSps n (sRow ((spsOf n f).map (bandS most))) = true := by
      have := are_sRow (bands_u32 hm (sps_u32 hf))
      rwa [hL] at this
    dsimp only at h
    rw [e1, e2, hn, hf, ixZ_any] at h
    exact ⟨_, Tr.run_of h (by simp), PLe.of_eq rfl⟩
  · cases hp
def hsPure : List (Nat × (List PV → Tr PV)) := (13, hasG) :: niPure
theorem hsPure_ok {m : Int} {t : TypeId} {fr : Nat × Nat} : TabOK Tryz.prog (GG m t fr) hsPure := (TabOK.cons has_ok (fn := Tryz.f13) (by kernel_rfl) (by kernel_rfl) niPure_ok)
noncomputable abbrev E7 (G : GT) : Env := envOf Tryz.prog G hsPure nbFull
theorem E7_ok : (E7 (GG m t fr)).ok Tryz.prog (GG m t fr) := envOf_ok mixed hsPure_ok nbFull_ok
theorem app_none (f0 g : Nat → List PV) : rowApp 0 f0 g = g := by
  funext i
  have := app_hi 0 i f0 g
  rwa [Nat.zero_add] at this
theorem sps_app (n k : Nat) (f g : Nat → List PV) : spsOf (n + k) (rowApp n f g) = spsOf n f ++ spsOf k g := by
  refine List.ext_getElem (by simp [spsOf]) fun i h1 h2 => ?_
  simp only [spsOf, List.getElem_map, List.getElem_range, List.getElem_append, List.length_map, List.length_range]
  split
  · rename_i h
    rw [app_lo _ _ h]
  · rename_i h
    have := app_hi n (i - n) f g
    rw [show n + (i - n) = i by omega] at this
    rw [this]
theorem are_app2 (n k : Nat) (f g : Nat → List PV) (hf : areSps n f = true) (hg : areSps k g = true) : areSps (n + k) (rowApp n f g) = true := by
  unfold areSps at *
  rw [List.all_eq_true] at *
  intro i hi
  have hi := List.mem_range.1 hi
  rcases Nat.lt_or_ge i n with h | h
  · rw [app_lo _ _ h]
    exact hf i (List.mem_range.2 h)
  · have := app_hi n (i - n) f g
    rw [show n + (i - n) = i by omega] at this
    rw [this]
    exact hg _ (List.mem_range.2 (by omega))
def joinedG : List PV → Tr PV
  | [.gsl 2 n f, .gsl 2 k g, .lit (.int .u32 most), .lit (.int .u32 x)] => .br (areSps n f && areSps k g && Nat.ble n 1048576 && Nat.ble k 1048576 && u32N most) (.leaf (bool true)) .fail
  | _ => .fail
def joinedSh : List ASh := [.one (.sl [.int .u32, .int .u32]), .one (.sl [.int .u32, .int .u32]), .one (.sc (.int .u32)), .one (.sc (.int .u32))]
theorem u32_given {v : Value} (h : isSc (.int .u32) v = true) : ∃ a, v = .int .u32 a ∧ u32N a = true := by
  obtain ⟨a, rfl, h1, h2⟩ := sc_int h
  have e1 : IntKind.u32.min = 0 := by decide
  have e2 : IntKind.u32.max = 4294967295 := by decide
  refine ⟨a, rfl, ?_⟩
  unfold u32N
  simp
  omega
theorem joined_args {qs : List PV} (ha : areArgs joinedSh qs = true) (hb : argsBulk qs ≤ 1048576) : (joinedG qs).run = some (bool true) := by
  obtain ⟨q0, r0, rfl, h0, hr0⟩ := args_cons ha
  obtain ⟨q1, r1, rfl, h1, hr1⟩ := args_cons hr0
  obtain ⟨q2, r2, rfl, h2, hr2⟩ := args_cons hr1
  obtain ⟨q3, r3, rfl, h3, hr3⟩ := args_cons hr2
  obtain rfl := args_nil hr3
  obtain ⟨n, f, rfl, hf⟩ := ak_sl h0
  obtain ⟨k, g, rfl, hg⟩ := ak_sl h1
  obtain ⟨v, rfl, hv⟩ := ak_sc h2
  obtain ⟨most, rfl, hm⟩ := u32_given hv
  obtain ⟨v', rfl, hv'⟩ := ak_sc h3
  obtain ⟨x, rfl, hx⟩ := u32_given hv'
  have hb' : (((List.range n).map fun i => scsBulk (f i)).sum + 1) + ((((List.range k).map fun i => scsBulk (g i)).sum + 1) + (1 + (1 + 0))) ≤ 1048576 := hb
  obtain ⟨o1, o2⟩ := sps_given hf (by omega)
  obtain ⟨o3, o4⟩ := sps_given hg (by omega)
  have o5 : Nat.ble n 1048576 = true := Nat.ble_eq_true_of_le o2
  have o6 : Nat.ble k 1048576 = true := Nat.ble_eq_true_of_le o4
  show (joinedG [.gsl 2 n f, .gsl 2 k g, .lit (.int .u32 most), .lit (.int .u32 x)]).run = some (bool true)
  simp [joinedG, Tr.run, o1, o3, o5, o6, hm]
end
end Go.Proofs.YtnmgdcggfjnmeaaGreatDoor.Ev

/- nset: spans that rise are put together. No condition, and no program in it. -/
namespace Go.Proofs.YtnmgdcggfjnmeaaGreatDoor.Ev
open Go Go.RowKit Go.Proofs Go.Proofs.YtnmgdcggfjnmeaaGreatDoor.Str
set_option linter.unusedVariables false
set_option linter.unusedSimpArgs false
/-- rising spans, put together: what is done, the last one -/
def mgS : List Sp → List Sp → Sp → List Sp
  | [], o, c => o ++ [c]
  | b :: r, o, c => bif bne c.2 4294967295 && decide (c.2 + 1 < b.1) then mgS r (o ++ [c]) b else mgS r o (c.1, bif decide (c.2 < b.2) then b.2 else c.2)
def mgZ : List Sp → List Sp
  | [] => []
  | b :: r => mgS r [] b
/-- spans that rise, and none touches the next one -/
def okM : Option Sp → List Sp → Bool
  | _, [] => true
  | none, x :: r => decide (x.1 ≤ x.2) && okM (some x) r
  | some p, x :: r => decide (x.1 ≤ x.2) && decide (p.2 + 2 ≤ x.1) && okM (some x) r
def gapM : Option Sp → Sp → Bool
  | none, _ => true
  | some p, c => decide (p.2 + 2 ≤ c.1)
def lastM : Option Sp → List Sp → Option Sp
  | p, [] => p
  | _, x :: r => lastM (some x) r
theorem okM_cons (p : Option Sp) (x : Sp) (r : List Sp) : okM p (x :: r) = (decide (x.1 ≤ x.2) && gapM p x && okM (some x) r) := by
  cases p with
  | none => simp [okM, gapM]
  | some p => simp [okM, gapM]
theorem okM_snoc : ∀ (p : Option Sp) (o : List Sp) (c : Sp), okM p (o ++ [c]) = (okM p o && (decide (c.1 ≤ c.2) && gapM (lastM p o) c))
  | p, [], c => by
    rw [List.nil_append, okM_cons]
    simp [okM, lastM]
  | p, x :: o, c => by
    rw [List.cons_append, okM_cons, okM_cons, okM_snoc (some x) o c]
    simp only [lastM, Bool.and_assoc]
theorem lastM_snoc : ∀ (p : Option Sp) (o : List Sp) (c : Sp), lastM p (o ++ [c]) = some c
  | p, [], c => rfl
  | p, x :: o, c => lastM_snoc (some x) o c
/-- what rises -/
def sdS : Int → List Sp → Prop
  | _, [] => True
  | a, b :: r => a ≤ b.1 ∧ sdS b.1 r
theorem sdS_mono : ∀ {a a' : Int} {r : List Sp}, a' ≤ a → sdS a r → sdS a' r
  | _, _, [], _, _ => trivial
  | a, a', b :: r, h, hs => ⟨by have := hs.1; omega, hs.2⟩
def fine (b : Sp) : Prop := b.1 ≤ b.2 ∧ 0 ≤ b.1 ∧ b.2 ≤ 4294967295
theorem mgS_ok : ∀ (r o : List Sp) (c : Sp), (∀ b ∈ r, fine b) → sdS c.1 r → okM none (o ++ [c]) = true → fine c → okM none (mgS r o c) = true
  | [], o, c, _, _, h, _ => h
  | b :: r, o, c, hf, hs, h, hc => by
    have hb := hf b (by simp)
    have hr : ∀ x ∈ r, fine x := fun x hx => hf x (by simp [hx])
    rw [mgS]
    cases ht : bne c.2 4294967295 && decide (c.2 + 1 < b.1) with
    | true =>
      simp only [Bool.and_eq_true, decide_eq_true_eq] at ht
      refine mgS_ok r (o ++ [c]) b hr hs.2 ?_ hb
      rw [okM_snoc, h, lastM_snoc, decide_eq_true hb.1]
      simp only [gapM, Bool.true_and, decide_eq_true_eq]
      omega
    | false =>
      rw [cond_false]
      refine mgS_ok r o _ hr (sdS_mono hs.1 hs.2) ?_ ?_
      · rw [okM_snoc] at h ⊢
        simp only [Bool.and_eq_true, decide_eq_true_eq] at h ⊢
        have e : gapM (lastM none o) (c.1, bif decide (c.2 < b.2) then b.2 else c.2) = gapM (lastM none o) c := by
          cases lastM none o <;> rfl
        rw [e]
        refine ⟨h.1, ?_, h.2.2⟩
        cases hd : decide (c.2 < b.2) with
        | true =>
          have := of_decide_eq_true hd
          simp only [cond_true]
          omega
        | false => exact h.2.1
      · unfold fine at *
        cases hd : decide (c.2 < b.2) with
        | true =>
          have := of_decide_eq_true hd
          simp only [cond_true]
          omega
        | false => exact hc
theorem mgS_any (x : Int) : ∀ (r o : List Sp) (c : Sp), (∀ b ∈ r, fine b) → sdS c.1 r → fine c → (mgS r o c).any (withinB x) = (o.any (withinB x) || (withinB x c || r.any (withinB x)))
  | [], o, c, _, _, _ => by simp [mgS, List.any_append]
  | b :: r, o, c, hf, hs, hc => by
    have hb := hf b (by simp)
    have hr : ∀ x ∈ r, fine x := fun x hx => hf x (by simp [hx])
    rw [mgS]
    cases ht : bne c.2 4294967295 && decide (c.2 + 1 < b.1) with
    | true =>
      rw [cond_true, mgS_any x r (o ++ [c]) b hr hs.2 hb, List.any_append]
      simp [Bool.or_assoc]
    | false =>
      have hc' : fine (c.1, bif decide (c.2 < b.2) then b.2 else c.2) := by
        unfold fine at *
        cases hd : decide (c.2 < b.2) with
        | true =>
          have := of_decide_eq_true hd
          simp only [cond_true]
          omega
        | false => exact hc
      rw [cond_false, mgS_any x r o (c.1, bif decide (c.2 < b.2) then b.2 else c.2) hr (sdS_mono hs.1 hs.2) hc']
      have hle : b.1 ≤ c.2 + 1 := by
        rw [Bool.and_eq_false_iff] at ht
        rcases ht with h | h
        · have : c.2 = 4294967295 := by simpa using h
          unfold fine at hb
          omega
        · have := of_decide_eq_false h
          omega
      have e : withinB x (c.1, bif decide (c.2 < b.2) then b.2 else c.2) = (withinB x c || withinB x b) := by
        have hs1 := hs.1
        unfold fine at hb hc
        rw [Bool.eq_iff_iff]
        cases hd : decide (c.2 < b.2) with
        | true =>
          have := of_decide_eq_true hd
          simp [withinB]
          omega
        | false =>
          have := of_decide_eq_false hd
          simp [withinB]
          omega
      rw [e, List.any_cons]
      simp only [Bool.or_assoc]
theorem sdS_of : ∀ {S : List Sp} (a : Int), (∀ (i j : Nat), i < j → j < S.length → (sp S i).1 ≤ (sp S j).1) → (∀ b, S.head? = some b → a ≤ b.1) → sdS a S
  | [], a, _, _ => trivial
  | b :: r, a, h, h0 => by
    refine ⟨h0 b rfl, sdS_of b.1 (fun i j hij hj => ?_) fun x hx => ?_⟩
    · have := h (i + 1) (j + 1) (by omega) (by simp; omega)
      simpa [sp] using this
    · cases r with
      | nil => cases hx
      | cons y r =>
        have := h 0 1 (by omega) (by simp)
        simp [sp] at this hx
        rw [← hx]
        exact this
theorem mgZ_ok {S : List Sp} (hf : ∀ b ∈ S, fine b) (hs : ∀ (i j : Nat), i < j → j < S.length → (sp S i).1 ≤ (sp S j).1) : okM none (mgZ S) = true ∧ ∀ x, (mgZ S).any (withinB x) = S.any (withinB x) := by
  cases S with
  | nil => exact ⟨rfl, fun _ => rfl⟩
  | cons b r =>
    have hb := hf b (by simp)
    have hr : ∀ x ∈ r, fine x := fun x hx => hf x (by simp [hx])
    have hsd : sdS b.1 (b :: r) := sdS_of b.1 hs fun x hx => by
      simp at hx
      subst hx
      exact Int.le_refl _
    refine ⟨mgS_ok r [] b hr hsd.2 (by rw [List.nil_append, okM_cons]; simp [gapM, okM]; exact hb.1) hb, fun x => ?_⟩
    show (mgS r [] b).any (withinB x) = _
    rw [mgS_any x r [] b hr hsd.2 hb]
    rfl
theorem mgS_len : ∀ (r o : List Sp) (c : Sp), (mgS r o c).length ≤ r.length + o.length + 1
  | [], o, c => by simp [mgS]
  | b :: r, o, c => by
    rw [mgS]
    cases bne c.2 4294967295 && decide (c.2 + 1 < b.1) with
    | true =>
      have := mgS_len r (o ++ [c]) b
      simp at this ⊢
      omega
    | false =>
      have := mgS_len r o (c.1, bif decide (c.2 < b.2) then b.2 else c.2)
      simp at this ⊢
      omega
theorem mgZ_len (S : List Sp) : (mgZ S).length ≤ S.length := by
  cases S with
  | nil => exact Nat.le_refl _
  | cons b r =>
    have := mgS_len r [] b
    simp at this ⊢
    exact this
/-! ### what is put together stays so -/
theorem mgS_id : ∀ (r o : List Sp) (c : Sp), okM (some c) r = true → (∀ b ∈ r, fine b) → mgS r o c = o ++ c :: r
  | [], o, c, _, _ => rfl
  | b :: r, o, c, h, hf => by
    rw [okM_cons] at h
    simp only [Bool.and_eq_true, decide_eq_true_eq, gapM] at h
    have hb := hf b (by simp)
    have ht : (bne c.2 4294967295 && decide (c.2 + 1 < b.1)) = true := by
      unfold fine at hb
      simp only [Bool.and_eq_true, decide_eq_true_eq, bne_iff_ne, ne_eq]
      omega
    rw [mgS, ht, cond_true, mgS_id r (o ++ [c]) b h.2 fun x hx => hf x (by simp [hx])]
    simp
theorem mgZ_id {M : List Sp} (h : okM none M = true) (hf : ∀ b ∈ M, fine b) : mgZ M = M := by
  cases M with
  | nil => rfl
  | cons b r =>
    rw [okM_cons] at h
    simp only [Bool.and_eq_true] at h
    show mgS r [] b = _
    rw [mgS_id r [] b h.2 fun x hx => hf x (by simp [hx])]
    rfl
/-- strictly rising -/
def stS : Int → List Sp → Prop
  | _, [] => True
  | a, b :: r => a < b.1 ∧ stS b.1 r
theorem stS_mem : ∀ {a : Int} {r : List Sp}, stS a r → ∀ x ∈ r, a < x.1
  | _, [], _, x, hx => by cases hx
  | a, b :: r, h, x, hx => by
    rcases List.mem_cons.1 hx with rfl | hx
    · exact h.1
    · have := stS_mem h.2 x hx
      have := h.1
      omega
theorem okM_st : ∀ (p : Sp) (r : List Sp), okM (some p) r = true → p.1 ≤ p.2 → stS p.1 r
  | _, [], _, _ => trivial
  | p, b :: r, h, hp => by
    rw [okM_cons] at h
    simp only [Bool.and_eq_true, decide_eq_true_eq, gapM] at h
    exact ⟨by omega, okM_st b r h.2 h.1.1⟩
theorem perm_st : ∀ (M S : List Sp), (∀ b r, M = b :: r → stS b.1 r) → S.Perm M → (∀ (i j : Nat), i < j → j < S.length → (sp S i).1 ≤ (sp S j).1) → S = M
  | [], S, _, hp, _ => List.Perm.eq_nil hp
  | b :: r, [], _, hp, _ => by
    have := hp.length_eq
    simp at this
  | b :: r, s :: S, hM, hp, hs => by
    have hst := hM b r rfl
    have e : s = b := by
      have h1 : s ∈ b :: r := hp.subset (by simp)
      have h2 : b ∈ s :: S := hp.symm.subset (by simp)
      rcases List.mem_cons.1 h1 with h | h
      · exact h
      · have hlt := stS_mem hst s h
        rcases List.mem_cons.1 h2 with h' | h'
        · exact h'.symm
        · obtain ⟨j, hj, hjb⟩ := List.getElem_of_mem h'
          have := hs 0 (j + 1) (by omega) (by simp; omega)
          have e1 : sp (s :: S) (j + 1) = b := by simp [sp, hj, hjb]
          rw [e1] at this
          simp [sp] at this
          omega
    subst e
    have hp' : S.Perm r := List.Perm.cons_inv hp
    rw [perm_st r S (fun b' r' h => by rw [h] at hst; exact hst.2) hp' fun i j hij hj => by
      have := hs (i + 1) (j + 1) (by omega) (by simp; omega)
      simpa [sp] using this]
/-! ### bands -/
theorem bandS_fine {most : Int} {x : Sp} (hm : 0 ≤ most ∧ most < 4294967296) (hx : u32B x = true) : fine (bandS most x) := by
  unfold u32B at hx
  simp only [Bool.and_eq_true, decide_eq_true_eq] at hx
  have h1 := eS_u32 hm hx.1
  have h2 := eS_u32 hm hx.2
  unfold fine bandS
  cases hd : decide (eS most x.2 < eS most x.1) with
  | true =>
    have := of_decide_eq_true hd
    simp only [cond_true]
    omega
  | false =>
    have := of_decide_eq_false hd
    simp only [cond_false]
    omega
theorem bandS_id {most : Int} {x : Sp} (h : x.1 ≤ x.2) (h0 : (most = 0) ∨ (x.1 ≠ 0 ∧ x.2 ≠ 0)) : bandS most x = x := by
  have e : ∀ a : Int, (most = 0 ∨ a ≠ 0) → eS most a = a := by
    intro a ha
    unfold eS
    by_cases h1 : a = 0
    · have h2 : most = 0 := by
        rcases ha with h | h
        · exact h
        · exact absurd h1 h
      subst h1
      subst h2
      rfl
    · have : bne a 0 = true := by simpa using h1
      rw [this]
      rfl
  have e1 := e x.1 (h0.imp id (·.1))
  have e2 := e x.2 (h0.imp id (·.2))
  unfold bandS
  rw [e1, e2, decide_eq_false (by omega)]
  rfl
theorem bandS_zero {most : Int} {x : Sp} (hm : 0 ≤ most) (hx : u32B x = true) (h : (bandS most x).1 = 0) : most = 0 := by
  unfold u32B at hx
  simp only [Bool.and_eq_true, decide_eq_true_eq] at hx
  have key : ∀ a : Int, eS most a = 0 → most = 0 := by
    intro a ha
    unfold eS at ha
    cases h1 : bne a 0 with
    | true =>
      rw [h1] at ha
      simp only [cond_true] at ha
      subst ha
      simp at h1
    | false =>
      rw [h1] at ha
      cases h2 : bne most 0 with
      | true =>
        rw [h2] at ha
        exact ha
      | false => simpa using h2
  unfold bandS at h
  cases hd : decide (eS most x.2 < eS most x.1) with
  | true => rw [hd] at h; exact key _ h
  | false => rw [hd] at h; exact key _ h
end Go.Proofs.YtnmgdcggfjnmeaaGreatDoor.Ev

/- nset: Sort. No condition. -/
namespace Go.Proofs.YtnmgdcggfjnmeaaGreatDoor.Ev
open Go Go.RowKit Go.Proofs Go.Proofs.YtnmgdcggfjnmeaaGreatDoor.Str
set_option linter.unusedVariables false
set_option linter.unusedSimpArgs false
section
variable {m : Int} {t : TypeId} {fr : Nat × Nat}
def soOuts : Exit → Outs
  | .normal => { ks := [7, 19, 20, 21], rs := [.slot 7, .slot 19], nils := [(7, 48, 2)] }
  | .exit _ => { ks := [7], rs := [.slot 7], nils := [(7, 48, 2)] }
  | _ => { ks := [] }
def soIn (B : List Sp) (i : Nat) (o : List Sp) : Kept := ([.own 0, .own 1, int B.length, int i], [.row 48 2 o.length (sRow o), .row 74 2 B.length (sRow B)])
def soEnd (q : List Sp) : Exit × Kept := (.exit 0, ([.own 0], [.row 48 2 q.length (sRow q)]))
def soF : Kept → Tr (Exit × Kept)
  | ([.own 0, .own 1, .lit (.int .i64 u), .lit (.int .i64 0)], [.row e 2 0 g, .row e' 2 n f]) => match Nat.beq e 48 && Nat.beq e' 74 with
    | true => .br (areSps n f && decide (u = (n : Int)) && Nat.ble n 4294967280) (.leaf (.exit 0, ([.own 0], [.row 48 2 (mgZ (spsOf n f)).length (sRow (mgZ (spsOf n f)))]))) .fail
    | false => .fail
  | _ => .fail
noncomputable abbrev soCut (G : GT) := cutOf G 70 soOuts 0 soF
end
end Go.Proofs.YtnmgdcggfjnmeaaGreatDoor.Ev

/- nset: Sort as a contract; the document's Has. No condition. -/
namespace Go.Proofs.YtnmgdcggfjnmeaaGreatDoor.Ev
open Go Go.RowKit Go.Proofs Go.Proofs.YtnmgdcggfjnmeaaGreatDoor.Str
set_option linter.unusedVariables false
set_option linter.unusedSimpArgs false
section
variable {m : Int} {t : TypeId} {fr : Nat × Nat}
def srtR (most : Int) (l : List Sp) : List Sp := bif Nat.blt 1024 l.length then [] else mgZ (sortS (l.map (bandS most)))
def srtE (l : List Sp) : Int := bif Nat.blt 1024 l.length then 1 else 0
def srtG : List PV → Tr PV
  | [.gsl 2 n f, .lit (.int .u32 most)] => .br (areSps n f && Nat.ble n 4294967280 && u32N most) (.leaf (.tup [.gsl 2 (srtR most (spsOf n f)).length (sRow (srtR most (spsOf n f))), int (srtE (spsOf n f))])) .fail
  | _ => .fail
theorem sortS_u32 {l : List Sp} (h : l.all u32B = true) : (sortS l).all u32B = true := by
  rw [List.all_eq_true] at h ⊢
  intro x hx
  exact h x ((sortS_perm l).subset hx)
/-! ### the document's Has -/
def endsG : List PV → Tr PV
  | [.agg [.lit (.int .u32 a), .lit (.int .u32 b)], .lit (.int .u32 most)] => .leaf (.tup [.lit (.int .u32 (bandS most (a, b)).1), .lit (.int .u32 (bandS most (a, b)).2)])
  | _ => .fail
theorem eS_zero (most : Int) : eS most 0 = most := by
  unfold eS
  cases h : bne most 0 with
  | true => simp
  | false =>
    have : most = 0 := by simpa using h
    subst this
    rfl
theorem eS_pos {most a : Int} (h : a ≠ 0) : eS most a = a := by
  unfold eS
  have : bne a 0 = true := by simpa using h
  rw [this]
  rfl
def enPure : List (Nat × (List PV → Tr PV)) := hsPure
theorem enPure_ok {m : Int} {t : TypeId} {fr : Nat × Nat} : TabOK Tryz.prog (GG m t fr) enPure := hsPure_ok
noncomputable abbrev E8 (G : GT) : Env := envOf Tryz.prog G enPure nbFull
theorem E8_ok : (E8 (GG m t fr)).ok Tryz.prog (GG m t fr) := envOf_ok mixed enPure_ok nbFull_ok
def rhOuts : Exit → Outs
  | .normal => { ks := [1, 2, 11, 12, 13] }
  | .exit _ => { ks := [] }
  | _ => { ks := [6] }
def nsOuts : Exit → Outs
  | .normal => { ks := [0, 1, 2, 7, 26, 27, 28] }
  | .exit _ => { ks := [0, 1, 2, 7] }
  | _ => { ks := [6] }
def rhEnd (most x : Int) (r : List Sp) : Exit × Kept := bif hasS most x r then (.ret, ([bool true], [])) else (.exit 0, ([], []))
def rhIn (l : List Sp) (most x : Int) (i : Nat) : Kept := ([.lit (.int .u32 most), .lit (.int .u32 x), .gsl 2 l.length (sRow l), int l.length, int i], [])
theorem hasS_cons (most x : Int) (b : Sp) (r : List Sp) : hasS most x (b :: r) = (withinB x (bandS most b) || hasS most x r) := rfl
def rhF : Kept → Tr (Exit × Kept)
  | ([.lit (.int .u32 most), .lit (.int .u32 x), .gsl 2 n f, .lit (.int .i64 u), .lit (.int .i64 0)], []) => .br (areSps n f && decide (u = (n : Int)) && Nat.ble n 4294967280) (.br (hasS most x (spsOf n f)) (.leaf (.ret, ([bool true], []))) (.leaf (.exit 0, ([], [])))) .fail
  | _ => .fail
noncomputable abbrev rhCut (G : GT) := cutOf G 32 rhOuts 0 rhF
/-! ### the law's own loop: spans that rise go through it -/
def nsIn (n0 : Nat) (f0 : Nat → List PV) (most x : Int) (l : List Sp) (i : Nat) : Kept := ([.gsl 2 n0 f0, .lit (.int .u32 most), .lit (.int .u32 x), .gsl 2 l.length (sRow l), .gsl 2 l.length (sRow l), int l.length, int i], [])
def nsEnd (n0 : Nat) (f0 : Nat → List PV) (most x : Int) (l : List Sp) : Kept := ([.gsl 2 n0 f0, .lit (.int .u32 most), .lit (.int .u32 x), .gsl 2 l.length (sRow l)], [])
def nsF : Kept → Tr (Exit × Kept)
  | ([.gsl 2 n0 f0, .lit (.int .u32 most), .lit (.int .u32 x), .gsl 2 n f, .gsl 2 n' f', .lit (.int .i64 u), .lit (.int .i64 0)], []) => .br (areSps n f && (areSps n' f' && decide (n = n') && decide (spsOf n f = spsOf n' f')) && decide (u = (n : Int)) && Nat.ble n 4294967280 && okM none (spsOf n f))
      (.leaf (.exit 0, ([.gsl 2 n0 f0, .lit (.int .u32 most), .lit (.int .u32 x), .gsl 2 n (sRow (spsOf n f))], []))) .fail
  | _ => .fail
noncomputable abbrev nsCut (G : GT) := cutOf G 112 nsOuts 0 nsF
end
end Go.Proofs.YtnmgdcggfjnmeaaGreatDoor.Ev

/- NsetSame, a law. No condition. -/
namespace Go.Proofs.YtnmgdcggfjnmeaaGreatDoor.Ev
open Go Go.RowKit Go.Proofs Go.Proofs.YtnmgdcggfjnmeaaGreatDoor.Str
set_option linter.unusedVariables false
set_option linter.unusedSimpArgs false
section
variable {m : Int} {t : TypeId} {fr : Nat × Nat}
def rhasG : List PV → Tr PV
  | [.gsl 2 n f, .lit (.int .u32 most), .lit (.int .u32 x)] => .br (areSps n f && Nat.ble n 4294967280) (.leaf (bool (hasS most x (spsOf n f)))) .fail
  | _ => .fail
def rsPure : List (Nat × (List PV → Tr PV)) := enPure
theorem rsPure_ok {m : Int} {t : TypeId} {fr : Nat × Nat} : TabOK Tryz.prog (GG m t fr) rsPure := enPure_ok
noncomputable abbrev E9 (G : GT) : Env := envOf Tryz.prog G rsPure nbFull
theorem E9_ok : (E9 (GG m t fr)).ok Tryz.prog (GG m t fr) := envOf_ok mixed rsPure_ok nbFull_ok
end
end Go.Proofs.YtnmgdcggfjnmeaaGreatDoor.Ev
