/- nset.Parse as a contract; rows of spans. No condition. -/
import Derived.Test.YtbpmfaghjlmjmaaDoorNsP
namespace Go.Proofs.YtbpmfaghjlmjmaaDoor.Ev
open Go Go.RowKit Go.Proofs Go.Proofs.YtbpmfaghjlmjmaaDoor.Str
set_option linter.unusedVariables false
set_option linter.unusedSimpArgs false
/-! ### rows of spans -/
abbrev Sp := Int × Int
def sp (l : List Sp) (i : Nat) : Sp := l.getD i (0, 0)
def sRow (l : List Sp) (i : Nat) : List PV := [.lit (.int .u32 (sp l i).1), .lit (.int .u32 (sp l i).2)]
def spOf : List PV → Sp
  | [.lit (.int .u32 a), .lit (.int .u32 b)] => (a, b)
  | _ => (0, 0)
def isSp : List PV → Bool
  | [.lit (.int .u32 a), .lit (.int .u32 b)] => decide (0 ≤ a) && decide (a < 4294967296) && (decide (0 ≤ b) && decide (b < 4294967296))
  | _ => false
def spsOf (n : Nat) (f : Nat → List PV) : List Sp := (List.range n).map fun i => spOf (f i)
def areSps (n : Nat) (f : Nat → List PV) : Bool := (List.range n).all fun i => isSp (f i)
def u32B (x : Sp) : Bool := decide (0 ≤ x.1) && decide (x.1 < 4294967296) && (decide (0 ≤ x.2) && decide (x.2 < 4294967296))
theorem sps_len (n : Nat) (f : Nat → List PV) : (spsOf n f).length = n := by simp [spsOf]
theorem isSp_eq {l : List PV} (h : isSp l = true) : l = [.lit (.int .u32 (spOf l).1), .lit (.int .u32 (spOf l).2)] ∧ u32B (spOf l) = true := by
  unfold isSp at h
  split at h
  · exact ⟨rfl, h⟩
  · cases h
theorem sps_row {n : Nat} {f : Nat → List PV} (h : areSps n f = true) (i : Nat) (hi : i < n) : f i = sRow (spsOf n f) i := by
  have h1 := List.all_eq_true.1 h i (List.mem_range.2 hi)
  have h2 : sp (spsOf n f) i = spOf (f i) := by simp [sp, spsOf, hi]
  unfold sRow
  rw [h2]
  exact (isSp_eq h1).1
theorem sps_u32 {n : Nat} {f : Nat → List PV} (h : areSps n f = true) : (spsOf n f).all u32B = true := by
  rw [List.all_eq_true]
  intro x hx
  simp only [spsOf, List.mem_map, List.mem_range] at hx
  obtain ⟨i, hi, rfl⟩ := hx
  exact (isSp_eq (List.all_eq_true.1 h i (List.mem_range.2 hi))).2
theorem sps_sRow (l : List Sp) : spsOf l.length (sRow l) = l := by
  unfold spsOf
  refine List.ext_getElem (by simp) fun i h1 h2 => ?_
  simp [sRow, spOf, sp, h2]
theorem are_sRow {l : List Sp} (h : l.all u32B = true) : areSps l.length (sRow l) = true := by
  unfold areSps
  rw [List.all_eq_true]
  intro i hi
  have hi := List.mem_range.1 hi
  have : sp l i = l[i] := by simp [sp, hi]
  have hu := List.all_eq_true.1 h l[i] (List.getElem_mem _)
  unfold sRow isSp
  rw [this]
  exact hu
theorem sp_drop {l : List Sp} {i : Nat} {x : Sp} {r : List Sp} (h : l.drop i = x :: r) : i < l.length ∧ sp l i = x ∧ l.drop (i + 1) = r := by
  have hlt : i < l.length := by
    rcases Nat.lt_or_ge i l.length with h' | h'
    · exact h'
    · rw [List.drop_eq_nil_of_le h'] at h
      cases h
  rw [List.drop_eq_getElem_cons hlt] at h
  simp only [List.cons.injEq] at h
  refine ⟨hlt, ?_, h.2⟩
  rw [← h.1]
  simp [sp, hlt]
theorem cellsSp_at : ∀ (l : List Sp) (i j : Nat), i < l.length → j < 2 → (cellsSp l)[i * 2 + j]? = some (bif Nat.beq j 0 then .int .u32 (sp l i).1 else .int .u32 (sp l i).2)
  | [], i, j, h, _ => by simp at h
  | x :: l, 0, 0, _, _ => rfl
  | x :: l, 0, 1, _, _ => rfl
  | x :: l, 0, j + 2, _, h => by omega
  | x :: l, i + 1, j, h, hj => by
    have ih := cellsSp_at l i j (by simpa using h) hj
    have e : (i + 1) * 2 + j = (i * 2 + j) + 1 + 1 := by omega
    rw [e]
    exact ih
theorem sRow_rep {C : Nat → Nat → Value → Prop} {w w' : World} {e : TypeId} {v : Value} {l : List Sp} (h : w'.ownsRow w.heap.size e 2 v l.length (cellsSp l)) : Rep (Grown C w w') (fun _ => none) (.gsl 2 l.length (sRow l)) v := by
  have h0 := h
  rcases h.2 with ⟨rfl, hn⟩ | ⟨g, cap, cur, rfl, hg, hh, hle, _⟩
  · rw [hn]
    exact .gnil ..
  · refine .gsl _ _ _ _ g 0 cap (fun i j => bif Nat.beq j 0 then .int .u32 (sp l i).1 else .int .u32 (sp l i).2) (fun i j hi hj => ⟨.inr ⟨hg, ?_⟩, ?_⟩) (fun i _ => rfl) (fun i j p hi hp => ?_) hle
    · rw [Nat.zero_add, h0.cellAt _ (by omega)]
      exact cellsSp_at l i j hi hj
    · cases Nat.beq j 0 <;> rfl
    · match j with
      | 0 =>
        simp [sRow] at hp
        subst hp
        exact .lit _ _
      | 1 =>
        simp [sRow] at hp
        subst hp
        exact .lit _ _
      | j + 2 => simp [sRow] at hp
def nilS : PV := .lit (.slice none 0 0)
section
variable {m : Int} {t : TypeId} {fr : Nat × Nat}
/-- the spans of a text, if all its pieces are -/
def spansS (l : List UInt8) : List Sp := (splitC 44 l).map spW
def areS (l : List UInt8) : Bool := (splitC 44 l).all okW
def parseG : List PV → Tr PV
  | [.lit (.string s)] => .br (okS s) (.br (areS (ls s)) (.br (Nat.ble (spansS (ls s)).length 1024) (.leaf (.tup [.gsl 2 (spansS (ls s)).length (sRow (spansS (ls s))), int 0])) (.leaf (.tup [.lit (.slice none 0 0), int 15])))
      (.leaf (.tup [.lit (.slice none 0 0), int 7]))) .fail
  | _ => .fail
theorem tup2_rep {C : Nat → Nat → Value → Prop} {p q : PV} {u v : Value} (h : Rep C (fun _ => none) p u) (k : Rep C (fun _ => none) q v) : Rep C (fun _ => none) (.tup [p, q]) (.tuple #[u, v]) := by
  refine .tup _ _ _ rfl fun i x y hx hy => ?_
  match i with
  | 0 =>
    simp at hx hy
    subst hx
    subst hy
    exact h
  | 1 =>
    simp at hx hy
    subst hx
    subst hy
    exact k
  | i + 2 => simp at hx
theorem parse_ok : PureOK Tryd.prog (GG m t fr) 21 parseG := by
  intro ps p hp
  unfold parseG at hp
  split at hp
  · rename_i s
    obtain ⟨hs, hp⟩ := br_run hp
    have hs := okS_le hs
    refine PureAt.lits (vs := [.string s]) fun w C hK hG hO => ?_
    have h := parse_calls (ls s) (by rw [ls_len]; omega) w hK hG hO
    rw [bs_ls] at h
    refine h.mono ?_
    have hlen : (spansS (ls s)).length = (splitC 44 (ls s)).length := by simp [spansS]
    rintro e w' ⟨hb, ⟨h1, rfl⟩ | ⟨h1, h2, rfl⟩ | ⟨h1, h2, v, rfl, h3⟩⟩
    · have h1 : areS (ls s) = false := h1
      rw [h1] at hp
      simp only [Tr.run, cond_false, Option.some.injEq] at hp
      subst hp
      exact ⟨Keeps.of_below hb fun _ h => h, tup2_rep (.lit _ _) (.lit _ _)⟩
    · have h1 : areS (ls s) = true := h1
      have h2 : Nat.ble (spansS (ls s)).length 1024 = false := by rw [Bool.eq_false_iff, ne_eq, Nat.ble_eq]; omega
      rw [h1, h2] at hp
      simp only [Tr.run, cond_false, cond_true, Option.some.injEq] at hp
      subst hp
      exact ⟨Keeps.of_below hb fun _ h => h, tup2_rep (.lit _ _) (.lit _ _)⟩
    · have h1 : areS (ls s) = true := h1
      have h2 : Nat.ble (spansS (ls s)).length 1024 = true := Nat.ble_eq_true_of_le (by omega)
      rw [h1, h2] at hp
      simp only [Tr.run, cond_true, Option.some.injEq] at hp
      subst hp
      refine ⟨Keeps.of_below hb fun _ h => h, tup2_rep (sRow_rep (e := 44) ?_) (.lit _ _)⟩
      rw [hlen]
      exact h3
  · cases hp
def nsPure : List (Nat × (List PV → Tr PV)) := (21, parseG) :: (33, endG) :: (34, wordG) :: libPure
theorem nsPure_ok : TabOK Tryd.prog (GG m t fr) nsPure :=
  TabOK.cons parse_ok (fn := Tryd.f21) (by kernel_rfl) (by kernel_rfl) (TabOK.cons end_ok (fn := Tryd.f33) (by kernel_rfl) (by kernel_rfl) (TabOK.cons word_ok (fn := Tryd.f34) (by kernel_rfl) (by kernel_rfl) libPure_ok))
noncomputable abbrev E2 (G : GT) : Env := envOf Tryd.prog G nsPure libFull
theorem E2_ok : (E2 (GG m t fr)).ok Tryd.prog (GG m t fr) := envOf_ok mixed nsPure_ok libFull_ok
end
end Go.Proofs.YtbpmfaghjlmjmaaDoor.Ev
