/- A chain of tests joined by '||' in one region, taken limb by limb: what stands in the slots is told by a list. No condition. -/
import Derived.Test.YtdpbaagpekhipaaGreatDoorProg
import Derived.WalkKit
import Derived.Test.YtdpbaagpekhipaaGreatDoorKZW0
namespace Go.Proofs.YtdpbaagpekhipaaGreatDoor.Chain
open Go Go.RowKit Go.Proofs.YtdpbaagpekhipaaGreatDoorW.PrintWords
set_option linter.unusedVariables false
set_option linter.unusedSimpArgs false
/-- n slots, those on the list with their values -/
structure Has (a : Act) (n : Nat) (L : List (Nat × Value)) : Prop where
  size : a.tmps.size = n
  here : ∀ p ∈ L, a.tmps[p.1]? = some p.2
theorem Has.eval {a : Act} {n t : Nat} {L : List (Nat × Value)} {v : Value} (h : Has a n L) (hm : (t, v) ∈ L) : a.eval (.tmp t) = v := by
  have := h.here _ hm
  simp [Act.eval, Array.getD_eq_getD_getElem?, this]
theorem Has.less {a : Act} {n : Nat} {L L' : List (Nat × Value)} (h : Has a n L) (hs : ∀ p ∈ L', p ∈ L) : Has a n L' := ⟨h.size, fun p hp => h.here p (hs p hp)⟩
theorem Has.put {a : Act} {n d : Nat} {L : List (Nat × Value)} (h : Has a n L) (hd : d < n) (hf : ∀ p ∈ L, p.1 ≠ d) (v : Value) : Has (a.put (some d) v) n ((d, v) :: L) := by
  refine ⟨by simp [Act.put, h.size], fun p hp => ?_⟩
  rcases List.mem_cons.1 hp with rfl | hp
  · have : d < a.tmps.size := by rw [h.size]; exact hd
    simp [Act.put, Array.getElem?_setIfInBounds, this]
  · have hne := hf p hp
    simp only [Act.put]
    rw [Array.getElem?_setIfInBounds_ne (fun e => hne e.symm)]
    exact h.here p hp
section
variable {P : Program} {ops : Array Oper} {Q : Exit → Act → World → Prop} {w : World}
/-- what an operation is, without its place in the text -/
def view (o : Oper) : Op × Option Tmp × Option (Nat × Bool) := (o.op, o.dst, o.guard)
theorem of_view {i : Nat} {x : Op} {d : Option Tmp} {g : Option (Nat × Bool)} (h : (ops[i]?).map view = some (x, d, g)) : ∃ o, ops[i]? = some o ∧ o.op = x ∧ o.dst = d ∧ o.guard = g := by
  cases ho : ops[i]? with
  | none => rw [ho] at h; cases h
  | some o =>
    rw [ho] at h
    simp only [Option.map_some, view, Option.some.injEq, Prod.mk.injEq] at h
    exact ⟨o, rfl, h.1, h.2.1, h.2.2⟩
theorem op_plain {i : Nat} {rest : List Nat} {a : Act} {n d : Nat} {L : List (Nat × Value)} {x : Op} {v : Value} (hH : Has a n L) (ho : (ops[i]?).map view = some (x, some d, none)) (hdn : d < n) (hf : ∀ p ∈ L, p.1 ≠ d)
    (hx : ∀ o : Oper, o.op = x → (execOp a.eval o).run P w = .ok (.value v) w) (h : ∀ a', a'.defers = a.defers → Has a' n ((d, v) :: L) → wpOps P ops Q rest a' w) : wpOps P ops Q (i :: rest) a w := by
  obtain ⟨o, ho, h1, hd, hg⟩ := of_view ho
  unfold wpOps
  rw [ho]
  have hw : Region.wanted o (yielded ops a.tmps) = true := by unfold Region.wanted; rw [hg]
  dsimp only
  rw [if_pos hw]
  left
  unfold Oper.wp
  rw [hx o h1, Oper.upon_value, hd]
  exact h _ rfl (hH.put hdn hf v)
theorem op_guard {i j g : Nat} {rest : List Nat} {a : Act} {n d : Nat} {L : List (Nat × Value)} {x : Op} {v : Value} {b want : Bool} (hH : Has a n L) (ho : (ops[i]?).map view = some (x, some d, some (j, want))) (hj : (ops[j]?).bind (·.dst) = some g) (hb : (g, Value.bool b) ∈ L)
    (hdn : d < n) (hf : ∀ p ∈ L, p.1 ≠ d)
    (hx : b = want → ∀ o : Oper, o.op = x → (execOp a.eval o).run P w = .ok (.value v) w) (h : ∀ a', a'.defers = a.defers → Has a' n ((d, if b = want then v else undef) :: L) → wpOps P ops Q rest a' w) : wpOps P ops Q (i :: rest) a w := by
  obtain ⟨o, ho, h1, hd, hg⟩ := of_view ho
  unfold wpOps
  rw [ho]
  have hy : yielded ops a.tmps j = some b := by
    unfold yielded
    rw [hj]
    simp [hH.here _ hb]
  have hw : Region.wanted o (yielded ops a.tmps) = decide (b = want) := by
    unfold Region.wanted
    rw [hg]
    simp only [hy]
    cases b <;> cases want <;> rfl
  dsimp only
  rw [hw]
  by_cases e : b = want
  · rw [if_pos (by simpa using e)]
    left
    unfold Oper.wp
    rw [hx e o h1, Oper.upon_value, hd]
    have := hH.put hdn hf v
    rw [if_pos e] at h
    exact h _ rfl this
  · rw [if_neg (by simpa using e), hd]
    have := hH.put hdn hf undef
    rw [if_neg e] at h
    exact h _ rfl this
theorem op_skip {i j g : Nat} {rest : List Nat} {a : Act} {n d : Nat} {L : List (Nat × Value)} {x : Op} {want : Bool} (hH : Has a n L) (ho : (ops[i]?).map view = some (x, some d, some (j, want))) (hj : (ops[j]?).bind (·.dst) = some g) (hb : (g, undef) ∈ L)
    (hdn : d < n) (hf : ∀ p ∈ L, p.1 ≠ d) (h : ∀ a', a'.defers = a.defers → Has a' n ((d, undef) :: L) → wpOps P ops Q rest a' w) : wpOps P ops Q (i :: rest) a w := by
  obtain ⟨o, ho, h1, hd, hg⟩ := of_view ho
  unfold wpOps
  rw [ho]
  have hy : yielded ops a.tmps j = none := by
    unfold yielded
    rw [hj]
    simp [hH.here _ hb, undef]
  have hw : Region.wanted o (yielded ops a.tmps) = false := by
    unfold Region.wanted
    rw [hg]
    simp only [hy]
    rfl
  dsimp only
  rw [if_neg (by rw [hw]; exact Bool.false_ne_true), hd]
  exact h _ rfl (hH.put hdn hf undef)
theorem run_move (ρ : Operand → Value) {x : Operand} {o : Oper} (h : o.op = .move x) : (execOp ρ o).run P w = .ok (.value (ρ x)) w := by
  unfold execOp
  rw [h]
  rfl
theorem run_pick {ρ : Operand → Value} {c : Bool} {x y z : Operand} {o : Oper} (h : o.op = .pick x y z) (hc : ρ x = .bool c) : (execOp ρ o).run P w = .ok (.value (if c = true then ρ y else ρ z)) w := by
  unfold execOp
  rw [h]
  cases c <;> simp [hc, go_sem]
theorem run_neq {ρ : Operand → Value} {k : IntKind} {z c : Int} {T T' : TypeId} {X : Operand} {o : Oper} (h : o.op = .binOp .neq T X (.const (.int k c)) T') (hx : ρ X = .int k z) (hc : ρ (.const (.int k c)) = .int k c) :
    (execOp ρ o).run P w = .ok (.value (.bool (z != c))) w := by
  unfold execOp
  rw [h]
  simp [hx, hc, go_sem]
theorem run_lss {ρ : Operand → Value} {z c : Int} {T T' : TypeId} {X : Operand} {o : Oper} (h : o.op = .binOp .lss T X (.const (.int .i64 c)) T') (hx : ρ X = .int .i64 z) (hc : ρ (.const (.int .i64 c)) = .int .i64 c) :
    (execOp ρ o).run P w = .ok (.value (.bool (decide (z < c)))) w := by
  unfold execOp
  rw [h]
  simp [hx, hc, go_sem]
theorem run_gtr {ρ : Operand → Value} {z c : Int} {T T' : TypeId} {X : Operand} {o : Oper} (h : o.op = .binOp .gtr T X (.const (.int .i64 c)) T') (hx : ρ X = .int .i64 z) (hc : ρ (.const (.int .i64 c)) = .int .i64 c) :
    (execOp ρ o).run P w = .ok (.value (.bool (decide (z > c)))) w := by
  unfold execOp
  rw [h]
  simp [hx, hc, go_sem]
theorem run_index {ρ : Operand → Value} {s : ByteArray} {i : Nat} {T : TypeId} {X : Operand} {o : Oper} (h : o.op = .index T X (.const (.int .i64 i))) (hx : ρ X = .string s) (hc : ρ (.const (.int .i64 i)) = .int .i64 i) (hT : P.underlying T = some .string) (hi : i < s.size) :
    (execOp ρ o).run P w = .ok (.value (.int .u8 s[i].toNat)) w := by
  unfold execOp
  rw [h]
  simp [hx, hc, go_sem, hT, hi]
/-- a limb that compares a slot's number: the chain's truth so far, or this test -/
theorem limb4 {i acc src d1 d2 d3 d4 n : Nat} {rest : List Nat} {a : Act} {L : List (Nat × Value)} {b c : Bool} {v : Value} {x3 : Op}
    (hH : Has a n L) (hacc : (acc, .bool b) ∈ L) (hsrc : (src, v) ∈ L)
    (h1 : (ops[i]?).map view = some (.move (.tmp acc), some d1, none)) (h2 : (ops[i + 1]?).map view = some (.move (.tmp src), some d2, some (i, false)))
    (h3 : (ops[i + 2]?).map view = some (x3, some d3, some (i, false))) (h4 : (ops[i + 3]?).map view = some (.pick (.tmp d1) (.const (.bool true)) (.tmp d3), some d4, none))
    (hn : d1 < n ∧ d2 < n ∧ d3 < n ∧ d4 < n) (hdist : d1 ≠ d2 ∧ d1 ≠ d3 ∧ d1 ≠ d4 ∧ d2 ≠ d3 ∧ d2 ≠ d4 ∧ d3 ≠ d4) (hf : ∀ p ∈ L, p.1 ≠ d1 ∧ p.1 ≠ d2 ∧ p.1 ≠ d3 ∧ p.1 ≠ d4)
    (hcmp : ∀ ρ : Operand → Value, (∀ z, ρ (.const z) = z) → ρ (.tmp d2) = v → ∀ o : Oper, o.op = x3 → (execOp ρ o).run P w = .ok (.value (.bool c)) w)
    (h : ∀ a', a'.defers = a.defers → Has a' n ((d4, .bool (b || c)) :: L) → wpOps P ops Q rest a' w) : wpOps P ops Q (i :: (i + 1) :: (i + 2) :: (i + 3) :: rest) a w := by
  have hj : (ops[i]?).bind (·.dst) = some d1 := by
    obtain ⟨o, e, _, e2, _⟩ := of_view h1
    rw [e]; exact e2
  refine op_plain (v := .bool b) hH h1 hn.1 (fun p hp => (hf p hp).1) (fun o ho => by rw [run_move _ ho, hH.eval hacc]) (fun a1 q1 H1 => ?_)
  refine op_guard (v := v) (b := b) (want := false) (g := d1) (j := i) H1 h2 hj (by simp) hn.2.1 ?_ (fun _ o ho => by rw [run_move _ ho, H1.eval (List.mem_cons_of_mem _ hsrc)]) (fun a2 q2 H2 => ?_)
  · intro p hp
    rcases List.mem_cons.1 hp with rfl | hp
    · exact hdist.1
    · exact (hf p hp).2.1
  refine op_guard (v := .bool c) (b := b) (want := false) (g := d1) (j := i) H2 h3 hj (by simp) hn.2.2.1 ?_ ?_ (fun a3 q3 H3 => ?_)
  · intro p hp
    rcases List.mem_cons.1 hp with rfl | hp
    · exact hdist.2.2.2.1
    · rcases List.mem_cons.1 hp with rfl | hp
      · exact hdist.2.1
      · exact (hf p hp).2.2.1
  · intro hb
    refine hcmp _ (fun _ => rfl) ?_
    rw [H2.eval (v := if b = false then v else undef) (by simp), if_pos hb]
  refine op_plain (v := .bool (b || c)) H3 h4 hn.2.2.2 ?_ (fun o ho => ?_) (fun a4 q4 H4 => ?_)
  · intro p hp
    rcases List.mem_cons.1 hp with rfl | hp
    · exact hdist.2.2.2.2.2
    · rcases List.mem_cons.1 hp with rfl | hp
      · exact hdist.2.2.2.2.1
      · rcases List.mem_cons.1 hp with rfl | hp
        · exact hdist.2.2.1
        · exact (hf p hp).2.2.2
  · rw [run_pick (c := b) ho (H3.eval (by simp)), H3.eval (t := d3) (v := if b = false then .bool c else undef) (by simp)]
    cases b <;> rfl
  · exact h a4 (by rw [q4, q3, q2, q1]) (H4.less (by intro p hp; rcases List.mem_cons.1 hp with rfl | hp <;> simp [*]))
/-- a limb that compares a text's byte -/
theorem limb5 {i acc src d1 d2 d3 d4 d5 n k : Nat} {rest : List Nat} {a : Act} {L : List (Nat × Value)} {b c : Bool} {s : ByteArray} {x4 : Op} {T : TypeId}
    (hH : Has a n L) (hacc : (acc, .bool b) ∈ L) (hsrc : (src, .string s) ∈ L) (hT : P.underlying T = some .string) (hk : k < s.size)
    (h1 : (ops[i]?).map view = some (.move (.tmp acc), some d1, none)) (h2 : (ops[i + 1]?).map view = some (.move (.tmp src), some d2, some (i, false)))
    (h3 : (ops[i + 2]?).map view = some (.index T (.tmp d2) (.const (.int .i64 k)), some d3, some (i, false))) (h4 : (ops[i + 3]?).map view = some (x4, some d4, some (i, false)))
    (h5 : (ops[i + 4]?).map view = some (.pick (.tmp d1) (.const (.bool true)) (.tmp d4), some d5, none))
    (hn : d1 < n ∧ d2 < n ∧ d3 < n ∧ d4 < n ∧ d5 < n) (hdist : d1 ≠ d2 ∧ d1 ≠ d3 ∧ d1 ≠ d4 ∧ d1 ≠ d5 ∧ d2 ≠ d3 ∧ d2 ≠ d4 ∧ d2 ≠ d5 ∧ d3 ≠ d4 ∧ d3 ≠ d5 ∧ d4 ≠ d5) (hf : ∀ p ∈ L, p.1 ≠ d1 ∧ p.1 ≠ d2 ∧ p.1 ≠ d3 ∧ p.1 ≠ d4 ∧ p.1 ≠ d5)
    (hcmp : ∀ ρ : Operand → Value, (∀ z, ρ (.const z) = z) → ρ (.tmp d3) = .int .u8 s[k].toNat → ∀ o : Oper, o.op = x4 → (execOp ρ o).run P w = .ok (.value (.bool c)) w)
    (h : ∀ a', a'.defers = a.defers → Has a' n ((d5, .bool (b || c)) :: L) → wpOps P ops Q rest a' w) : wpOps P ops Q (i :: (i + 1) :: (i + 2) :: (i + 3) :: (i + 4) :: rest) a w := by
  have hj : (ops[i]?).bind (·.dst) = some d1 := by
    obtain ⟨o, e, _, e2, _⟩ := of_view h1
    rw [e]; exact e2
  refine op_plain (v := .bool b) hH h1 hn.1 (fun p hp => (hf p hp).1) (fun o ho => by rw [run_move _ ho, hH.eval hacc]) (fun a1 q1 H1 => ?_)
  refine op_guard (v := .string s) (b := b) (want := false) (g := d1) (j := i) H1 h2 hj (by simp) hn.2.1 ?_ (fun _ o ho => by rw [run_move _ ho, H1.eval (List.mem_cons_of_mem _ hsrc)]) (fun a2 q2 H2 => ?_)
  · intro p hp
    rcases List.mem_cons.1 hp with rfl | hp
    · exact hdist.1
    · exact (hf p hp).2.1
  refine op_guard (v := .int .u8 s[k].toNat) (b := b) (want := false) (g := d1) (j := i) H2 h3 hj (by simp) hn.2.2.1 ?_ ?_ (fun a3 q3 H3 => ?_)
  · intro p hp
    rcases List.mem_cons.1 hp with rfl | hp
    · exact hdist.2.2.2.2.1
    · rcases List.mem_cons.1 hp with rfl | hp
      · exact hdist.2.1
      · exact (hf p hp).2.2.1
  · intro hb o ho
    exact run_index ho (by rw [H2.eval (v := if b = false then .string s else undef) (by simp), if_pos hb]) rfl hT hk
  refine op_guard (v := .bool c) (b := b) (want := false) (g := d1) (j := i) H3 h4 hj (by simp) hn.2.2.2.1 ?_ ?_ (fun a4 q4 H4 => ?_)
  · intro p hp
    rcases List.mem_cons.1 hp with rfl | hp
    · exact hdist.2.2.2.2.2.2.2.1
    · rcases List.mem_cons.1 hp with rfl | hp
      · exact hdist.2.2.2.2.2.1
      · rcases List.mem_cons.1 hp with rfl | hp
        · exact hdist.2.2.1
        · exact (hf p hp).2.2.2.1
  · intro hb
    refine hcmp _ (fun _ => rfl) ?_
    rw [H3.eval (v := if b = false then .int .u8 s[k].toNat else undef) (by simp), if_pos hb]
  refine op_plain (v := .bool (b || c)) H4 h5 hn.2.2.2.2 ?_ (fun o ho => ?_) (fun a5 q5 H5 => ?_)
  · intro p hp
    rcases List.mem_cons.1 hp with rfl | hp
    · exact hdist.2.2.2.2.2.2.2.2.2
    · rcases List.mem_cons.1 hp with rfl | hp
      · exact hdist.2.2.2.2.2.2.2.2.1
      · rcases List.mem_cons.1 hp with rfl | hp
        · exact hdist.2.2.2.2.2.2.1
        · rcases List.mem_cons.1 hp with rfl | hp
          · exact hdist.2.2.2.1
          · exact (hf p hp).2.2.2.2
  · rw [run_pick (c := b) ho (H4.eval (by simp)), H4.eval (t := d4) (v := if b = false then .bool c else undef) (by simp)]
    cases b <;> rfl
  · exact h a5 (by rw [q5, q4, q3, q2, q1]) (H5.less (by intro p hp; rcases List.mem_cons.1 hp with rfl | hp <;> simp [*]))
theorem Has.nil {a : Act} {n : Nat} (h : a.tmps.size = n) : Has a n [] := ⟨h, fun p hp => by cases hp⟩
theorem Has.cons {a : Act} {n t : Nat} {L : List (Nat × Value)} {v : Value} (h : Has a n L) (ht : a.tmps[t]? = some v) : Has a n ((t, v) :: L) := ⟨h.size, fun p hp => by
  rcases List.mem_cons.1 hp with rfl | hp
  · exact ht
  · exact h.here p hp⟩
theorem wpOps_of_eq {ops ops' : Array Oper} {a : Act} {l : List Nat} (h : ops = ops') (hl : List.range ops.size = l) (hw : wpOps P ops' Q l a w) : wpOps P ops Q (List.range ops.size) a w := by
  rw [hl, h]; exact hw
end
end Go.Proofs.YtdpbaagpekhipaaGreatDoor.Chain

