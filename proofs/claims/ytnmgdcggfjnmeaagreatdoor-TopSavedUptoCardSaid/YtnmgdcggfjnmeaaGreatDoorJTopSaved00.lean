/- JTopSaved00: several texts in one. Condition: each part's own. -/
import Derived.RangeFuncNested
import Derived.RangeFuncBox
import Derived.RangeFuncLeaves
/- A range over a function that keeps state of its own in a variable that it has captured. No condition. -/
namespace Go.Proofs.YtnmgdcggfjnmeaaGreatDoor.Seq
open Go Go.RowKit
set_option linter.unusedVariables false
set_option linter.unusedSimpArgs false
/-- what is to be known of an iterator: at whatever facts a caller keeps (`J`: so many have come; `Jx`: a round has left), if these abide the iterator's own steps `X`, and each round keeps `K` -/
def Gives {α : Type} (P : Program) (g : Nat) (lb : Array Value) (encs : α → Array Value) (X K : World → World → Prop) (all : List α) (w : World) : Prop :=
  ∀ (l : Nat) (J Jx : List α → World → Prop) (W : World), Below w.heap.size w W → (∀ pre A B, J pre A → X A B → J pre B) →
    (∀ pre x A, J pre A → pre ++ [x] <+: all → YieldAt Fence.wide 0 P l (encs x) A fun e B => (e = .returned (.bool true) ∧ J (pre ++ [x]) B ∧ K A B) ∨ (e = .returned (.bool false) ∧ Jx (pre ++ [x]) B)) →
    J [] W → CallsIn Fence.wide 0 P g (#[.func (.yield l) #[] #[]] ++ lb) W fun e B => (∃ v, e = .returned v) ∧ (J all B ∨ ∃ pre, pre <+: all ∧ Jx pre B)
/-- how a round may end: it goes on, or it leaves the function -/
def roundOut {α : Type} (K : World → World → Prop) (I Ix : List α → World → Prop) (xs : List α) (W : World) : Exit → Act → World → Prop
  | .normal, _, B => KeepsOthers W B ∧ K W B ∧ I xs B
  | .ret, _, B => KeepsOthers W B ∧ Ix xs B
  | _, _, _ => False
section
variable {P : Program} {α : Type}
theorem range_box {g : Operand} {ps : Array Tmp} {assign body : Code} {Q : Exit → Act → World → Prop} {a : Act} {w : World} {gf : Nat} {lb : Array Value} (hg : a.eval g = .func (.func gf) #[] lb)
    (eg : ∀ args w, (callFunc gf args).run P w = .ok (.enter gf args) w) {encs : α → Array Value} (hps : ∀ x, (encs x).size = ps.size) {X K : World → World → Prop} {all : List α} (hseq : Gives P gf lb encs X K all w)
    (hX : ∀ A B k o, w.heap.size ≤ k → A.heap[k]? = some o → X A B → B.heap[k]? = some o) (hK : ∀ {A B C}, K A B → K B C → K A C) (hKb : ∀ A l o, w.heap.size ≤ l → K A (A.putObj l o))
    (I Ix : List α → World → Prop) (hI : OwnFrom w.heap.size I) (hIx : OwnFrom w.heap.size Ix) (hIX : ∀ pre A B, I pre A → X A B → I pre B) (h0 : I [] w) (a₁ : α → Act)
    (hassign : ∀ (l : Nat) (x : α) (W : World) (k : Act → World → Prop), k (a₁ x) W →
      assign.wpIn (Fence.wide.inRound l) 0 P (Exit.then k (fun _ _ _ => False)) { tmps := (ps.zip (encs x)).foldl (fun t (p, v) => t.setIfInBounds p v) a.tmps, defers := [] } W)
    (hbody : ∀ (l : Nat) (pre : List α) (x : α) (W : World), I pre W → pre ++ [x] <+: all → body.wpIn (Fence.wide.inRound l) 0 P (roundOut K I Ix (pre ++ [x]) W) (a₁ x) W)
    (hdone : ∀ (D : Nat) (W : World), w.heap.size ≤ D → I all W → W.heap[D]? = some (.deferred (some [])) → Q .normal { a with defers := { target := .collected D, args := #[] } :: a.defers } W)
    (hstop : ∀ (D : Nat) (pre : List α) (W : World), w.heap.size ≤ D → pre <+: all → Ix pre W → W.heap[D]? = some (.deferred (some [])) → Code.ret.wpIn Fence.wide 0 P Q { a with defers := { target := .collected D, args := #[] } :: a.defers } W) :
    (Code.rangeFunc g ps assign body).wpIn Fence.wide 0 P Q a w := by
  refine wpIn_rangeFunc fun fn hfn => ?_
  let rc : LoopState → Option Code → Obj := fun st pe => .loop { state := st, pending := pe, fn, tmps := a.tmps, params := ps, assign, body, defers := w.heap.size }
  let D := w.heap.size
  let l := w.heap.size + 1
  let w1 : World := w.alloc (.deferred (some []))
  let w2 : World := w1.alloc (rc .ready none)
  have s1 : w1.heap.size = l := World.size_alloc w _
  have at2 : w2.heap[l]? = some (rc .ready none) := by
    have := World.alloc_heap_new w1 (rc .ready none)
    rwa [s1] at this
  have at1 : w2.heap[D]? = some (.deferred (some [])) := (Below.heap_alloc _ _ _ (by rw [s1]; exact Nat.lt_succ_self _)).trans (World.alloc_heap_new w _)
  have below2 : Below w.heap.size w w2 := ((Below.refl _ w).alloc (Nat.le_refl _) _).alloc (by rw [s1]; exact Nat.le_succ _) _
  -- the two blocks of the loop, beside the caller's facts
  let J : List α → World → Prop := fun pre W => I pre W ∧ W.heap[l]? = some (rc .ready none) ∧ W.heap[D]? = some (.deferred (some []))
  let Jx : List α → World → Prop := fun pre W => Ix pre W ∧ W.heap[l]? = some (rc .done (some .ret)) ∧ W.heap[D]? = some (.deferred (some []))
  have J0 : J [] w2 := ⟨hI.alloc _ (hI.alloc _ h0), at2, at1⟩
  have JX : ∀ pre A B, J pre A → X A B → J pre B := fun pre A B h hx => ⟨hIX pre A B h.1 hx, hX A B l _ (Nat.le_succ _) h.2.1 hx, hX A B D _ (Nat.le_refl _) h.2.2 hx⟩
  refine ⟨l, [{ target := .collected D, args := #[] }], w2, { target := .fn (.func gf) lb, args := #[.func (.yield l) #[] #[]] }, w2, gf, #[.func (.yield l) #[] #[]] ++ lb, w2, run_enterLoop_outer _ _ _ _ _, ?_, ?_, ?_, (fun h => by cases h), ?_⟩
  · simp only [resolve, hg]
    simp [go_sem]
  · intro f' _
    trivial
  · simp [invoke, go_sem, eg]
  refine (hseq l J Jx w2 below2 JX ?_ J0).mono ?_
  · rintro pre x W ⟨hi, hl, hd⟩ hpre
    have hlt : l < W.heap.size := (Array.getElem?_eq_some_iff.1 hl).1
    have hDl : D ≠ l := Nat.ne_of_lt (Nat.lt_succ_self _)
    refine ⟨fn, _, assign, body, run_yield (P := P) (args := encs x) hl (hps x), roundIn_of_wpIn hfn (hassign _ x W _ ⟨_, run_beginRound hl rfl, ?_⟩)⟩
    have busy : (W.putObj l (rc .busy none)).heap[l]? = some (rc .busy none) := World.putObj_heap_same hlt
    have hd2 : (W.putObj l (rc .busy none)).heap[D]? = some (.deferred (some [])) := (World.putObj_heap_other hDl).trans hd
    refine wpIn_mono (hbody l pre x _ (hI.putObj _ hi (Nat.le_succ _) hl rfl) hpre) fun e a3 W3 hp => ?_
    cases e with
    | normal =>
      obtain ⟨k3, kk, i3⟩ := hp
      have hl3 : W3.heap[l]? = some (rc .busy none) := k3.same _ _ busy rfl
      exact ⟨_, _, run_endRound (P := P) none hl3, .inl ⟨rfl, ⟨hI.putObj _ i3 (Nat.le_succ _) hl3 rfl, World.putObj_heap_same (Array.getElem?_eq_some_iff.1 hl3).1, (World.putObj_heap_other hDl).trans (k3.same _ _ hd2 rfl)⟩,
        hK (hK (hKb W l _ (Nat.le_succ _)) kk) (hKb _ l _ (Nat.le_succ _))⟩⟩
    | ret =>
      obtain ⟨k3, i3⟩ := hp
      have hl3 : W3.heap[l]? = some (rc .busy none) := k3.same _ _ busy rfl
      exact ⟨_, _, run_endRound (P := P) (some .ret) hl3, .inr ⟨rfl, hIx.putObj _ i3 (Nat.le_succ _) hl3 rfl, World.putObj_heap_same (Array.getElem?_eq_some_iff.1 hl3).1, (World.putObj_heap_other hDl).trans (k3.same _ _ hd2 rfl)⟩⟩
    | _ => exact hp.elim
  · have hDl : D ≠ l := Nat.ne_of_lt (Nat.lt_succ_self _)
    rintro e W ⟨⟨v, rfl⟩, ⟨hi, hl, hd⟩ | ⟨pre, hpre, hi, hl, hd⟩⟩
    · exact ⟨none, _, run_endLoop (P := P) hl (fun h => by cases h), hdone D _ (Nat.le_refl _) (hI.putObj _ hi (Nat.le_succ _) hl rfl) ((World.putObj_heap_other hDl).trans hd)⟩
    · exact ⟨some .ret, _, run_endLoop (P := P) hl (fun h => by cases h), hstop D pre _ (Nat.le_refl _) hpre (hIx.putObj _ hi (Nat.le_succ _) hl rfl) ((World.putObj_heap_other hDl).trans hd)⟩
end
end Go.Proofs.YtnmgdcggfjnmeaaGreatDoor.Seq
