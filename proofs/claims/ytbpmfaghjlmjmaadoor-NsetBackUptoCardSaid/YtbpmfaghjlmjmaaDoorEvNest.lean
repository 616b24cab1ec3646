/- A loop within a loop: the cuts of a function's body are those of its loop's. No condition. -/
import Derived.Test.YtbpmfaghjlmjmaaDoorEvStd
namespace Go.Proofs.YtbpmfaghjlmjmaaDoor.Ev
open Go Go.RowKit
set_option linter.unusedVariables false
theorem blocks_sub {id j : Nat} {b d : Code} : ∀ (c : Code), b ∈ blocksOf id c → d ∈ blocksOf j b → d ∈ blocksOf j c := by
  intro c
  induction c <;> intro h hd
  case seq x y hx hy =>
    simp only [blocksOf, List.mem_append] at h ⊢
    exact h.imp (hx · hd) (hy · hd)
  case cond p x y hx hy =>
    simp only [blocksOf, List.mem_append] at h ⊢
    exact h.imp (hx · hd) (hy · hd)
  case block i c hc =>
    have key : d ∈ blocksOf j c := by
      simp only [blocksOf] at h
      split at h
      · rcases List.mem_cons.1 h with rfl | h
        · exact hd
        · exact hc h hd
      · exact hc h hd
    simp only [blocksOf]
    split
    · exact List.mem_cons_of_mem _ key
    · exact key
  case loop c hc => exact hc h hd
  case scope c hc => exact hc h hd
  all_goals exact absurd h (by simp [blocksOf])
theorem scopes_sub {id l : Nat} {b d : Code} : ∀ (c : Code), b ∈ blocksOf id c → d ∈ scopesOf l b → d ∈ scopesOf l c := by
  intro c
  induction c <;> intro h hd
  case seq x y hx hy =>
    simp only [blocksOf, scopesOf, List.mem_append] at h ⊢
    exact h.imp (hx · hd) (hy · hd)
  case cond p x y hx hy =>
    simp only [blocksOf, scopesOf, List.mem_append] at h ⊢
    exact h.imp (hx · hd) (hy · hd)
  case block i c hc =>
    simp only [blocksOf] at h
    split at h
    · rcases List.mem_cons.1 h with rfl | h
      · exact hd
      · exact hc h hd
    · exact hc h hd
  case loop c hc => exact hc h hd
  case scope c hc =>
    have key := hc h hd
    simp only [scopesOf]
    split
    · exact List.mem_cons_of_mem _ key
    · exact key
  all_goals exact absurd h (by simp [blocksOf])
theorem hasLoop_mem {id : Nat} {fn : Func} (h : hasLoop id fn = true) {c : Code} (hc : fn.body = some c) : .loop (theLoop id fn) ∈ blocksOf id c := by
  unfold hasLoop at h
  unfold theLoop
  rw [hc] at h ⊢
  dsimp only at h ⊢
  split at h
  · rename_i x hx
    rw [hx]
    exact List.mem_singleton.2 rfl
  · cases h
theorem CutsOK.inner {x : Mode} {P : Program} {G : GT} {E : Env} {fn : Func} {id : Nat} (h1 : hasLoop id fn = true) (h : ∀ c, fn.body = some c → CutsOK x P G E c) : CutsOK x P G E (theLoop id fn) := by
  cases hc : fn.body with
  | none =>
    unfold hasLoop at h1
    rw [hc] at h1
    cases h1
  | some c =>
    have hm := hasLoop_mem h1 hc
    exact ⟨fun j g hg b hb => (h c hc).blk j g hg b (blocks_sub c hm hb), fun l g hg b hb => (h c hc).lab l g hg b (scopes_sub c hm hb)⟩
theorem CutLaws.inner {x : Mode} {P : Program} {G : GT} {fn : Func} {E : Env} {id : Nat} (h1 : hasLoop id fn = true) (h : CutLaws x P G fn E.cuts) : CutsOK x P G E (theLoop id fn) := CutsOK.inner h1 (CutLaws.ok h)
end Go.Proofs.YtbpmfaghjlmjmaaDoor.Ev
