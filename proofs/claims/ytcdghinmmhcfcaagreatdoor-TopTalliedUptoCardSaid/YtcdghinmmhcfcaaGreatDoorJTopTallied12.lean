/- JTopTallied12: several texts in one. Condition: each part's own. -/
import Derived.Test.YtcdghinmmhcfcaaGreatDoorJTopTallied11
import Derived.Test.YtcdghinmmhcfcaaGreatDoorCards
import Derived.Test.YtcdghinmmhcfcaaGreatDoorTie
import Derived.WalkKit
import Derived.ProofKit
import Derived.OpenShut
import Derived.ShutString
import Derived.Below
import Derived.SizedLaws
import Derived.Lib.SmallJoins
import Derived.Deep.DeepHandedRow
import Derived.Lib.LaidTab
import Derived.Lib.LaidU8
import Derived.MakeChecks
import Derived.Lay
import Derived.Shelf.Vars
import Derived.Test.YtcdghinmmhcfcaaGreatDoorJTopTallied08
import Derived.Stop.LaidErr
/- nset: numbers packed; the document's; lists compared. No condition. -/
namespace Go.Proofs.YtcdghinmmhcfcaaGreatDoor.Ev
open Go Go.RowKit Go.Proofs Go.Proofs.YtcdghinmmhcfcaaGreatDoor.Str
set_option linter.unusedVariables false
set_option linter.unusedSimpArgs false
section
variable {m : Int} {t : TypeId} {fr : Nat × Nat}
/-! ### rows of numbers -/
def nu (l : List Int) (i : Nat) : Int := l.getD i 0
def nRow (l : List Int) (i : Nat) : List PV := [.lit (.int .u32 (nu l i))]
def numOf : List PV → Int
  | [.lit (.int .u32 a)] => a
  | _ => 0
def isNum : List PV → Bool
  | [.lit (.int .u32 a)] => decide (0 ≤ a) && decide (a < 4294967296)
  | _ => false
def numsOf (n : Nat) (f : Nat → List PV) : List Int := (List.range n).map fun i => numOf (f i)
def areNums (n : Nat) (f : Nat → List PV) : Bool := (List.range n).all fun i => isNum (f i)
def u32N (a : Int) : Bool := decide (0 ≤ a) && decide (a < 4294967296)
theorem nums_len (n : Nat) (f : Nat → List PV) : (numsOf n f).length = n := by simp [numsOf]
theorem isNum_eq {l : List PV} (h : isNum l = true) : l = [.lit (.int .u32 (numOf l))] ∧ u32N (numOf l) = true := by
  unfold isNum at h
  split at h
  · exact ⟨rfl, h⟩
  · cases h
theorem nums_row {n : Nat} {f : Nat → List PV} (h : areNums n f = true) (i : Nat) (hi : i < n) : f i = nRow (numsOf n f) i := by
  have h1 := List.all_eq_true.1 h i (List.mem_range.2 hi)
  have h2 : nu (numsOf n f) i = numOf (f i) := by simp [nu, numsOf, hi]
  unfold nRow
  rw [h2]
  exact (isNum_eq h1).1
theorem nums_u32 {n : Nat} {f : Nat → List PV} (h : areNums n f = true) : (numsOf n f).all u32N = true := by
  rw [List.all_eq_true]
  intro x hx
  simp only [numsOf, List.mem_map, List.mem_range] at hx
  obtain ⟨i, hi, rfl⟩ := hx
  exact (isNum_eq (List.all_eq_true.1 h i (List.mem_range.2 hi))).2
theorem nums_nRow (l : List Int) : numsOf l.length (nRow l) = l := by
  unfold numsOf
  refine List.ext_getElem (by simp) fun i h1 h2 => ?_
  simp [nRow, numOf, nu, h2]
theorem are_nRow {l : List Int} (h : l.all u32N = true) : areNums l.length (nRow l) = true := by
  unfold areNums
  rw [List.all_eq_true]
  intro i hi
  have hi := List.mem_range.1 hi
  have : nu l i = l[i] := by simp [nu, hi]
  have hu := List.all_eq_true.1 h l[i] (List.getElem_mem _)
  unfold nRow isNum
  rw [this]
  exact hu
theorem nu_drop {l : List Int} {i : Nat} {x : Int} {r : List Int} (h : l.drop i = x :: r) : i < l.length ∧ nu l i = x ∧ l.drop (i + 1) = r := by
  have hlt : i < l.length := by
    rcases Nat.lt_or_ge i l.length with h' | h'
    · exact h'
    · rw [List.drop_eq_nil_of_le h'] at h
      cases h
  rw [List.drop_eq_getElem_cons hlt] at h
  simp only [List.cons.injEq] at h
  refine ⟨hlt, ?_, h.2⟩
  rw [← h.1]
  simp [nu, hlt]
/-! ### Pack -/
def pkOuts : Exit → Outs
  | .normal => { ks := [0, 4, 8, 9, 10], rs := [.slot 4], nils := [(4, 83, 2)] }
  | .exit _ => { ks := [0, 4], rs := [.slot 4], nils := [(4, 83, 2)] }
  | _ => { ks := [2, 3] }
noncomputable abbrev pkRound (G : GT) := roundT Tryz.prog (E4 G) 60 G 70 pkOuts .normal (theLoop 0 Tryz.f26)
theorem pk_round (m : Int) (t : TypeId) (fr : Nat × Nat) (ns : List Int) (o : List Sp) (n k : Nat) (u i : Int) : (pkRound (GG m t fr) ([.gsl 1 n (nRow ns), .own 0, .gsl 1 n (nRow ns), int u, int i], [.row 83 2 k (sRow o)])).run2 =
 (bif (decide (i < u)) then
 bif (decide (i > (0 : Int))) then
 bif (decide ((nu ns (Int.toNat i)) ≤ (nu ns (Int.toNat (IntKind.wrap .i64 (i - (1 : Int))))))) then
 (.some ((.ret, ([(.lit (.slice .none 0 0)), (.lit (.int .i64 (12 : Int)))], [])), [((decide ((0 : Int) ≤ (IntKind.wrap .i64 (i - (1 : Int))))) && (Nat.blt (Int.toNat (IntKind.wrap .i64 (i - (1 : Int)))) n)), ((decide ((0 : Int) ≤ i)) && (Nat.blt (Int.toNat i) n))]))
 else bif (decide ((IntKind.wrap .i64 (((k : Nat) : Int) - (1 : Int))) ≥ (0 : Int))) then
 bif ((nu ns (Int.toNat i)) == (IntKind.wrap .u32 ((Prod.snd (sp o (Int.toNat (IntKind.wrap .i64 (((k : Nat) : Int) - (1 : Int)))))) + (1 : Int)))) then
 (.some ((.normal, ([(.gsl 1 n (fun i => [PV.lit (Value.int IntKind.u32 (nu ns i))])), (.own 0), (.gsl 1 n (fun i => [PV.lit (Value.int IntKind.u32 (nu ns i))])), (.lit (.int .i64 u)), (.lit (.int .i64 (IntKind.wrap .i64 (i + (1 : Int)))))], [(.row 83 2 k (rowSet (sRow o) (Int.toNat (IntKind.wrap .i64 (((k : Nat) : Int) - (1 : Int)))) 1 [(.lit (.int .u32 (nu ns (Int.toNat i))))]))])), [(Nat.blt (Int.toNat (IntKind.wrap .i64 (((k : Nat) : Int) - (1 : Int)))) k), ((decide ((0 : Int) ≤ (IntKind.wrap .i64 (((k : Nat) : Int) - (1 : Int))))) && (Nat.blt (Int.toNat (IntKind.wrap .i64 (((k : Nat) : Int) - (1 : Int)))) k)), (Nat.blt (Int.toNat (IntKind.wrap .i64 (((k : Nat) : Int) - (1 : Int)))) k), ((decide ((0 : Int) ≤ (IntKind.wrap .i64 (((k : Nat) : Int) - (1 : Int))))) && (Nat.blt (Int.toNat (IntKind.wrap .i64 (((k : Nat) : Int) - (1 : Int)))) k)), ((decide ((0 : Int) ≤ (IntKind.wrap .i64 (i - (1 : Int))))) && (Nat.blt (Int.toNat (IntKind.wrap .i64 (i - (1 : Int)))) n)), ((decide ((0 : Int) ≤ i)) && (Nat.blt (Int.toNat i) n))]))
 else (.some ((.normal, ([(.gsl 1 n (fun i => [PV.lit (Value.int IntKind.u32 (nu ns i))])), (.own 0), (.gsl 1 n (fun i => [PV.lit (Value.int IntKind.u32 (nu ns i))])), (.lit (.int .i64 u)), (.lit (.int .i64 (IntKind.wrap .i64 (i + (1 : Int)))))], [(.row 83 2 (k + 1) (rowApp k (sRow o) (rowOf [(.lit (.int .u32 (nu ns (Int.toNat i)))), (.lit (.int .u32 (nu ns (Int.toNat i))))] 2)))])), [(Nat.ble ((k + 1) * 8) (140737488355328 : Nat)), (Nat.blt (Int.toNat (IntKind.wrap .i64 (((k : Nat) : Int) - (1 : Int)))) k), ((decide ((0 : Int) ≤ (IntKind.wrap .i64 (((k : Nat) : Int) - (1 : Int))))) && (Nat.blt (Int.toNat (IntKind.wrap .i64 (((k : Nat) : Int) - (1 : Int)))) k)), ((decide ((0 : Int) ≤ (IntKind.wrap .i64 (i - (1 : Int))))) && (Nat.blt (Int.toNat (IntKind.wrap .i64 (i - (1 : Int)))) n)), ((decide ((0 : Int) ≤ i)) && (Nat.blt (Int.toNat i) n))]))
 else (.some ((.normal, ([(.gsl 1 n (fun i => [PV.lit (Value.int IntKind.u32 (nu ns i))])), (.own 0), (.gsl 1 n (fun i => [PV.lit (Value.int IntKind.u32 (nu ns i))])), (.lit (.int .i64 u)), (.lit (.int .i64 (IntKind.wrap .i64 (i + (1 : Int)))))], [(.row 83 2 (k + 1) (rowApp k (sRow o) (rowOf [(.lit (.int .u32 (nu ns (Int.toNat i)))), (.lit (.int .u32 (nu ns (Int.toNat i))))] 2)))])), [(Nat.ble ((k + 1) * 8) (140737488355328 : Nat)), ((decide ((0 : Int) ≤ (IntKind.wrap .i64 (i - (1 : Int))))) && (Nat.blt (Int.toNat (IntKind.wrap .i64 (i - (1 : Int)))) n)), ((decide ((0 : Int) ≤ i)) && (Nat.blt (Int.toNat i) n))]))
 else bif (decide ((IntKind.wrap .i64 (((k : Nat) : Int) - (1 : Int))) ≥ (0 : Int))) then
 bif ((nu ns (Int.toNat i)) == (IntKind.wrap .u32 ((Prod.snd (sp o (Int.toNat (IntKind.wrap .i64 (((k : Nat) : Int) - (1 : Int)))))) + (1 : Int)))) then
 (.some ((.normal, ([(.gsl 1 n (fun i => [PV.lit (Value.int IntKind.u32 (nu ns i))])), (.own 0), (.gsl 1 n (fun i => [PV.lit (Value.int IntKind.u32 (nu ns i))])), (.lit (.int .i64 u)), (.lit (.int .i64 (IntKind.wrap .i64 (i + (1 : Int)))))], [(.row 83 2 k (rowSet (sRow o) (Int.toNat (IntKind.wrap .i64 (((k : Nat) : Int) - (1 : Int)))) 1 [(.lit (.int .u32 (nu ns (Int.toNat i))))]))])), [(Nat.blt (Int.toNat (IntKind.wrap .i64 (((k : Nat) : Int) - (1 : Int)))) k), ((decide ((0 : Int) ≤ (IntKind.wrap .i64 (((k : Nat) : Int) - (1 : Int))))) && (Nat.blt (Int.toNat (IntKind.wrap .i64 (((k : Nat) : Int) - (1 : Int)))) k)), (Nat.blt (Int.toNat (IntKind.wrap .i64 (((k : Nat) : Int) - (1 : Int)))) k), ((decide ((0 : Int) ≤ (IntKind.wrap .i64 (((k : Nat) : Int) - (1 : Int))))) && (Nat.blt (Int.toNat (IntKind.wrap .i64 (((k : Nat) : Int) - (1 : Int)))) k)), ((decide ((0 : Int) ≤ i)) && (Nat.blt (Int.toNat i) n))]))
 else (.some ((.normal, ([(.gsl 1 n (fun i => [PV.lit (Value.int IntKind.u32 (nu ns i))])), (.own 0), (.gsl 1 n (fun i => [PV.lit (Value.int IntKind.u32 (nu ns i))])), (.lit (.int .i64 u)), (.lit (.int .i64 (IntKind.wrap .i64 (i + (1 : Int)))))], [(.row 83 2 (k + 1) (rowApp k (sRow o) (rowOf [(.lit (.int .u32 (nu ns (Int.toNat i)))), (.lit (.int .u32 (nu ns (Int.toNat i))))] 2)))])), [(Nat.ble ((k + 1) * 8) (140737488355328 : Nat)), (Nat.blt (Int.toNat (IntKind.wrap .i64 (((k : Nat) : Int) - (1 : Int)))) k), ((decide ((0 : Int) ≤ (IntKind.wrap .i64 (((k : Nat) : Int) - (1 : Int))))) && (Nat.blt (Int.toNat (IntKind.wrap .i64 (((k : Nat) : Int) - (1 : Int)))) k)), ((decide ((0 : Int) ≤ i)) && (Nat.blt (Int.toNat i) n))]))
 else (.some ((.normal, ([(.gsl 1 n (fun i => [PV.lit (Value.int IntKind.u32 (nu ns i))])), (.own 0), (.gsl 1 n (fun i => [PV.lit (Value.int IntKind.u32 (nu ns i))])), (.lit (.int .i64 u)), (.lit (.int .i64 (IntKind.wrap .i64 (i + (1 : Int)))))], [(.row 83 2 (k + 1) (rowApp k (sRow o) (rowOf [(.lit (.int .u32 (nu ns (Int.toNat i)))), (.lit (.int .u32 (nu ns (Int.toNat i))))] 2)))])), [(Nat.ble ((k + 1) * 8) (140737488355328 : Nat)), ((decide ((0 : Int) ≤ i)) && (Nat.blt (Int.toNat i) n))]))
 else (.some (((.exit 0), ([(.gsl 1 n (fun i => [PV.lit (Value.int IntKind.u32 (nu ns i))])), (.own 0)], [(.row 83 2 k (sRow o))])), [])) : Option ((Exit × Kept) × List Bool)) := by
  kernel_rfl
def rpOuts : Exit → Outs
  | .normal => { ks := [0, 4, 7, 8, 9], rs := [.slot 4], nils := [(4, 83, 2)] }
  | .exit _ => { ks := [0, 4], rs := [.slot 4], nils := [(4, 83, 2)] }
  | _ => { ks := [2, 3] }
noncomputable abbrev rpRound (G : GT) := roundT Tryz.prog (E4 G) 60 G 66 rpOuts .normal (theLoop 0 Tryz.f28)
theorem rp_round (m : Int) (t : TypeId) (fr : Nat × Nat) (ns : List Int) (o : List Sp) (n k : Nat) (u i : Int) : (rpRound (GG m t fr) ([.gsl 1 n (nRow ns), .own 0, .gsl 1 n (nRow ns), int u, int i], [.row 83 2 k (sRow o)])).run2 =
 (bif (decide (i < u)) then
 bif (decide (i > (0 : Int))) then
 bif (decide ((nu ns (Int.toNat i)) ≤ (nu ns (Int.toNat (IntKind.wrap .i64 (i - (1 : Int))))))) then
 (.some ((.ret, ([(.lit (.slice .none 0 0)), (.lit (.int .i64 (12 : Int)))], [])), [((decide ((0 : Int) ≤ (IntKind.wrap .i64 (i - (1 : Int))))) && (Nat.blt (Int.toNat (IntKind.wrap .i64 (i - (1 : Int)))) n)), ((decide ((0 : Int) ≤ i)) && (Nat.blt (Int.toNat i) n))]))
 else bif (decide (i > (0 : Int))) then
 bif ((IntKind.wrap .u32 ((nu ns (Int.toNat i)) - (nu ns (Int.toNat (IntKind.wrap .i64 (i - (1 : Int))))))) == (1 : Int)) then
 (.some ((.normal, ([(.gsl 1 n (fun i => [PV.lit (Value.int IntKind.u32 (nu ns i))])), (.own 0), (.gsl 1 n (fun i => [PV.lit (Value.int IntKind.u32 (nu ns i))])), (.lit (.int .i64 u)), (.lit (.int .i64 (IntKind.wrap .i64 (i + (1 : Int)))))], [(.row 83 2 k (rowSet (sRow o) (Int.toNat (IntKind.wrap .i64 (((k : Nat) : Int) - (1 : Int)))) 1 [(.lit (.int .u32 (nu ns (Int.toNat i))))]))])), [(Nat.blt (Int.toNat (IntKind.wrap .i64 (((k : Nat) : Int) - (1 : Int)))) k), ((decide ((0 : Int) ≤ (IntKind.wrap .i64 (((k : Nat) : Int) - (1 : Int))))) && (Nat.blt (Int.toNat (IntKind.wrap .i64 (((k : Nat) : Int) - (1 : Int)))) k)), ((decide ((0 : Int) ≤ (IntKind.wrap .i64 (i - (1 : Int))))) && (Nat.blt (Int.toNat (IntKind.wrap .i64 (i - (1 : Int)))) n)), ((decide ((0 : Int) ≤ (IntKind.wrap .i64 (i - (1 : Int))))) && (Nat.blt (Int.toNat (IntKind.wrap .i64 (i - (1 : Int)))) n)), ((decide ((0 : Int) ≤ i)) && (Nat.blt (Int.toNat i) n))]))
 else (.some ((.normal, ([(.gsl 1 n (fun i => [PV.lit (Value.int IntKind.u32 (nu ns i))])), (.own 0), (.gsl 1 n (fun i => [PV.lit (Value.int IntKind.u32 (nu ns i))])), (.lit (.int .i64 u)), (.lit (.int .i64 (IntKind.wrap .i64 (i + (1 : Int)))))], [(.row 83 2 (k + 1) (rowApp k (sRow o) (rowOf [(.lit (.int .u32 (nu ns (Int.toNat i)))), (.lit (.int .u32 (nu ns (Int.toNat i))))] 2)))])), [(Nat.ble ((k + 1) * 8) (140737488355328 : Nat)), ((decide ((0 : Int) ≤ (IntKind.wrap .i64 (i - (1 : Int))))) && (Nat.blt (Int.toNat (IntKind.wrap .i64 (i - (1 : Int)))) n)), ((decide ((0 : Int) ≤ (IntKind.wrap .i64 (i - (1 : Int))))) && (Nat.blt (Int.toNat (IntKind.wrap .i64 (i - (1 : Int)))) n)), ((decide ((0 : Int) ≤ i)) && (Nat.blt (Int.toNat i) n))]))
 else (.some ((.normal, ([(.gsl 1 n (fun i => [PV.lit (Value.int IntKind.u32 (nu ns i))])), (.own 0), (.gsl 1 n (fun i => [PV.lit (Value.int IntKind.u32 (nu ns i))])), (.lit (.int .i64 u)), (.lit (.int .i64 (IntKind.wrap .i64 (i + (1 : Int)))))], [(.row 83 2 (k + 1) (rowApp k (sRow o) (rowOf [(.lit (.int .u32 (nu ns (Int.toNat i)))), (.lit (.int .u32 (nu ns (Int.toNat i))))] 2)))])), [(Nat.ble ((k + 1) * 8) (140737488355328 : Nat)), ((decide ((0 : Int) ≤ (IntKind.wrap .i64 (i - (1 : Int))))) && (Nat.blt (Int.toNat (IntKind.wrap .i64 (i - (1 : Int)))) n)), ((decide ((0 : Int) ≤ i)) && (Nat.blt (Int.toNat i) n))]))
 else bif (decide (i > (0 : Int))) then
 bif ((IntKind.wrap .u32 ((nu ns (Int.toNat i)) - (nu ns (Int.toNat (IntKind.wrap .i64 (i - (1 : Int))))))) == (1 : Int)) then
 (.some ((.normal, ([(.gsl 1 n (fun i => [PV.lit (Value.int IntKind.u32 (nu ns i))])), (.own 0), (.gsl 1 n (fun i => [PV.lit (Value.int IntKind.u32 (nu ns i))])), (.lit (.int .i64 u)), (.lit (.int .i64 (IntKind.wrap .i64 (i + (1 : Int)))))], [(.row 83 2 k (rowSet (sRow o) (Int.toNat (IntKind.wrap .i64 (((k : Nat) : Int) - (1 : Int)))) 1 [(.lit (.int .u32 (nu ns (Int.toNat i))))]))])), [(Nat.blt (Int.toNat (IntKind.wrap .i64 (((k : Nat) : Int) - (1 : Int)))) k), ((decide ((0 : Int) ≤ (IntKind.wrap .i64 (((k : Nat) : Int) - (1 : Int))))) && (Nat.blt (Int.toNat (IntKind.wrap .i64 (((k : Nat) : Int) - (1 : Int)))) k)), ((decide ((0 : Int) ≤ (IntKind.wrap .i64 (i - (1 : Int))))) && (Nat.blt (Int.toNat (IntKind.wrap .i64 (i - (1 : Int)))) n)), ((decide ((0 : Int) ≤ i)) && (Nat.blt (Int.toNat i) n))]))
 else (.some ((.normal, ([(.gsl 1 n (fun i => [PV.lit (Value.int IntKind.u32 (nu ns i))])), (.own 0), (.gsl 1 n (fun i => [PV.lit (Value.int IntKind.u32 (nu ns i))])), (.lit (.int .i64 u)), (.lit (.int .i64 (IntKind.wrap .i64 (i + (1 : Int)))))], [(.row 83 2 (k + 1) (rowApp k (sRow o) (rowOf [(.lit (.int .u32 (nu ns (Int.toNat i)))), (.lit (.int .u32 (nu ns (Int.toNat i))))] 2)))])), [(Nat.ble ((k + 1) * 8) (140737488355328 : Nat)), ((decide ((0 : Int) ≤ (IntKind.wrap .i64 (i - (1 : Int))))) && (Nat.blt (Int.toNat (IntKind.wrap .i64 (i - (1 : Int)))) n)), ((decide ((0 : Int) ≤ i)) && (Nat.blt (Int.toNat i) n))]))
 else (.some ((.normal, ([(.gsl 1 n (fun i => [PV.lit (Value.int IntKind.u32 (nu ns i))])), (.own 0), (.gsl 1 n (fun i => [PV.lit (Value.int IntKind.u32 (nu ns i))])), (.lit (.int .i64 u)), (.lit (.int .i64 (IntKind.wrap .i64 (i + (1 : Int)))))], [(.row 83 2 (k + 1) (rowApp k (sRow o) (rowOf [(.lit (.int .u32 (nu ns (Int.toNat i)))), (.lit (.int .u32 (nu ns (Int.toNat i))))] 2)))])), [(Nat.ble ((k + 1) * 8) (140737488355328 : Nat)), ((decide ((0 : Int) ≤ i)) && (Nat.blt (Int.toNat i) n))]))
 else (.some (((.exit 0), ([(.gsl 1 n (fun i => [PV.lit (Value.int IntKind.u32 (nu ns i))])), (.own 0)], [(.row 83 2 k (sRow o))])), [])) : Option ((Exit × Kept) × List Bool)) := by
  kernel_rfl
/-- numbers packed: what is done, the last span -/
def pkS : List Int → List Sp → Sp → Option (List Sp)
  | [], o, c => some (o ++ [c])
  | n :: r, o, c => bif decide (n ≤ c.2) then none else bif decide (n = c.2 + 1) then pkS r o (c.1, n) else pkS r (o ++ [c]) (n, n)
def packZ : List Int → Option (List Sp)
  | [] => some []
  | n :: r => pkS r [] (n, n)
def hasK (z : Option (List Sp)) : Bool := z.isSome
def theK (z : Option (List Sp)) : List Sp := z.getD []
theorem s_snoc (o : List Sp) (a b : Int) (i : Nat) (hi : i < o.length + 1) : rowApp o.length (sRow o) (rowOf [.lit (.int .u32 a), .lit (.int .u32 b)] 2) i = sRow (o ++ [(a, b)]) i := by
  rcases Nat.lt_or_ge i o.length with h | h
  · rw [app_lo _ _ h]
    unfold sRow
    have : sp (o ++ [(a, b)]) i = sp o i := by simp [sp, List.getElem?_append_left h]
    rw [this]
  · have : i = o.length + 0 := by omega
    rw [this, app_hi]
    unfold sRow
    have : sp (o ++ [(a, b)]) (o.length + 0) = (a, b) := by simp [sp]
    rw [this]
    rfl
theorem s_set (o : List Sp) (c : Sp) (n : Int) (i : Nat) : rowSet (sRow (o ++ [c])) o.length 1 [.lit (.int .u32 n)] i = sRow (o ++ [(c.1, n)]) i := by
  rw [rowSet_eq]
  unfold rowSetO
  cases h : Nat.beq i o.length with
  | true =>
    obtain rfl := Nat.eq_of_beq_eq_true h
    simp [sRow, sp]
  | false =>
    have hne : i ≠ o.length := fun e => by subst e; simp at h
    unfold sRow
    have : sp (o ++ [(c.1, n)]) i = sp (o ++ [c]) i := by
      rcases Nat.lt_or_ge i o.length with hi | hi
      · simp [sp, List.getElem?_append_left hi]
      · simp [sp, List.getElem?_append_right hi, List.getElem?_cons, show i - o.length ≠ 0 by omega]
    rw [this]
def pkIn (ns : List Int) (i : Nat) (o : List Sp) : Kept := ([.gsl 1 ns.length (nRow ns), .own 0, .gsl 1 ns.length (nRow ns), int ns.length, int i], [.row 83 2 o.length (sRow o)])
def pkEnd (ns : List Int) : Option (List Sp) → Exit × Kept
  | some q => (.exit 0, ([.gsl 1 ns.length (nRow ns), .own 0], [.row 83 2 q.length (sRow q)]))
  | none => (.ret, ([.lit (.slice none 0 0), int 12], []))
theorem nu_u32 {ns : List Int} (h : ns.all u32N = true) (i : Nat) : 0 ≤ nu ns i ∧ nu ns i < 4294967296 := by
  rcases Nat.lt_or_ge i ns.length with hi | hi
  · have e : nu ns i = ns[i] := by simp [nu, hi]
    have := List.all_eq_true.1 h ns[i] (List.getElem_mem _)
    unfold u32N at this
    simp only [Bool.and_eq_true, decide_eq_true_eq] at this
    rw [e]
    exact this
  · have e : nu ns i = 0 := by simp [nu, hi]
    rw [e]
    omega
theorem pk_LR (ns : List Int) (hu : ns.all u32N = true) (hn : ns.length ≤ 4294967280) : ∀ (r : List Int) (i : Nat) (o : List Sp) (c : Sp), ns.drop i = r → 1 ≤ i → i ≤ ns.length → nu ns (i - 1) = c.2 → o.length < i →
    LR Tryz.prog (E4 (GG m t fr)) 60 (GG m t fr) 70 pkOuts .normal (theLoop 0 Tryz.f26) (pkIn ns i (o ++ [c])) (pkEnd ns (pkS r o c)).1 (pkEnd ns (pkS r o c)).2
  | [], i, o, c, hr, h1, hi, hc, ho => by
    have h := pk_round m t fr ns (o ++ [c]) ns.length (o ++ [c]).length ns.length i
    have hlen := List.drop_eq_nil_iff.1 hr
    have hd : decide ((i : Int) < (ns.length : Int)) = false := by simp; omega
    rw [hd] at h
    exact .last (Tr.run_of h (by simp)) (by simp [pkS, pkEnd]) (by simp [pkS, pkEnd])
  | x :: r, i, o, c, hr, h1, hi, hc, ho => by
    have h := pk_round m t fr ns (o ++ [c]) ns.length (o ++ [c]).length ns.length i
    obtain ⟨hlt, hx, hdr⟩ := nu_drop hr
    have hd : decide ((i : Int) < (ns.length : Int)) = true := by simp; omega
    have hd0 : decide ((i : Int) > (0 : Int)) = true := by simp; omega
    have hw : IntKind.i64.wrap ((i : Int) + 1) = ((i + 1 : Nat) : Int) := wrap_succ (by omega)
    have hw1 : IntKind.i64.wrap ((i : Int) - 1) = ((i - 1 : Nat) : Int) := by
      have : ((i : Int) - 1) = ((i - 1 : Nat) : Int) := by omega
      rw [this]
      exact wrap_nat (by omega)
    have hw2 : IntKind.i64.wrap (((o ++ [c]).length : Int) - 1) = (o.length : Int) := by
      have : (((o ++ [c]).length : Int) - 1) = (o.length : Int) := by simp
      rw [this]
      exact wrap_nat (by omega)
    have hsp : sp (o ++ [c]) o.length = c := by simp [sp]
    have hge : decide ((o.length : Int) ≥ 0) = true := by simp
    have hx0 := nu_u32 hu i
    have hc0 := nu_u32 hu (i - 1)
    rw [hx] at hx0
    rw [hc] at hc0
    rw [hd, hd0, hw, hw1, hw2, hge, Int.toNat_natCast, Int.toNat_natCast, Int.toNat_natCast, hx, hc, hsp] at h
    simp only [cond_true] at h
    cases c1 : decide (x ≤ c.2) with
    | true =>
      rw [c1] at h
      have e : pkS (x :: r) o c = none := by rw [pkS, c1]; rfl
      rw [e]
      exact .last (Tr.run_of h (by simp; omega)) (by simp [pkEnd]) (by simp [pkEnd])
    | false =>
      have hlt' := of_decide_eq_false c1
      have hq : (x == IntKind.wrap .u32 (c.2 + 1)) = decide (x = c.2 + 1) := by
        rw [IntKind.wrap_u32, beqD, decide_eq_decide]
        omega
      rw [c1, hq] at h
      cases c2 : decide (x = c.2 + 1) with
      | true =>
        rw [c2] at h
        have e : pkS (x :: r) o c = pkS r o (c.1, x) := by rw [pkS, c1, c2]; rfl
        rw [e]
        have ih := pk_LR ns hu hn r (i + 1) o (c.1, x) hdr (by omega) (by omega) (by simpa using hx) (by omega)
        have le : KLe ([.gsl 1 ns.length (nRow ns), .own 0, .gsl 1 ns.length (nRow ns), int ns.length, int ((i + 1 : Nat) : Int)], [.row 83 2 (o ++ [c]).length (rowSet (sRow (o ++ [c])) o.length 1 [.lit (.int .u32 x)])]) (pkIn ns (i + 1) (o ++ [(c.1, x)])) :=
          ⟨.refl _, BLeL.cons (.row _ _ (by simp) fun j hj => s_set o c x j) .nil⟩
        exact .more (Tr.run_of h (by simp; omega)) (.le le ih)
      | false =>
        rw [c2] at h
        have e : pkS (x :: r) o c = pkS r (o ++ [c]) (x, x) := by rw [pkS, c1, c2]; rfl
        rw [e]
        have ih := pk_LR ns hu hn r (i + 1) (o ++ [c]) (x, x) hdr (by omega) (by omega) (by simpa using hx) (by simp; omega)
        have le : KLe ([.gsl 1 ns.length (nRow ns), .own 0, .gsl 1 ns.length (nRow ns), int ns.length, int ((i + 1 : Nat) : Int)], [.row 83 2 ((o ++ [c]).length + 1) (rowApp (o ++ [c]).length (sRow (o ++ [c])) (rowOf [.lit (.int .u32 x), .lit (.int .u32 x)] 2))]) (pkIn ns (i + 1) ((o ++ [c]) ++ [(x, x)])) :=
          ⟨.refl _, BLeL.cons (.row _ _ (by simp) fun j hj => s_snoc (o ++ [c]) x x j hj) .nil⟩
        exact .more (Tr.run_of h (by simp; omega)) (.le le ih)
theorem pk_LR0 (ns : List Int) (hu : ns.all u32N = true) (hn : ns.length ≤ 4294967280) :
    LR Tryz.prog (E4 (GG m t fr)) 60 (GG m t fr) 70 pkOuts .normal (theLoop 0 Tryz.f26) (pkIn ns 0 []) (pkEnd ns (packZ ns)).1 (pkEnd ns (packZ ns)).2 := by
  have h := pk_round m t fr ns [] ns.length 0 ns.length 0
  cases hns : ns with
  | nil =>
    rw [hns] at h
    have hd : decide ((0 : Int) < (([] : List Int).length : Int)) = false := by simp
    rw [hd] at h
    exact .last (Tr.run_of h (by simp)) (by simp [packZ, pkEnd]) (by simp [packZ, pkEnd])
  | cons x r =>
    rw [← hns]
    have hl : ns.length = r.length + 1 := by rw [hns]; simp
    have hx : nu ns 0 = x := by rw [hns]; rfl
    have hd : decide ((0 : Int) < (ns.length : Int)) = true := by simp; omega
    have hd0 : decide ((0 : Int) > (0 : Int)) = false := by simp
    have hw : IntKind.i64.wrap ((0 : Int) + 1) = ((1 : Nat) : Int) := rfl
    have hw2 : decide (IntKind.i64.wrap (((0 : Nat) : Int) - 1) ≥ 0) = false := rfl
    rw [hd, hd0, hw, hw2, show (0 : Int).toNat = 0 from rfl, hx] at h
    simp only [cond_true, cond_false] at h
    have e : packZ ns = pkS r [] (x, x) := by rw [hns]; rfl
    rw [e]
    have ih := pk_LR (m := m) (t := t) (fr := fr) ns hu hn r 1 [] (x, x) (by rw [hns]; rfl) (by omega) (by omega) hx (by simp)
    have le : KLe ([.gsl 1 ns.length (nRow ns), .own 0, .gsl 1 ns.length (nRow ns), int ns.length, int ((1 : Nat) : Int)], [.row 83 2 (0 + 1) (rowApp 0 (sRow []) (rowOf [.lit (.int .u32 x), .lit (.int .u32 x)] 2))]) (pkIn ns 1 ([] ++ [(x, x)])) :=
      ⟨.refl _, BLeL.cons (.row _ _ (by simp) fun j hj => s_snoc [] x x j hj) .nil⟩
    exact .more (Tr.run_of h (by simp; omega)) (.le le ih)
def pkF : Kept → Tr (Exit × Kept)
  | ([.gsl 1 n f, .own 0, .gsl 1 n' f', .lit (.int .i64 u), .lit (.int .i64 0)], [.row e 2 0 g]) => match Nat.beq e 83 with
    | true => .br (areNums n f && (areNums n' f' && decide (n = n') && decide (numsOf n f = numsOf n' f')) && decide (u = (n : Int)) && Nat.ble n 4294967280) (.br (hasK (packZ (numsOf n f))) (.leaf (.exit 0, ([.gsl 1 n (nRow (numsOf n f)), .own 0], [.row 83 2 (theK (packZ (numsOf n f))).length (sRow (theK (packZ (numsOf n f))))])))
        (.leaf (.ret, ([.lit (.slice none 0 0), int 12], [])))) .fail
    | false => .fail
  | _ => .fail
theorem pkF_ok (x : Kept) (e : Exit) (y : Kept) (h : (pkF x).run = some (e, y)) : LR Tryz.prog (E4 (GG m t fr)) 60 (GG m t fr) 70 pkOuts .normal (theLoop 0 Tryz.f26) x e y := by
  unfold pkF at h
  split at h
  · rename_i n f n' f' u e0 g
    split at h
    · rename_i he
      obtain rfl := Nat.eq_of_beq_eq_true he
      have hb := br_run h
      clear h
      obtain ⟨hc, h⟩ := hb
      simp only [Bool.and_eq_true, decide_eq_true_eq, Nat.ble_eq] at hc
      obtain ⟨⟨⟨hf, ⟨hf', rfl⟩, hff⟩, rfl⟩, hn⟩ := hc
      have hL := nums_len n f
      have key := pk_LR0 (m := m) (t := t) (fr := fr) (numsOf n f) (nums_u32 hf) (by omega)
      have hin : KLe ([.gsl 1 n f, .own 0, .gsl 1 n f', int (n : Int), int 0], [.row 83 2 0 g]) (pkIn (numsOf n f) 0 []) := by
        refine ⟨PLeL.cons (PLe.gsl hL.symm (nums_row hf)) (PLeL.cons (.refl _) (PLeL.cons (PLe.gsl hL.symm fun i hi => ?_) (PLeL.cons (PLe.of_eq ?_) (.refl _)))), BLeL.cons (.row _ _ rfl fun j hj => absurd hj (by simp)) .nil⟩
        · rw [hff]
          exact nums_row hf' i hi
        · rw [hL]
      cases hz : packZ (numsOf n f) with
      | none =>
        rw [hz] at key h
        simp only [Tr.run, hasK, Option.isSome_none, cond_false, Option.some.injEq, Prod.mk.injEq] at h
        obtain ⟨rfl, rfl⟩ := h
        exact .le hin key
      | some q =>
        rw [hz] at key h
        simp only [Tr.run, hasK, theK, Option.isSome_some, Option.getD_some, cond_true, Option.some.injEq, Prod.mk.injEq] at h
        obtain ⟨rfl, rfl⟩ := h
        exact .out (.le hin key) ⟨PLeL.cons (PLe.gsl hL fun i hi => rfl) (.refl _), .refl _⟩
    · cases h
  · cases h
noncomputable abbrev pkCut (G : GT) := cutOf G 70 pkOuts 0 pkF
theorem pk_raw (m : Int) (t : TypeId) (fr : Nat × Nat) (n : Nat) (f : Nat → List PV) : (fnPure Tryz.prog ((E4 (GG m t fr)).withCuts (cut1 0 (pkCut (GG m t fr)))) 60 Tryz.f26 (GG m t fr) [.gsl 1 n f]).run2 =
 (bif (hasK (packZ (numsOf n f))) then
 bif (decide ((((List.length (theK (packZ (numsOf n f)))) : Nat) : Int) < (1 : Int))) then
 (.some ((.tup [(.lit (.slice .none 0 0)), (.lit (.int .i64 (1 : Int)))]), [true, true, true, true, true, true, true, ((((areNums n f) && (((areNums n f) && (decide (n = n))) && (decide ((numsOf n f) = (numsOf n f))))) && (decide (((n : Nat) : Int) = ((n : Nat) : Int)))) && (Nat.ble n (4294967280 : Nat)))]))
 else bif (decide ((((List.length (theK (packZ (numsOf n f)))) : Nat) : Int) > (1024 : Int))) then
 (.some ((.tup [(.lit (.slice .none 0 0)), (.lit (.int .i64 (1 : Int)))]), [true, true, true, true, ((((areNums n f) && (((areNums n f) && (decide (n = n))) && (decide ((numsOf n f) = (numsOf n f))))) && (decide (((n : Nat) : Int) = ((n : Nat) : Int)))) && (Nat.ble n (4294967280 : Nat)))]))
 else bif ((nu (numsOf n f) 0) == (0 : Int)) then
 (.some ((.tup [(.lit (.slice .none 0 0)), (.lit (.int .i64 (1 : Int)))]), [(Nat.blt 0 n), ((((areNums n f) && (((areNums n f) && (decide (n = n))) && (decide ((numsOf n f) = (numsOf n f))))) && (decide (((n : Nat) : Int) = ((n : Nat) : Int)))) && (Nat.ble n (4294967280 : Nat)))]))
 else (.some ((.tup [(.gsl 2 (List.length (theK (packZ (numsOf n f)))) (sRow (theK (packZ (numsOf n f))))), (.lit (.int .i64 (0 : Int)))]), [(Nat.blt 0 n), ((((areNums n f) && (((areNums n f) && (decide (n = n))) && (decide ((numsOf n f) = (numsOf n f))))) && (decide (((n : Nat) : Int) = ((n : Nat) : Int)))) && (Nat.ble n (4294967280 : Nat)))]))
 else (.some ((.tup [(.lit (.slice .none 0 0)), (.lit (.int .i64 (12 : Int)))]), [((((areNums n f) && (((areNums n f) && (decide (n = n))) && (decide ((numsOf n f) = (numsOf n f))))) && (decide (((n : Nat) : Int) = ((n : Nat) : Int)))) && (Nat.ble n (4294967280 : Nat)))])) : Option (PV × List Bool)) := by
  kernel_rfl
theorem rp_LR (ns : List Int) (hu : ns.all u32N = true) (hn : ns.length ≤ 4294967280) : ∀ (r : List Int) (i : Nat) (o : List Sp) (c : Sp), ns.drop i = r → 1 ≤ i → i ≤ ns.length → nu ns (i - 1) = c.2 → o.length < i →
    LR Tryz.prog (E4 (GG m t fr)) 60 (GG m t fr) 66 rpOuts .normal (theLoop 0 Tryz.f28) (pkIn ns i (o ++ [c])) (pkEnd ns (pkS r o c)).1 (pkEnd ns (pkS r o c)).2
  | [], i, o, c, hr, h1, hi, hc, ho => by
    have h := rp_round m t fr ns (o ++ [c]) ns.length (o ++ [c]).length ns.length i
    have hlen := List.drop_eq_nil_iff.1 hr
    have hd : decide ((i : Int) < (ns.length : Int)) = false := by simp; omega
    rw [hd] at h
    exact .last (Tr.run_of h (by simp)) (by simp [pkS, pkEnd]) (by simp [pkS, pkEnd])
  | x :: r, i, o, c, hr, h1, hi, hc, ho => by
    have h := rp_round m t fr ns (o ++ [c]) ns.length (o ++ [c]).length ns.length i
    obtain ⟨hlt, hx, hdr⟩ := nu_drop hr
    have hd : decide ((i : Int) < (ns.length : Int)) = true := by simp; omega
    have hd0 : decide ((i : Int) > (0 : Int)) = true := by simp; omega
    have hw : IntKind.i64.wrap ((i : Int) + 1) = ((i + 1 : Nat) : Int) := wrap_succ (by omega)
    have hw1 : IntKind.i64.wrap ((i : Int) - 1) = ((i - 1 : Nat) : Int) := by
      have : ((i : Int) - 1) = ((i - 1 : Nat) : Int) := by omega
      rw [this]
      exact wrap_nat (by omega)
    have hw2 : IntKind.i64.wrap (((o ++ [c]).length : Int) - 1) = (o.length : Int) := by
      have : (((o ++ [c]).length : Int) - 1) = (o.length : Int) := by simp
      rw [this]
      exact wrap_nat (by omega)
    have hsp : sp (o ++ [c]) o.length = c := by simp [sp]
    have hge : decide ((o.length : Int) ≥ 0) = true := by simp
    have hx0 := nu_u32 hu i
    have hc0 := nu_u32 hu (i - 1)
    rw [hx] at hx0
    rw [hc] at hc0
    rw [hd, hd0, hw, hw1, hw2, Int.toNat_natCast, Int.toNat_natCast, Int.toNat_natCast, hx, hc] at h
    simp only [cond_true] at h
    cases c1 : decide (x ≤ c.2) with
    | true =>
      rw [c1] at h
      have e : pkS (x :: r) o c = none := by rw [pkS, c1]; rfl
      rw [e]
      exact .last (Tr.run_of h (by simp; omega)) (by simp [pkEnd]) (by simp [pkEnd])
    | false =>
      have hlt' := of_decide_eq_false c1
      have hq : (IntKind.wrap .u32 (x - c.2) == 1) = decide (x = c.2 + 1) := by
        rw [IntKind.wrap_u32, beqD, decide_eq_decide]
        omega
      rw [c1, hq] at h
      cases c2 : decide (x = c.2 + 1) with
      | true =>
        rw [c2] at h
        have e : pkS (x :: r) o c = pkS r o (c.1, x) := by rw [pkS, c1, c2]; rfl
        rw [e]
        have ih := rp_LR ns hu hn r (i + 1) o (c.1, x) hdr (by omega) (by omega) (by simpa using hx) (by omega)
        have le : KLe ([.gsl 1 ns.length (nRow ns), .own 0, .gsl 1 ns.length (nRow ns), int ns.length, int ((i + 1 : Nat) : Int)], [.row 83 2 (o ++ [c]).length (rowSet (sRow (o ++ [c])) o.length 1 [.lit (.int .u32 x)])]) (pkIn ns (i + 1) (o ++ [(c.1, x)])) :=
          ⟨.refl _, BLeL.cons (.row _ _ (by simp) fun j hj => s_set o c x j) .nil⟩
        exact .more (Tr.run_of h (by simp; omega)) (.le le ih)
      | false =>
        rw [c2] at h
        have e : pkS (x :: r) o c = pkS r (o ++ [c]) (x, x) := by rw [pkS, c1, c2]; rfl
        rw [e]
        have ih := rp_LR ns hu hn r (i + 1) (o ++ [c]) (x, x) hdr (by omega) (by omega) (by simpa using hx) (by simp; omega)
        have le : KLe ([.gsl 1 ns.length (nRow ns), .own 0, .gsl 1 ns.length (nRow ns), int ns.length, int ((i + 1 : Nat) : Int)], [.row 83 2 ((o ++ [c]).length + 1) (rowApp (o ++ [c]).length (sRow (o ++ [c])) (rowOf [.lit (.int .u32 x), .lit (.int .u32 x)] 2))]) (pkIn ns (i + 1) ((o ++ [c]) ++ [(x, x)])) :=
          ⟨.refl _, BLeL.cons (.row _ _ (by simp) fun j hj => s_snoc (o ++ [c]) x x j hj) .nil⟩
        exact .more (Tr.run_of h (by simp; omega)) (.le le ih)
theorem rp_LR0 (ns : List Int) (hu : ns.all u32N = true) (hn : ns.length ≤ 4294967280) :
    LR Tryz.prog (E4 (GG m t fr)) 60 (GG m t fr) 66 rpOuts .normal (theLoop 0 Tryz.f28) (pkIn ns 0 []) (pkEnd ns (packZ ns)).1 (pkEnd ns (packZ ns)).2 := by
  have h := rp_round m t fr ns [] ns.length 0 ns.length 0
  cases hns : ns with
  | nil =>
    rw [hns] at h
    have hd : decide ((0 : Int) < (([] : List Int).length : Int)) = false := by simp
    rw [hd] at h
    exact .last (Tr.run_of h (by simp)) (by simp [packZ, pkEnd]) (by simp [packZ, pkEnd])
  | cons x r =>
    rw [← hns]
    have hl : ns.length = r.length + 1 := by rw [hns]; simp
    have hx : nu ns 0 = x := by rw [hns]; rfl
    have hd : decide ((0 : Int) < (ns.length : Int)) = true := by simp; omega
    have hd0 : decide ((0 : Int) > (0 : Int)) = false := by simp
    have hw : IntKind.i64.wrap ((0 : Int) + 1) = ((1 : Nat) : Int) := rfl
    rw [hd, hd0, hw, show (0 : Int).toNat = 0 from rfl, hx] at h
    simp only [cond_true, cond_false] at h
    have e : packZ ns = pkS r [] (x, x) := by rw [hns]; rfl
    rw [e]
    have ih := rp_LR (m := m) (t := t) (fr := fr) ns hu hn r 1 [] (x, x) (by rw [hns]; rfl) (by omega) (by omega) hx (by simp)
    have le : KLe ([.gsl 1 ns.length (nRow ns), .own 0, .gsl 1 ns.length (nRow ns), int ns.length, int ((1 : Nat) : Int)], [.row 83 2 (0 + 1) (rowApp 0 (sRow []) (rowOf [.lit (.int .u32 x), .lit (.int .u32 x)] 2))]) (pkIn ns 1 ([] ++ [(x, x)])) :=
      ⟨.refl _, BLeL.cons (.row _ _ (by simp) fun j hj => s_snoc [] x x j hj) .nil⟩
    exact .more (Tr.run_of h (by simp; omega)) (.le le ih)
def rpF : Kept → Tr (Exit × Kept)
  | ([.gsl 1 n f, .own 0, .gsl 1 n' f', .lit (.int .i64 u), .lit (.int .i64 0)], [.row e 2 0 g]) => match Nat.beq e 83 with
    | true => .br (areNums n f && (areNums n' f' && decide (n = n') && decide (numsOf n f = numsOf n' f')) && decide (u = (n : Int)) && Nat.ble n 4294967280) (.br (hasK (packZ (numsOf n f))) (.leaf (.exit 0, ([.gsl 1 n (nRow (numsOf n f)), .own 0], [.row 83 2 (theK (packZ (numsOf n f))).length (sRow (theK (packZ (numsOf n f))))])))
        (.leaf (.ret, ([.lit (.slice none 0 0), int 12], [])))) .fail
    | false => .fail
  | _ => .fail
theorem rpF_ok (x : Kept) (e : Exit) (y : Kept) (h : (rpF x).run = some (e, y)) : LR Tryz.prog (E4 (GG m t fr)) 60 (GG m t fr) 66 rpOuts .normal (theLoop 0 Tryz.f28) x e y := by
  unfold rpF at h
  split at h
  · rename_i n f n' f' u e0 g
    split at h
    · rename_i he
      obtain rfl := Nat.eq_of_beq_eq_true he
      have hb := br_run h
      clear h
      obtain ⟨hc, h⟩ := hb
      simp only [Bool.and_eq_true, decide_eq_true_eq, Nat.ble_eq] at hc
      obtain ⟨⟨⟨hf, ⟨hf', rfl⟩, hff⟩, rfl⟩, hn⟩ := hc
      have hL := nums_len n f
      have key := rp_LR0 (m := m) (t := t) (fr := fr) (numsOf n f) (nums_u32 hf) (by omega)
      have hin : KLe ([.gsl 1 n f, .own 0, .gsl 1 n f', int (n : Int), int 0], [.row 83 2 0 g]) (pkIn (numsOf n f) 0 []) := by
        refine ⟨PLeL.cons (PLe.gsl hL.symm (nums_row hf)) (PLeL.cons (.refl _) (PLeL.cons (PLe.gsl hL.symm fun i hi => ?_) (PLeL.cons (PLe.of_eq ?_) (.refl _)))), BLeL.cons (.row _ _ rfl fun j hj => absurd hj (by simp)) .nil⟩
        · rw [hff]
          exact nums_row hf' i hi
        · rw [hL]
      cases hz : packZ (numsOf n f) with
      | none =>
        rw [hz] at key h
        simp only [Tr.run, hasK, Option.isSome_none, cond_false, Option.some.injEq, Prod.mk.injEq] at h
        obtain ⟨rfl, rfl⟩ := h
        exact .le hin key
      | some q =>
        rw [hz] at key h
        simp only [Tr.run, hasK, theK, Option.isSome_some, Option.getD_some, cond_true, Option.some.injEq, Prod.mk.injEq] at h
        obtain ⟨rfl, rfl⟩ := h
        exact .out (.le hin key) ⟨PLeL.cons (PLe.gsl hL fun i hi => rfl) (.refl _), .refl _⟩
    · cases h
  · cases h
noncomputable abbrev rpCut (G : GT) := cutOf G 66 rpOuts 0 rpF
theorem rp_raw (m : Int) (t : TypeId) (fr : Nat × Nat) (n : Nat) (f : Nat → List PV) : (fnPure Tryz.prog ((E4 (GG m t fr)).withCuts (cut1 0 (rpCut (GG m t fr)))) 60 Tryz.f28 (GG m t fr) [.gsl 1 n f]).run2 =
 (bif (hasK (packZ (numsOf n f))) then
 bif (decide ((((List.length (theK (packZ (numsOf n f)))) : Nat) : Int) < (1 : Int))) then
 (.some ((.tup [(.lit (.slice .none 0 0)), (.lit (.int .i64 (1 : Int)))]), [true, true, true, true, true, true, true, ((((areNums n f) && (((areNums n f) && (decide (n = n))) && (decide ((numsOf n f) = (numsOf n f))))) && (decide (((n : Nat) : Int) = ((n : Nat) : Int)))) && (Nat.ble n (4294967280 : Nat)))]))
 else bif (decide ((((List.length (theK (packZ (numsOf n f)))) : Nat) : Int) > (1024 : Int))) then
 (.some ((.tup [(.lit (.slice .none 0 0)), (.lit (.int .i64 (1 : Int)))]), [true, true, true, true, ((((areNums n f) && (((areNums n f) && (decide (n = n))) && (decide ((numsOf n f) = (numsOf n f))))) && (decide (((n : Nat) : Int) = ((n : Nat) : Int)))) && (Nat.ble n (4294967280 : Nat)))]))
 else bif ((nu (numsOf n f) 0) == (0 : Int)) then
 (.some ((.tup [(.lit (.slice .none 0 0)), (.lit (.int .i64 (1 : Int)))]), [(Nat.blt 0 n), ((((areNums n f) && (((areNums n f) && (decide (n = n))) && (decide ((numsOf n f) = (numsOf n f))))) && (decide (((n : Nat) : Int) = ((n : Nat) : Int)))) && (Nat.ble n (4294967280 : Nat)))]))
 else (.some ((.tup [(.gsl 2 (List.length (theK (packZ (numsOf n f)))) (sRow (theK (packZ (numsOf n f))))), (.lit (.int .i64 (0 : Int)))]), [(Nat.blt 0 n), ((((areNums n f) && (((areNums n f) && (decide (n = n))) && (decide ((numsOf n f) = (numsOf n f))))) && (decide (((n : Nat) : Int) = ((n : Nat) : Int)))) && (Nat.ble n (4294967280 : Nat)))]))
 else (.some ((.tup [(.lit (.slice .none 0 0)), (.lit (.int .i64 (12 : Int)))]), [((((areNums n f) && (((areNums n f) && (decide (n = n))) && (decide ((numsOf n f) = (numsOf n f))))) && (decide (((n : Nat) : Int) = ((n : Nat) : Int)))) && (Nat.ble n (4294967280 : Nat)))])) : Option (PV × List Bool)) := by
  kernel_rfl
/-! ### lists compared -/
def s3Outs : Exit → Outs
  | .normal => { ks := [0, 1, 12, 13] }
  | .exit _ => { ks := [] }
  | _ => { ks := [4] }
noncomputable abbrev s3Round (G : GT) := roundT Tryz.prog (E4 G) 60 G 26 s3Outs .normal (theLoop 0 Tryz.f42)
theorem s3_round (m : Int) (t : TypeId) (fr : Nat × Nat) (l k : List Sp) (n n' : Nat) (u i : Int) : (s3Round (GG m t fr) ([.gsl 2 n (sRow l), .gsl 2 n' (sRow k), int u, int i], [])).run2 =
 (bif (decide (i < u)) then
 bif (!(((Prod.fst (sp l (Int.toNat i))) == (Prod.fst (sp k (Int.toNat i)))) && (((Prod.snd (sp l (Int.toNat i))) == (Prod.snd (sp k (Int.toNat i)))) && true))) then
 (.some ((.ret, ([(.lit (.bool false))], [])), [((decide ((0 : Int) ≤ i)) && (Nat.blt (Int.toNat i) n')), ((decide ((0 : Int) ≤ i)) && (Nat.blt (Int.toNat i) n))]))
 else (.some ((.normal, ([(.gsl 2 n (fun i => [PV.lit (Value.int IntKind.u32 (sp l i).fst), PV.lit (Value.int IntKind.u32 (sp l i).snd)])), (.gsl 2 n' (fun i => [PV.lit (Value.int IntKind.u32 (sp k i).fst), PV.lit (Value.int IntKind.u32 (sp k i).snd)])), (.lit (.int .i64 u)), (.lit (.int .i64 (IntKind.wrap .i64 (i + (1 : Int)))))], [])), [((decide ((0 : Int) ≤ i)) && (Nat.blt (Int.toNat i) n')), ((decide ((0 : Int) ≤ i)) && (Nat.blt (Int.toNat i) n))]))
 else (.some (((.exit 0), ([], [])), [])) : Option ((Exit × Kept) × List Bool)) := by
  kernel_rfl
theorem sp_beq (x y : Sp) : (x.1 == y.1 && (x.2 == y.2 && true)) = decide (x = y) := by
  rw [Bool.and_true, beqD, beqD, ← Bool.decide_and, decide_eq_decide]
  exact ⟨fun h => Prod.ext h.1 h.2, fun h => by rw [h]; exact ⟨rfl, rfl⟩⟩
def s3End (a b : List (Sp)) : Exit × Kept := bif decide (a = b) then (.exit 0, ([], [])) else (.ret, ([bool false], []))
def s3In (ts us : List (Sp)) (i : Nat) : Kept := ([.gsl 2 ts.length (sRow ts), .gsl 2 us.length (sRow us), int ts.length, int i], [])
theorem s3_LR (ts us : List (Sp)) (hl : ts.length = us.length) (hn : ts.length ≤ 4294967280) : ∀ (a b : List (Sp)) (i : Nat), ts.drop i = a → us.drop i = b →
    LR Tryz.prog (E4 (GG m t fr)) 60 (GG m t fr) 26 s3Outs .normal (theLoop 0 Tryz.f42) (s3In ts us i) (s3End a b).1 (s3End a b).2
  | [], b, i, ha, hb => by
    have h := s3_round m t fr ts us ts.length us.length ts.length i
    have hi := List.drop_eq_nil_iff.1 ha
    have : b = [] := by rw [← hb]; exact List.drop_eq_nil_of_le (by omega)
    subst this
    have hd : decide ((i : Int) < (ts.length : Int)) = false := by simp; omega
    rw [hd] at h
    exact .last (Tr.run_of h rfl) (by simp [s3End]) (by simp [s3End])
  | x :: a, [], i, ha, hb => by
    have := (sp_drop ha).1
    have := List.drop_eq_nil_iff.1 hb
    omega
  | x :: a, y :: b, i, ha, hb => by
    have h := s3_round m t fr ts us ts.length us.length ts.length i
    obtain ⟨hi, hx, hda⟩ := sp_drop ha
    obtain ⟨hj, hy, hdb⟩ := sp_drop hb
    have hd : decide ((i : Int) < (ts.length : Int)) = true := by simp; omega
    have hw : IntKind.i64.wrap ((i : Int) + 1) = ((i + 1 : Nat) : Int) := wrap_succ (by omega)
    rw [hd, hw, Int.toNat_natCast, hx, hy, sp_beq] at h
    simp only [cond_true] at h
    by_cases he : x = y
    · subst he
      rw [decide_eq_true rfl] at h
      have ih := s3_LR ts us hl hn a b (i + 1) hda hdb
      have : s3End (x :: a) (x :: b) = s3End a b := by
        unfold s3End
        have : decide (x :: a = x :: b) = decide (a = b) := by simp
        rw [this]
      rw [this]
      exact .more (Tr.run_of h (by simp; omega)) ih
    · rw [decide_eq_false he] at h
      have : s3End (x :: a) (y :: b) = (.ret, ([bool false], [])) := by
        unfold s3End
        rw [decide_eq_false (by simp [he])]
        rfl
      rw [this]
      exact .last (Tr.run_of h (by simp; omega)) (by simp) (by simp)
def s3F : Kept → Tr (Exit × Kept)
  | ([.gsl 2 n f, .gsl 2 n' f', .lit (.int .i64 u), .lit (.int .i64 0)], []) => .br (areSps n f && areSps n' f' && decide (n = n') && decide (u = (n : Int)) && Nat.ble n 4294967280) (.br (decide (spsOf n f = spsOf n' f')) (.leaf (.exit 0, ([], []))) (.leaf (.ret, ([bool false], [])))) .fail
  | _ => .fail
theorem s3F_ok (x : Kept) (e : Exit) (y : Kept) (h : (s3F x).run = some (e, y)) : LR Tryz.prog (E4 (GG m t fr)) 60 (GG m t fr) 26 s3Outs .normal (theLoop 0 Tryz.f42) x e y := by
  unfold s3F at h
  split at h
  · rename_i n f n' f' u
    have hb := br_run h
    clear h
    obtain ⟨hc, h⟩ := hb
    simp only [Bool.and_eq_true, decide_eq_true_eq, Nat.ble_eq] at hc
    obtain ⟨⟨⟨⟨hf, hf'⟩, rfl⟩, rfl⟩, hn⟩ := hc
    have hlen := sps_len n f
    have hlen' := sps_len n f'
    have key := s3_LR (m := m) (t := t) (fr := fr) (spsOf n f) (spsOf n f') (by omega) (by omega) _ _ 0 rfl rfl
    have hin : KLe ([.gsl 2 n f, .gsl 2 n f', int (n : Int), int 0], []) (s3In (spsOf n f) (spsOf n f') 0) := by
      refine ⟨PLeL.cons (PLe.gsl hlen.symm (sps_row hf)) (PLeL.cons (PLe.gsl hlen'.symm (sps_row hf')) (PLeL.cons (PLe.of_eq ?_) (.refl _))), .refl _⟩
      rw [hlen]
    rw [List.drop_zero, List.drop_zero] at key
    unfold s3End at key
    cases hd : decide (spsOf n f = spsOf n f') with
    | true =>
      rw [hd] at key h
      simp only [Tr.run, cond_true, Option.some.injEq, Prod.mk.injEq] at h
      obtain ⟨rfl, rfl⟩ := h
      exact .le hin key
    | false =>
      rw [hd] at key h
      simp only [Tr.run, cond_false, Option.some.injEq, Prod.mk.injEq] at h
      obtain ⟨rfl, rfl⟩ := h
      exact .le hin key
  · cases h
noncomputable abbrev s3Cut (G : GT) := cutOf G 26 s3Outs 0 s3F
theorem s3_raw (m : Int) (t : TypeId) (fr : Nat × Nat) (n n' : Nat) (f f' : Nat → List PV) : (fnPure Tryz.prog ((E4 (GG m t fr)).withCuts (cut1 0 (s3Cut (GG m t fr)))) 60 Tryz.f42 (GG m t fr) [.gsl 2 n f, .gsl 2 n' f']).run2 =
 (bif (bne ((n : Nat) : Int) ((n' : Nat) : Int)) then
 (.some ((.lit (.bool false)), []))
 else bif (decide ((spsOf n f) = (spsOf n' f'))) then
 (.some ((.lit (.bool true)), [(((((areSps n f) && (areSps n' f')) && (decide (n = n'))) && (decide (((n : Nat) : Int) = ((n : Nat) : Int)))) && (Nat.ble n (4294967280 : Nat)))]))
 else (.some ((.lit (.bool false)), [(((((areSps n f) && (areSps n' f')) && (decide (n = n'))) && (decide (((n : Nat) : Int) = ((n : Nat) : Int)))) && (Nat.ble n (4294967280 : Nat)))])) : Option (PV × List Bool)) := by
  kernel_rfl
end
end Go.Proofs.YtcdghinmmhcfcaaGreatDoor.Ev

/- nset: Pack, the document's Pack, Same as contracts; NsetPacks, a law. No condition. -/
namespace Go.Proofs.YtcdghinmmhcfcaaGreatDoor.Ev
open Go Go.RowKit Go.Proofs Go.Proofs.YtcdghinmmhcfcaaGreatDoor.Str
set_option linter.unusedVariables false
set_option linter.unusedSimpArgs false
def packE (ns : List Int) : Int := bif hasK (packZ ns) then (bif decide ((((theK (packZ ns)).length : Nat) : Int) < 1) then 1 else bif decide ((((theK (packZ ns)).length : Nat) : Int) > 1024) then 1 else bif nu ns 0 == 0 then 1 else 0) else 12
def packR (ns : List Int) : List Sp := bif packE ns == 0 then theK (packZ ns) else []
def packG : List PV → Tr PV
  | [.gsl 1 n f] => .br (areNums n f && Nat.ble n 4294967280) (.leaf (.tup [.gsl 2 (packR (numsOf n f)).length (sRow (packR (numsOf n f))), int (packE (numsOf n f))])) .fail
  | _ => .fail
theorem packE_len {ns : List Int} : (packR ns).length ≤ 1024 := by
  unfold packR packE
  cases hasK (packZ ns) with
  | false => simp
  | true =>
    simp only [cond_true]
    by_cases h1 : (((theK (packZ ns)).length : Nat) : Int) < 1
    · simp [h1]
    · by_cases h2 : (((theK (packZ ns)).length : Nat) : Int) > 1024
      · simp [h1, h2]
      · cases nu ns 0 == 0 <;> simp [h1, h2] <;> omega
theorem pkS_u32 : ∀ (r : List Int) (o : List Sp) (c : Sp), r.all u32N = true → o.all u32B = true → u32B c = true → ∀ q, pkS r o c = some q → q.all u32B = true
  | [], o, c, _, ho, hc, q, h => by
    simp only [pkS, Option.some.injEq] at h
    subst h
    simp [List.all_append, ho, hc]
  | n :: r, o, c, hr, ho, hc, q, h => by
    simp only [List.all_cons, Bool.and_eq_true] at hr
    rw [pkS] at h
    have hn := hr.1
    have hc' := hc
    unfold u32N at hn
    unfold u32B at hc'
    simp only [Bool.and_eq_true, decide_eq_true_eq] at hn hc'
    cases c1 : decide (n ≤ c.2) with
    | true => rw [c1] at h; cases h
    | false =>
      rw [c1] at h
      cases c2 : decide (n = c.2 + 1) with
      | true =>
        rw [c2] at h
        exact pkS_u32 r o (c.1, n) hr.2 ho (by unfold u32B; simp; omega) q h
      | false =>
        rw [c2] at h
        exact pkS_u32 r (o ++ [c]) (n, n) hr.2 (by simp [List.all_append, ho, hc]) (by unfold u32B; simp; omega) q h
theorem packR_u32 {ns : List Int} (h : ns.all u32N = true) : (packR ns).all u32B = true := by
  unfold packR
  cases packE ns == 0 with
  | false => rfl
  | true =>
    simp only [cond_true]
    cases hz : packZ ns with
    | none => rfl
    | some q =>
      show q.all u32B = true
      cases ns with
      | nil =>
        simp only [packZ, Option.some.injEq] at hz
        subst hz
        rfl
      | cons n r =>
        simp only [List.all_cons, Bool.and_eq_true] at h
        have hn := h.1
        unfold u32N at hn
        simp only [Bool.and_eq_true, decide_eq_true_eq] at hn
        exact pkS_u32 r [] (n, n) h.2 rfl (by unfold u32B; simp; omega) q hz
section
variable {m : Int} {t : TypeId} {fr : Nat × Nat}
theorem pack_raw {raw : Option (PV × List Bool)} {n : Nat} {f : Nat → List PV} (hf : areNums n f = true) (hn : Nat.ble n 4294967280 = true) {bsA bsB bsC bsD bsE : List Bool}
    (h : raw = bif hasK (packZ (numsOf n f)) then (bif decide ((((theK (packZ (numsOf n f))).length : Nat) : Int) < 1) then some (.tup [.lit (.slice none 0 0), int 1], bsA) else bif decide ((((theK (packZ (numsOf n f))).length : Nat) : Int) > 1024) then some (.tup [.lit (.slice none 0 0), int 1], bsB)
      else bif nu (numsOf n f) 0 == 0 then some (.tup [.lit (.slice none 0 0), int 1], Nat.blt 0 n :: bsC) else some (.tup [.gsl 2 (theK (packZ (numsOf n f))).length (sRow (theK (packZ (numsOf n f)))), int 0], Nat.blt 0 n :: bsD)) else some (.tup [.lit (.slice none 0 0), int 12], bsE))
    (hA : bsA.all id = true) (hB : bsB.all id = true) (hC : bsC.all id = true) (hD : bsD.all id = true) (hE : bsE.all id = true) :
    ∃ q bs, raw = some (q, bs) ∧ bs.all id = true ∧ PLe q (.tup [.gsl 2 (packR (numsOf n f)).length (sRow (packR (numsOf n f))), int (packE (numsOf n f))]) := by
  have hnil : ∀ e : Int, (packE (numsOf n f) = e) → e ≠ 0 → PLe (.tup [.lit (.slice none 0 0), int e]) (.tup [.gsl 2 (packR (numsOf n f)).length (sRow (packR (numsOf n f))), int (packE (numsOf n f))]) := by
    intro e he h0
    have : packR (numsOf n f) = [] := by
      unfold packR
      rw [he, beq_false_of_ne h0]
      rfl
    rw [this, he]
    exact PLe.tup (PLeL.cons (PLe.nil _ _) (.refl _))
  unfold packE at hnil
  cases c0 : hasK (packZ (numsOf n f)) with
  | false =>
    rw [c0] at h hnil
    exact ⟨_, _, h, hE, by unfold packE; rw [c0]; exact hnil 12 rfl (by decide)⟩
  | true =>
    rw [c0] at h hnil
    simp only [cond_true] at h hnil
    cases c1 : decide ((((theK (packZ (numsOf n f))).length : Nat) : Int) < 1) with
    | true =>
      rw [c1] at h hnil
      exact ⟨_, _, h, hA, by unfold packE; rw [c0, c1]; exact hnil 1 rfl (by decide)⟩
    | false =>
      rw [c1] at h hnil
      simp only [cond_false] at h hnil
      cases c2 : decide ((((theK (packZ (numsOf n f))).length : Nat) : Int) > 1024) with
      | true =>
        rw [c2] at h hnil
        exact ⟨_, _, h, hB, by unfold packE; rw [c0, c1, c2]; exact hnil 1 rfl (by decide)⟩
      | false =>
        have hpos : Nat.blt 0 n = true := by
          rw [Nat.blt_eq]
          rcases Nat.eq_zero_or_pos n with h0 | h0
          · subst h0
            exact absurd (show decide ((((theK (packZ (numsOf 0 f))).length : Nat) : Int) < 1) = true from rfl) (by rw [c1]; decide)
          · exact h0
        rw [c2] at h hnil
        simp only [cond_false] at h hnil
        rw [hpos] at h
        cases c3 : nu (numsOf n f) 0 == 0 with
        | true =>
          rw [c3] at h hnil
          exact ⟨_, _, h, by simpa using hC, by unfold packE; rw [c0, c1, c2, c3]; exact hnil 1 rfl (by decide)⟩
        | false =>
          rw [c3] at h
          refine ⟨_, _, h, by simpa using hD, PLe.of_eq ?_⟩
          have e : packE (numsOf n f) = 0 := by unfold packE; rw [c0, c1, c2, c3]; rfl
          unfold packR
          rw [e]
          rfl
theorem npack_ok : PureOK Tryz.prog (GG m t fr) 26 packG := by
  refine PureOK.of (fn_cuts mixed E4_ok (fn := Tryz.f26) (cuts := cut1 0 (pkCut (GG m t fr))) (by kernel_rfl) (CutLaws.one (by omega) (by kernel_rfl) fun st e st' h => cutOf_ok E4_ok mixed (noCuts_ok (envOf_cuts ..) _) pkF_ok h)) fun ps p hp => ?_
  unfold packG at hp
  split at hp
  · rename_i n f
    obtain ⟨hc, hp⟩ := br_run hp
    simp only [Bool.and_eq_true] at hc
    simp only [Tr.run, Option.some.injEq] at hp
    subst hp
    obtain ⟨q, bs, h1, h2, h3⟩ := pack_raw hc.1 hc.2 (pk_raw m t fr n f) (by simp [hc.1]; simpa using hc.2) (by simp [hc.1]; simpa using hc.2) (by simp [hc.1]; simpa using hc.2) (by simp [hc.1]; simpa using hc.2) (by simp [hc.1]; simpa using hc.2)
    exact ⟨q, Tr.run_of h1 h2, h3⟩
  · cases hp
theorem rpack_ok : PureOK Tryz.prog (GG m t fr) 28 packG := by
  refine PureOK.of (fn_cuts mixed E4_ok (fn := Tryz.f28) (cuts := cut1 0 (rpCut (GG m t fr))) (by kernel_rfl) (CutLaws.one (by omega) (by kernel_rfl) fun st e st' h => cutOf_ok E4_ok mixed (noCuts_ok (envOf_cuts ..) _) rpF_ok h)) fun ps p hp => ?_
  unfold packG at hp
  split at hp
  · rename_i n f
    obtain ⟨hc, hp⟩ := br_run hp
    simp only [Bool.and_eq_true] at hc
    simp only [Tr.run, Option.some.injEq] at hp
    subst hp
    obtain ⟨q, bs, h1, h2, h3⟩ := pack_raw hc.1 hc.2 (rp_raw m t fr n f) (by simp [hc.1]; simpa using hc.2) (by simp [hc.1]; simpa using hc.2) (by simp [hc.1]; simpa using hc.2) (by simp [hc.1]; simpa using hc.2) (by simp [hc.1]; simpa using hc.2)
    exact ⟨q, Tr.run_of h1 h2, h3⟩
  · cases hp
def same3G : List PV → Tr PV
  | [.gsl 2 n f, .gsl 2 n' f'] => .br (areSps n f && areSps n' f' && Nat.ble n 4294967280) (.leaf (bool (decide (spsOf n f = spsOf n' f')))) .fail
  | _ => .fail
theorem same3_ok : PureOK Tryz.prog (GG m t fr) 42 same3G := by
  refine PureOK.of (fn_cuts mixed E4_ok (fn := Tryz.f42) (cuts := cut1 0 (s3Cut (GG m t fr))) (by kernel_rfl) (CutLaws.one (by omega) (by kernel_rfl) fun st e st' h => cutOf_ok E4_ok mixed (noCuts_ok (envOf_cuts ..) _) s3F_ok h)) fun ps p hp => ?_
  unfold same3G at hp
  split at hp
  · rename_i n f n' f'
    obtain ⟨hc, hp⟩ := br_run hp
    simp only [Bool.and_eq_true, Nat.ble_eq] at hc
    obtain ⟨⟨h1, h2⟩, h3⟩ := hc
    simp only [Tr.run, Option.some.injEq] at hp
    subst hp
    have h := s3_raw m t fr n n' f f'
    by_cases hn : n = n'
    · subst hn
      have hb : bne ((n : Nat) : Int) ((n : Nat) : Int) = false := by simp
      rw [hb] at h
      cases hd : decide (spsOf n f = spsOf n f') with
      | true =>
        rw [hd] at h
        exact ⟨_, Tr.run_of h (by simp [h1, h2, h3]), PLe.of_eq rfl⟩
      | false =>
        rw [hd] at h
        exact ⟨_, Tr.run_of h (by simp [h1, h2, h3]), PLe.of_eq rfl⟩
    · have hb : bne ((n : Nat) : Int) ((n' : Nat) : Int) = true := by simp; omega
      rw [hb] at h
      refine ⟨_, Tr.run_of h (by simp), PLe.of_eq ?_⟩
      have : decide (spsOf n f = spsOf n' f') = false := decide_eq_false fun e => hn (by rw [← sps_len n f, e, sps_len])
      rw [this]
  · cases hp
def npPure : List (Nat × (List PV → Tr PV)) := (26, packG) :: (28, packG) :: (42, same3G) :: nsPure
theorem npPure_ok {m : Int} {t : TypeId} {fr : Nat × Nat} : TabOK Tryz.prog (GG m t fr) npPure := (TabOK.cons npack_ok (fn := Tryz.f26) (by kernel_rfl) (by kernel_rfl) (TabOK.cons rpack_ok (fn := Tryz.f28) (by kernel_rfl) (by kernel_rfl) (TabOK.cons same3_ok (fn := Tryz.f42) (by kernel_rfl) (by kernel_rfl) nsPure_ok)))
noncomputable abbrev E5 (G : GT) : Env := envOf Tryz.prog G npPure nbFull
theorem E5_ok : (E5 (GG m t fr)).ok Tryz.prog (GG m t fr) := envOf_ok mixed npPure_ok nbFull_ok
end
end Go.Proofs.YtcdghinmmhcfcaaGreatDoor.Ev

/- What every row of this seat shares: a world that fits, the listed table's cells, the bulk of a text. No condition. -/
namespace Go.Proofs.YtcdghinmmhcfcaaGreatDoor
open Go.ChangeShapes Go.WideShapes Go.ChangeAt Go.RowKit
theorem own : ownKnob Tryz.prog.godebug = none := by kernel_rfl
/-- There is an input that fits, in a world into which the listed variables are laid. -/
theorem witness_laid {H : Type} {enc : TypeId × Value → H} {os : Os} {f : FuncId} {fn : Func} {s : OpenSpec} {conds : List PathCond} {apart : Bool} {laid : List (String × DataW Unit)} (args : Array Value)
    (hsh : ((World.laidAll Tryz.prog os laid).forCall (fun _ _ => 0) ⟨#[], args, []⟩).Shaped Tryz.prog)
    (hok : Input.okWideB Tryz.prog ((World.laidAll Tryz.prog os laid).forCall (fun _ _ => 0) ⟨#[], args, []⟩) f ⟨#[], args, []⟩ = true)
    (hrow : s.preRow enc Tryz.prog fn conds apart laid ((World.laidAll Tryz.prog os laid).forCall (fun _ _ => 0) ⟨#[], args, []⟩).memory args) :
    ∃ (w : World) (tape : Tape) (i : Input), w.os = os ∧ (w.forCall tape i).Shaped Tryz.checked.prog ∧ i.vars = [] ∧ Input.okWide Tryz.checked.prog (w.forCall tape i) .any w.heap.size f i ∧
      s.preRow enc Tryz.checked.prog fn conds apart laid (w.forCall tape i).memory i.args ∧ ({} : Assume).holds Tryz.checked.prog (lone (Frame.enter Tryz.checked.prog f i.args .normal) [] (w.forCall tape i)) :=
  ⟨World.laidAll Tryz.prog os laid, fun _ _ => 0, ⟨#[], args, []⟩, World.laidAll_os _ _ _, hsh, (Input.okWide_of_okWideB (base := 0) hok).1, (Input.okWide_of_okWideB hok).2, hrow, by
    simp only [Assume.holds]
    exact ⟨by simp, by simp, by simp, by simp, by simp⟩⟩
/-- A listed table's cells, wherever it stands on the list. -/
theorem tab_of_reads {P : Program} {W : World} {name : String} {k : IntKind} {zs : List Int} {g : Nat} {t e : TypeId} {n : Nat}
    (hg : P.globalNamed name = some g) (hty : (P.globals[g]?).map (·.type) = some t) (ht : P.underlying t = some (.array n e)) (he : P.underlying e = some (.int k)) (hce : P.cellsOf e = 1) (hct : P.cellsOf t = n)
    (h : Lib.VarReads P W name (Lib.tabData k zs)) : Lib.TabIs P W name k zs := by
  obtain ⟨g', t', cs, fuel, p, hg', ht', hvar, hd⟩ := h
  obtain rfl := Option.some.inj (hg.symm.trans hg')
  obtain rfl := Option.some.inj (hty.symm.trans ht')
  unfold Lib.TabIs
  rw [hvar, ← Lib.cells_of_tab ht he hce hct hd]
theorem laid_plain {l : List (String × DataW Unit)} {W : World} (hp : (l.all fun x => x.2.handleName?.isNone) = true) (h : laidMetH Tryz.prog l W) : laidMet Tryz.prog l W := by
  rw [MakeChecks.laidMetH_plain _ _ _ hp] at h
  exact h
/-! ### what is small -/
theorem bulk_part {H : Type} {d : DataW H} {l : List (DataW H)} (h : d ∈ l) : Rows.uptoBulk d ≤ Rows.uptoBulkAll l := by
  induction l with
  | nil => cases h
  | cons x r ih =>
    simp only [Rows.uptoBulkAll]
    cases List.mem_cons.1 h with
    | inl e => subst e; omega
    | inr e => have := ih e; omega
theorem bulk_string {H : Type} (bytes : List UInt8) : Rows.uptoBulk (DataW.lit (H := H) (.string bytes)) = bytes.length + 1 := by
  simp [Rows.uptoBulk]
theorem bulk_bound {H : Type} {l : List (DataW H)} (hk : Rows.uptoSmall H l = true) : Rows.uptoBulkAll l ≤ 1048576 := of_decide_eq_true hk
end Go.Proofs.YtcdghinmmhcfcaaGreatDoor

/- What is known of a world; a law that answers true, called in it. No condition. -/
namespace Go.Proofs.YtcdghinmmhcfcaaGreatDoor.Ev
open Go Go.RowKit Go.Proofs Go.ChangeShapes Go.WideShapes Go.ChangeAt
/-- what is known of a world: all that it holds -/
def Held (W : World) (b o : Nat) (v : Value) : Prop := W.cell? ⟨b, o, none⟩ = some v
theorem gptr1 {C : Nat → Nat → Value → Prop} {m : Nat → Option Value} {g : Nat} {p : PV} {v : Value} (hc : C g 0 v) (h1 : v.oneCell' = true) (h : Rep C (fun _ => none) p v) : Rep C m (.gptr [p]) (.pointer (some ⟨g, 0, none⟩)) := by
  refine .gptr m [p] g 0 (fun _ => v) (fun j hj => ?_) (fun j q hq => ?_)
  · have : j = 0 := by simp at hj; exact hj
    subst this
    exact ⟨hc, h1⟩
  · cases j with
    | zero =>
      simp only [List.getElem?_cons_zero, Option.some.injEq] at hq
      subst hq
      exact h
    | succ j => simp at hq
theorem RepL.ofLits {C : Nat → Nat → Value → Prop} (vs : List Value) : RepL C (vs.map PV.lit) vs.toArray := by
  refine ⟨by simp, fun i p v hp hv => ?_⟩
  rw [List.getElem?_map] at hp
  have hv' : vs[i]? = some v := by simpa using hv
  rw [hv'] at hp
  simp only [Option.map_some, Option.some.injEq] at hp
  subst hp
  exact .lit _ _
/-- a function that answers true at these arguments, called in a world that fits -/
theorem walkTrue {G : GT} {W : World} (hG : Globs G (Held W)) (hO : Objs G W) {f : FuncId} {g : List PV → Tr PV} (h : PureOK Tryz.prog G f g) {ps : List PV} {args : Array Value} (hg : (g ps).run = some (bool true)) (hr : RepL (Held W) ps args) :
    Calls Tryz.prog f args W fun e w' => e = .returned (.bool true) ∧ Below W.heap.size W w' := by
  refine (h ps _ hg W (Held W) (fun b o v h => h) hG hO args hr).mono ?_
  rintro (v | e) w' hq
  · obtain ⟨hk, hp⟩ := hq
    cases hp
    exact ⟨rfl, hk.os, hk.tape, hk.output, hk.size, hk.block⟩
  all_goals exact hq.elim
end Go.Proofs.YtcdghinmmhcfcaaGreatDoor.Ev
