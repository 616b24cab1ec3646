/- lex: what a line announces, by both. No condition. -/
import Derived.Test.YtnidaonmigjgkaaDoorLxD
namespace Go.Proofs.YtnidaonmigjgkaaDoor.Ev
open Go Go.RowKit Go.Proofs Go.Proofs.YtnidaonmigjgkaaDoor.Str
set_option linter.unusedVariables false
set_option linter.unusedSimpArgs false
section
variable {m : Int} {t : TypeId} {fr : Nat × Nat}
def numPure : List (Nat × (List PV → Tr PV)) := (20, numberG) :: (21, digitsG) :: (15, lineG) :: (16, lineG) :: libPure
theorem numPure_ok : TabOK Tryd.prog (GG m t fr) numPure :=
  TabOK.cons number_ok (fn := Tryd.f20) (by kernel_rfl) (by kernel_rfl) (TabOK.cons digits_ok (fn := Tryd.f21) (by kernel_rfl) (by kernel_rfl) (TabOK.cons line_ok (fn := Tryd.f15) (by kernel_rfl) (by kernel_rfl) (TabOK.cons rline_ok (fn := Tryd.f16) (by kernel_rfl) (by kernel_rfl) libPure_ok)))
noncomputable abbrev E2 (G : GT) : Env := envOf Tryd.prog G numPure libFull
theorem E2_ok : (E2 (GG m t fr)).ok Tryd.prog (GG m t fr) := envOf_ok mixed numPure_ok libFull_ok
-- from: ann_raw [bs, okS, numI, numR, ls] (m : Int) (t : TypeId) (fr : Nat × Nat) (s : ByteArray) : (fnPure Tryd.prog (E2 (GG m t fr)) 60 Tryd.f8 (GG m t fr) [str s]).run2
theorem ann_raw (m : Int) (t : TypeId) (fr : Nat × Nat) (s : ByteArray) : (fnPure Tryd.prog (E2 (GG m t fr)) 60 Tryd.f8 (GG m t fr) [str s]).run2 =
    (bif (!(Lib.hasSuffix (ls s) [(125 : UInt8)])) then
        (.some ((.tup [(.lit (.int .i64 (0 : Int))), (.lit (.bool false))]), [true, true, (okS (bs (Lib.trimSuffix (Lib.trimSuffix (ls s) [(125 : UInt8)]) [(43 : UInt8)]))), (okS (bs (Lib.trimSuffix (ls s) [(125 : UInt8)]))), (okS s)]))
      else bif (decide ((Lib.lastIndexByte (bs (Lib.trimSuffix (Lib.trimSuffix (ls s) [(125 : UInt8)]) [(43 : UInt8)])) (123 : Int)) < (0 : Int))) then
          (.some ((.tup [(.lit (.int .i64 (0 : Int))), (.lit (.bool false))]), [(okS (bs (Lib.trimSuffix (Lib.trimSuffix (ls s) [(125 : UInt8)]) [(43 : UInt8)]))), (okS (bs (Lib.trimSuffix (ls s) [(125 : UInt8)]))), (okS s)]))
        else (.some ((.tup [(.lit (.int .i64 (((numR (ls (ByteArray.extract (bs (Lib.trimSuffix (Lib.trimSuffix (ls s) [(125 : UInt8)]) [(43 : UInt8)])) (Int.toNat (IntKind.wrap .i64 ((Lib.lastIndexByte (bs (Lib.trimSuffix (Lib.trimSuffix (ls s) [(125 : UInt8)]) [(43 : UInt8)])) (123 : Int)) + (1 : Int)))) (Int.toNat (((List.length (Lib.trimSuffix (Lib.trimSuffix (ls s) [(125 : UInt8)]) [(43 : UInt8)])) : Nat) : Int))))) : Nat) : Int))), (.lit (.bool (numI (ls (ByteArray.extract (bs (Lib.trimSuffix (Lib.trimSuffix (ls s) [(125 : UInt8)]) [(43 : UInt8)])) (Int.toNat (IntKind.wrap .i64 ((Lib.lastIndexByte (bs (Lib.trimSuffix (Lib.trimSuffix (ls s) [(125 : UInt8)]) [(43 : UInt8)])) (123 : Int)) + (1 : Int)))) (Int.toNat (((List.length (Lib.trimSuffix (Lib.trimSuffix (ls s) [(125 : UInt8)]) [(43 : UInt8)])) : Nat) : Int)))))))]), [(okS (ByteArray.extract (bs (Lib.trimSuffix (Lib.trimSuffix (ls s) [(125 : UInt8)]) [(43 : UInt8)])) (Int.toNat (IntKind.wrap .i64 ((Lib.lastIndexByte (bs (Lib.trimSuffix (Lib.trimSuffix (ls s) [(125 : UInt8)]) [(43 : UInt8)])) (123 : Int)) + (1 : Int)))) (Int.toNat (((List.length (Lib.trimSuffix (Lib.trimSuffix (ls s) [(125 : UInt8)]) [(43 : UInt8)])) : Nat) : Int)))), (((decide ((0 : Int) ≤ (IntKind.wrap .i64 ((Lib.lastIndexByte (bs (Lib.trimSuffix (Lib.trimSuffix (ls s) [(125 : UInt8)]) [(43 : UInt8)])) (123 : Int)) + (1 : Int))))) && (decide ((IntKind.wrap .i64 ((Lib.lastIndexByte (bs (Lib.trimSuffix (Lib.trimSuffix (ls s) [(125 : UInt8)]) [(43 : UInt8)])) (123 : Int)) + (1 : Int))) ≤ (((List.length (Lib.trimSuffix (Lib.trimSuffix (ls s) [(125 : UInt8)]) [(43 : UInt8)])) : Nat) : Int)))) && (decide ((((List.length (Lib.trimSuffix (Lib.trimSuffix (ls s) [(125 : UInt8)]) [(43 : UInt8)])) : Nat) : Int) ≤ (((List.length (Lib.trimSuffix (Lib.trimSuffix (ls s) [(125 : UInt8)]) [(43 : UInt8)])) : Nat) : Int)))), (okS (bs (Lib.trimSuffix (Lib.trimSuffix (ls s) [(125 : UInt8)]) [(43 : UInt8)]))), (okS (bs (Lib.trimSuffix (ls s) [(125 : UInt8)]))), (okS s)])) : Option (PV × List Bool)) := by
  kernel_rfl
def rannOuts : Exit → Outs
  | .normal => { ks := [4, 5] }
  | .exit _ => { ks := [4] }
  | .ret => { ks := [2, 3] }
  | _ => { ks := [] }
noncomputable abbrev rannRound (G : GT) := roundT Tryd.prog (E2 G) 60 G 57 rannOuts .normal (theLoop 0 Tryd.f9)
-- from: rann_round [bs, okS, numI, numR, ls] (m : Int) (t : TypeId) (fr : Nat × Nat) (s : ByteArray) (i : Int) : (rannRound (GG m t fr) ([str s, int i], [])).run2
theorem rann_round (m : Int) (t : TypeId) (fr : Nat × Nat) (s : ByteArray) (i : Int) : (rannRound (GG m t fr) ([str s, int i], [])).run2 =
    (bif (decide (i ≥ (0 : Int))) then
        bif ((((UInt8.toNat (Array.getD (ByteArray.data s) (Int.toNat i) (0 : UInt8))) : Nat) : Int) == (123 : Int)) then
          (.some ((.ret, ([(.lit (.int .i64 (ite ((cond (numI (ls (ByteArray.extract s (Int.toNat (IntKind.wrap .i64 (i + (1 : Int)))) (Int.toNat (((List.length (ls s)) : Nat) : Int))))) (((numR (ls (ByteArray.extract s (Int.toNat (IntKind.wrap .i64 (i + (1 : Int)))) (Int.toNat (((List.length (ls s)) : Nat) : Int))))) : Nat) : Int) (-1 : Int)) > (0 : Int)) (cond (numI (ls (ByteArray.extract s (Int.toNat (IntKind.wrap .i64 (i + (1 : Int)))) (Int.toNat (((List.length (ls s)) : Nat) : Int))))) (((numR (ls (ByteArray.extract s (Int.toNat (IntKind.wrap .i64 (i + (1 : Int)))) (Int.toNat (((List.length (ls s)) : Nat) : Int))))) : Nat) : Int) (-1 : Int)) (0 : Int)))), (.lit (.bool (decide ((cond (numI (ls (ByteArray.extract s (Int.toNat (IntKind.wrap .i64 (i + (1 : Int)))) (Int.toNat (((List.length (ls s)) : Nat) : Int))))) (((numR (ls (ByteArray.extract s (Int.toNat (IntKind.wrap .i64 (i + (1 : Int)))) (Int.toNat (((List.length (ls s)) : Nat) : Int))))) : Nat) : Int) (-1 : Int)) ≥ (0 : Int)))))], [])), [(((decide ((0 : Int) ≤ (IntKind.wrap .i64 (i + (1 : Int))))) && (decide ((IntKind.wrap .i64 (i + (1 : Int))) ≤ (((List.length (ls s)) : Nat) : Int)))) && (decide ((((List.length (ls s)) : Nat) : Int) ≤ (((List.length (ls s)) : Nat) : Int)))), ((decide ((0 : Int) ≤ i)) && (Nat.blt (Int.toNat i) (List.length (ls s))))]))
        else (.some ((.normal, ([(.lit (.string s)), (.lit (.int .i64 (IntKind.wrap .i64 (i - (1 : Int)))))], [])), [((decide ((0 : Int) ≤ i)) && (Nat.blt (Int.toNat i) (List.length (ls s))))]))
      else (.some (((.exit 0), ([(.lit (.string s))], [])), [])) : Option ((Exit × Kept) × List Bool)) := by
  kernel_rfl
/-- what stands behind the last such byte of the first so many -/
def lastC (c : UInt8) (l : List UInt8) : Nat → Option (List UInt8)
  | 0 => none
  | k + 1 => bif decide (l.getD k 0 = c) then some (l.drop (k + 1)) else lastC c l k
def hasC (o : Option (List UInt8)) : Bool := o.isSome
def theC (o : Option (List UInt8)) : List UInt8 := o.getD []
def rannF : Kept → Tr (Exit × Kept)
  | ([.lit (.string s), .lit (.int .i64 i)], []) => .br (okS s && decide (-1 ≤ i) && decide (i < (s.size : Int))) (.br (hasC (lastC 123 (ls s) (i + 1).toNat)) (.leaf (.ret, ([int ((numR (theC (lastC 123 (ls s) (i + 1).toNat)) : Nat) : Int), bool (numI (theC (lastC 123 (ls s) (i + 1).toNat)))], [])))
      (.leaf (.exit 0, ([str s], [])))) .fail
  | _ => .fail
noncomputable abbrev rannCut (G : GT) := cutOf G 57 rannOuts 0 rannF
-- from: rann_raw [bs, okS, numI, numR, ls, lastC, hasC, theC] (m : Int) (t : TypeId) (fr : Nat × Nat) (s : ByteArray) : (fnPure Tryd.prog ((E2 (GG m t fr)).withCuts (cut1 0 (rannCut (GG m t fr)))) 60 Tryd.f9 (GG m t fr) [str s]).run2
theorem rann_raw (m : Int) (t : TypeId) (fr : Nat × Nat) (s : ByteArray) : (fnPure Tryd.prog ((E2 (GG m t fr)).withCuts (cut1 0 (rannCut (GG m t fr)))) 60 Tryd.f9 (GG m t fr) [str s]).run2 =
    (bif ((ByteArray.toList s) == (ByteArray.toList (.mk (List.toArray [])))) then
        (.some ((.tup [(.lit (.int .i64 (0 : Int))), (.lit (.bool false))]), [true, true, true, true, true]))
      else bif (bne (((UInt8.toNat (Array.getD (ByteArray.data s) (Int.toNat (IntKind.wrap .i64 ((((List.length (ls s)) : Nat) : Int) - (1 : Int)))) (0 : UInt8))) : Nat) : Int) (125 : Int)) then
          (.some ((.tup [(.lit (.int .i64 (0 : Int))), (.lit (.bool false))]), [((decide ((0 : Int) ≤ (IntKind.wrap .i64 ((((List.length (ls s)) : Nat) : Int) - (1 : Int))))) && (Nat.blt (Int.toNat (IntKind.wrap .i64 ((((List.length (ls s)) : Nat) : Int) - (1 : Int)))) (List.length (ls s))))]))
        else bif (!((ByteArray.toList (ByteArray.extract s 0 (Int.toNat (IntKind.wrap .i64 ((((List.length (ls s)) : Nat) : Int) - (1 : Int)))))) == (ByteArray.toList (.mk (List.toArray []))))) then
            bif ((((UInt8.toNat (Array.getD (ByteArray.data (ByteArray.extract s 0 (Int.toNat (IntKind.wrap .i64 ((((List.length (ls s)) : Nat) : Int) - (1 : Int)))))) (Int.toNat (IntKind.wrap .i64 ((((List.length (ls (ByteArray.extract s 0 (Int.toNat (IntKind.wrap .i64 ((((List.length (ls s)) : Nat) : Int) - (1 : Int))))))) : Nat) : Int) - (1 : Int)))) (0 : UInt8))) : Nat) : Int) == (43 : Int)) then
              bif (hasC (lastC (123 : UInt8) (ls (ByteArray.extract (ByteArray.extract s 0 (Int.toNat (IntKind.wrap .i64 ((((List.length (ls s)) : Nat) : Int) - (1 : Int))))) 0 (Int.toNat (IntKind.wrap .i64 ((((List.length (ls (ByteArray.extract s 0 (Int.toNat (IntKind.wrap .i64 ((((List.length (ls s)) : Nat) : Int) - (1 : Int))))))) : Nat) : Int) - (1 : Int)))))) (Int.toNat ((IntKind.wrap .i64 ((((List.length (ls (ByteArray.extract (ByteArray.extract s 0 (Int.toNat (IntKind.wrap .i64 ((((List.length (ls s)) : Nat) : Int) - (1 : Int))))) 0 (Int.toNat (IntKind.wrap .i64 ((((List.length (ls (ByteArray.extract s 0 (Int.toNat (IntKind.wrap .i64 ((((List.length (ls s)) : Nat) : Int) - (1 : Int))))))) : Nat) : Int) - (1 : Int))))))) : Nat) : Int) - (1 : Int))) + (1 : Int))))) then
                (.some ((.tup [(.lit (.int .i64 (((numR (theC (lastC (123 : UInt8) (ls (ByteArray.extract (ByteArray.extract s 0 (Int.toNat (IntKind.wrap .i64 ((((List.length (ls s)) : Nat) : Int) - (1 : Int))))) 0 (Int.toNat (IntKind.wrap .i64 ((((List.length (ls (ByteArray.extract s 0 (Int.toNat (IntKind.wrap .i64 ((((List.length (ls s)) : Nat) : Int) - (1 : Int))))))) : Nat) : Int) - (1 : Int)))))) (Int.toNat ((IntKind.wrap .i64 ((((List.length (ls (ByteArray.extract (ByteArray.extract s 0 (Int.toNat (IntKind.wrap .i64 ((((List.length (ls s)) : Nat) : Int) - (1 : Int))))) 0 (Int.toNat (IntKind.wrap .i64 ((((List.length (ls (ByteArray.extract s 0 (Int.toNat (IntKind.wrap .i64 ((((List.length (ls s)) : Nat) : Int) - (1 : Int))))))) : Nat) : Int) - (1 : Int))))))) : Nat) : Int) - (1 : Int))) + (1 : Int)))))) : Nat) : Int))), (.lit (.bool (numI (theC (lastC (123 : UInt8) (ls (ByteArray.extract (ByteArray.extract s 0 (Int.toNat (IntKind.wrap .i64 ((((List.length (ls s)) : Nat) : Int) - (1 : Int))))) 0 (Int.toNat (IntKind.wrap .i64 ((((List.length (ls (ByteArray.extract s 0 (Int.toNat (IntKind.wrap .i64 ((((List.length (ls s)) : Nat) : Int) - (1 : Int))))))) : Nat) : Int) - (1 : Int)))))) (Int.toNat ((IntKind.wrap .i64 ((((List.length (ls (ByteArray.extract (ByteArray.extract s 0 (Int.toNat (IntKind.wrap .i64 ((((List.length (ls s)) : Nat) : Int) - (1 : Int))))) 0 (Int.toNat (IntKind.wrap .i64 ((((List.length (ls (ByteArray.extract s 0 (Int.toNat (IntKind.wrap .i64 ((((List.length (ls s)) : Nat) : Int) - (1 : Int))))))) : Nat) : Int) - (1 : Int))))))) : Nat) : Int) - (1 : Int))) + (1 : Int))))))))]), [(((okS (ByteArray.extract (ByteArray.extract s 0 (Int.toNat (IntKind.wrap .i64 ((((List.length (ls s)) : Nat) : Int) - (1 : Int))))) 0 (Int.toNat (IntKind.wrap .i64 ((((List.length (ls (ByteArray.extract s 0 (Int.toNat (IntKind.wrap .i64 ((((List.length (ls s)) : Nat) : Int) - (1 : Int))))))) : Nat) : Int) - (1 : Int)))))) && (decide ((-1 : Int) ≤ (IntKind.wrap .i64 ((((List.length (ls (ByteArray.extract (ByteArray.extract s 0 (Int.toNat (IntKind.wrap .i64 ((((List.length (ls s)) : Nat) : Int) - (1 : Int))))) 0 (Int.toNat (IntKind.wrap .i64 ((((List.length (ls (ByteArray.extract s 0 (Int.toNat (IntKind.wrap .i64 ((((List.length (ls s)) : Nat) : Int) - (1 : Int))))))) : Nat) : Int) - (1 : Int))))))) : Nat) : Int) - (1 : Int)))))) && (decide ((IntKind.wrap .i64 ((((List.length (ls (ByteArray.extract (ByteArray.extract s 0 (Int.toNat (IntKind.wrap .i64 ((((List.length (ls s)) : Nat) : Int) - (1 : Int))))) 0 (Int.toNat (IntKind.wrap .i64 ((((List.length (ls (ByteArray.extract s 0 (Int.toNat (IntKind.wrap .i64 ((((List.length (ls s)) : Nat) : Int) - (1 : Int))))))) : Nat) : Int) - (1 : Int))))))) : Nat) : Int) - (1 : Int))) < (((List.length (ls (ByteArray.extract (ByteArray.extract s 0 (Int.toNat (IntKind.wrap .i64 ((((List.length (ls s)) : Nat) : Int) - (1 : Int))))) 0 (Int.toNat (IntKind.wrap .i64 ((((List.length (ls (ByteArray.extract s 0 (Int.toNat (IntKind.wrap .i64 ((((List.length (ls s)) : Nat) : Int) - (1 : Int))))))) : Nat) : Int) - (1 : Int))))))) : Nat) : Int)))), ((decide ((0 : Int) ≤ (IntKind.wrap .i64 ((((List.length (ls (ByteArray.extract s 0 (Int.toNat (IntKind.wrap .i64 ((((List.length (ls s)) : Nat) : Int) - (1 : Int))))))) : Nat) : Int) - (1 : Int))))) && (decide ((IntKind.wrap .i64 ((((List.length (ls (ByteArray.extract s 0 (Int.toNat (IntKind.wrap .i64 ((((List.length (ls s)) : Nat) : Int) - (1 : Int))))))) : Nat) : Int) - (1 : Int))) ≤ (((List.length (ls (ByteArray.extract s 0 (Int.toNat (IntKind.wrap .i64 ((((List.length (ls s)) : Nat) : Int) - (1 : Int))))))) : Nat) : Int)))), ((decide ((0 : Int) ≤ (IntKind.wrap .i64 ((((List.length (ls (ByteArray.extract s 0 (Int.toNat (IntKind.wrap .i64 ((((List.length (ls s)) : Nat) : Int) - (1 : Int))))))) : Nat) : Int) - (1 : Int))))) && (Nat.blt (Int.toNat (IntKind.wrap .i64 ((((List.length (ls (ByteArray.extract s 0 (Int.toNat (IntKind.wrap .i64 ((((List.length (ls s)) : Nat) : Int) - (1 : Int))))))) : Nat) : Int) - (1 : Int)))) (List.length (ls (ByteArray.extract s 0 (Int.toNat (IntKind.wrap .i64 ((((List.length (ls s)) : Nat) : Int) - (1 : Int))))))))), ((decide ((0 : Int) ≤ (IntKind.wrap .i64 ((((List.length (ls s)) : Nat) : Int) - (1 : Int))))) && (decide ((IntKind.wrap .i64 ((((List.length (ls s)) : Nat) : Int) - (1 : Int))) ≤ (((List.length (ls s)) : Nat) : Int)))), ((decide ((0 : Int) ≤ (IntKind.wrap .i64 ((((List.length (ls s)) : Nat) : Int) - (1 : Int))))) && (Nat.blt (Int.toNat (IntKind.wrap .i64 ((((List.length (ls s)) : Nat) : Int) - (1 : Int)))) (List.length (ls s))))]))
              else (.some ((.tup [(.lit (.int .i64 (0 : Int))), (.lit (.bool false))]), [(((okS (ByteArray.extract (ByteArray.extract s 0 (Int.toNat (IntKind.wrap .i64 ((((List.length (ls s)) : Nat) : Int) - (1 : Int))))) 0 (Int.toNat (IntKind.wrap .i64 ((((List.length (ls (ByteArray.extract s 0 (Int.toNat (IntKind.wrap .i64 ((((List.length (ls s)) : Nat) : Int) - (1 : Int))))))) : Nat) : Int) - (1 : Int)))))) && (decide ((-1 : Int) ≤ (IntKind.wrap .i64 ((((List.length (ls (ByteArray.extract (ByteArray.extract s 0 (Int.toNat (IntKind.wrap .i64 ((((List.length (ls s)) : Nat) : Int) - (1 : Int))))) 0 (Int.toNat (IntKind.wrap .i64 ((((List.length (ls (ByteArray.extract s 0 (Int.toNat (IntKind.wrap .i64 ((((List.length (ls s)) : Nat) : Int) - (1 : Int))))))) : Nat) : Int) - (1 : Int))))))) : Nat) : Int) - (1 : Int)))))) && (decide ((IntKind.wrap .i64 ((((List.length (ls (ByteArray.extract (ByteArray.extract s 0 (Int.toNat (IntKind.wrap .i64 ((((List.length (ls s)) : Nat) : Int) - (1 : Int))))) 0 (Int.toNat (IntKind.wrap .i64 ((((List.length (ls (ByteArray.extract s 0 (Int.toNat (IntKind.wrap .i64 ((((List.length (ls s)) : Nat) : Int) - (1 : Int))))))) : Nat) : Int) - (1 : Int))))))) : Nat) : Int) - (1 : Int))) < (((List.length (ls (ByteArray.extract (ByteArray.extract s 0 (Int.toNat (IntKind.wrap .i64 ((((List.length (ls s)) : Nat) : Int) - (1 : Int))))) 0 (Int.toNat (IntKind.wrap .i64 ((((List.length (ls (ByteArray.extract s 0 (Int.toNat (IntKind.wrap .i64 ((((List.length (ls s)) : Nat) : Int) - (1 : Int))))))) : Nat) : Int) - (1 : Int))))))) : Nat) : Int)))), ((decide ((0 : Int) ≤ (IntKind.wrap .i64 ((((List.length (ls (ByteArray.extract s 0 (Int.toNat (IntKind.wrap .i64 ((((List.length (ls s)) : Nat) : Int) - (1 : Int))))))) : Nat) : Int) - (1 : Int))))) && (decide ((IntKind.wrap .i64 ((((List.length (ls (ByteArray.extract s 0 (Int.toNat (IntKind.wrap .i64 ((((List.length (ls s)) : Nat) : Int) - (1 : Int))))))) : Nat) : Int) - (1 : Int))) ≤ (((List.length (ls (ByteArray.extract s 0 (Int.toNat (IntKind.wrap .i64 ((((List.length (ls s)) : Nat) : Int) - (1 : Int))))))) : Nat) : Int)))), ((decide ((0 : Int) ≤ (IntKind.wrap .i64 ((((List.length (ls (ByteArray.extract s 0 (Int.toNat (IntKind.wrap .i64 ((((List.length (ls s)) : Nat) : Int) - (1 : Int))))))) : Nat) : Int) - (1 : Int))))) && (Nat.blt (Int.toNat (IntKind.wrap .i64 ((((List.length (ls (ByteArray.extract s 0 (Int.toNat (IntKind.wrap .i64 ((((List.length (ls s)) : Nat) : Int) - (1 : Int))))))) : Nat) : Int) - (1 : Int)))) (List.length (ls (ByteArray.extract s 0 (Int.toNat (IntKind.wrap .i64 ((((List.length (ls s)) : Nat) : Int) - (1 : Int))))))))), ((decide ((0 : Int) ≤ (IntKind.wrap .i64 ((((List.length (ls s)) : Nat) : Int) - (1 : Int))))) && (decide ((IntKind.wrap .i64 ((((List.length (ls s)) : Nat) : Int) - (1 : Int))) ≤ (((List.length (ls s)) : Nat) : Int)))), ((decide ((0 : Int) ≤ (IntKind.wrap .i64 ((((List.length (ls s)) : Nat) : Int) - (1 : Int))))) && (Nat.blt (Int.toNat (IntKind.wrap .i64 ((((List.length (ls s)) : Nat) : Int) - (1 : Int)))) (List.length (ls s))))]))
            else bif (hasC (lastC (123 : UInt8) (ls (ByteArray.extract s 0 (Int.toNat (IntKind.wrap .i64 ((((List.length (ls s)) : Nat) : Int) - (1 : Int)))))) (Int.toNat ((IntKind.wrap .i64 ((((List.length (ls (ByteArray.extract s 0 (Int.toNat (IntKind.wrap .i64 ((((List.length (ls s)) : Nat) : Int) - (1 : Int))))))) : Nat) : Int) - (1 : Int))) + (1 : Int))))) then
                (.some ((.tup [(.lit (.int .i64 (((numR (theC (lastC (123 : UInt8) (ls (ByteArray.extract s 0 (Int.toNat (IntKind.wrap .i64 ((((List.length (ls s)) : Nat) : Int) - (1 : Int)))))) (Int.toNat ((IntKind.wrap .i64 ((((List.length (ls (ByteArray.extract s 0 (Int.toNat (IntKind.wrap .i64 ((((List.length (ls s)) : Nat) : Int) - (1 : Int))))))) : Nat) : Int) - (1 : Int))) + (1 : Int)))))) : Nat) : Int))), (.lit (.bool (numI (theC (lastC (123 : UInt8) (ls (ByteArray.extract s 0 (Int.toNat (IntKind.wrap .i64 ((((List.length (ls s)) : Nat) : Int) - (1 : Int)))))) (Int.toNat ((IntKind.wrap .i64 ((((List.length (ls (ByteArray.extract s 0 (Int.toNat (IntKind.wrap .i64 ((((List.length (ls s)) : Nat) : Int) - (1 : Int))))))) : Nat) : Int) - (1 : Int))) + (1 : Int))))))))]), [(((okS (ByteArray.extract s 0 (Int.toNat (IntKind.wrap .i64 ((((List.length (ls s)) : Nat) : Int) - (1 : Int)))))) && (decide ((-1 : Int) ≤ (IntKind.wrap .i64 ((((List.length (ls (ByteArray.extract s 0 (Int.toNat (IntKind.wrap .i64 ((((List.length (ls s)) : Nat) : Int) - (1 : Int))))))) : Nat) : Int) - (1 : Int)))))) && (decide ((IntKind.wrap .i64 ((((List.length (ls (ByteArray.extract s 0 (Int.toNat (IntKind.wrap .i64 ((((List.length (ls s)) : Nat) : Int) - (1 : Int))))))) : Nat) : Int) - (1 : Int))) < (((List.length (ls (ByteArray.extract s 0 (Int.toNat (IntKind.wrap .i64 ((((List.length (ls s)) : Nat) : Int) - (1 : Int))))))) : Nat) : Int)))), ((decide ((0 : Int) ≤ (IntKind.wrap .i64 ((((List.length (ls (ByteArray.extract s 0 (Int.toNat (IntKind.wrap .i64 ((((List.length (ls s)) : Nat) : Int) - (1 : Int))))))) : Nat) : Int) - (1 : Int))))) && (Nat.blt (Int.toNat (IntKind.wrap .i64 ((((List.length (ls (ByteArray.extract s 0 (Int.toNat (IntKind.wrap .i64 ((((List.length (ls s)) : Nat) : Int) - (1 : Int))))))) : Nat) : Int) - (1 : Int)))) (List.length (ls (ByteArray.extract s 0 (Int.toNat (IntKind.wrap .i64 ((((List.length (ls s)) : Nat) : Int) - (1 : Int))))))))), ((decide ((0 : Int) ≤ (IntKind.wrap .i64 ((((List.length (ls s)) : Nat) : Int) - (1 : Int))))) && (decide ((IntKind.wrap .i64 ((((List.length (ls s)) : Nat) : Int) - (1 : Int))) ≤ (((List.length (ls s)) : Nat) : Int)))), ((decide ((0 : Int) ≤ (IntKind.wrap .i64 ((((List.length (ls s)) : Nat) : Int) - (1 : Int))))) && (Nat.blt (Int.toNat (IntKind.wrap .i64 ((((List.length (ls s)) : Nat) : Int) - (1 : Int)))) (List.length (ls s))))]))
              else (.some ((.tup [(.lit (.int .i64 (0 : Int))), (.lit (.bool false))]), [(((okS (ByteArray.extract s 0 (Int.toNat (IntKind.wrap .i64 ((((List.length (ls s)) : Nat) : Int) - (1 : Int)))))) && (decide ((-1 : Int) ≤ (IntKind.wrap .i64 ((((List.length (ls (ByteArray.extract s 0 (Int.toNat (IntKind.wrap .i64 ((((List.length (ls s)) : Nat) : Int) - (1 : Int))))))) : Nat) : Int) - (1 : Int)))))) && (decide ((IntKind.wrap .i64 ((((List.length (ls (ByteArray.extract s 0 (Int.toNat (IntKind.wrap .i64 ((((List.length (ls s)) : Nat) : Int) - (1 : Int))))))) : Nat) : Int) - (1 : Int))) < (((List.length (ls (ByteArray.extract s 0 (Int.toNat (IntKind.wrap .i64 ((((List.length (ls s)) : Nat) : Int) - (1 : Int))))))) : Nat) : Int)))), ((decide ((0 : Int) ≤ (IntKind.wrap .i64 ((((List.length (ls (ByteArray.extract s 0 (Int.toNat (IntKind.wrap .i64 ((((List.length (ls s)) : Nat) : Int) - (1 : Int))))))) : Nat) : Int) - (1 : Int))))) && (Nat.blt (Int.toNat (IntKind.wrap .i64 ((((List.length (ls (ByteArray.extract s 0 (Int.toNat (IntKind.wrap .i64 ((((List.length (ls s)) : Nat) : Int) - (1 : Int))))))) : Nat) : Int) - (1 : Int)))) (List.length (ls (ByteArray.extract s 0 (Int.toNat (IntKind.wrap .i64 ((((List.length (ls s)) : Nat) : Int) - (1 : Int))))))))), ((decide ((0 : Int) ≤ (IntKind.wrap .i64 ((((List.length (ls s)) : Nat) : Int) - (1 : Int))))) && (decide ((IntKind.wrap .i64 ((((List.length (ls s)) : Nat) : Int) - (1 : Int))) ≤ (((List.length (ls s)) : Nat) : Int)))), ((decide ((0 : Int) ≤ (IntKind.wrap .i64 ((((List.length (ls s)) : Nat) : Int) - (1 : Int))))) && (Nat.blt (Int.toNat (IntKind.wrap .i64 ((((List.length (ls s)) : Nat) : Int) - (1 : Int)))) (List.length (ls s))))]))
          else bif (hasC (lastC (123 : UInt8) (ls (ByteArray.extract s 0 (Int.toNat (IntKind.wrap .i64 ((((List.length (ls s)) : Nat) : Int) - (1 : Int)))))) (Int.toNat ((IntKind.wrap .i64 ((((List.length (ls (ByteArray.extract s 0 (Int.toNat (IntKind.wrap .i64 ((((List.length (ls s)) : Nat) : Int) - (1 : Int))))))) : Nat) : Int) - (1 : Int))) + (1 : Int))))) then
              (.some ((.tup [(.lit (.int .i64 (((numR (theC (lastC (123 : UInt8) (ls (ByteArray.extract s 0 (Int.toNat (IntKind.wrap .i64 ((((List.length (ls s)) : Nat) : Int) - (1 : Int)))))) (Int.toNat ((IntKind.wrap .i64 ((((List.length (ls (ByteArray.extract s 0 (Int.toNat (IntKind.wrap .i64 ((((List.length (ls s)) : Nat) : Int) - (1 : Int))))))) : Nat) : Int) - (1 : Int))) + (1 : Int)))))) : Nat) : Int))), (.lit (.bool (numI (theC (lastC (123 : UInt8) (ls (ByteArray.extract s 0 (Int.toNat (IntKind.wrap .i64 ((((List.length (ls s)) : Nat) : Int) - (1 : Int)))))) (Int.toNat ((IntKind.wrap .i64 ((((List.length (ls (ByteArray.extract s 0 (Int.toNat (IntKind.wrap .i64 ((((List.length (ls s)) : Nat) : Int) - (1 : Int))))))) : Nat) : Int) - (1 : Int))) + (1 : Int))))))))]), [(((okS (ByteArray.extract s 0 (Int.toNat (IntKind.wrap .i64 ((((List.length (ls s)) : Nat) : Int) - (1 : Int)))))) && (decide ((-1 : Int) ≤ (IntKind.wrap .i64 ((((List.length (ls (ByteArray.extract s 0 (Int.toNat (IntKind.wrap .i64 ((((List.length (ls s)) : Nat) : Int) - (1 : Int))))))) : Nat) : Int) - (1 : Int)))))) && (decide ((IntKind.wrap .i64 ((((List.length (ls (ByteArray.extract s 0 (Int.toNat (IntKind.wrap .i64 ((((List.length (ls s)) : Nat) : Int) - (1 : Int))))))) : Nat) : Int) - (1 : Int))) < (((List.length (ls (ByteArray.extract s 0 (Int.toNat (IntKind.wrap .i64 ((((List.length (ls s)) : Nat) : Int) - (1 : Int))))))) : Nat) : Int)))), ((decide ((0 : Int) ≤ (IntKind.wrap .i64 ((((List.length (ls s)) : Nat) : Int) - (1 : Int))))) && (decide ((IntKind.wrap .i64 ((((List.length (ls s)) : Nat) : Int) - (1 : Int))) ≤ (((List.length (ls s)) : Nat) : Int)))), ((decide ((0 : Int) ≤ (IntKind.wrap .i64 ((((List.length (ls s)) : Nat) : Int) - (1 : Int))))) && (Nat.blt (Int.toNat (IntKind.wrap .i64 ((((List.length (ls s)) : Nat) : Int) - (1 : Int)))) (List.length (ls s))))]))
            else (.some ((.tup [(.lit (.int .i64 (0 : Int))), (.lit (.bool false))]), [(((okS (ByteArray.extract s 0 (Int.toNat (IntKind.wrap .i64 ((((List.length (ls s)) : Nat) : Int) - (1 : Int)))))) && (decide ((-1 : Int) ≤ (IntKind.wrap .i64 ((((List.length (ls (ByteArray.extract s 0 (Int.toNat (IntKind.wrap .i64 ((((List.length (ls s)) : Nat) : Int) - (1 : Int))))))) : Nat) : Int) - (1 : Int)))))) && (decide ((IntKind.wrap .i64 ((((List.length (ls (ByteArray.extract s 0 (Int.toNat (IntKind.wrap .i64 ((((List.length (ls s)) : Nat) : Int) - (1 : Int))))))) : Nat) : Int) - (1 : Int))) < (((List.length (ls (ByteArray.extract s 0 (Int.toNat (IntKind.wrap .i64 ((((List.length (ls s)) : Nat) : Int) - (1 : Int))))))) : Nat) : Int)))), ((decide ((0 : Int) ≤ (IntKind.wrap .i64 ((((List.length (ls s)) : Nat) : Int) - (1 : Int))))) && (decide ((IntKind.wrap .i64 ((((List.length (ls s)) : Nat) : Int) - (1 : Int))) ≤ (((List.length (ls s)) : Nat) : Int)))), ((decide ((0 : Int) ≤ (IntKind.wrap .i64 ((((List.length (ls s)) : Nat) : Int) - (1 : Int))))) && (Nat.blt (Int.toNat (IntKind.wrap .i64 ((((List.length (ls s)) : Nat) : Int) - (1 : Int)))) (List.length (ls s))))])) : Option (PV × List Bool)) := by
  kernel_rfl
/-- the text of a line's number: what stands behind the last bracket -/
def annT (l : List UInt8) : List UInt8 := Lib.trimSuffix (Lib.trimSuffix l [125]) [43]
def annC (l : List UInt8) : List UInt8 := theC (lastC 123 (annT l) (annT l).length)
def annI (l : List UInt8) : Bool := Lib.hasSuffix l [125] && numI (annC l)
def annR (l : List UInt8) : Nat := bif Lib.hasSuffix l [125] then numR (annC l) else 0
def annG : List PV → Tr PV
  | [.lit (.string s)] => .br (okS s) (.leaf (.tup [int ((annR (ls s) : Nat) : Int), bool (annI (ls s))])) .fail
  | _ => .fail
theorem trimSuf_len (l p : List UInt8) : (Lib.trimSuffix l p).length ≤ l.length := by
  unfold Lib.trimSuffix
  split
  · rw [List.length_take]
    omega
  · exact Nat.le_refl _
theorem numR_le (l : List UInt8) : numR l < 1000000000 := by
  unfold numR
  cases h : numI l with
  | false => simp
  | true =>
    unfold numI at h
    simp only [Bool.and_eq_true, decide_eq_true_eq, Bool.not_eq_true', List.isEmpty_eq_false_iff] at h
    exact (parseB_ok h.1.1.1 h.1.1.2 h.2).2
theorem lastC_idx (c : UInt8) (u : List UInt8) : ∀ k, k ≤ u.length → (lastC c u k = none ∧ Lib.lastIdx (bs u) ((c.toNat : Nat) : Int) k = -1) ∨ (∃ i, i < k ∧ lastC c u k = some (u.drop (i + 1)) ∧ Lib.lastIdx (bs u) ((c.toNat : Nat) : Int) k = (i : Int))
  | 0, _ => .inl ⟨rfl, rfl⟩
  | k + 1, hk => by
    have hb : (bs u).data[k]! = u.getD k 0 := by
      have : k < u.length := hk
      simp [bs, this]
    unfold lastC Lib.lastIdx
    rw [hb]
    by_cases h : u.getD k 0 = c
    · rw [decide_eq_true h, if_pos (by rw [h])]
      exact .inr ⟨k, by omega, rfl, rfl⟩
    · rw [decide_eq_false h, if_neg (fun e => h (UInt8.toNat_inj.1 (by omega)))]
      rcases lastC_idx c u k (by omega) with h' | ⟨i, hi, h'⟩
      · exact .inl h'
      · exact .inr ⟨i, by omega, h'⟩
theorem ann_ok : PureOK Tryd.prog (GG m t fr) 8 annG := by
  refine PureOK.of (fn_pure mixed E2_ok (envOf_cuts ..) (fn := Tryd.f8) (by kernel_rfl)) fun ps p hp => ?_
  unfold annG at hp
  split at hp
  · rename_i s
    obtain ⟨hs, hp⟩ := br_run hp
    simp only [Tr.run, Option.some.injEq] at hp
    subst hp
    have h := ann_raw m t fr s
    have hs' := okS_le hs
    have hT : Lib.trimSuffix (Lib.trimSuffix (ls s) [125]) [43] = annT (ls s) := rfl
    have l1 := trimSuf_len (ls s) [125]
    have l2 := trimSuf_len (Lib.trimSuffix (ls s) [125]) [43]
    rw [hT] at h l2
    rw [ls_len] at l1
    have o1 : okS (bs (Lib.trimSuffix (ls s) [125])) = true := okS_of (by rw [bs_len]; omega)
    have o2 : okS (bs (annT (ls s))) = true := okS_of (by rw [bs_len]; omega)
    cases hx : Lib.hasSuffix (ls s) [125] with
    | false =>
      rw [hx] at h
      refine ⟨_, Tr.run_of h (by simp [hs, o1, o2]), PLe.of_eq ?_⟩
      simp [annR, annI, hx]
    | true =>
      rw [hx] at h
      simp only [Bool.not_true, cond_false] at h
      have e123 : (123 : Int) = (((123 : UInt8).toNat : Nat) : Int) := rfl
      have hbl : (bs (annT (ls s))).size = (annT (ls s)).length := bs_len _
      rcases lastC_idx 123 (annT (ls s)) (annT (ls s)).length (Nat.le_refl _) with ⟨hn, hi⟩ | ⟨i, hik, hn, hi⟩
      · have hI : Lib.lastIndexByte (bs (annT (ls s))) 123 = -1 := by
          unfold Lib.lastIndexByte
          rw [hbl, e123]
          exact hi
        rw [hI] at h
        have e1 : decide ((-1 : Int) < 0) = true := rfl
        rw [e1] at h
        refine ⟨_, Tr.run_of h (by simp [hs, o1, o2]), PLe.of_eq ?_⟩
        simp [annR, annI, hx, annC, hn, theC, numR, numI]
      · have hI : Lib.lastIndexByte (bs (annT (ls s))) 123 = (i : Int) := by
          unfold Lib.lastIndexByte
          rw [hbl, e123]
          exact hi
        rw [hI] at h
        have e1 : decide (((i : Nat) : Int) < 0) = false := by simp
        have hw : IntKind.i64.wrap ((i : Int) + 1) = ((i + 1 : Nat) : Int) := wrap_succ (by omega)
        rw [e1, hw, Int.toNat_natCast, Int.toNat_natCast] at h
        simp only [cond_false] at h
        have hC : annC (ls s) = (annT (ls s)).drop (i + 1) := by unfold annC; rw [hn]; rfl
        have hE : ls ((bs (annT (ls s))).extract (i + 1) (annT (ls s)).length) = annC (ls s) := by
          rw [ls_ext, ls_bs, List.take_length, hC]
        have o3 : okS ((bs (annT (ls s))).extract (i + 1) (annT (ls s)).length) = true := okS_of (by
          rw [← ls_len, hE, hC, List.length_drop]
          omega)
        rw [hE, o3] at h
        refine ⟨_, Tr.run_of h (by simp [hs, o1, o2]; omega), PLe.of_eq ?_⟩
        simp [annR, annI, hx]
  · cases hp
-- the document's
def rannEnd (s : ByteArray) : Option (List UInt8) → Exit × Kept
  | some r => (.ret, ([int ((numR r : Nat) : Int), bool (numI r)], []))
  | none => (.exit 0, ([str s], []))
theorem rann_LR (s : ByteArray) (hs : s.size ≤ 4294967280) : ∀ (k : Nat) (i : Int), i = (k : Int) - 1 → k ≤ s.size →
    LR Tryd.prog (E2 (GG m t fr)) 60 (GG m t fr) 57 rannOuts .normal (theLoop 0 Tryd.f9) ([str s, int i], []) (rannEnd s (lastC 123 (ls s) k)).1 (rannEnd s (lastC 123 (ls s) k)).2
  | 0, i, hi, _ => by
    have h := rann_round m t fr s i
    have e1 : decide (i ≥ 0) = false := by simp; omega
    rw [e1] at h
    exact .last (Tr.run_of h (by simp)) (by simp [rannEnd, lastC]) (by simp [rannEnd, lastC])
  | k + 1, i, hi, hk => by
    obtain rfl : i = (k : Int) := by omega
    have h := rann_round m t fr s k
    have e1 : decide ((k : Int) ≥ 0) = true := by simp
    have hb : Nat.blt k (ls s).length = true := by rw [Nat.blt_eq, ls_len]; omega
    have e123 : (123 : Int) = (((123 : UInt8).toNat : Nat) : Int) := rfl
    rw [e1, Int.toNat_natCast, getD_ls, e123, byte_eq] at h
    simp only [cond_true] at h
    by_cases hc : (ls s).getD k 0 = 123
    · have hw : IntKind.i64.wrap ((k : Int) + 1) = ((k + 1 : Nat) : Int) := wrap_succ (by omega)
      have hE : ls (s.extract (k + 1) (ls s).length) = (ls s).drop (k + 1) := by rw [ls_ext, List.take_length]
      rw [decide_eq_true hc, hw, Int.toNat_natCast, Int.toNat_natCast, hE] at h
      have hl : lastC 123 (ls s) (k + 1) = some ((ls s).drop (k + 1)) := by
        unfold lastC
        rw [decide_eq_true hc]
        rfl
      rw [hl]
      have hle : decide (((k + 1 : Nat) : Int) ≤ (((ls s).length : Nat) : Int)) = true := by rw [ls_len]; simp; omega
      rw [hle] at h
      have hend : rannEnd s (some ((ls s).drop (k + 1))) = (.ret, ([int ((numR ((ls s).drop (k + 1)) : Nat) : Int), bool (numI ((ls s).drop (k + 1)))], [])) := rfl
      rw [hend]
      generalize (ls s).drop (k + 1) = r at h ⊢
      cases hI : numI r with
      | true =>
        have ex : (if ((numR r : Nat) : Int) > 0 then ((numR r : Nat) : Int) else 0) = ((numR r : Nat) : Int) := by split <;> omega
        have ey : decide (((numR r : Nat) : Int) ≥ 0) = true := by simp
        rw [hI] at h
        simp only [cond_true] at h
        rw [ex, ey] at h
        exact .last (Tr.run_of h (by simp [hb]; omega)) (by simp) (by simp)
      | false =>
        have ex : numR r = 0 := by simp [numR, hI]
        rw [hI] at h
        rw [ex]
        exact .last (Tr.run_of h (by simp [hb]; omega)) (by simp) (by simp)
    · have hl : lastC 123 (ls s) (k + 1) = lastC 123 (ls s) k := by
        rw [lastC, decide_eq_false hc]
        rfl
      have hw : IntKind.i64.wrap ((k : Int) - 1) = (k : Int) - 1 := by
        have : (k : Int) ≤ 4294967280 := by omega
        simp [IntKind.wrap, IntKind.bits, IntKind.signed]
        omega
      rw [decide_eq_false hc, hw] at h
      rw [hl]
      exact .more (Tr.run_of h (by simp [hb])) (rann_LR s hs k _ rfl (by omega))
theorem rannF_ok (x : Kept) (e : Exit) (y : Kept) (h : (rannF x).run = some (e, y)) : LR Tryd.prog (E2 (GG m t fr)) 60 (GG m t fr) 57 rannOuts .normal (theLoop 0 Tryd.f9) x e y := by
  unfold rannF at h
  split at h
  · rename_i s i
    obtain ⟨hc, h⟩ := br_run h
    simp only [Bool.and_eq_true, decide_eq_true_eq] at hc
    have := rann_LR (m := m) (t := t) (fr := fr) s (okS_le hc.1.1) (i + 1).toNat i (by omega) (by omega)
    cases hl : lastC 123 (ls s) (i + 1).toNat with
    | some r =>
      rw [hl] at this h
      simp only [Tr.run, hasC, theC, Option.isSome_some, Option.getD_some, cond_true, Option.some.injEq, Prod.mk.injEq] at h
      obtain ⟨rfl, rfl⟩ := h
      exact this
    | none =>
      rw [hl] at this h
      simp only [Tr.run, hasC, theC, Option.isSome_none, cond_false, Option.some.injEq, Prod.mk.injEq] at h
      obtain ⟨rfl, rfl⟩ := h
      exact this
  · cases h
theorem hasSuf1 (a : List UInt8) (x c : UInt8) : Lib.hasSuffix (a ++ [x]) [c] = decide (x = c) := by
  unfold Lib.hasSuffix
  by_cases h : x = c
  · rw [decide_eq_true h, h]
    exact List.isSuffixOf_iff_suffix.2 ⟨a, rfl⟩
  · rw [decide_eq_false h, Bool.eq_false_iff]
    intro hs
    rw [List.isSuffixOf_iff_suffix] at hs
    obtain ⟨t, ht⟩ := hs
    have := (List.append_inj' ht rfl).2
    simp at this
    exact h this.symm
theorem trimSuf1 (a : List UInt8) (x c : UInt8) : Lib.trimSuffix (a ++ [x]) [c] = bif decide (x = c) then a else a ++ [x] := by
  unfold Lib.trimSuffix
  rw [hasSuf1]
  cases decide (x = c) <;> simp
theorem wrap_pred {n : Nat} (h : n ≤ 4294967296) : IntKind.i64.wrap ((n : Int) - 1) = (n : Int) - 1 := by
  simp [IntKind.wrap, IntKind.bits, IntKind.signed]
  omega
theorem wrap_pred' {n : Nat} (h : n ≤ 4294967296) : IntKind.i64.wrap (((n + 1 : Nat) : Int) - 1) = (n : Int) := by
  have e : ((n + 1 : Nat) : Int) - 1 = (n : Int) := by omega
  rw [e]
  exact wrap_nat (by omega)
theorem getD_last (a : List UInt8) (x : UInt8) : (a ++ [x]).getD a.length 0 = x := by simp
theorem ext_last (a : List UInt8) (x : UInt8) : (bs (a ++ [x])).extract 0 a.length = bs a := by
  rw [bs_ext, ls_bs]
  simp
theorem snoc (l : List UInt8) : l = [] ∨ ∃ a x, l = a ++ [x] := by
  rcases List.eq_nil_or_concat l with h | ⟨a, x, h⟩
  · exact .inl h
  · exact .inr ⟨a, x, by rw [h, List.concat_eq_append]⟩
theorem rann_ok : PureOK Tryd.prog (GG m t fr) 9 annG := by
  refine PureOK.of (fn_cuts mixed E2_ok (fn := Tryd.f9) (cuts := cut1 0 (rannCut (GG m t fr))) (by kernel_rfl) (CutLaws.one (by omega) (by kernel_rfl) fun st e st' h => cutOf_ok E2_ok mixed (noCuts_ok (envOf_cuts ..) _) rannF_ok h)) fun ps p hp => ?_
  unfold annG at hp
  split at hp
  · rename_i s
    obtain ⟨hs, hp⟩ := br_run hp
    simp only [Tr.run, Option.some.injEq] at hp
    subst hp
    have hs' := okS_le hs
    have h := rann_raw m t fr s
    obtain ⟨l, rfl⟩ : ∃ l, s = bs l := ⟨ls s, (bs_ls s).symm⟩
    rw [bs_len] at hs'
    have e0 : ls (ByteArray.mk (List.toArray [])) = [] := rfl
    have e125 : (125 : Int) = (((125 : UInt8).toNat : Nat) : Int) := rfl
    have e43 : (43 : Int) = (((43 : UInt8).toNat : Nat) : Int) := rfl
    simp only [eqB, e0, getD_ls, ls_bs, bne] at h
    rw [ls_bs]
    rcases snoc l with rfl | ⟨a, x, rfl⟩
    · rw [decide_eq_true rfl] at h
      exact ⟨_, Tr.run_of h (by simp), PLe.of_eq (by simp [annR, annI, Lib.hasSuffix])⟩
    · have hne : decide (a ++ [x] = []) = false := by simp
      have hlen : (a ++ [x]).length = a.length + 1 := by simp
      rw [hlen] at hs'
      have hb : Nat.blt a.length (a.length + 1) = true := by rw [Nat.blt_eq]; omega
      have hd : decide (((a.length : Nat) : Int) ≤ ((a.length + 1 : Nat) : Int)) = true := by simp; omega
      rw [hne, hlen, wrap_pred' (by omega), Int.toNat_natCast, getD_last, e125, byte_eq, ext_last, ls_bs, hb, hd] at h
      simp only [cond_false] at h
      by_cases hx : x = 125
      · subst hx
        rw [decide_eq_true rfl] at h
        simp only [Bool.not_true, cond_false] at h
        have hT : annT (a ++ [125]) = Lib.trimSuffix a [43] := by
          unfold annT
          rw [trimSuf1]
          rfl
        have hS : Lib.hasSuffix (a ++ [125]) [125] = true := by rw [hasSuf1]; rfl
        have fin : ∀ (u : List UInt8), annT (a ++ [125]) = u → (hasC (lastC 123 u u.length) = true → PLe (.tup [.lit (.int .i64 ((numR (theC (lastC 123 u u.length)) : Nat) : Int)), .lit (.bool (numI (theC (lastC 123 u u.length))))]) (.tup [int ((annR (a ++ [125]) : Nat) : Int), bool (annI (a ++ [125]))])) ∧
            (hasC (lastC 123 u u.length) = false → PLe (.tup [.lit (.int .i64 0), .lit (.bool false)]) (.tup [int ((annR (a ++ [125]) : Nat) : Int), bool (annI (a ++ [125]))])) := by
          rintro u rfl
          refine ⟨fun _ => PLe.of_eq ?_, fun hn => PLe.of_eq ?_⟩
          · simp [annR, annI, hS, annC]
          · have : annC (a ++ [125]) = [] := by
              unfold annC
              cases hl : lastC 123 (annT (a ++ [125])) (annT (a ++ [125])).length with
              | none => rfl
              | some r => rw [hl] at hn; cases hn
            simp [annR, annI, hS, this, numR, numI]
        have oa : okS (bs a) = true := okS_of (by rw [bs_len]; omega)
        rcases snoc a with rfl | ⟨b, y, rfl⟩
        · have e1 : decide (([] : List UInt8) = []) = true := rfl
          have w0 : IntKind.i64.wrap (((0 : Nat) : Int) - 1) = -1 := by decide
          have ez : ((-1 : Int) + 1).toNat = 0 := rfl
          rw [e1, List.length_nil, w0, ez] at h
          exact ⟨_, Tr.run_of h (by simp [oa]), (fin [] hT).2 rfl⟩
        · have hne' : decide (b ++ [y] = []) = false := by simp
          have hlen' : (b ++ [y]).length = b.length + 1 := by simp
          rw [hlen'] at hs' h hb hd
          have hb' : Nat.blt b.length (b.length + 1) = true := by rw [Nat.blt_eq]; omega
          have hd' : decide (((b.length : Nat) : Int) ≤ ((b.length + 1 : Nat) : Int)) = true := by simp; omega
          rw [hne', wrap_pred' (by omega), Int.toNat_natCast, getD_last, e43, byte_eq, ext_last, ls_bs, hb', hd'] at h
          simp only [Bool.not_false, cond_true] at h
          have hT' := hT
          rw [trimSuf1] at hT'
          by_cases hy : y = 43
          · subst hy
            rw [decide_eq_true rfl, wrap_pred (by omega)] at h
            rw [decide_eq_true rfl] at hT'
            simp only [cond_true] at h hT'
            have et : (((b.length : Nat) : Int) - 1 + 1).toNat = b.length := by omega
            rw [et] at h
            have ob : okS (bs b) = true := okS_of (by rw [bs_len]; omega)
            cases hc : hasC (lastC 123 b b.length) with
            | true =>
              rw [hc] at h
              exact ⟨_, Tr.run_of h (by simp [oa, ob]; omega), (fin b hT').1 hc⟩
            | false =>
              rw [hc] at h
              exact ⟨_, Tr.run_of h (by simp [oa, ob]; omega), (fin b hT').2 hc⟩
          · rw [decide_eq_false hy] at h hT'
            simp only [cond_false] at h hT'
            have et : (((b.length : Nat) : Int) + 1).toNat = (b ++ [y]).length := by rw [hlen']; omega
            rw [et] at h
            cases hc : hasC (lastC 123 (b ++ [y]) (b ++ [y]).length) with
            | true =>
              rw [hc] at h
              exact ⟨_, Tr.run_of h (by simp [oa]; omega), (fin _ hT').1 hc⟩
            | false =>
              rw [hc] at h
              exact ⟨_, Tr.run_of h (by simp [oa]; omega), (fin _ hT').2 hc⟩
      · rw [decide_eq_false hx] at h
        have hS : Lib.hasSuffix (a ++ [x]) [125] = false := by rw [hasSuf1, decide_eq_false hx]
        exact ⟨_, Tr.run_of h (by simp), PLe.of_eq (by simp [annR, annI, hS])⟩
  · cases hp
end
end Go.Proofs.YtnidaonmigjgkaaDoor.Ev
