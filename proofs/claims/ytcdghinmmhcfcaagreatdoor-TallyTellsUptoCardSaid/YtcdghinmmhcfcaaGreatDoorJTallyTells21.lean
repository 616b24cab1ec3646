/- JTallyTells21: several texts in one. Condition: each part's own. -/
import Derived.Test.YtcdghinmmhcfcaaGreatDoorJTallyTells20
/- The document's Check of a tally, bits 1010. No condition. -/
namespace Go.Proofs.YtcdghinmmhcfcaaGreatDoor.Ev
open Go Go.RowKit Go.Proofs Go.Proofs.YtcdghinmmhcfcaaGreatDoor.Str
set_option linter.unusedVariables false
section
variable {m : Int} {t : TypeId} {fr : Nat × Nat}
theorem rck1010_v (m : Int) (t : TypeId) (fr : Nat × Nat) (w many least most : Int) (n : Nat) (l : List Sp) (b2 b4 s b7 b10 b14 b16 b21 : Bool) : ((fnPure Tryz.prog ((E16k true false true false (GG m t fr)).withCuts (mrg (rckR b2 b4 s b7 b10 b14 b16 b21) noCuts)) 60 Tryz.f17 (GG m t fr) [tlP w many least most n (sRow l)])).val =
 (bif (pkB (spsOf n (sRow l))) then
 bif b2 then
 (.some (.lit (.int .i64 (2 : Int))))
 else bif b4 then
 (.some (.lit (.int .i64 (2 : Int))))
 else bif b7 then
 (.some (.lit (.int .i64 (2 : Int))))
 else bif (decide ((sumS (spsOf n (sRow l))) > (0 : Int))) then
 bif b10 then
 (.some (.lit (.int .i64 (2 : Int))))
 else (.some (.lit (.int .i64 (0 : Int))))
 else bif b14 then
 (.some (.lit (.int .i64 (2 : Int))))
 else bif b16 then
 bif b21 then
 (.some (.lit (.int .i64 (2 : Int))))
 else (.some (.lit (.int .i64 (0 : Int))))
 else (.some (.lit (.int .i64 (0 : Int))))
 else bif b2 then
 (.some (.lit (.int .i64 (2 : Int))))
 else bif b4 then
 (.some (.lit (.int .i64 (2 : Int))))
 else (.some (.lit (.int .i64 (2 : Int)))) : Option PV) := by
  kernel_rfl
theorem rck1010_c (m : Int) (t : TypeId) (fr : Nat × Nat) (w many least most : Int) (n : Nat) (l : List Sp) (b2 b4 s b7 b10 b14 b16 b21 : Bool) : ((fnPure Tryz.prog ((E16k true false true false (GG m t fr)).withCuts (mrg (rckR b2 b4 s b7 b10 b14 b16 b21) noCuts)) 60 Tryz.f17 (GG m t fr) [tlP w many least most n (sRow l)])).conds =
 (bif ((areSps n (sRow l)) && (Nat.ble n (4294967280 : Nat))) then
 bif (pkB (spsOf n (sRow l))) then
 bif (bif (decide (w > (15 : Int))) then true else (bif (decide (many < (0 : Int))) then true else true)) then
 bif ((bif (decide (w > (15 : Int))) then true else (bif (decide (many < (0 : Int))) then true else (decide (many > (65536 : Int))))) == b2) then
 bif b2 then
 true
 else bif (bif ((wb w (8 : Int)) == false) then (bif (bne many (0 : Int)) then true else (bif ((wb w (1 : Int)) == true) then (bif ((wb w (2 : Int)) == false) then (bif (bne most (0 : Int)) then true else (bif ((wb w (4 : Int)) == true) then true else false)) else false) else false)) else false) then
 bif ((bif ((wb w (8 : Int)) == false) then (bif (bne many (0 : Int)) then true else (bif ((wb w (1 : Int)) == true) then (bif ((wb w (2 : Int)) == false) then (bif (bne most (0 : Int)) then true else (bif ((wb w (4 : Int)) == true) then false else false)) else false) else false)) else false) == b4) then
 bif b4 then
 true
 else bif (bif (decide (many > (0 : Int))) then true else (bif (decide (least > (0 : Int))) then true else (bif (decide (most > (0 : Int))) then true else true))) then
 bif ((bif (decide (many > (0 : Int))) then true else (bif (decide (least > (0 : Int))) then true else (bif (decide (most > (0 : Int))) then true else (decide ((sumS (spsOf n (sRow l))) > (0 : Int)))))) == s) then
 bif (bif s then (bif ((wb w (8 : Int)) == false) then (bif ((wb w (1 : Int)) == true) then (bif (least == (0 : Int)) then true else (bif ((wb w (2 : Int)) == false) then (bif ((wb w (4 : Int)) == true) then true else false) else false)) else false) else false) else true) then
 bif ((bif s then (bif ((wb w (8 : Int)) == false) then (bif ((wb w (1 : Int)) == true) then (bif (least == (0 : Int)) then true else (bif ((wb w (2 : Int)) == false) then (bif ((wb w (4 : Int)) == true) then ((sumS (spsOf n (sRow l))) == (0 : Int)) else false) else false)) else false) else false) else false) == b7) then
 bif b7 then
 true
 else bif (decide ((sumS (spsOf n (sRow l))) > (0 : Int))) then
 bif (bif ((wb w (8 : Int)) == false) then (bif ((wb w (1 : Int)) == true) then (bif (Nat.blt 0 n) then (bif (bne least (Prod.fst (sp l 0))) then true else (bif ((wb w (2 : Int)) == false) then true else false)) else false) else false) else false) then
 bif ((bif ((wb w (8 : Int)) == false) then (bif ((wb w (1 : Int)) == true) then (bif (Nat.blt 0 n) then (bif (bne least (Prod.fst (sp l 0))) then true else (bif ((wb w (2 : Int)) == false) then false else false)) else false) else false) else false) == b10) then
 bif b10 then
 true
 else true
 else false
 else false
 else bif (bif ((wb w (1 : Int)) == true) then (bif ((wb w (2 : Int)) == false) then true else false) else false) then
 bif ((bif ((wb w (1 : Int)) == true) then (bif ((wb w (2 : Int)) == false) then false else false) else false) == b14) then
 bif b14 then
 true
 else bif (bif s then (bif ((wb w (8 : Int)) == false) then true else false) else true) then
 bif ((bif s then (bif ((wb w (8 : Int)) == false) then false else false) else false) == b16) then
 bif b16 then
 bif ((wb w (1 : Int)) == true) then
 bif ((wb w (2 : Int)) == false) then
 bif (bif (decide ((IntKind.wrap .u64 many) > (IntKind.wrap .u64 ((IntKind.wrap .u64 ((4294967295 : Int) - (IntKind.wrap .u64 least))) + (1 : Int))))) then true else (bif ((wb w (1 : Int)) == true) then (bif ((wb w (2 : Int)) == false) then true else false) else false)) then
 bif ((bif (decide ((IntKind.wrap .u64 many) > (IntKind.wrap .u64 ((IntKind.wrap .u64 ((4294967295 : Int) - (IntKind.wrap .u64 least))) + (1 : Int))))) then true else (bif ((wb w (1 : Int)) == true) then (bif ((wb w (2 : Int)) == false) then false else false) else false)) == b21) then
 bif b21 then
 true
 else true
 else false
 else false
 else false
 else false
 else true
 else false
 else false
 else false
 else false
 else false
 else false
 else false
 else false
 else false
 else false
 else false
 else false
 else bif (bif (decide (w > (15 : Int))) then true else true) then
 bif ((bif (decide (w > (15 : Int))) then true else true) == b2) then
 bif b2 then
 true
 else bif (bif ((wb w (8 : Int)) == false) then (bif (bne many (0 : Int)) then true else (bif ((wb w (1 : Int)) == true) then (bif ((wb w (2 : Int)) == false) then (bif (bne most (0 : Int)) then true else (bif ((wb w (4 : Int)) == true) then true else false)) else false) else false)) else false) then
 bif ((bif ((wb w (8 : Int)) == false) then (bif (bne many (0 : Int)) then true else (bif ((wb w (1 : Int)) == true) then (bif ((wb w (2 : Int)) == false) then (bif (bne most (0 : Int)) then true else (bif ((wb w (4 : Int)) == true) then false else false)) else false) else false)) else false) == b4) then
 bif b4 then
 true
 else bif (bif (decide (many > (0 : Int))) then true else (bif (decide (least > (0 : Int))) then true else (bif (decide (most > (0 : Int))) then true else false))) then
 bif ((bif (decide (many > (0 : Int))) then true else (bif (decide (least > (0 : Int))) then true else (bif (decide (most > (0 : Int))) then true else false))) == s) then
 bif (bif s then (bif ((wb w (8 : Int)) == false) then (bif ((wb w (1 : Int)) == true) then (bif (least == (0 : Int)) then true else (bif ((wb w (2 : Int)) == false) then (bif ((wb w (4 : Int)) == true) then false else false) else false)) else false) else false) else true) then
 bif ((bif s then (bif ((wb w (8 : Int)) == false) then (bif ((wb w (1 : Int)) == true) then (bif (least == (0 : Int)) then true else (bif ((wb w (2 : Int)) == false) then (bif ((wb w (4 : Int)) == true) then false else false) else false)) else false) else false) else false) == b7) then
 bif b7 then
 true
 else false
 else false
 else false
 else false
 else false
 else false
 else false
 else false
 else false
 else false : Bool) := by
  kernel_rfl
end
end Go.Proofs.YtcdghinmmhcfcaaGreatDoor.Ev

/- The document's Check of a tally, bits 0110. No condition. -/
namespace Go.Proofs.YtcdghinmmhcfcaaGreatDoor.Ev
open Go Go.RowKit Go.Proofs Go.Proofs.YtcdghinmmhcfcaaGreatDoor.Str
set_option linter.unusedVariables false
section
variable {m : Int} {t : TypeId} {fr : Nat × Nat}
theorem rck0110_v (m : Int) (t : TypeId) (fr : Nat × Nat) (w many least most : Int) (n : Nat) (l : List Sp) (b2 b4 s b7 b10 b14 b16 b21 : Bool) : ((fnPure Tryz.prog ((E16k false true true false (GG m t fr)).withCuts (mrg (rckR b2 b4 s b7 b10 b14 b16 b21) noCuts)) 60 Tryz.f17 (GG m t fr) [tlP w many least most n (sRow l)])).val =
 (bif (pkB (spsOf n (sRow l))) then
 bif b2 then
 (.some (.lit (.int .i64 (2 : Int))))
 else bif b4 then
 (.some (.lit (.int .i64 (2 : Int))))
 else bif b7 then
 (.some (.lit (.int .i64 (2 : Int))))
 else bif (decide ((sumS (spsOf n (sRow l))) > (0 : Int))) then
 bif b10 then
 (.some (.lit (.int .i64 (2 : Int))))
 else (.some (.lit (.int .i64 (0 : Int))))
 else bif b14 then
 (.some (.lit (.int .i64 (2 : Int))))
 else bif b16 then
 bif b21 then
 (.some (.lit (.int .i64 (2 : Int))))
 else (.some (.lit (.int .i64 (0 : Int))))
 else (.some (.lit (.int .i64 (0 : Int))))
 else bif b2 then
 (.some (.lit (.int .i64 (2 : Int))))
 else bif b4 then
 (.some (.lit (.int .i64 (2 : Int))))
 else (.some (.lit (.int .i64 (2 : Int)))) : Option PV) := by
  kernel_rfl
theorem rck0110_c (m : Int) (t : TypeId) (fr : Nat × Nat) (w many least most : Int) (n : Nat) (l : List Sp) (b2 b4 s b7 b10 b14 b16 b21 : Bool) : ((fnPure Tryz.prog ((E16k false true true false (GG m t fr)).withCuts (mrg (rckR b2 b4 s b7 b10 b14 b16 b21) noCuts)) 60 Tryz.f17 (GG m t fr) [tlP w many least most n (sRow l)])).conds =
 (bif ((areSps n (sRow l)) && (Nat.ble n (4294967280 : Nat))) then
 bif (pkB (spsOf n (sRow l))) then
 bif (bif (decide (w > (15 : Int))) then true else (bif (decide (many < (0 : Int))) then true else true)) then
 bif ((bif (decide (w > (15 : Int))) then true else (bif (decide (many < (0 : Int))) then true else (decide (many > (65536 : Int))))) == b2) then
 bif b2 then
 true
 else bif (bif ((wb w (8 : Int)) == false) then (bif (bne many (0 : Int)) then true else (bif ((wb w (1 : Int)) == false) then (bif (bne least (0 : Int)) then true else (bif ((wb w (2 : Int)) == true) then (bif ((wb w (4 : Int)) == true) then true else false) else false)) else false)) else false) then
 bif ((bif ((wb w (8 : Int)) == false) then (bif (bne many (0 : Int)) then true else (bif ((wb w (1 : Int)) == false) then (bif (bne least (0 : Int)) then true else (bif ((wb w (2 : Int)) == true) then (bif ((wb w (4 : Int)) == true) then false else false) else false)) else false)) else false) == b4) then
 bif b4 then
 true
 else bif (bif (decide (many > (0 : Int))) then true else (bif (decide (least > (0 : Int))) then true else (bif (decide (most > (0 : Int))) then true else true))) then
 bif ((bif (decide (many > (0 : Int))) then true else (bif (decide (least > (0 : Int))) then true else (bif (decide (most > (0 : Int))) then true else (decide ((sumS (spsOf n (sRow l))) > (0 : Int)))))) == s) then
 bif (bif s then (bif ((wb w (8 : Int)) == false) then (bif ((wb w (1 : Int)) == false) then (bif ((wb w (2 : Int)) == true) then (bif (most == (0 : Int)) then true else (bif ((wb w (4 : Int)) == true) then true else false)) else false) else false) else false) else true) then
 bif ((bif s then (bif ((wb w (8 : Int)) == false) then (bif ((wb w (1 : Int)) == false) then (bif ((wb w (2 : Int)) == true) then (bif (most == (0 : Int)) then true else (bif ((wb w (4 : Int)) == true) then ((sumS (spsOf n (sRow l))) == (0 : Int)) else false)) else false) else false) else false) else false) == b7) then
 bif b7 then
 true
 else bif (decide ((sumS (spsOf n (sRow l))) > (0 : Int))) then
 bif (bif ((wb w (8 : Int)) == false) then (bif ((wb w (1 : Int)) == false) then (bif ((wb w (2 : Int)) == true) then (bif ((decide ((0 : Int) ≤ (IntKind.wrap .i64 (((n : Nat) : Int) - (1 : Int))))) && (Nat.blt (Int.toNat (IntKind.wrap .i64 (((n : Nat) : Int) - (1 : Int)))) n)) then true else false) else false) else false) else false) then
 bif ((bif ((wb w (8 : Int)) == false) then (bif ((wb w (1 : Int)) == false) then (bif ((wb w (2 : Int)) == true) then (bif ((decide ((0 : Int) ≤ (IntKind.wrap .i64 (((n : Nat) : Int) - (1 : Int))))) && (Nat.blt (Int.toNat (IntKind.wrap .i64 (((n : Nat) : Int) - (1 : Int)))) n)) then (bne most (Prod.snd (sp l (Int.toNat (IntKind.wrap .i64 (((n : Nat) : Int) - (1 : Int))))))) else false) else false) else false) else false) == b10) then
 bif b10 then
 true
 else true
 else false
 else false
 else bif (bif ((wb w (1 : Int)) == false) then true else false) then
 bif ((bif ((wb w (1 : Int)) == false) then false else false) == b14) then
 bif b14 then
 true
 else bif (bif s then (bif ((wb w (8 : Int)) == false) then true else false) else true) then
 bif ((bif s then (bif ((wb w (8 : Int)) == false) then false else false) else false) == b16) then
 bif b16 then
 bif ((wb w (1 : Int)) == false) then
 bif ((wb w (2 : Int)) == true) then
 bif (bif (decide ((IntKind.wrap .u64 many) > (IntKind.wrap .u64 ((IntKind.wrap .u64 ((IntKind.wrap .u64 most) - (1 : Int))) + (1 : Int))))) then true else (bif ((wb w (1 : Int)) == false) then true else false)) then
 bif ((bif (decide ((IntKind.wrap .u64 many) > (IntKind.wrap .u64 ((IntKind.wrap .u64 ((IntKind.wrap .u64 most) - (1 : Int))) + (1 : Int))))) then true else (bif ((wb w (1 : Int)) == false) then false else false)) == b21) then
 bif b21 then
 true
 else true
 else false
 else false
 else false
 else false
 else true
 else false
 else false
 else false
 else false
 else false
 else false
 else false
 else false
 else false
 else false
 else false
 else false
 else bif (bif (decide (w > (15 : Int))) then true else true) then
 bif ((bif (decide (w > (15 : Int))) then true else true) == b2) then
 bif b2 then
 true
 else bif (bif ((wb w (8 : Int)) == false) then (bif (bne many (0 : Int)) then true else (bif ((wb w (1 : Int)) == false) then (bif (bne least (0 : Int)) then true else (bif ((wb w (2 : Int)) == true) then (bif ((wb w (4 : Int)) == true) then true else false) else false)) else false)) else false) then
 bif ((bif ((wb w (8 : Int)) == false) then (bif (bne many (0 : Int)) then true else (bif ((wb w (1 : Int)) == false) then (bif (bne least (0 : Int)) then true else (bif ((wb w (2 : Int)) == true) then (bif ((wb w (4 : Int)) == true) then false else false) else false)) else false)) else false) == b4) then
 bif b4 then
 true
 else bif (bif (decide (many > (0 : Int))) then true else (bif (decide (least > (0 : Int))) then true else (bif (decide (most > (0 : Int))) then true else false))) then
 bif ((bif (decide (many > (0 : Int))) then true else (bif (decide (least > (0 : Int))) then true else (bif (decide (most > (0 : Int))) then true else false))) == s) then
 bif (bif s then (bif ((wb w (8 : Int)) == false) then (bif ((wb w (1 : Int)) == false) then (bif ((wb w (2 : Int)) == true) then (bif (most == (0 : Int)) then true else (bif ((wb w (4 : Int)) == true) then false else false)) else false) else false) else false) else true) then
 bif ((bif s then (bif ((wb w (8 : Int)) == false) then (bif ((wb w (1 : Int)) == false) then (bif ((wb w (2 : Int)) == true) then (bif (most == (0 : Int)) then true else (bif ((wb w (4 : Int)) == true) then false else false)) else false) else false) else false) else false) == b7) then
 bif b7 then
 true
 else false
 else false
 else false
 else false
 else false
 else false
 else false
 else false
 else false
 else false : Bool) := by
  kernel_rfl
end
end Go.Proofs.YtcdghinmmhcfcaaGreatDoor.Ev

/- The document's Check of a tally, bits 1110. No condition. -/
namespace Go.Proofs.YtcdghinmmhcfcaaGreatDoor.Ev
open Go Go.RowKit Go.Proofs Go.Proofs.YtcdghinmmhcfcaaGreatDoor.Str
set_option linter.unusedVariables false
section
variable {m : Int} {t : TypeId} {fr : Nat × Nat}
theorem rck1110_v (m : Int) (t : TypeId) (fr : Nat × Nat) (w many least most : Int) (n : Nat) (l : List Sp) (b2 b4 s b7 b10 b14 b16 b21 : Bool) : ((fnPure Tryz.prog ((E16k true true true false (GG m t fr)).withCuts (mrg (rckR b2 b4 s b7 b10 b14 b16 b21) noCuts)) 60 Tryz.f17 (GG m t fr) [tlP w many least most n (sRow l)])).val =
 (bif (pkB (spsOf n (sRow l))) then
 bif b2 then
 (.some (.lit (.int .i64 (2 : Int))))
 else bif b4 then
 (.some (.lit (.int .i64 (2 : Int))))
 else bif b7 then
 (.some (.lit (.int .i64 (2 : Int))))
 else bif (decide ((sumS (spsOf n (sRow l))) > (0 : Int))) then
 bif b10 then
 (.some (.lit (.int .i64 (2 : Int))))
 else (.some (.lit (.int .i64 (0 : Int))))
 else bif b14 then
 (.some (.lit (.int .i64 (2 : Int))))
 else bif b16 then
 bif b21 then
 (.some (.lit (.int .i64 (2 : Int))))
 else (.some (.lit (.int .i64 (0 : Int))))
 else (.some (.lit (.int .i64 (0 : Int))))
 else bif b2 then
 (.some (.lit (.int .i64 (2 : Int))))
 else bif b4 then
 (.some (.lit (.int .i64 (2 : Int))))
 else (.some (.lit (.int .i64 (2 : Int)))) : Option PV) := by
  kernel_rfl
theorem rck1110_c (m : Int) (t : TypeId) (fr : Nat × Nat) (w many least most : Int) (n : Nat) (l : List Sp) (b2 b4 s b7 b10 b14 b16 b21 : Bool) : ((fnPure Tryz.prog ((E16k true true true false (GG m t fr)).withCuts (mrg (rckR b2 b4 s b7 b10 b14 b16 b21) noCuts)) 60 Tryz.f17 (GG m t fr) [tlP w many least most n (sRow l)])).conds =
 (bif ((areSps n (sRow l)) && (Nat.ble n (4294967280 : Nat))) then
 bif (pkB (spsOf n (sRow l))) then
 bif (bif (decide (w > (15 : Int))) then true else (bif (decide (many < (0 : Int))) then true else true)) then
 bif ((bif (decide (w > (15 : Int))) then true else (bif (decide (many < (0 : Int))) then true else (decide (many > (65536 : Int))))) == b2) then
 bif b2 then
 true
 else bif (bif ((wb w (8 : Int)) == false) then (bif (bne many (0 : Int)) then true else (bif ((wb w (1 : Int)) == true) then (bif ((wb w (2 : Int)) == true) then (bif ((wb w (4 : Int)) == true) then true else false) else false) else false)) else false) then
 bif ((bif ((wb w (8 : Int)) == false) then (bif (bne many (0 : Int)) then true else (bif ((wb w (1 : Int)) == true) then (bif ((wb w (2 : Int)) == true) then (bif ((wb w (4 : Int)) == true) then false else false) else false) else false)) else false) == b4) then
 bif b4 then
 true
 else bif (bif (decide (many > (0 : Int))) then true else (bif (decide (least > (0 : Int))) then true else (bif (decide (most > (0 : Int))) then true else true))) then
 bif ((bif (decide (many > (0 : Int))) then true else (bif (decide (least > (0 : Int))) then true else (bif (decide (most > (0 : Int))) then true else (decide ((sumS (spsOf n (sRow l))) > (0 : Int)))))) == s) then
 bif (bif s then (bif ((wb w (8 : Int)) == false) then (bif ((wb w (1 : Int)) == true) then (bif (least == (0 : Int)) then true else (bif ((wb w (2 : Int)) == true) then (bif (most == (0 : Int)) then true else (bif ((wb w (4 : Int)) == true) then true else false)) else false)) else false) else false) else true) then
 bif ((bif s then (bif ((wb w (8 : Int)) == false) then (bif ((wb w (1 : Int)) == true) then (bif (least == (0 : Int)) then true else (bif ((wb w (2 : Int)) == true) then (bif (most == (0 : Int)) then true else (bif ((wb w (4 : Int)) == true) then ((sumS (spsOf n (sRow l))) == (0 : Int)) else false)) else false)) else false) else false) else false) == b7) then
 bif b7 then
 true
 else bif (decide ((sumS (spsOf n (sRow l))) > (0 : Int))) then
 bif (bif ((wb w (8 : Int)) == false) then (bif ((wb w (1 : Int)) == true) then (bif (Nat.blt 0 n) then (bif (bne least (Prod.fst (sp l 0))) then true else (bif ((wb w (2 : Int)) == true) then (bif ((decide ((0 : Int) ≤ (IntKind.wrap .i64 (((n : Nat) : Int) - (1 : Int))))) && (Nat.blt (Int.toNat (IntKind.wrap .i64 (((n : Nat) : Int) - (1 : Int)))) n)) then true else false) else false)) else false) else false) else false) then
 bif ((bif ((wb w (8 : Int)) == false) then (bif ((wb w (1 : Int)) == true) then (bif (Nat.blt 0 n) then (bif (bne least (Prod.fst (sp l 0))) then true else (bif ((wb w (2 : Int)) == true) then (bif ((decide ((0 : Int) ≤ (IntKind.wrap .i64 (((n : Nat) : Int) - (1 : Int))))) && (Nat.blt (Int.toNat (IntKind.wrap .i64 (((n : Nat) : Int) - (1 : Int)))) n)) then (bne most (Prod.snd (sp l (Int.toNat (IntKind.wrap .i64 (((n : Nat) : Int) - (1 : Int))))))) else false) else false)) else false) else false) else false) == b10) then
 bif b10 then
 true
 else true
 else false
 else false
 else bif (bif ((wb w (1 : Int)) == true) then (bif ((wb w (2 : Int)) == true) then true else false) else false) then
 bif ((bif ((wb w (1 : Int)) == true) then (bif ((wb w (2 : Int)) == true) then (decide ((IntKind.wrap .u64 least) > (IntKind.wrap .u64 most))) else false) else false) == b14) then
 bif b14 then
 true
 else bif (bif s then (bif ((wb w (8 : Int)) == false) then true else false) else true) then
 bif ((bif s then (bif ((wb w (8 : Int)) == false) then false else false) else false) == b16) then
 bif b16 then
 bif ((wb w (1 : Int)) == true) then
 bif ((wb w (2 : Int)) == true) then
 bif (bif (decide ((IntKind.wrap .u64 many) > (IntKind.wrap .u64 ((IntKind.wrap .u64 ((IntKind.wrap .u64 most) - (IntKind.wrap .u64 least))) + (1 : Int))))) then true else (bif ((wb w (1 : Int)) == true) then (bif ((wb w (2 : Int)) == true) then (bif (bne (IntKind.wrap .u64 least) (IntKind.wrap .u64 most)) then true else true) else false) else false)) then
 bif ((bif (decide ((IntKind.wrap .u64 many) > (IntKind.wrap .u64 ((IntKind.wrap .u64 ((IntKind.wrap .u64 most) - (IntKind.wrap .u64 least))) + (1 : Int))))) then true else (bif ((wb w (1 : Int)) == true) then (bif ((wb w (2 : Int)) == true) then (bif (bne (IntKind.wrap .u64 least) (IntKind.wrap .u64 most)) then (decide (many < (2 : Int))) else false) else false) else false)) == b21) then
 bif b21 then
 true
 else true
 else false
 else false
 else false
 else false
 else true
 else false
 else false
 else false
 else false
 else false
 else false
 else false
 else false
 else false
 else false
 else false
 else false
 else bif (bif (decide (w > (15 : Int))) then true else true) then
 bif ((bif (decide (w > (15 : Int))) then true else true) == b2) then
 bif b2 then
 true
 else bif (bif ((wb w (8 : Int)) == false) then (bif (bne many (0 : Int)) then true else (bif ((wb w (1 : Int)) == true) then (bif ((wb w (2 : Int)) == true) then (bif ((wb w (4 : Int)) == true) then true else false) else false) else false)) else false) then
 bif ((bif ((wb w (8 : Int)) == false) then (bif (bne many (0 : Int)) then true else (bif ((wb w (1 : Int)) == true) then (bif ((wb w (2 : Int)) == true) then (bif ((wb w (4 : Int)) == true) then false else false) else false) else false)) else false) == b4) then
 bif b4 then
 true
 else bif (bif (decide (many > (0 : Int))) then true else (bif (decide (least > (0 : Int))) then true else (bif (decide (most > (0 : Int))) then true else false))) then
 bif ((bif (decide (many > (0 : Int))) then true else (bif (decide (least > (0 : Int))) then true else (bif (decide (most > (0 : Int))) then true else false))) == s) then
 bif (bif s then (bif ((wb w (8 : Int)) == false) then (bif ((wb w (1 : Int)) == true) then (bif (least == (0 : Int)) then true else (bif ((wb w (2 : Int)) == true) then (bif (most == (0 : Int)) then true else (bif ((wb w (4 : Int)) == true) then false else false)) else false)) else false) else false) else true) then
 bif ((bif s then (bif ((wb w (8 : Int)) == false) then (bif ((wb w (1 : Int)) == true) then (bif (least == (0 : Int)) then true else (bif ((wb w (2 : Int)) == true) then (bif (most == (0 : Int)) then true else (bif ((wb w (4 : Int)) == true) then false else false)) else false)) else false) else false) else false) == b7) then
 bif b7 then
 true
 else false
 else false
 else false
 else false
 else false
 else false
 else false
 else false
 else false
 else false : Bool) := by
  kernel_rfl
end
end Go.Proofs.YtcdghinmmhcfcaaGreatDoor.Ev

/- The document's Check of a tally, bits 0001. No condition. -/
namespace Go.Proofs.YtcdghinmmhcfcaaGreatDoor.Ev
open Go Go.RowKit Go.Proofs Go.Proofs.YtcdghinmmhcfcaaGreatDoor.Str
set_option linter.unusedVariables false
section
variable {m : Int} {t : TypeId} {fr : Nat × Nat}
theorem rck0001_v (m : Int) (t : TypeId) (fr : Nat × Nat) (w many least most : Int) (n : Nat) (l : List Sp) (b2 b4 s b7 b10 b14 b16 b21 : Bool) : ((fnPure Tryz.prog ((E16k false false false true (GG m t fr)).withCuts (mrg (rckR b2 b4 s b7 b10 b14 b16 b21) noCuts)) 60 Tryz.f17 (GG m t fr) [tlP w many least most n (sRow l)])).val =
 (bif (pkB (spsOf n (sRow l))) then
 bif b2 then
 (.some (.lit (.int .i64 (2 : Int))))
 else bif b4 then
 (.some (.lit (.int .i64 (2 : Int))))
 else bif b7 then
 (.some (.lit (.int .i64 (2 : Int))))
 else bif (decide ((sumS (spsOf n (sRow l))) > (0 : Int))) then
 bif b10 then
 (.some (.lit (.int .i64 (2 : Int))))
 else (.some (.lit (.int .i64 (0 : Int))))
 else bif b14 then
 (.some (.lit (.int .i64 (2 : Int))))
 else bif b16 then
 bif b21 then
 (.some (.lit (.int .i64 (2 : Int))))
 else (.some (.lit (.int .i64 (0 : Int))))
 else (.some (.lit (.int .i64 (0 : Int))))
 else bif b2 then
 (.some (.lit (.int .i64 (2 : Int))))
 else bif b4 then
 (.some (.lit (.int .i64 (2 : Int))))
 else (.some (.lit (.int .i64 (2 : Int)))) : Option PV) := by
  kernel_rfl
theorem rck0001_c (m : Int) (t : TypeId) (fr : Nat × Nat) (w many least most : Int) (n : Nat) (l : List Sp) (b2 b4 s b7 b10 b14 b16 b21 : Bool) : ((fnPure Tryz.prog ((E16k false false false true (GG m t fr)).withCuts (mrg (rckR b2 b4 s b7 b10 b14 b16 b21) noCuts)) 60 Tryz.f17 (GG m t fr) [tlP w many least most n (sRow l)])).conds =
 (bif ((areSps n (sRow l)) && (Nat.ble n (4294967280 : Nat))) then
 bif (pkB (spsOf n (sRow l))) then
 bif (bif (decide (w > (15 : Int))) then true else (bif (decide (many < (0 : Int))) then true else true)) then
 bif ((bif (decide (w > (15 : Int))) then true else (bif (decide (many < (0 : Int))) then true else (decide (many > (65536 : Int))))) == b2) then
 bif b2 then
 true
 else bif (bif ((wb w (8 : Int)) == true) then (bif ((wb w (1 : Int)) == false) then (bif (bne least (0 : Int)) then true else (bif ((wb w (2 : Int)) == false) then (bif (bne most (0 : Int)) then true else (bif ((wb w (4 : Int)) == false) then true else false)) else false)) else false) else false) then
 bif ((bif ((wb w (8 : Int)) == true) then (bif ((wb w (1 : Int)) == false) then (bif (bne least (0 : Int)) then true else (bif ((wb w (2 : Int)) == false) then (bif (bne most (0 : Int)) then true else (bif ((wb w (4 : Int)) == false) then (bne (sumS (spsOf n (sRow l))) (0 : Int)) else false)) else false)) else false) else false) == b4) then
 bif b4 then
 true
 else bif (bif (decide (many > (0 : Int))) then true else (bif (decide (least > (0 : Int))) then true else (bif (decide (most > (0 : Int))) then true else true))) then
 bif ((bif (decide (many > (0 : Int))) then true else (bif (decide (least > (0 : Int))) then true else (bif (decide (most > (0 : Int))) then true else (decide ((sumS (spsOf n (sRow l))) > (0 : Int)))))) == s) then
 bif (bif s then (bif ((wb w (8 : Int)) == true) then (bif (many == (0 : Int)) then true else (bif ((wb w (1 : Int)) == false) then (bif ((wb w (2 : Int)) == false) then (bif ((wb w (4 : Int)) == false) then true else false) else false) else false)) else false) else true) then
 bif ((bif s then (bif ((wb w (8 : Int)) == true) then (bif (many == (0 : Int)) then true else (bif ((wb w (1 : Int)) == false) then (bif ((wb w (2 : Int)) == false) then (bif ((wb w (4 : Int)) == false) then false else false) else false) else false)) else false) else false) == b7) then
 bif b7 then
 true
 else bif (decide ((sumS (spsOf n (sRow l))) > (0 : Int))) then
 bif (bif ((wb w (8 : Int)) == true) then (bif (bne (IntKind.wrap .u64 many) (sumS (spsOf n (sRow l)))) then true else (bif ((wb w (1 : Int)) == false) then (bif ((wb w (2 : Int)) == false) then true else false) else false)) else false) then
 bif ((bif ((wb w (8 : Int)) == true) then (bif (bne (IntKind.wrap .u64 many) (sumS (spsOf n (sRow l)))) then true else (bif ((wb w (1 : Int)) == false) then (bif ((wb w (2 : Int)) == false) then false else false) else false)) else false) == b10) then
 bif b10 then
 true
 else true
 else false
 else false
 else bif (bif ((wb w (1 : Int)) == false) then true else false) then
 bif ((bif ((wb w (1 : Int)) == false) then false else false) == b14) then
 bif b14 then
 true
 else bif (bif s then (bif ((wb w (8 : Int)) == true) then true else false) else true) then
 bif ((bif s then (bif ((wb w (8 : Int)) == true) then true else false) else false) == b16) then
 bif b16 then
 bif ((wb w (1 : Int)) == false) then
 bif ((wb w (2 : Int)) == false) then
 bif (bif (decide ((IntKind.wrap .u64 many) > (4294967295 : Int))) then true else (bif ((wb w (1 : Int)) == false) then true else false)) then
 bif ((bif (decide ((IntKind.wrap .u64 many) > (4294967295 : Int))) then true else (bif ((wb w (1 : Int)) == false) then false else false)) == b21) then
 bif b21 then
 true
 else true
 else false
 else false
 else false
 else false
 else true
 else false
 else false
 else false
 else false
 else false
 else false
 else false
 else false
 else false
 else false
 else false
 else false
 else bif (bif (decide (w > (15 : Int))) then true else true) then
 bif ((bif (decide (w > (15 : Int))) then true else true) == b2) then
 bif b2 then
 true
 else bif (bif ((wb w (8 : Int)) == true) then (bif ((wb w (1 : Int)) == false) then (bif (bne least (0 : Int)) then true else (bif ((wb w (2 : Int)) == false) then (bif (bne most (0 : Int)) then true else (bif ((wb w (4 : Int)) == false) then false else false)) else false)) else false) else false) then
 bif ((bif ((wb w (8 : Int)) == true) then (bif ((wb w (1 : Int)) == false) then (bif (bne least (0 : Int)) then true else (bif ((wb w (2 : Int)) == false) then (bif (bne most (0 : Int)) then true else (bif ((wb w (4 : Int)) == false) then false else false)) else false)) else false) else false) == b4) then
 bif b4 then
 true
 else bif (bif (decide (many > (0 : Int))) then true else (bif (decide (least > (0 : Int))) then true else (bif (decide (most > (0 : Int))) then true else false))) then
 bif ((bif (decide (many > (0 : Int))) then true else (bif (decide (least > (0 : Int))) then true else (bif (decide (most > (0 : Int))) then true else false))) == s) then
 bif (bif s then (bif ((wb w (8 : Int)) == true) then (bif (many == (0 : Int)) then true else (bif ((wb w (1 : Int)) == false) then (bif ((wb w (2 : Int)) == false) then (bif ((wb w (4 : Int)) == false) then true else false) else false) else false)) else false) else true) then
 bif ((bif s then (bif ((wb w (8 : Int)) == true) then (bif (many == (0 : Int)) then true else (bif ((wb w (1 : Int)) == false) then (bif ((wb w (2 : Int)) == false) then (bif ((wb w (4 : Int)) == false) then false else false) else false) else false)) else false) else false) == b7) then
 bif b7 then
 true
 else false
 else false
 else false
 else false
 else false
 else false
 else false
 else false
 else false
 else false : Bool) := by
  kernel_rfl
end
end Go.Proofs.YtcdghinmmhcfcaaGreatDoor.Ev

/- The document's Check of a tally, bits 1001. No condition. -/
namespace Go.Proofs.YtcdghinmmhcfcaaGreatDoor.Ev
open Go Go.RowKit Go.Proofs Go.Proofs.YtcdghinmmhcfcaaGreatDoor.Str
set_option linter.unusedVariables false
section
variable {m : Int} {t : TypeId} {fr : Nat × Nat}
theorem rck1001_v (m : Int) (t : TypeId) (fr : Nat × Nat) (w many least most : Int) (n : Nat) (l : List Sp) (b2 b4 s b7 b10 b14 b16 b21 : Bool) : ((fnPure Tryz.prog ((E16k true false false true (GG m t fr)).withCuts (mrg (rckR b2 b4 s b7 b10 b14 b16 b21) noCuts)) 60 Tryz.f17 (GG m t fr) [tlP w many least most n (sRow l)])).val =
 (bif (pkB (spsOf n (sRow l))) then
 bif b2 then
 (.some (.lit (.int .i64 (2 : Int))))
 else bif b4 then
 (.some (.lit (.int .i64 (2 : Int))))
 else bif b7 then
 (.some (.lit (.int .i64 (2 : Int))))
 else bif (decide ((sumS (spsOf n (sRow l))) > (0 : Int))) then
 bif b10 then
 (.some (.lit (.int .i64 (2 : Int))))
 else (.some (.lit (.int .i64 (0 : Int))))
 else bif b14 then
 (.some (.lit (.int .i64 (2 : Int))))
 else bif b16 then
 bif b21 then
 (.some (.lit (.int .i64 (2 : Int))))
 else (.some (.lit (.int .i64 (0 : Int))))
 else (.some (.lit (.int .i64 (0 : Int))))
 else bif b2 then
 (.some (.lit (.int .i64 (2 : Int))))
 else bif b4 then
 (.some (.lit (.int .i64 (2 : Int))))
 else (.some (.lit (.int .i64 (2 : Int)))) : Option PV) := by
  kernel_rfl
theorem rck1001_c (m : Int) (t : TypeId) (fr : Nat × Nat) (w many least most : Int) (n : Nat) (l : List Sp) (b2 b4 s b7 b10 b14 b16 b21 : Bool) : ((fnPure Tryz.prog ((E16k true false false true (GG m t fr)).withCuts (mrg (rckR b2 b4 s b7 b10 b14 b16 b21) noCuts)) 60 Tryz.f17 (GG m t fr) [tlP w many least most n (sRow l)])).conds =
 (bif ((areSps n (sRow l)) && (Nat.ble n (4294967280 : Nat))) then
 bif (pkB (spsOf n (sRow l))) then
 bif (bif (decide (w > (15 : Int))) then true else (bif (decide (many < (0 : Int))) then true else true)) then
 bif ((bif (decide (w > (15 : Int))) then true else (bif (decide (many < (0 : Int))) then true else (decide (many > (65536 : Int))))) == b2) then
 bif b2 then
 true
 else bif (bif ((wb w (8 : Int)) == true) then (bif ((wb w (1 : Int)) == true) then (bif ((wb w (2 : Int)) == false) then (bif (bne most (0 : Int)) then true else (bif ((wb w (4 : Int)) == false) then true else false)) else false) else false) else false) then
 bif ((bif ((wb w (8 : Int)) == true) then (bif ((wb w (1 : Int)) == true) then (bif ((wb w (2 : Int)) == false) then (bif (bne most (0 : Int)) then true else (bif ((wb w (4 : Int)) == false) then (bne (sumS (spsOf n (sRow l))) (0 : Int)) else false)) else false) else false) else false) == b4) then
 bif b4 then
 true
 else bif (bif (decide (many > (0 : Int))) then true else (bif (decide (least > (0 : Int))) then true else (bif (decide (most > (0 : Int))) then true else true))) then
 bif ((bif (decide (many > (0 : Int))) then true else (bif (decide (least > (0 : Int))) then true else (bif (decide (most > (0 : Int))) then true else (decide ((sumS (spsOf n (sRow l))) > (0 : Int)))))) == s) then
 bif (bif s then (bif ((wb w (8 : Int)) == true) then (bif (many == (0 : Int)) then true else (bif ((wb w (1 : Int)) == true) then (bif (least == (0 : Int)) then true else (bif ((wb w (2 : Int)) == false) then (bif ((wb w (4 : Int)) == false) then true else false) else false)) else false)) else false) else true) then
 bif ((bif s then (bif ((wb w (8 : Int)) == true) then (bif (many == (0 : Int)) then true else (bif ((wb w (1 : Int)) == true) then (bif (least == (0 : Int)) then true else (bif ((wb w (2 : Int)) == false) then (bif ((wb w (4 : Int)) == false) then false else false) else false)) else false)) else false) else false) == b7) then
 bif b7 then
 true
 else bif (decide ((sumS (spsOf n (sRow l))) > (0 : Int))) then
 bif (bif ((wb w (8 : Int)) == true) then (bif (bne (IntKind.wrap .u64 many) (sumS (spsOf n (sRow l)))) then true else (bif ((wb w (1 : Int)) == true) then (bif (Nat.blt 0 n) then (bif (bne least (Prod.fst (sp l 0))) then true else (bif ((wb w (2 : Int)) == false) then true else false)) else false) else false)) else false) then
 bif ((bif ((wb w (8 : Int)) == true) then (bif (bne (IntKind.wrap .u64 many) (sumS (spsOf n (sRow l)))) then true else (bif ((wb w (1 : Int)) == true) then (bif (Nat.blt 0 n) then (bif (bne least (Prod.fst (sp l 0))) then true else (bif ((wb w (2 : Int)) == false) then false else false)) else false) else false)) else false) == b10) then
 bif b10 then
 true
 else true
 else false
 else false
 else bif (bif ((wb w (1 : Int)) == true) then (bif ((wb w (2 : Int)) == false) then true else false) else false) then
 bif ((bif ((wb w (1 : Int)) == true) then (bif ((wb w (2 : Int)) == false) then false else false) else false) == b14) then
 bif b14 then
 true
 else bif (bif s then (bif ((wb w (8 : Int)) == true) then true else false) else true) then
 bif ((bif s then (bif ((wb w (8 : Int)) == true) then true else false) else false) == b16) then
 bif b16 then
 bif ((wb w (1 : Int)) == true) then
 bif ((wb w (2 : Int)) == false) then
 bif (bif (decide ((IntKind.wrap .u64 many) > (IntKind.wrap .u64 ((IntKind.wrap .u64 ((4294967295 : Int) - (IntKind.wrap .u64 least))) + (1 : Int))))) then true else (bif ((wb w (1 : Int)) == true) then (bif ((wb w (2 : Int)) == false) then true else false) else false)) then
 bif ((bif (decide ((IntKind.wrap .u64 many) > (IntKind.wrap .u64 ((IntKind.wrap .u64 ((4294967295 : Int) - (IntKind.wrap .u64 least))) + (1 : Int))))) then true else (bif ((wb w (1 : Int)) == true) then (bif ((wb w (2 : Int)) == false) then false else false) else false)) == b21) then
 bif b21 then
 true
 else true
 else false
 else false
 else false
 else false
 else true
 else false
 else false
 else false
 else false
 else false
 else false
 else false
 else false
 else false
 else false
 else false
 else false
 else bif (bif (decide (w > (15 : Int))) then true else true) then
 bif ((bif (decide (w > (15 : Int))) then true else true) == b2) then
 bif b2 then
 true
 else bif (bif ((wb w (8 : Int)) == true) then (bif ((wb w (1 : Int)) == true) then (bif ((wb w (2 : Int)) == false) then (bif (bne most (0 : Int)) then true else (bif ((wb w (4 : Int)) == false) then false else false)) else false) else false) else false) then
 bif ((bif ((wb w (8 : Int)) == true) then (bif ((wb w (1 : Int)) == true) then (bif ((wb w (2 : Int)) == false) then (bif (bne most (0 : Int)) then true else (bif ((wb w (4 : Int)) == false) then false else false)) else false) else false) else false) == b4) then
 bif b4 then
 true
 else bif (bif (decide (many > (0 : Int))) then true else (bif (decide (least > (0 : Int))) then true else (bif (decide (most > (0 : Int))) then true else false))) then
 bif ((bif (decide (many > (0 : Int))) then true else (bif (decide (least > (0 : Int))) then true else (bif (decide (most > (0 : Int))) then true else false))) == s) then
 bif (bif s then (bif ((wb w (8 : Int)) == true) then (bif (many == (0 : Int)) then true else (bif ((wb w (1 : Int)) == true) then (bif (least == (0 : Int)) then true else (bif ((wb w (2 : Int)) == false) then (bif ((wb w (4 : Int)) == false) then true else false) else false)) else false)) else false) else true) then
 bif ((bif s then (bif ((wb w (8 : Int)) == true) then (bif (many == (0 : Int)) then true else (bif ((wb w (1 : Int)) == true) then (bif (least == (0 : Int)) then true else (bif ((wb w (2 : Int)) == false) then (bif ((wb w (4 : Int)) == false) then false else false) else false)) else false)) else false) else false) == b7) then
 bif b7 then
 true
 else false
 else false
 else false
 else false
 else false
 else false
 else false
 else false
 else false
 else false : Bool) := by
  kernel_rfl
end
end Go.Proofs.YtcdghinmmhcfcaaGreatDoor.Ev

/- The document's Check of a tally, bits 0101. No condition. -/
namespace Go.Proofs.YtcdghinmmhcfcaaGreatDoor.Ev
open Go Go.RowKit Go.Proofs Go.Proofs.YtcdghinmmhcfcaaGreatDoor.Str
set_option linter.unusedVariables false
section
variable {m : Int} {t : TypeId} {fr : Nat × Nat}
theorem rck0101_v (m : Int) (t : TypeId) (fr : Nat × Nat) (w many least most : Int) (n : Nat) (l : List Sp) (b2 b4 s b7 b10 b14 b16 b21 : Bool) : ((fnPure Tryz.prog ((E16k false true false true (GG m t fr)).withCuts (mrg (rckR b2 b4 s b7 b10 b14 b16 b21) noCuts)) 60 Tryz.f17 (GG m t fr) [tlP w many least most n (sRow l)])).val =
 (bif (pkB (spsOf n (sRow l))) then
 bif b2 then
 (.some (.lit (.int .i64 (2 : Int))))
 else bif b4 then
 (.some (.lit (.int .i64 (2 : Int))))
 else bif b7 then
 (.some (.lit (.int .i64 (2 : Int))))
 else bif (decide ((sumS (spsOf n (sRow l))) > (0 : Int))) then
 bif b10 then
 (.some (.lit (.int .i64 (2 : Int))))
 else (.some (.lit (.int .i64 (0 : Int))))
 else bif b14 then
 (.some (.lit (.int .i64 (2 : Int))))
 else bif b16 then
 bif b21 then
 (.some (.lit (.int .i64 (2 : Int))))
 else (.some (.lit (.int .i64 (0 : Int))))
 else (.some (.lit (.int .i64 (0 : Int))))
 else bif b2 then
 (.some (.lit (.int .i64 (2 : Int))))
 else bif b4 then
 (.some (.lit (.int .i64 (2 : Int))))
 else (.some (.lit (.int .i64 (2 : Int)))) : Option PV) := by
  kernel_rfl
theorem rck0101_c (m : Int) (t : TypeId) (fr : Nat × Nat) (w many least most : Int) (n : Nat) (l : List Sp) (b2 b4 s b7 b10 b14 b16 b21 : Bool) : ((fnPure Tryz.prog ((E16k false true false true (GG m t fr)).withCuts (mrg (rckR b2 b4 s b7 b10 b14 b16 b21) noCuts)) 60 Tryz.f17 (GG m t fr) [tlP w many least most n (sRow l)])).conds =
 (bif ((areSps n (sRow l)) && (Nat.ble n (4294967280 : Nat))) then
 bif (pkB (spsOf n (sRow l))) then
 bif (bif (decide (w > (15 : Int))) then true else (bif (decide (many < (0 : Int))) then true else true)) then
 bif ((bif (decide (w > (15 : Int))) then true else (bif (decide (many < (0 : Int))) then true else (decide (many > (65536 : Int))))) == b2) then
 bif b2 then
 true
 else bif (bif ((wb w (8 : Int)) == true) then (bif ((wb w (1 : Int)) == false) then (bif (bne least (0 : Int)) then true else (bif ((wb w (2 : Int)) == true) then (bif ((wb w (4 : Int)) == false) then true else false) else false)) else false) else false) then
 bif ((bif ((wb w (8 : Int)) == true) then (bif ((wb w (1 : Int)) == false) then (bif (bne least (0 : Int)) then true else (bif ((wb w (2 : Int)) == true) then (bif ((wb w (4 : Int)) == false) then (bne (sumS (spsOf n (sRow l))) (0 : Int)) else false) else false)) else false) else false) == b4) then
 bif b4 then
 true
 else bif (bif (decide (many > (0 : Int))) then true else (bif (decide (least > (0 : Int))) then true else (bif (decide (most > (0 : Int))) then true else true))) then
 bif ((bif (decide (many > (0 : Int))) then true else (bif (decide (least > (0 : Int))) then true else (bif (decide (most > (0 : Int))) then true else (decide ((sumS (spsOf n (sRow l))) > (0 : Int)))))) == s) then
 bif (bif s then (bif ((wb w (8 : Int)) == true) then (bif (many == (0 : Int)) then true else (bif ((wb w (1 : Int)) == false) then (bif ((wb w (2 : Int)) == true) then (bif (most == (0 : Int)) then true else (bif ((wb w (4 : Int)) == false) then true else false)) else false) else false)) else false) else true) then
 bif ((bif s then (bif ((wb w (8 : Int)) == true) then (bif (many == (0 : Int)) then true else (bif ((wb w (1 : Int)) == false) then (bif ((wb w (2 : Int)) == true) then (bif (most == (0 : Int)) then true else (bif ((wb w (4 : Int)) == false) then false else false)) else false) else false)) else false) else false) == b7) then
 bif b7 then
 true
 else bif (decide ((sumS (spsOf n (sRow l))) > (0 : Int))) then
 bif (bif ((wb w (8 : Int)) == true) then (bif (bne (IntKind.wrap .u64 many) (sumS (spsOf n (sRow l)))) then true else (bif ((wb w (1 : Int)) == false) then (bif ((wb w (2 : Int)) == true) then (bif ((decide ((0 : Int) ≤ (IntKind.wrap .i64 (((n : Nat) : Int) - (1 : Int))))) && (Nat.blt (Int.toNat (IntKind.wrap .i64 (((n : Nat) : Int) - (1 : Int)))) n)) then true else false) else false) else false)) else false) then
 bif ((bif ((wb w (8 : Int)) == true) then (bif (bne (IntKind.wrap .u64 many) (sumS (spsOf n (sRow l)))) then true else (bif ((wb w (1 : Int)) == false) then (bif ((wb w (2 : Int)) == true) then (bif ((decide ((0 : Int) ≤ (IntKind.wrap .i64 (((n : Nat) : Int) - (1 : Int))))) && (Nat.blt (Int.toNat (IntKind.wrap .i64 (((n : Nat) : Int) - (1 : Int)))) n)) then (bne most (Prod.snd (sp l (Int.toNat (IntKind.wrap .i64 (((n : Nat) : Int) - (1 : Int))))))) else false) else false) else false)) else false) == b10) then
 bif b10 then
 true
 else true
 else false
 else false
 else bif (bif ((wb w (1 : Int)) == false) then true else false) then
 bif ((bif ((wb w (1 : Int)) == false) then false else false) == b14) then
 bif b14 then
 true
 else bif (bif s then (bif ((wb w (8 : Int)) == true) then true else false) else true) then
 bif ((bif s then (bif ((wb w (8 : Int)) == true) then true else false) else false) == b16) then
 bif b16 then
 bif ((wb w (1 : Int)) == false) then
 bif ((wb w (2 : Int)) == true) then
 bif (bif (decide ((IntKind.wrap .u64 many) > (IntKind.wrap .u64 ((IntKind.wrap .u64 ((IntKind.wrap .u64 most) - (1 : Int))) + (1 : Int))))) then true else (bif ((wb w (1 : Int)) == false) then true else false)) then
 bif ((bif (decide ((IntKind.wrap .u64 many) > (IntKind.wrap .u64 ((IntKind.wrap .u64 ((IntKind.wrap .u64 most) - (1 : Int))) + (1 : Int))))) then true else (bif ((wb w (1 : Int)) == false) then false else false)) == b21) then
 bif b21 then
 true
 else true
 else false
 else false
 else false
 else false
 else true
 else false
 else false
 else false
 else false
 else false
 else false
 else false
 else false
 else false
 else false
 else false
 else false
 else bif (bif (decide (w > (15 : Int))) then true else true) then
 bif ((bif (decide (w > (15 : Int))) then true else true) == b2) then
 bif b2 then
 true
 else bif (bif ((wb w (8 : Int)) == true) then (bif ((wb w (1 : Int)) == false) then (bif (bne least (0 : Int)) then true else (bif ((wb w (2 : Int)) == true) then (bif ((wb w (4 : Int)) == false) then false else false) else false)) else false) else false) then
 bif ((bif ((wb w (8 : Int)) == true) then (bif ((wb w (1 : Int)) == false) then (bif (bne least (0 : Int)) then true else (bif ((wb w (2 : Int)) == true) then (bif ((wb w (4 : Int)) == false) then false else false) else false)) else false) else false) == b4) then
 bif b4 then
 true
 else bif (bif (decide (many > (0 : Int))) then true else (bif (decide (least > (0 : Int))) then true else (bif (decide (most > (0 : Int))) then true else false))) then
 bif ((bif (decide (many > (0 : Int))) then true else (bif (decide (least > (0 : Int))) then true else (bif (decide (most > (0 : Int))) then true else false))) == s) then
 bif (bif s then (bif ((wb w (8 : Int)) == true) then (bif (many == (0 : Int)) then true else (bif ((wb w (1 : Int)) == false) then (bif ((wb w (2 : Int)) == true) then (bif (most == (0 : Int)) then true else (bif ((wb w (4 : Int)) == false) then true else false)) else false) else false)) else false) else true) then
 bif ((bif s then (bif ((wb w (8 : Int)) == true) then (bif (many == (0 : Int)) then true else (bif ((wb w (1 : Int)) == false) then (bif ((wb w (2 : Int)) == true) then (bif (most == (0 : Int)) then true else (bif ((wb w (4 : Int)) == false) then false else false)) else false) else false)) else false) else false) == b7) then
 bif b7 then
 true
 else false
 else false
 else false
 else false
 else false
 else false
 else false
 else false
 else false
 else false : Bool) := by
  kernel_rfl
end
end Go.Proofs.YtcdghinmmhcfcaaGreatDoor.Ev

/- The document's Check of a tally, bits 1101. No condition. -/
namespace Go.Proofs.YtcdghinmmhcfcaaGreatDoor.Ev
open Go Go.RowKit Go.Proofs Go.Proofs.YtcdghinmmhcfcaaGreatDoor.Str
set_option linter.unusedVariables false
section
variable {m : Int} {t : TypeId} {fr : Nat × Nat}
theorem rck1101_v (m : Int) (t : TypeId) (fr : Nat × Nat) (w many least most : Int) (n : Nat) (l : List Sp) (b2 b4 s b7 b10 b14 b16 b21 : Bool) : ((fnPure Tryz.prog ((E16k true true false true (GG m t fr)).withCuts (mrg (rckR b2 b4 s b7 b10 b14 b16 b21) noCuts)) 60 Tryz.f17 (GG m t fr) [tlP w many least most n (sRow l)])).val =
 (bif (pkB (spsOf n (sRow l))) then
 bif b2 then
 (.some (.lit (.int .i64 (2 : Int))))
 else bif b4 then
 (.some (.lit (.int .i64 (2 : Int))))
 else bif b7 then
 (.some (.lit (.int .i64 (2 : Int))))
 else bif (decide ((sumS (spsOf n (sRow l))) > (0 : Int))) then
 bif b10 then
 (.some (.lit (.int .i64 (2 : Int))))
 else (.some (.lit (.int .i64 (0 : Int))))
 else bif b14 then
 (.some (.lit (.int .i64 (2 : Int))))
 else bif b16 then
 bif b21 then
 (.some (.lit (.int .i64 (2 : Int))))
 else (.some (.lit (.int .i64 (0 : Int))))
 else (.some (.lit (.int .i64 (0 : Int))))
 else bif b2 then
 (.some (.lit (.int .i64 (2 : Int))))
 else bif b4 then
 (.some (.lit (.int .i64 (2 : Int))))
 else (.some (.lit (.int .i64 (2 : Int)))) : Option PV) := by
  kernel_rfl
theorem rck1101_c (m : Int) (t : TypeId) (fr : Nat × Nat) (w many least most : Int) (n : Nat) (l : List Sp) (b2 b4 s b7 b10 b14 b16 b21 : Bool) : ((fnPure Tryz.prog ((E16k true true false true (GG m t fr)).withCuts (mrg (rckR b2 b4 s b7 b10 b14 b16 b21) noCuts)) 60 Tryz.f17 (GG m t fr) [tlP w many least most n (sRow l)])).conds =
 (bif ((areSps n (sRow l)) && (Nat.ble n (4294967280 : Nat))) then
 bif (pkB (spsOf n (sRow l))) then
 bif (bif (decide (w > (15 : Int))) then true else (bif (decide (many < (0 : Int))) then true else true)) then
 bif ((bif (decide (w > (15 : Int))) then true else (bif (decide (many < (0 : Int))) then true else (decide (many > (65536 : Int))))) == b2) then
 bif b2 then
 true
 else bif (bif ((wb w (8 : Int)) == true) then (bif ((wb w (1 : Int)) == true) then (bif ((wb w (2 : Int)) == true) then (bif ((wb w (4 : Int)) == false) then true else false) else false) else false) else false) then
 bif ((bif ((wb w (8 : Int)) == true) then (bif ((wb w (1 : Int)) == true) then (bif ((wb w (2 : Int)) == true) then (bif ((wb w (4 : Int)) == false) then (bne (sumS (spsOf n (sRow l))) (0 : Int)) else false) else false) else false) else false) == b4) then
 bif b4 then
 true
 else bif (bif (decide (many > (0 : Int))) then true else (bif (decide (least > (0 : Int))) then true else (bif (decide (most > (0 : Int))) then true else true))) then
 bif ((bif (decide (many > (0 : Int))) then true else (bif (decide (least > (0 : Int))) then true else (bif (decide (most > (0 : Int))) then true else (decide ((sumS (spsOf n (sRow l))) > (0 : Int)))))) == s) then
 bif (bif s then (bif ((wb w (8 : Int)) == true) then (bif (many == (0 : Int)) then true else (bif ((wb w (1 : Int)) == true) then (bif (least == (0 : Int)) then true else (bif ((wb w (2 : Int)) == true) then (bif (most == (0 : Int)) then true else (bif ((wb w (4 : Int)) == false) then true else false)) else false)) else false)) else false) else true) then
 bif ((bif s then (bif ((wb w (8 : Int)) == true) then (bif (many == (0 : Int)) then true else (bif ((wb w (1 : Int)) == true) then (bif (least == (0 : Int)) then true else (bif ((wb w (2 : Int)) == true) then (bif (most == (0 : Int)) then true else (bif ((wb w (4 : Int)) == false) then false else false)) else false)) else false)) else false) else false) == b7) then
 bif b7 then
 true
 else bif (decide ((sumS (spsOf n (sRow l))) > (0 : Int))) then
 bif (bif ((wb w (8 : Int)) == true) then (bif (bne (IntKind.wrap .u64 many) (sumS (spsOf n (sRow l)))) then true else (bif ((wb w (1 : Int)) == true) then (bif (Nat.blt 0 n) then (bif (bne least (Prod.fst (sp l 0))) then true else (bif ((wb w (2 : Int)) == true) then (bif ((decide ((0 : Int) ≤ (IntKind.wrap .i64 (((n : Nat) : Int) - (1 : Int))))) && (Nat.blt (Int.toNat (IntKind.wrap .i64 (((n : Nat) : Int) - (1 : Int)))) n)) then true else false) else false)) else false) else false)) else false) then
 bif ((bif ((wb w (8 : Int)) == true) then (bif (bne (IntKind.wrap .u64 many) (sumS (spsOf n (sRow l)))) then true else (bif ((wb w (1 : Int)) == true) then (bif (Nat.blt 0 n) then (bif (bne least (Prod.fst (sp l 0))) then true else (bif ((wb w (2 : Int)) == true) then (bif ((decide ((0 : Int) ≤ (IntKind.wrap .i64 (((n : Nat) : Int) - (1 : Int))))) && (Nat.blt (Int.toNat (IntKind.wrap .i64 (((n : Nat) : Int) - (1 : Int)))) n)) then (bne most (Prod.snd (sp l (Int.toNat (IntKind.wrap .i64 (((n : Nat) : Int) - (1 : Int))))))) else false) else false)) else false) else false)) else false) == b10) then
 bif b10 then
 true
 else true
 else false
 else false
 else bif (bif ((wb w (1 : Int)) == true) then (bif ((wb w (2 : Int)) == true) then true else false) else false) then
 bif ((bif ((wb w (1 : Int)) == true) then (bif ((wb w (2 : Int)) == true) then (decide ((IntKind.wrap .u64 least) > (IntKind.wrap .u64 most))) else false) else false) == b14) then
 bif b14 then
 true
 else bif (bif s then (bif ((wb w (8 : Int)) == true) then true else false) else true) then
 bif ((bif s then (bif ((wb w (8 : Int)) == true) then true else false) else false) == b16) then
 bif b16 then
 bif ((wb w (1 : Int)) == true) then
 bif ((wb w (2 : Int)) == true) then
 bif (bif (decide ((IntKind.wrap .u64 many) > (IntKind.wrap .u64 ((IntKind.wrap .u64 ((IntKind.wrap .u64 most) - (IntKind.wrap .u64 least))) + (1 : Int))))) then true else (bif ((wb w (1 : Int)) == true) then (bif ((wb w (2 : Int)) == true) then (bif (bne (IntKind.wrap .u64 least) (IntKind.wrap .u64 most)) then true else true) else false) else false)) then
 bif ((bif (decide ((IntKind.wrap .u64 many) > (IntKind.wrap .u64 ((IntKind.wrap .u64 ((IntKind.wrap .u64 most) - (IntKind.wrap .u64 least))) + (1 : Int))))) then true else (bif ((wb w (1 : Int)) == true) then (bif ((wb w (2 : Int)) == true) then (bif (bne (IntKind.wrap .u64 least) (IntKind.wrap .u64 most)) then (decide (many < (2 : Int))) else false) else false) else false)) == b21) then
 bif b21 then
 true
 else true
 else false
 else false
 else false
 else false
 else true
 else false
 else false
 else false
 else false
 else false
 else false
 else false
 else false
 else false
 else false
 else false
 else false
 else bif (bif (decide (w > (15 : Int))) then true else true) then
 bif ((bif (decide (w > (15 : Int))) then true else true) == b2) then
 bif b2 then
 true
 else bif (bif ((wb w (8 : Int)) == true) then (bif ((wb w (1 : Int)) == true) then (bif ((wb w (2 : Int)) == true) then (bif ((wb w (4 : Int)) == false) then false else false) else false) else false) else false) then
 bif ((bif ((wb w (8 : Int)) == true) then (bif ((wb w (1 : Int)) == true) then (bif ((wb w (2 : Int)) == true) then (bif ((wb w (4 : Int)) == false) then false else false) else false) else false) else false) == b4) then
 bif b4 then
 true
 else bif (bif (decide (many > (0 : Int))) then true else (bif (decide (least > (0 : Int))) then true else (bif (decide (most > (0 : Int))) then true else false))) then
 bif ((bif (decide (many > (0 : Int))) then true else (bif (decide (least > (0 : Int))) then true else (bif (decide (most > (0 : Int))) then true else false))) == s) then
 bif (bif s then (bif ((wb w (8 : Int)) == true) then (bif (many == (0 : Int)) then true else (bif ((wb w (1 : Int)) == true) then (bif (least == (0 : Int)) then true else (bif ((wb w (2 : Int)) == true) then (bif (most == (0 : Int)) then true else (bif ((wb w (4 : Int)) == false) then true else false)) else false)) else false)) else false) else true) then
 bif ((bif s then (bif ((wb w (8 : Int)) == true) then (bif (many == (0 : Int)) then true else (bif ((wb w (1 : Int)) == true) then (bif (least == (0 : Int)) then true else (bif ((wb w (2 : Int)) == true) then (bif (most == (0 : Int)) then true else (bif ((wb w (4 : Int)) == false) then false else false)) else false)) else false)) else false) else false) == b7) then
 bif b7 then
 true
 else false
 else false
 else false
 else false
 else false
 else false
 else false
 else false
 else false
 else false : Bool) := by
  kernel_rfl
end
end Go.Proofs.YtcdghinmmhcfcaaGreatDoor.Ev

/- The document's Check of a tally, bits 0011. No condition. -/
namespace Go.Proofs.YtcdghinmmhcfcaaGreatDoor.Ev
open Go Go.RowKit Go.Proofs Go.Proofs.YtcdghinmmhcfcaaGreatDoor.Str
set_option linter.unusedVariables false
section
variable {m : Int} {t : TypeId} {fr : Nat × Nat}
theorem rck0011_v (m : Int) (t : TypeId) (fr : Nat × Nat) (w many least most : Int) (n : Nat) (l : List Sp) (b2 b4 s b7 b10 b14 b16 b21 : Bool) : ((fnPure Tryz.prog ((E16k false false true true (GG m t fr)).withCuts (mrg (rckR b2 b4 s b7 b10 b14 b16 b21) noCuts)) 60 Tryz.f17 (GG m t fr) [tlP w many least most n (sRow l)])).val =
 (bif (pkB (spsOf n (sRow l))) then
 bif b2 then
 (.some (.lit (.int .i64 (2 : Int))))
 else bif b4 then
 (.some (.lit (.int .i64 (2 : Int))))
 else bif b7 then
 (.some (.lit (.int .i64 (2 : Int))))
 else bif (decide ((sumS (spsOf n (sRow l))) > (0 : Int))) then
 bif b10 then
 (.some (.lit (.int .i64 (2 : Int))))
 else (.some (.lit (.int .i64 (0 : Int))))
 else bif b14 then
 (.some (.lit (.int .i64 (2 : Int))))
 else bif b16 then
 bif b21 then
 (.some (.lit (.int .i64 (2 : Int))))
 else (.some (.lit (.int .i64 (0 : Int))))
 else (.some (.lit (.int .i64 (0 : Int))))
 else bif b2 then
 (.some (.lit (.int .i64 (2 : Int))))
 else bif b4 then
 (.some (.lit (.int .i64 (2 : Int))))
 else (.some (.lit (.int .i64 (2 : Int)))) : Option PV) := by
  kernel_rfl
theorem rck0011_c (m : Int) (t : TypeId) (fr : Nat × Nat) (w many least most : Int) (n : Nat) (l : List Sp) (b2 b4 s b7 b10 b14 b16 b21 : Bool) : ((fnPure Tryz.prog ((E16k false false true true (GG m t fr)).withCuts (mrg (rckR b2 b4 s b7 b10 b14 b16 b21) noCuts)) 60 Tryz.f17 (GG m t fr) [tlP w many least most n (sRow l)])).conds =
 (bif ((areSps n (sRow l)) && (Nat.ble n (4294967280 : Nat))) then
 bif (pkB (spsOf n (sRow l))) then
 bif (bif (decide (w > (15 : Int))) then true else (bif (decide (many < (0 : Int))) then true else true)) then
 bif ((bif (decide (w > (15 : Int))) then true else (bif (decide (many < (0 : Int))) then true else (decide (many > (65536 : Int))))) == b2) then
 bif b2 then
 true
 else bif (bif ((wb w (8 : Int)) == true) then (bif ((wb w (1 : Int)) == false) then (bif (bne least (0 : Int)) then true else (bif ((wb w (2 : Int)) == false) then (bif (bne most (0 : Int)) then true else (bif ((wb w (4 : Int)) == true) then true else false)) else false)) else false) else false) then
 bif ((bif ((wb w (8 : Int)) == true) then (bif ((wb w (1 : Int)) == false) then (bif (bne least (0 : Int)) then true else (bif ((wb w (2 : Int)) == false) then (bif (bne most (0 : Int)) then true else (bif ((wb w (4 : Int)) == true) then false else false)) else false)) else false) else false) == b4) then
 bif b4 then
 true
 else bif (bif (decide (many > (0 : Int))) then true else (bif (decide (least > (0 : Int))) then true else (bif (decide (most > (0 : Int))) then true else true))) then
 bif ((bif (decide (many > (0 : Int))) then true else (bif (decide (least > (0 : Int))) then true else (bif (decide (most > (0 : Int))) then true else (decide ((sumS (spsOf n (sRow l))) > (0 : Int)))))) == s) then
 bif (bif s then (bif ((wb w (8 : Int)) == true) then (bif (many == (0 : Int)) then true else (bif ((wb w (1 : Int)) == false) then (bif ((wb w (2 : Int)) == false) then (bif ((wb w (4 : Int)) == true) then true else false) else false) else false)) else false) else true) then
 bif ((bif s then (bif ((wb w (8 : Int)) == true) then (bif (many == (0 : Int)) then true else (bif ((wb w (1 : Int)) == false) then (bif ((wb w (2 : Int)) == false) then (bif ((wb w (4 : Int)) == true) then ((sumS (spsOf n (sRow l))) == (0 : Int)) else false) else false) else false)) else false) else false) == b7) then
 bif b7 then
 true
 else bif (decide ((sumS (spsOf n (sRow l))) > (0 : Int))) then
 bif (bif ((wb w (8 : Int)) == true) then (bif (bne (IntKind.wrap .u64 many) (sumS (spsOf n (sRow l)))) then true else (bif ((wb w (1 : Int)) == false) then (bif ((wb w (2 : Int)) == false) then true else false) else false)) else false) then
 bif ((bif ((wb w (8 : Int)) == true) then (bif (bne (IntKind.wrap .u64 many) (sumS (spsOf n (sRow l)))) then true else (bif ((wb w (1 : Int)) == false) then (bif ((wb w (2 : Int)) == false) then false else false) else false)) else false) == b10) then
 bif b10 then
 true
 else true
 else false
 else false
 else bif (bif ((wb w (1 : Int)) == false) then true else false) then
 bif ((bif ((wb w (1 : Int)) == false) then false else false) == b14) then
 bif b14 then
 true
 else bif (bif s then (bif ((wb w (8 : Int)) == true) then true else false) else true) then
 bif ((bif s then (bif ((wb w (8 : Int)) == true) then true else false) else false) == b16) then
 bif b16 then
 bif ((wb w (1 : Int)) == false) then
 bif ((wb w (2 : Int)) == false) then
 bif (bif (decide ((IntKind.wrap .u64 many) > (4294967295 : Int))) then true else (bif ((wb w (1 : Int)) == false) then true else false)) then
 bif ((bif (decide ((IntKind.wrap .u64 many) > (4294967295 : Int))) then true else (bif ((wb w (1 : Int)) == false) then false else false)) == b21) then
 bif b21 then
 true
 else true
 else false
 else false
 else false
 else false
 else true
 else false
 else false
 else false
 else false
 else false
 else false
 else false
 else false
 else false
 else false
 else false
 else false
 else bif (bif (decide (w > (15 : Int))) then true else true) then
 bif ((bif (decide (w > (15 : Int))) then true else true) == b2) then
 bif b2 then
 true
 else bif (bif ((wb w (8 : Int)) == true) then (bif ((wb w (1 : Int)) == false) then (bif (bne least (0 : Int)) then true else (bif ((wb w (2 : Int)) == false) then (bif (bne most (0 : Int)) then true else (bif ((wb w (4 : Int)) == true) then true else false)) else false)) else false) else false) then
 bif ((bif ((wb w (8 : Int)) == true) then (bif ((wb w (1 : Int)) == false) then (bif (bne least (0 : Int)) then true else (bif ((wb w (2 : Int)) == false) then (bif (bne most (0 : Int)) then true else (bif ((wb w (4 : Int)) == true) then false else false)) else false)) else false) else false) == b4) then
 bif b4 then
 true
 else bif (bif (decide (many > (0 : Int))) then true else (bif (decide (least > (0 : Int))) then true else (bif (decide (most > (0 : Int))) then true else false))) then
 bif ((bif (decide (many > (0 : Int))) then true else (bif (decide (least > (0 : Int))) then true else (bif (decide (most > (0 : Int))) then true else false))) == s) then
 bif (bif s then (bif ((wb w (8 : Int)) == true) then (bif (many == (0 : Int)) then true else (bif ((wb w (1 : Int)) == false) then (bif ((wb w (2 : Int)) == false) then (bif ((wb w (4 : Int)) == true) then false else false) else false) else false)) else false) else true) then
 bif ((bif s then (bif ((wb w (8 : Int)) == true) then (bif (many == (0 : Int)) then true else (bif ((wb w (1 : Int)) == false) then (bif ((wb w (2 : Int)) == false) then (bif ((wb w (4 : Int)) == true) then false else false) else false) else false)) else false) else false) == b7) then
 bif b7 then
 true
 else false
 else false
 else false
 else false
 else false
 else false
 else false
 else false
 else false
 else false : Bool) := by
  kernel_rfl
end
end Go.Proofs.YtcdghinmmhcfcaaGreatDoor.Ev

/- The document's Check of a tally, bits 1011. No condition. -/
namespace Go.Proofs.YtcdghinmmhcfcaaGreatDoor.Ev
open Go Go.RowKit Go.Proofs Go.Proofs.YtcdghinmmhcfcaaGreatDoor.Str
set_option linter.unusedVariables false
section
variable {m : Int} {t : TypeId} {fr : Nat × Nat}
theorem rck1011_v (m : Int) (t : TypeId) (fr : Nat × Nat) (w many least most : Int) (n : Nat) (l : List Sp) (b2 b4 s b7 b10 b14 b16 b21 : Bool) : ((fnPure Tryz.prog ((E16k true false true true (GG m t fr)).withCuts (mrg (rckR b2 b4 s b7 b10 b14 b16 b21) noCuts)) 60 Tryz.f17 (GG m t fr) [tlP w many least most n (sRow l)])).val =
 (bif (pkB (spsOf n (sRow l))) then
 bif b2 then
 (.some (.lit (.int .i64 (2 : Int))))
 else bif b4 then
 (.some (.lit (.int .i64 (2 : Int))))
 else bif b7 then
 (.some (.lit (.int .i64 (2 : Int))))
 else bif (decide ((sumS (spsOf n (sRow l))) > (0 : Int))) then
 bif b10 then
 (.some (.lit (.int .i64 (2 : Int))))
 else (.some (.lit (.int .i64 (0 : Int))))
 else bif b14 then
 (.some (.lit (.int .i64 (2 : Int))))
 else bif b16 then
 bif b21 then
 (.some (.lit (.int .i64 (2 : Int))))
 else (.some (.lit (.int .i64 (0 : Int))))
 else (.some (.lit (.int .i64 (0 : Int))))
 else bif b2 then
 (.some (.lit (.int .i64 (2 : Int))))
 else bif b4 then
 (.some (.lit (.int .i64 (2 : Int))))
 else (.some (.lit (.int .i64 (2 : Int)))) : Option PV) := by
  kernel_rfl
theorem rck1011_c (m : Int) (t : TypeId) (fr : Nat × Nat) (w many least most : Int) (n : Nat) (l : List Sp) (b2 b4 s b7 b10 b14 b16 b21 : Bool) : ((fnPure Tryz.prog ((E16k true false true true (GG m t fr)).withCuts (mrg (rckR b2 b4 s b7 b10 b14 b16 b21) noCuts)) 60 Tryz.f17 (GG m t fr) [tlP w many least most n (sRow l)])).conds =
 (bif ((areSps n (sRow l)) && (Nat.ble n (4294967280 : Nat))) then
 bif (pkB (spsOf n (sRow l))) then
 bif (bif (decide (w > (15 : Int))) then true else (bif (decide (many < (0 : Int))) then true else true)) then
 bif ((bif (decide (w > (15 : Int))) then true else (bif (decide (many < (0 : Int))) then true else (decide (many > (65536 : Int))))) == b2) then
 bif b2 then
 true
 else bif (bif ((wb w (8 : Int)) == true) then (bif ((wb w (1 : Int)) == true) then (bif ((wb w (2 : Int)) == false) then (bif (bne most (0 : Int)) then true else (bif ((wb w (4 : Int)) == true) then true else false)) else false) else false) else false) then
 bif ((bif ((wb w (8 : Int)) == true) then (bif ((wb w (1 : Int)) == true) then (bif ((wb w (2 : Int)) == false) then (bif (bne most (0 : Int)) then true else (bif ((wb w (4 : Int)) == true) then false else false)) else false) else false) else false) == b4) then
 bif b4 then
 true
 else bif (bif (decide (many > (0 : Int))) then true else (bif (decide (least > (0 : Int))) then true else (bif (decide (most > (0 : Int))) then true else true))) then
 bif ((bif (decide (many > (0 : Int))) then true else (bif (decide (least > (0 : Int))) then true else (bif (decide (most > (0 : Int))) then true else (decide ((sumS (spsOf n (sRow l))) > (0 : Int)))))) == s) then
 bif (bif s then (bif ((wb w (8 : Int)) == true) then (bif (many == (0 : Int)) then true else (bif ((wb w (1 : Int)) == true) then (bif (least == (0 : Int)) then true else (bif ((wb w (2 : Int)) == false) then (bif ((wb w (4 : Int)) == true) then true else false) else false)) else false)) else false) else true) then
 bif ((bif s then (bif ((wb w (8 : Int)) == true) then (bif (many == (0 : Int)) then true else (bif ((wb w (1 : Int)) == true) then (bif (least == (0 : Int)) then true else (bif ((wb w (2 : Int)) == false) then (bif ((wb w (4 : Int)) == true) then ((sumS (spsOf n (sRow l))) == (0 : Int)) else false) else false)) else false)) else false) else false) == b7) then
 bif b7 then
 true
 else bif (decide ((sumS (spsOf n (sRow l))) > (0 : Int))) then
 bif (bif ((wb w (8 : Int)) == true) then (bif (bne (IntKind.wrap .u64 many) (sumS (spsOf n (sRow l)))) then true else (bif ((wb w (1 : Int)) == true) then (bif (Nat.blt 0 n) then (bif (bne least (Prod.fst (sp l 0))) then true else (bif ((wb w (2 : Int)) == false) then true else false)) else false) else false)) else false) then
 bif ((bif ((wb w (8 : Int)) == true) then (bif (bne (IntKind.wrap .u64 many) (sumS (spsOf n (sRow l)))) then true else (bif ((wb w (1 : Int)) == true) then (bif (Nat.blt 0 n) then (bif (bne least (Prod.fst (sp l 0))) then true else (bif ((wb w (2 : Int)) == false) then false else false)) else false) else false)) else false) == b10) then
 bif b10 then
 true
 else true
 else false
 else false
 else bif (bif ((wb w (1 : Int)) == true) then (bif ((wb w (2 : Int)) == false) then true else false) else false) then
 bif ((bif ((wb w (1 : Int)) == true) then (bif ((wb w (2 : Int)) == false) then false else false) else false) == b14) then
 bif b14 then
 true
 else bif (bif s then (bif ((wb w (8 : Int)) == true) then true else false) else true) then
 bif ((bif s then (bif ((wb w (8 : Int)) == true) then true else false) else false) == b16) then
 bif b16 then
 bif ((wb w (1 : Int)) == true) then
 bif ((wb w (2 : Int)) == false) then
 bif (bif (decide ((IntKind.wrap .u64 many) > (IntKind.wrap .u64 ((IntKind.wrap .u64 ((4294967295 : Int) - (IntKind.wrap .u64 least))) + (1 : Int))))) then true else (bif ((wb w (1 : Int)) == true) then (bif ((wb w (2 : Int)) == false) then true else false) else false)) then
 bif ((bif (decide ((IntKind.wrap .u64 many) > (IntKind.wrap .u64 ((IntKind.wrap .u64 ((4294967295 : Int) - (IntKind.wrap .u64 least))) + (1 : Int))))) then true else (bif ((wb w (1 : Int)) == true) then (bif ((wb w (2 : Int)) == false) then false else false) else false)) == b21) then
 bif b21 then
 true
 else true
 else false
 else false
 else false
 else false
 else true
 else false
 else false
 else false
 else false
 else false
 else false
 else false
 else false
 else false
 else false
 else false
 else false
 else bif (bif (decide (w > (15 : Int))) then true else true) then
 bif ((bif (decide (w > (15 : Int))) then true else true) == b2) then
 bif b2 then
 true
 else bif (bif ((wb w (8 : Int)) == true) then (bif ((wb w (1 : Int)) == true) then (bif ((wb w (2 : Int)) == false) then (bif (bne most (0 : Int)) then true else (bif ((wb w (4 : Int)) == true) then true else false)) else false) else false) else false) then
 bif ((bif ((wb w (8 : Int)) == true) then (bif ((wb w (1 : Int)) == true) then (bif ((wb w (2 : Int)) == false) then (bif (bne most (0 : Int)) then true else (bif ((wb w (4 : Int)) == true) then false else false)) else false) else false) else false) == b4) then
 bif b4 then
 true
 else bif (bif (decide (many > (0 : Int))) then true else (bif (decide (least > (0 : Int))) then true else (bif (decide (most > (0 : Int))) then true else false))) then
 bif ((bif (decide (many > (0 : Int))) then true else (bif (decide (least > (0 : Int))) then true else (bif (decide (most > (0 : Int))) then true else false))) == s) then
 bif (bif s then (bif ((wb w (8 : Int)) == true) then (bif (many == (0 : Int)) then true else (bif ((wb w (1 : Int)) == true) then (bif (least == (0 : Int)) then true else (bif ((wb w (2 : Int)) == false) then (bif ((wb w (4 : Int)) == true) then false else false) else false)) else false)) else false) else true) then
 bif ((bif s then (bif ((wb w (8 : Int)) == true) then (bif (many == (0 : Int)) then true else (bif ((wb w (1 : Int)) == true) then (bif (least == (0 : Int)) then true else (bif ((wb w (2 : Int)) == false) then (bif ((wb w (4 : Int)) == true) then false else false) else false)) else false)) else false) else false) == b7) then
 bif b7 then
 true
 else false
 else false
 else false
 else false
 else false
 else false
 else false
 else false
 else false
 else false : Bool) := by
  kernel_rfl
end
end Go.Proofs.YtcdghinmmhcfcaaGreatDoor.Ev
