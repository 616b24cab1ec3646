/- JTallyTells22: several texts in one. Condition: each part's own. -/
import Derived.Test.YtcdghinmmhcfcaaGreatDoorJTallyTells20
import Derived.Test.YtcdghinmmhcfcaaGreatDoorJTallyTells21
/- The document's Check of a tally, bits 0111. No condition. -/
namespace Go.Proofs.YtcdghinmmhcfcaaGreatDoor.Ev
open Go Go.RowKit Go.Proofs Go.Proofs.YtcdghinmmhcfcaaGreatDoor.Str
set_option linter.unusedVariables false
section
variable {m : Int} {t : TypeId} {fr : Nat × Nat}
theorem rck0111_v (m : Int) (t : TypeId) (fr : Nat × Nat) (w many least most : Int) (n : Nat) (l : List Sp) (b2 b4 s b7 b10 b14 b16 b21 : Bool) : ((fnPure Tryz.prog ((E16k false true true true (GG m t fr)).withCuts (mrg (rckR b2 b4 s b7 b10 b14 b16 b21) noCuts)) 60 Tryz.f17 (GG m t fr) [tlP w many least most n (sRow l)])).val =
 (bif (pkB (spsOf n (sRow l))) then
 bif b2 then
 (.some (.lit (.int .i64 (2 : Int))))
 else bif b4 then
 (.some (.lit (.int .i64 (2 : Int))))
 else bif b7 then
 (.some (.lit (.int .i64 (2 : Int))))
 else bif (decide ((sumS (spsOf n (sRow l))) > (0 : Int))) then
 bif b10 then
 (.some (.lit (.int .i64 (2 : Int))))
 else (.some (.lit (.int .i64 (0 : Int))))
 else bif b14 then
 (.some (.lit (.int .i64 (2 : Int))))
 else bif b16 then
 bif b21 then
 (.some (.lit (.int .i64 (2 : Int))))
 else (.some (.lit (.int .i64 (0 : Int))))
 else (.some (.lit (.int .i64 (0 : Int))))
 else bif b2 then
 (.some (.lit (.int .i64 (2 : Int))))
 else bif b4 then
 (.some (.lit (.int .i64 (2 : Int))))
 else (.some (.lit (.int .i64 (2 : Int)))) : Option PV) := by
  kernel_rfl
theorem rck0111_c (m : Int) (t : TypeId) (fr : Nat × Nat) (w many least most : Int) (n : Nat) (l : List Sp) (b2 b4 s b7 b10 b14 b16 b21 : Bool) : ((fnPure Tryz.prog ((E16k false true true true (GG m t fr)).withCuts (mrg (rckR b2 b4 s b7 b10 b14 b16 b21) noCuts)) 60 Tryz.f17 (GG m t fr) [tlP w many least most n (sRow l)])).conds =
 (bif ((areSps n (sRow l)) && (Nat.ble n (4294967280 : Nat))) then
 bif (pkB (spsOf n (sRow l))) then
 bif (bif (decide (w > (15 : Int))) then true else (bif (decide (many < (0 : Int))) then true else true)) then
 bif ((bif (decide (w > (15 : Int))) then true else (bif (decide (many < (0 : Int))) then true else (decide (many > (65536 : Int))))) == b2) then
 bif b2 then
 true
 else bif (bif ((wb w (8 : Int)) == true) then (bif ((wb w (1 : Int)) == false) then (bif (bne least (0 : Int)) then true else (bif ((wb w (2 : Int)) == true) then (bif ((wb w (4 : Int)) == true) then true else false) else false)) else false) else false) then
 bif ((bif ((wb w (8 : Int)) == true) then (bif ((wb w (1 : Int)) == false) then (bif (bne least (0 : Int)) then true else (bif ((wb w (2 : Int)) == true) then (bif ((wb w (4 : Int)) == true) then false else false) else false)) else false) else false) == b4) then
 bif b4 then
 true
 else bif (bif (decide (many > (0 : Int))) then true else (bif (decide (least > (0 : Int))) then true else (bif (decide (most > (0 : Int))) then true else true))) then
 bif ((bif (decide (many > (0 : Int))) then true else (bif (decide (least > (0 : Int))) then true else (bif (decide (most > (0 : Int))) then true else (decide ((sumS (spsOf n (sRow l))) > (0 : Int)))))) == s) then
 bif (bif s then (bif ((wb w (8 : Int)) == true) then (bif (many == (0 : Int)) then true else (bif ((wb w (1 : Int)) == false) then (bif ((wb w (2 : Int)) == true) then (bif (most == (0 : Int)) then true else (bif ((wb w (4 : Int)) == true) then true else false)) else false) else false)) else false) else true) then
 bif ((bif s then (bif ((wb w (8 : Int)) == true) then (bif (many == (0 : Int)) then true else (bif ((wb w (1 : Int)) == false) then (bif ((wb w (2 : Int)) == true) then (bif (most == (0 : Int)) then true else (bif ((wb w (4 : Int)) == true) then ((sumS (spsOf n (sRow l))) == (0 : Int)) else false)) else false) else false)) else false) else false) == b7) then
 bif b7 then
 true
 else bif (decide ((sumS (spsOf n (sRow l))) > (0 : Int))) then
 bif (bif ((wb w (8 : Int)) == true) then (bif (bne (IntKind.wrap .u64 many) (sumS (spsOf n (sRow l)))) then true else (bif ((wb w (1 : Int)) == false) then (bif ((wb w (2 : Int)) == true) then (bif ((decide ((0 : Int) ≤ (IntKind.wrap .i64 (((n : Nat) : Int) - (1 : Int))))) && (Nat.blt (Int.toNat (IntKind.wrap .i64 (((n : Nat) : Int) - (1 : Int)))) n)) then true else false) else false) else false)) else false) then
 bif ((bif ((wb w (8 : Int)) == true) then (bif (bne (IntKind.wrap .u64 many) (sumS (spsOf n (sRow l)))) then true else (bif ((wb w (1 : Int)) == false) then (bif ((wb w (2 : Int)) == true) then (bif ((decide ((0 : Int) ≤ (IntKind.wrap .i64 (((n : Nat) : Int) - (1 : Int))))) && (Nat.blt (Int.toNat (IntKind.wrap .i64 (((n : Nat) : Int) - (1 : Int)))) n)) then (bne most (Prod.snd (sp l (Int.toNat (IntKind.wrap .i64 (((n : Nat) : Int) - (1 : Int))))))) else false) else false) else false)) else false) == b10) then
 bif b10 then
 true
 else true
 else false
 else false
 else bif (bif ((wb w (1 : Int)) == false) then true else false) then
 bif ((bif ((wb w (1 : Int)) == false) then false else false) == b14) then
 bif b14 then
 true
 else bif (bif s then (bif ((wb w (8 : Int)) == true) then true else false) else true) then
 bif ((bif s then (bif ((wb w (8 : Int)) == true) then true else false) else false) == b16) then
 bif b16 then
 bif ((wb w (1 : Int)) == false) then
 bif ((wb w (2 : Int)) == true) then
 bif (bif (decide ((IntKind.wrap .u64 many) > (IntKind.wrap .u64 ((IntKind.wrap .u64 ((IntKind.wrap .u64 most) - (1 : Int))) + (1 : Int))))) then true else (bif ((wb w (1 : Int)) == false) then true else false)) then
 bif ((bif (decide ((IntKind.wrap .u64 many) > (IntKind.wrap .u64 ((IntKind.wrap .u64 ((IntKind.wrap .u64 most) - (1 : Int))) + (1 : Int))))) then true else (bif ((wb w (1 : Int)) == false) then false else false)) == b21) then
 bif b21 then
 true
 else true
 else false
 else false
 else false
 else false
 else true
 else false
 else false
 else false
 else false
 else false
 else false
 else false
 else false
 else false
 else false
 else false
 else false
 else bif (bif (decide (w > (15 : Int))) then true else true) then
 bif ((bif (decide (w > (15 : Int))) then true else true) == b2) then
 bif b2 then
 true
 else bif (bif ((wb w (8 : Int)) == true) then (bif ((wb w (1 : Int)) == false) then (bif (bne least (0 : Int)) then true else (bif ((wb w (2 : Int)) == true) then (bif ((wb w (4 : Int)) == true) then true else false) else false)) else false) else false) then
 bif ((bif ((wb w (8 : Int)) == true) then (bif ((wb w (1 : Int)) == false) then (bif (bne least (0 : Int)) then true else (bif ((wb w (2 : Int)) == true) then (bif ((wb w (4 : Int)) == true) then false else false) else false)) else false) else false) == b4) then
 bif b4 then
 true
 else bif (bif (decide (many > (0 : Int))) then true else (bif (decide (least > (0 : Int))) then true else (bif (decide (most > (0 : Int))) then true else false))) then
 bif ((bif (decide (many > (0 : Int))) then true else (bif (decide (least > (0 : Int))) then true else (bif (decide (most > (0 : Int))) then true else false))) == s) then
 bif (bif s then (bif ((wb w (8 : Int)) == true) then (bif (many == (0 : Int)) then true else (bif ((wb w (1 : Int)) == false) then (bif ((wb w (2 : Int)) == true) then (bif (most == (0 : Int)) then true else (bif ((wb w (4 : Int)) == true) then false else false)) else false) else false)) else false) else true) then
 bif ((bif s then (bif ((wb w (8 : Int)) == true) then (bif (many == (0 : Int)) then true else (bif ((wb w (1 : Int)) == false) then (bif ((wb w (2 : Int)) == true) then (bif (most == (0 : Int)) then true else (bif ((wb w (4 : Int)) == true) then false else false)) else false) else false)) else false) else false) == b7) then
 bif b7 then
 true
 else false
 else false
 else false
 else false
 else false
 else false
 else false
 else false
 else false
 else false : Bool) := by
  kernel_rfl
end
end Go.Proofs.YtcdghinmmhcfcaaGreatDoor.Ev

/- The document's Check of a tally, bits 1111. No condition. -/
namespace Go.Proofs.YtcdghinmmhcfcaaGreatDoor.Ev
open Go Go.RowKit Go.Proofs Go.Proofs.YtcdghinmmhcfcaaGreatDoor.Str
set_option linter.unusedVariables false
section
variable {m : Int} {t : TypeId} {fr : Nat × Nat}
theorem rck1111_v (m : Int) (t : TypeId) (fr : Nat × Nat) (w many least most : Int) (n : Nat) (l : List Sp) (b2 b4 s b7 b10 b14 b16 b21 : Bool) : ((fnPure Tryz.prog ((E16k true true true true (GG m t fr)).withCuts (mrg (rckR b2 b4 s b7 b10 b14 b16 b21) noCuts)) 60 Tryz.f17 (GG m t fr) [tlP w many least most n (sRow l)])).val =
 (bif (pkB (spsOf n (sRow l))) then
 bif b2 then
 (.some (.lit (.int .i64 (2 : Int))))
 else bif b4 then
 (.some (.lit (.int .i64 (2 : Int))))
 else bif b7 then
 (.some (.lit (.int .i64 (2 : Int))))
 else bif (decide ((sumS (spsOf n (sRow l))) > (0 : Int))) then
 bif b10 then
 (.some (.lit (.int .i64 (2 : Int))))
 else (.some (.lit (.int .i64 (0 : Int))))
 else bif b14 then
 (.some (.lit (.int .i64 (2 : Int))))
 else bif b16 then
 bif b21 then
 (.some (.lit (.int .i64 (2 : Int))))
 else (.some (.lit (.int .i64 (0 : Int))))
 else (.some (.lit (.int .i64 (0 : Int))))
 else bif b2 then
 (.some (.lit (.int .i64 (2 : Int))))
 else bif b4 then
 (.some (.lit (.int .i64 (2 : Int))))
 else (.some (.lit (.int .i64 (2 : Int)))) : Option PV) := by
  kernel_rfl
theorem rck1111_c (m : Int) (t : TypeId) (fr : Nat × Nat) (w many least most : Int) (n : Nat) (l : List Sp) (b2 b4 s b7 b10 b14 b16 b21 : Bool) : ((fnPure Tryz.prog ((E16k true true true true (GG m t fr)).withCuts (mrg (rckR b2 b4 s b7 b10 b14 b16 b21) noCuts)) 60 Tryz.f17 (GG m t fr) [tlP w many least most n (sRow l)])).conds =
 (bif ((areSps n (sRow l)) && (Nat.ble n (4294967280 : Nat))) then
 bif (pkB (spsOf n (sRow l))) then
 bif (bif (decide (w > (15 : Int))) then true else (bif (decide (many < (0 : Int))) then true else true)) then
 bif ((bif (decide (w > (15 : Int))) then true else (bif (decide (many < (0 : Int))) then true else (decide (many > (65536 : Int))))) == b2) then
 bif b2 then
 true
 else bif (bif ((wb w (8 : Int)) == true) then (bif ((wb w (1 : Int)) == true) then (bif ((wb w (2 : Int)) == true) then (bif ((wb w (4 : Int)) == true) then true else false) else false) else false) else false) then
 bif ((bif ((wb w (8 : Int)) == true) then (bif ((wb w (1 : Int)) == true) then (bif ((wb w (2 : Int)) == true) then (bif ((wb w (4 : Int)) == true) then false else false) else false) else false) else false) == b4) then
 bif b4 then
 true
 else bif (bif (decide (many > (0 : Int))) then true else (bif (decide (least > (0 : Int))) then true else (bif (decide (most > (0 : Int))) then true else true))) then
 bif ((bif (decide (many > (0 : Int))) then true else (bif (decide (least > (0 : Int))) then true else (bif (decide (most > (0 : Int))) then true else (decide ((sumS (spsOf n (sRow l))) > (0 : Int)))))) == s) then
 bif (bif s then (bif ((wb w (8 : Int)) == true) then (bif (many == (0 : Int)) then true else (bif ((wb w (1 : Int)) == true) then (bif (least == (0 : Int)) then true else (bif ((wb w (2 : Int)) == true) then (bif (most == (0 : Int)) then true else (bif ((wb w (4 : Int)) == true) then true else false)) else false)) else false)) else false) else true) then
 bif ((bif s then (bif ((wb w (8 : Int)) == true) then (bif (many == (0 : Int)) then true else (bif ((wb w (1 : Int)) == true) then (bif (least == (0 : Int)) then true else (bif ((wb w (2 : Int)) == true) then (bif (most == (0 : Int)) then true else (bif ((wb w (4 : Int)) == true) then ((sumS (spsOf n (sRow l))) == (0 : Int)) else false)) else false)) else false)) else false) else false) == b7) then
 bif b7 then
 true
 else bif (decide ((sumS (spsOf n (sRow l))) > (0 : Int))) then
 bif (bif ((wb w (8 : Int)) == true) then (bif (bne (IntKind.wrap .u64 many) (sumS (spsOf n (sRow l)))) then true else (bif ((wb w (1 : Int)) == true) then (bif (Nat.blt 0 n) then (bif (bne least (Prod.fst (sp l 0))) then true else (bif ((wb w (2 : Int)) == true) then (bif ((decide ((0 : Int) ≤ (IntKind.wrap .i64 (((n : Nat) : Int) - (1 : Int))))) && (Nat.blt (Int.toNat (IntKind.wrap .i64 (((n : Nat) : Int) - (1 : Int)))) n)) then true else false) else false)) else false) else false)) else false) then
 bif ((bif ((wb w (8 : Int)) == true) then (bif (bne (IntKind.wrap .u64 many) (sumS (spsOf n (sRow l)))) then true else (bif ((wb w (1 : Int)) == true) then (bif (Nat.blt 0 n) then (bif (bne least (Prod.fst (sp l 0))) then true else (bif ((wb w (2 : Int)) == true) then (bif ((decide ((0 : Int) ≤ (IntKind.wrap .i64 (((n : Nat) : Int) - (1 : Int))))) && (Nat.blt (Int.toNat (IntKind.wrap .i64 (((n : Nat) : Int) - (1 : Int)))) n)) then (bne most (Prod.snd (sp l (Int.toNat (IntKind.wrap .i64 (((n : Nat) : Int) - (1 : Int))))))) else false) else false)) else false) else false)) else false) == b10) then
 bif b10 then
 true
 else true
 else false
 else false
 else bif (bif ((wb w (1 : Int)) == true) then (bif ((wb w (2 : Int)) == true) then true else false) else false) then
 bif ((bif ((wb w (1 : Int)) == true) then (bif ((wb w (2 : Int)) == true) then (decide ((IntKind.wrap .u64 least) > (IntKind.wrap .u64 most))) else false) else false) == b14) then
 bif b14 then
 true
 else bif (bif s then (bif ((wb w (8 : Int)) == true) then true else false) else true) then
 bif ((bif s then (bif ((wb w (8 : Int)) == true) then true else false) else false) == b16) then
 bif b16 then
 bif ((wb w (1 : Int)) == true) then
 bif ((wb w (2 : Int)) == true) then
 bif (bif (decide ((IntKind.wrap .u64 many) > (IntKind.wrap .u64 ((IntKind.wrap .u64 ((IntKind.wrap .u64 most) - (IntKind.wrap .u64 least))) + (1 : Int))))) then true else (bif ((wb w (1 : Int)) == true) then (bif ((wb w (2 : Int)) == true) then (bif (bne (IntKind.wrap .u64 least) (IntKind.wrap .u64 most)) then true else true) else false) else false)) then
 bif ((bif (decide ((IntKind.wrap .u64 many) > (IntKind.wrap .u64 ((IntKind.wrap .u64 ((IntKind.wrap .u64 most) - (IntKind.wrap .u64 least))) + (1 : Int))))) then true else (bif ((wb w (1 : Int)) == true) then (bif ((wb w (2 : Int)) == true) then (bif (bne (IntKind.wrap .u64 least) (IntKind.wrap .u64 most)) then (decide (many < (2 : Int))) else false) else false) else false)) == b21) then
 bif b21 then
 true
 else true
 else false
 else false
 else false
 else false
 else true
 else false
 else false
 else false
 else false
 else false
 else false
 else false
 else false
 else false
 else false
 else false
 else false
 else bif (bif (decide (w > (15 : Int))) then true else true) then
 bif ((bif (decide (w > (15 : Int))) then true else true) == b2) then
 bif b2 then
 true
 else bif (bif ((wb w (8 : Int)) == true) then (bif ((wb w (1 : Int)) == true) then (bif ((wb w (2 : Int)) == true) then (bif ((wb w (4 : Int)) == true) then true else false) else false) else false) else false) then
 bif ((bif ((wb w (8 : Int)) == true) then (bif ((wb w (1 : Int)) == true) then (bif ((wb w (2 : Int)) == true) then (bif ((wb w (4 : Int)) == true) then false else false) else false) else false) else false) == b4) then
 bif b4 then
 true
 else bif (bif (decide (many > (0 : Int))) then true else (bif (decide (least > (0 : Int))) then true else (bif (decide (most > (0 : Int))) then true else false))) then
 bif ((bif (decide (many > (0 : Int))) then true else (bif (decide (least > (0 : Int))) then true else (bif (decide (most > (0 : Int))) then true else false))) == s) then
 bif (bif s then (bif ((wb w (8 : Int)) == true) then (bif (many == (0 : Int)) then true else (bif ((wb w (1 : Int)) == true) then (bif (least == (0 : Int)) then true else (bif ((wb w (2 : Int)) == true) then (bif (most == (0 : Int)) then true else (bif ((wb w (4 : Int)) == true) then false else false)) else false)) else false)) else false) else true) then
 bif ((bif s then (bif ((wb w (8 : Int)) == true) then (bif (many == (0 : Int)) then true else (bif ((wb w (1 : Int)) == true) then (bif (least == (0 : Int)) then true else (bif ((wb w (2 : Int)) == true) then (bif (most == (0 : Int)) then true else (bif ((wb w (4 : Int)) == true) then false else false)) else false)) else false)) else false) else false) == b7) then
 bif b7 then
 true
 else false
 else false
 else false
 else false
 else false
 else false
 else false
 else false
 else false
 else false : Bool) := by
  kernel_rfl
end
end Go.Proofs.YtcdghinmmhcfcaaGreatDoor.Ev

/- The document's Check of a tally, told by its truths. No condition. -/
namespace Go.Proofs.YtcdghinmmhcfcaaGreatDoor.Ev
open Go Go.RowKit Go.Proofs Go.Proofs.YtcdghinmmhcfcaaGreatDoor.Str
set_option linter.unusedVariables false
set_option linter.unusedSimpArgs false
section
variable {m : Int} {t : TypeId} {fr : Nat × Nat}
theorem rkj0000 {w many least most : Int} {l : List Sp} (h1 : wb w 1 = false) (h2 : wb w 2 = false) (h4 : wb w 4 = false) (h8 : wb w 8 = false) (hu : l.all u32B = true) (hn : l.length ≤ 4294967280) (hN : decide (sumS l > 0) = true → 0 < l.length) (hP : pkB l = true) :
    (fnPure Tryz.prog ((E16k false false false false (GG m t fr)).withCuts (mrg (rckR (kB2 w many) (b4T w many least most (sumS l)) (sT many least most (sumS l)) (b7T w many least most (sumS l)) (kB10 (wb w 1) (wb w 2) (wb w 8) (bne (IntKind.u64.wrap many) (sumS l)) (bne least (sp l 0).1) (bne most (sp l (l.length - 1)).2)) (kB14 (wb w 1) (wb w 2) least most) (sT many least most (sumS l) && wb w 8) (kB21 (wb w 1) (wb w 2) many least most)) noCuts)) 60 Tryz.f17 (GG m t fr) [tlP w many least most l.length (sRow l)]).run = some (ckRes (rkT w many least most l)) := by
  refine Tr.run_vc (rck0000_v ..) (rck0000_c ..) ?_ ?_
  · rw [sps_sRow, are_sRow hu, Nat.ble_eq_true_of_le hn, hP]
    unfold kB2 b4T b7T sT kB4 kB7 kB10 kB14 kB21 kS
    rw [h1, h2, h4, h8]
    cases hc : decide (sumS l > 0) with
    | true =>
      have hn0 := hN hc
      have e1 : Nat.blt 0 l.length = true := by rw [Nat.blt_eq]; exact hn0
      have e2 : IntKind.wrap .i64 (((l.length : Nat) : Int) - 1) = ((l.length - 1 : Nat) : Int) := by
        rw [show ((l.length : Nat) : Int) - 1 = ((l.length - 1 : Nat) : Int) by omega]
        exact wrap_nat (by omega)
      have e3 : decide ((0 : Int) ≤ ((l.length - 1 : Nat) : Int)) = true := by simp
      have e4 : Nat.blt (l.length - 1) l.length = true := by rw [Nat.blt_eq]; omega
      simp only [h1, h2, h4, h8, hc, e1, e2, e3, e4, Int.toNat_natCast, beq_self_eq_true, Bool.and_self, Bool.and_true, Bool.true_and, Bool.and_false, Bool.false_and, Bool.or_true, Bool.true_or, Bool.or_false, Bool.false_or, cond_true, cond_false, Bool.cond_self, Bool.not_true, Bool.not_false, b_or, b_and]
    | false =>
      simp only [h1, h2, h4, h8, hc, beq_self_eq_true, Bool.and_self, Bool.and_true, Bool.true_and, Bool.and_false, Bool.false_and, Bool.or_true, Bool.true_or, Bool.or_false, Bool.false_or, cond_true, cond_false, Bool.cond_self, Bool.not_true, Bool.not_false, b_or, b_and]
  · rw [sps_sRow, hP]
    unfold rkT
    exact rk_val ..
theorem rkj1000 {w many least most : Int} {l : List Sp} (h1 : wb w 1 = true) (h2 : wb w 2 = false) (h4 : wb w 4 = false) (h8 : wb w 8 = false) (hu : l.all u32B = true) (hn : l.length ≤ 4294967280) (hN : decide (sumS l > 0) = true → 0 < l.length) (hP : pkB l = true) :
    (fnPure Tryz.prog ((E16k true false false false (GG m t fr)).withCuts (mrg (rckR (kB2 w many) (b4T w many least most (sumS l)) (sT many least most (sumS l)) (b7T w many least most (sumS l)) (kB10 (wb w 1) (wb w 2) (wb w 8) (bne (IntKind.u64.wrap many) (sumS l)) (bne least (sp l 0).1) (bne most (sp l (l.length - 1)).2)) (kB14 (wb w 1) (wb w 2) least most) (sT many least most (sumS l) && wb w 8) (kB21 (wb w 1) (wb w 2) many least most)) noCuts)) 60 Tryz.f17 (GG m t fr) [tlP w many least most l.length (sRow l)]).run = some (ckRes (rkT w many least most l)) := by
  refine Tr.run_vc (rck1000_v ..) (rck1000_c ..) ?_ ?_
  · rw [sps_sRow, are_sRow hu, Nat.ble_eq_true_of_le hn, hP]
    unfold kB2 b4T b7T sT kB4 kB7 kB10 kB14 kB21 kS
    rw [h1, h2, h4, h8]
    cases hc : decide (sumS l > 0) with
    | true =>
      have hn0 := hN hc
      have e1 : Nat.blt 0 l.length = true := by rw [Nat.blt_eq]; exact hn0
      have e2 : IntKind.wrap .i64 (((l.length : Nat) : Int) - 1) = ((l.length - 1 : Nat) : Int) := by
        rw [show ((l.length : Nat) : Int) - 1 = ((l.length - 1 : Nat) : Int) by omega]
        exact wrap_nat (by omega)
      have e3 : decide ((0 : Int) ≤ ((l.length - 1 : Nat) : Int)) = true := by simp
      have e4 : Nat.blt (l.length - 1) l.length = true := by rw [Nat.blt_eq]; omega
      simp only [h1, h2, h4, h8, hc, e1, e2, e3, e4, Int.toNat_natCast, beq_self_eq_true, Bool.and_self, Bool.and_true, Bool.true_and, Bool.and_false, Bool.false_and, Bool.or_true, Bool.true_or, Bool.or_false, Bool.false_or, cond_true, cond_false, Bool.cond_self, Bool.not_true, Bool.not_false, b_or, b_and]
    | false =>
      simp only [h1, h2, h4, h8, hc, beq_self_eq_true, Bool.and_self, Bool.and_true, Bool.true_and, Bool.and_false, Bool.false_and, Bool.or_true, Bool.true_or, Bool.or_false, Bool.false_or, cond_true, cond_false, Bool.cond_self, Bool.not_true, Bool.not_false, b_or, b_and]
  · rw [sps_sRow, hP]
    unfold rkT
    exact rk_val ..
theorem rkj0100 {w many least most : Int} {l : List Sp} (h1 : wb w 1 = false) (h2 : wb w 2 = true) (h4 : wb w 4 = false) (h8 : wb w 8 = false) (hu : l.all u32B = true) (hn : l.length ≤ 4294967280) (hN : decide (sumS l > 0) = true → 0 < l.length) (hP : pkB l = true) :
    (fnPure Tryz.prog ((E16k false true false false (GG m t fr)).withCuts (mrg (rckR (kB2 w many) (b4T w many least most (sumS l)) (sT many least most (sumS l)) (b7T w many least most (sumS l)) (kB10 (wb w 1) (wb w 2) (wb w 8) (bne (IntKind.u64.wrap many) (sumS l)) (bne least (sp l 0).1) (bne most (sp l (l.length - 1)).2)) (kB14 (wb w 1) (wb w 2) least most) (sT many least most (sumS l) && wb w 8) (kB21 (wb w 1) (wb w 2) many least most)) noCuts)) 60 Tryz.f17 (GG m t fr) [tlP w many least most l.length (sRow l)]).run = some (ckRes (rkT w many least most l)) := by
  refine Tr.run_vc (rck0100_v ..) (rck0100_c ..) ?_ ?_
  · rw [sps_sRow, are_sRow hu, Nat.ble_eq_true_of_le hn, hP]
    unfold kB2 b4T b7T sT kB4 kB7 kB10 kB14 kB21 kS
    rw [h1, h2, h4, h8]
    cases hc : decide (sumS l > 0) with
    | true =>
      have hn0 := hN hc
      have e1 : Nat.blt 0 l.length = true := by rw [Nat.blt_eq]; exact hn0
      have e2 : IntKind.wrap .i64 (((l.length : Nat) : Int) - 1) = ((l.length - 1 : Nat) : Int) := by
        rw [show ((l.length : Nat) : Int) - 1 = ((l.length - 1 : Nat) : Int) by omega]
        exact wrap_nat (by omega)
      have e3 : decide ((0 : Int) ≤ ((l.length - 1 : Nat) : Int)) = true := by simp
      have e4 : Nat.blt (l.length - 1) l.length = true := by rw [Nat.blt_eq]; omega
      simp only [h1, h2, h4, h8, hc, e1, e2, e3, e4, Int.toNat_natCast, beq_self_eq_true, Bool.and_self, Bool.and_true, Bool.true_and, Bool.and_false, Bool.false_and, Bool.or_true, Bool.true_or, Bool.or_false, Bool.false_or, cond_true, cond_false, Bool.cond_self, Bool.not_true, Bool.not_false, b_or, b_and]
    | false =>
      simp only [h1, h2, h4, h8, hc, beq_self_eq_true, Bool.and_self, Bool.and_true, Bool.true_and, Bool.and_false, Bool.false_and, Bool.or_true, Bool.true_or, Bool.or_false, Bool.false_or, cond_true, cond_false, Bool.cond_self, Bool.not_true, Bool.not_false, b_or, b_and]
  · rw [sps_sRow, hP]
    unfold rkT
    exact rk_val ..
theorem rkj1100 {w many least most : Int} {l : List Sp} (h1 : wb w 1 = true) (h2 : wb w 2 = true) (h4 : wb w 4 = false) (h8 : wb w 8 = false) (hu : l.all u32B = true) (hn : l.length ≤ 4294967280) (hN : decide (sumS l > 0) = true → 0 < l.length) (hP : pkB l = true) :
    (fnPure Tryz.prog ((E16k true true false false (GG m t fr)).withCuts (mrg (rckR (kB2 w many) (b4T w many least most (sumS l)) (sT many least most (sumS l)) (b7T w many least most (sumS l)) (kB10 (wb w 1) (wb w 2) (wb w 8) (bne (IntKind.u64.wrap many) (sumS l)) (bne least (sp l 0).1) (bne most (sp l (l.length - 1)).2)) (kB14 (wb w 1) (wb w 2) least most) (sT many least most (sumS l) && wb w 8) (kB21 (wb w 1) (wb w 2) many least most)) noCuts)) 60 Tryz.f17 (GG m t fr) [tlP w many least most l.length (sRow l)]).run = some (ckRes (rkT w many least most l)) := by
  refine Tr.run_vc (rck1100_v ..) (rck1100_c ..) ?_ ?_
  · rw [sps_sRow, are_sRow hu, Nat.ble_eq_true_of_le hn, hP]
    unfold kB2 b4T b7T sT kB4 kB7 kB10 kB14 kB21 kS
    rw [h1, h2, h4, h8]
    cases hc : decide (sumS l > 0) with
    | true =>
      have hn0 := hN hc
      have e1 : Nat.blt 0 l.length = true := by rw [Nat.blt_eq]; exact hn0
      have e2 : IntKind.wrap .i64 (((l.length : Nat) : Int) - 1) = ((l.length - 1 : Nat) : Int) := by
        rw [show ((l.length : Nat) : Int) - 1 = ((l.length - 1 : Nat) : Int) by omega]
        exact wrap_nat (by omega)
      have e3 : decide ((0 : Int) ≤ ((l.length - 1 : Nat) : Int)) = true := by simp
      have e4 : Nat.blt (l.length - 1) l.length = true := by rw [Nat.blt_eq]; omega
      simp only [h1, h2, h4, h8, hc, e1, e2, e3, e4, Int.toNat_natCast, beq_self_eq_true, Bool.and_self, Bool.and_true, Bool.true_and, Bool.and_false, Bool.false_and, Bool.or_true, Bool.true_or, Bool.or_false, Bool.false_or, cond_true, cond_false, Bool.cond_self, Bool.not_true, Bool.not_false, b_or, b_and]
    | false =>
      simp only [h1, h2, h4, h8, hc, beq_self_eq_true, Bool.and_self, Bool.and_true, Bool.true_and, Bool.and_false, Bool.false_and, Bool.or_true, Bool.true_or, Bool.or_false, Bool.false_or, cond_true, cond_false, Bool.cond_self, Bool.not_true, Bool.not_false, b_or, b_and]
  · rw [sps_sRow, hP]
    unfold rkT
    exact rk_val ..
theorem rkj0010 {w many least most : Int} {l : List Sp} (h1 : wb w 1 = false) (h2 : wb w 2 = false) (h4 : wb w 4 = true) (h8 : wb w 8 = false) (hu : l.all u32B = true) (hn : l.length ≤ 4294967280) (hN : decide (sumS l > 0) = true → 0 < l.length) (hP : pkB l = true) :
    (fnPure Tryz.prog ((E16k false false true false (GG m t fr)).withCuts (mrg (rckR (kB2 w many) (b4T w many least most (sumS l)) (sT many least most (sumS l)) (b7T w many least most (sumS l)) (kB10 (wb w 1) (wb w 2) (wb w 8) (bne (IntKind.u64.wrap many) (sumS l)) (bne least (sp l 0).1) (bne most (sp l (l.length - 1)).2)) (kB14 (wb w 1) (wb w 2) least most) (sT many least most (sumS l) && wb w 8) (kB21 (wb w 1) (wb w 2) many least most)) noCuts)) 60 Tryz.f17 (GG m t fr) [tlP w many least most l.length (sRow l)]).run = some (ckRes (rkT w many least most l)) := by
  refine Tr.run_vc (rck0010_v ..) (rck0010_c ..) ?_ ?_
  · rw [sps_sRow, are_sRow hu, Nat.ble_eq_true_of_le hn, hP]
    unfold kB2 b4T b7T sT kB4 kB7 kB10 kB14 kB21 kS
    rw [h1, h2, h4, h8]
    cases hc : decide (sumS l > 0) with
    | true =>
      have hn0 := hN hc
      have e1 : Nat.blt 0 l.length = true := by rw [Nat.blt_eq]; exact hn0
      have e2 : IntKind.wrap .i64 (((l.length : Nat) : Int) - 1) = ((l.length - 1 : Nat) : Int) := by
        rw [show ((l.length : Nat) : Int) - 1 = ((l.length - 1 : Nat) : Int) by omega]
        exact wrap_nat (by omega)
      have e3 : decide ((0 : Int) ≤ ((l.length - 1 : Nat) : Int)) = true := by simp
      have e4 : Nat.blt (l.length - 1) l.length = true := by rw [Nat.blt_eq]; omega
      simp only [h1, h2, h4, h8, hc, e1, e2, e3, e4, Int.toNat_natCast, beq_self_eq_true, Bool.and_self, Bool.and_true, Bool.true_and, Bool.and_false, Bool.false_and, Bool.or_true, Bool.true_or, Bool.or_false, Bool.false_or, cond_true, cond_false, Bool.cond_self, Bool.not_true, Bool.not_false, b_or, b_and]
    | false =>
      simp only [h1, h2, h4, h8, hc, beq_self_eq_true, Bool.and_self, Bool.and_true, Bool.true_and, Bool.and_false, Bool.false_and, Bool.or_true, Bool.true_or, Bool.or_false, Bool.false_or, cond_true, cond_false, Bool.cond_self, Bool.not_true, Bool.not_false, b_or, b_and]
  · rw [sps_sRow, hP]
    unfold rkT
    exact rk_val ..
theorem rkj1010 {w many least most : Int} {l : List Sp} (h1 : wb w 1 = true) (h2 : wb w 2 = false) (h4 : wb w 4 = true) (h8 : wb w 8 = false) (hu : l.all u32B = true) (hn : l.length ≤ 4294967280) (hN : decide (sumS l > 0) = true → 0 < l.length) (hP : pkB l = true) :
    (fnPure Tryz.prog ((E16k true false true false (GG m t fr)).withCuts (mrg (rckR (kB2 w many) (b4T w many least most (sumS l)) (sT many least most (sumS l)) (b7T w many least most (sumS l)) (kB10 (wb w 1) (wb w 2) (wb w 8) (bne (IntKind.u64.wrap many) (sumS l)) (bne least (sp l 0).1) (bne most (sp l (l.length - 1)).2)) (kB14 (wb w 1) (wb w 2) least most) (sT many least most (sumS l) && wb w 8) (kB21 (wb w 1) (wb w 2) many least most)) noCuts)) 60 Tryz.f17 (GG m t fr) [tlP w many least most l.length (sRow l)]).run = some (ckRes (rkT w many least most l)) := by
  refine Tr.run_vc (rck1010_v ..) (rck1010_c ..) ?_ ?_
  · rw [sps_sRow, are_sRow hu, Nat.ble_eq_true_of_le hn, hP]
    unfold kB2 b4T b7T sT kB4 kB7 kB10 kB14 kB21 kS
    rw [h1, h2, h4, h8]
    cases hc : decide (sumS l > 0) with
    | true =>
      have hn0 := hN hc
      have e1 : Nat.blt 0 l.length = true := by rw [Nat.blt_eq]; exact hn0
      have e2 : IntKind.wrap .i64 (((l.length : Nat) : Int) - 1) = ((l.length - 1 : Nat) : Int) := by
        rw [show ((l.length : Nat) : Int) - 1 = ((l.length - 1 : Nat) : Int) by omega]
        exact wrap_nat (by omega)
      have e3 : decide ((0 : Int) ≤ ((l.length - 1 : Nat) : Int)) = true := by simp
      have e4 : Nat.blt (l.length - 1) l.length = true := by rw [Nat.blt_eq]; omega
      simp only [h1, h2, h4, h8, hc, e1, e2, e3, e4, Int.toNat_natCast, beq_self_eq_true, Bool.and_self, Bool.and_true, Bool.true_and, Bool.and_false, Bool.false_and, Bool.or_true, Bool.true_or, Bool.or_false, Bool.false_or, cond_true, cond_false, Bool.cond_self, Bool.not_true, Bool.not_false, b_or, b_and]
    | false =>
      simp only [h1, h2, h4, h8, hc, beq_self_eq_true, Bool.and_self, Bool.and_true, Bool.true_and, Bool.and_false, Bool.false_and, Bool.or_true, Bool.true_or, Bool.or_false, Bool.false_or, cond_true, cond_false, Bool.cond_self, Bool.not_true, Bool.not_false, b_or, b_and]
  · rw [sps_sRow, hP]
    unfold rkT
    exact rk_val ..
theorem rkj0110 {w many least most : Int} {l : List Sp} (h1 : wb w 1 = false) (h2 : wb w 2 = true) (h4 : wb w 4 = true) (h8 : wb w 8 = false) (hu : l.all u32B = true) (hn : l.length ≤ 4294967280) (hN : decide (sumS l > 0) = true → 0 < l.length) (hP : pkB l = true) :
    (fnPure Tryz.prog ((E16k false true true false (GG m t fr)).withCuts (mrg (rckR (kB2 w many) (b4T w many least most (sumS l)) (sT many least most (sumS l)) (b7T w many least most (sumS l)) (kB10 (wb w 1) (wb w 2) (wb w 8) (bne (IntKind.u64.wrap many) (sumS l)) (bne least (sp l 0).1) (bne most (sp l (l.length - 1)).2)) (kB14 (wb w 1) (wb w 2) least most) (sT many least most (sumS l) && wb w 8) (kB21 (wb w 1) (wb w 2) many least most)) noCuts)) 60 Tryz.f17 (GG m t fr) [tlP w many least most l.length (sRow l)]).run = some (ckRes (rkT w many least most l)) := by
  refine Tr.run_vc (rck0110_v ..) (rck0110_c ..) ?_ ?_
  · rw [sps_sRow, are_sRow hu, Nat.ble_eq_true_of_le hn, hP]
    unfold kB2 b4T b7T sT kB4 kB7 kB10 kB14 kB21 kS
    rw [h1, h2, h4, h8]
    cases hc : decide (sumS l > 0) with
    | true =>
      have hn0 := hN hc
      have e1 : Nat.blt 0 l.length = true := by rw [Nat.blt_eq]; exact hn0
      have e2 : IntKind.wrap .i64 (((l.length : Nat) : Int) - 1) = ((l.length - 1 : Nat) : Int) := by
        rw [show ((l.length : Nat) : Int) - 1 = ((l.length - 1 : Nat) : Int) by omega]
        exact wrap_nat (by omega)
      have e3 : decide ((0 : Int) ≤ ((l.length - 1 : Nat) : Int)) = true := by simp
      have e4 : Nat.blt (l.length - 1) l.length = true := by rw [Nat.blt_eq]; omega
      simp only [h1, h2, h4, h8, hc, e1, e2, e3, e4, Int.toNat_natCast, beq_self_eq_true, Bool.and_self, Bool.and_true, Bool.true_and, Bool.and_false, Bool.false_and, Bool.or_true, Bool.true_or, Bool.or_false, Bool.false_or, cond_true, cond_false, Bool.cond_self, Bool.not_true, Bool.not_false, b_or, b_and]
    | false =>
      simp only [h1, h2, h4, h8, hc, beq_self_eq_true, Bool.and_self, Bool.and_true, Bool.true_and, Bool.and_false, Bool.false_and, Bool.or_true, Bool.true_or, Bool.or_false, Bool.false_or, cond_true, cond_false, Bool.cond_self, Bool.not_true, Bool.not_false, b_or, b_and]
  · rw [sps_sRow, hP]
    unfold rkT
    exact rk_val ..
theorem rkj1110 {w many least most : Int} {l : List Sp} (h1 : wb w 1 = true) (h2 : wb w 2 = true) (h4 : wb w 4 = true) (h8 : wb w 8 = false) (hu : l.all u32B = true) (hn : l.length ≤ 4294967280) (hN : decide (sumS l > 0) = true → 0 < l.length) (hP : pkB l = true) :
    (fnPure Tryz.prog ((E16k true true true false (GG m t fr)).withCuts (mrg (rckR (kB2 w many) (b4T w many least most (sumS l)) (sT many least most (sumS l)) (b7T w many least most (sumS l)) (kB10 (wb w 1) (wb w 2) (wb w 8) (bne (IntKind.u64.wrap many) (sumS l)) (bne least (sp l 0).1) (bne most (sp l (l.length - 1)).2)) (kB14 (wb w 1) (wb w 2) least most) (sT many least most (sumS l) && wb w 8) (kB21 (wb w 1) (wb w 2) many least most)) noCuts)) 60 Tryz.f17 (GG m t fr) [tlP w many least most l.length (sRow l)]).run = some (ckRes (rkT w many least most l)) := by
  refine Tr.run_vc (rck1110_v ..) (rck1110_c ..) ?_ ?_
  · rw [sps_sRow, are_sRow hu, Nat.ble_eq_true_of_le hn, hP]
    unfold kB2 b4T b7T sT kB4 kB7 kB10 kB14 kB21 kS
    rw [h1, h2, h4, h8]
    cases hc : decide (sumS l > 0) with
    | true =>
      have hn0 := hN hc
      have e1 : Nat.blt 0 l.length = true := by rw [Nat.blt_eq]; exact hn0
      have e2 : IntKind.wrap .i64 (((l.length : Nat) : Int) - 1) = ((l.length - 1 : Nat) : Int) := by
        rw [show ((l.length : Nat) : Int) - 1 = ((l.length - 1 : Nat) : Int) by omega]
        exact wrap_nat (by omega)
      have e3 : decide ((0 : Int) ≤ ((l.length - 1 : Nat) : Int)) = true := by simp
      have e4 : Nat.blt (l.length - 1) l.length = true := by rw [Nat.blt_eq]; omega
      simp only [h1, h2, h4, h8, hc, e1, e2, e3, e4, Int.toNat_natCast, beq_self_eq_true, Bool.and_self, Bool.and_true, Bool.true_and, Bool.and_false, Bool.false_and, Bool.or_true, Bool.true_or, Bool.or_false, Bool.false_or, cond_true, cond_false, Bool.cond_self, Bool.not_true, Bool.not_false, b_or, b_and]
    | false =>
      simp only [h1, h2, h4, h8, hc, beq_self_eq_true, Bool.and_self, Bool.and_true, Bool.true_and, Bool.and_false, Bool.false_and, Bool.or_true, Bool.true_or, Bool.or_false, Bool.false_or, cond_true, cond_false, Bool.cond_self, Bool.not_true, Bool.not_false, b_or, b_and]
  · rw [sps_sRow, hP]
    unfold rkT
    exact rk_val ..
theorem rkj0001 {w many least most : Int} {l : List Sp} (h1 : wb w 1 = false) (h2 : wb w 2 = false) (h4 : wb w 4 = false) (h8 : wb w 8 = true) (hu : l.all u32B = true) (hn : l.length ≤ 4294967280) (hN : decide (sumS l > 0) = true → 0 < l.length) (hP : pkB l = true) :
    (fnPure Tryz.prog ((E16k false false false true (GG m t fr)).withCuts (mrg (rckR (kB2 w many) (b4T w many least most (sumS l)) (sT many least most (sumS l)) (b7T w many least most (sumS l)) (kB10 (wb w 1) (wb w 2) (wb w 8) (bne (IntKind.u64.wrap many) (sumS l)) (bne least (sp l 0).1) (bne most (sp l (l.length - 1)).2)) (kB14 (wb w 1) (wb w 2) least most) (sT many least most (sumS l) && wb w 8) (kB21 (wb w 1) (wb w 2) many least most)) noCuts)) 60 Tryz.f17 (GG m t fr) [tlP w many least most l.length (sRow l)]).run = some (ckRes (rkT w many least most l)) := by
  refine Tr.run_vc (rck0001_v ..) (rck0001_c ..) ?_ ?_
  · rw [sps_sRow, are_sRow hu, Nat.ble_eq_true_of_le hn, hP]
    unfold kB2 b4T b7T sT kB4 kB7 kB10 kB14 kB21 kS
    rw [h1, h2, h4, h8]
    cases hc : decide (sumS l > 0) with
    | true =>
      have hn0 := hN hc
      have e1 : Nat.blt 0 l.length = true := by rw [Nat.blt_eq]; exact hn0
      have e2 : IntKind.wrap .i64 (((l.length : Nat) : Int) - 1) = ((l.length - 1 : Nat) : Int) := by
        rw [show ((l.length : Nat) : Int) - 1 = ((l.length - 1 : Nat) : Int) by omega]
        exact wrap_nat (by omega)
      have e3 : decide ((0 : Int) ≤ ((l.length - 1 : Nat) : Int)) = true := by simp
      have e4 : Nat.blt (l.length - 1) l.length = true := by rw [Nat.blt_eq]; omega
      simp only [h1, h2, h4, h8, hc, e1, e2, e3, e4, Int.toNat_natCast, beq_self_eq_true, Bool.and_self, Bool.and_true, Bool.true_and, Bool.and_false, Bool.false_and, Bool.or_true, Bool.true_or, Bool.or_false, Bool.false_or, cond_true, cond_false, Bool.cond_self, Bool.not_true, Bool.not_false, b_or, b_and]
    | false =>
      simp only [h1, h2, h4, h8, hc, beq_self_eq_true, Bool.and_self, Bool.and_true, Bool.true_and, Bool.and_false, Bool.false_and, Bool.or_true, Bool.true_or, Bool.or_false, Bool.false_or, cond_true, cond_false, Bool.cond_self, Bool.not_true, Bool.not_false, b_or, b_and]
  · rw [sps_sRow, hP]
    unfold rkT
    exact rk_val ..
theorem rkj1001 {w many least most : Int} {l : List Sp} (h1 : wb w 1 = true) (h2 : wb w 2 = false) (h4 : wb w 4 = false) (h8 : wb w 8 = true) (hu : l.all u32B = true) (hn : l.length ≤ 4294967280) (hN : decide (sumS l > 0) = true → 0 < l.length) (hP : pkB l = true) :
    (fnPure Tryz.prog ((E16k true false false true (GG m t fr)).withCuts (mrg (rckR (kB2 w many) (b4T w many least most (sumS l)) (sT many least most (sumS l)) (b7T w many least most (sumS l)) (kB10 (wb w 1) (wb w 2) (wb w 8) (bne (IntKind.u64.wrap many) (sumS l)) (bne least (sp l 0).1) (bne most (sp l (l.length - 1)).2)) (kB14 (wb w 1) (wb w 2) least most) (sT many least most (sumS l) && wb w 8) (kB21 (wb w 1) (wb w 2) many least most)) noCuts)) 60 Tryz.f17 (GG m t fr) [tlP w many least most l.length (sRow l)]).run = some (ckRes (rkT w many least most l)) := by
  refine Tr.run_vc (rck1001_v ..) (rck1001_c ..) ?_ ?_
  · rw [sps_sRow, are_sRow hu, Nat.ble_eq_true_of_le hn, hP]
    unfold kB2 b4T b7T sT kB4 kB7 kB10 kB14 kB21 kS
    rw [h1, h2, h4, h8]
    cases hc : decide (sumS l > 0) with
    | true =>
      have hn0 := hN hc
      have e1 : Nat.blt 0 l.length = true := by rw [Nat.blt_eq]; exact hn0
      have e2 : IntKind.wrap .i64 (((l.length : Nat) : Int) - 1) = ((l.length - 1 : Nat) : Int) := by
        rw [show ((l.length : Nat) : Int) - 1 = ((l.length - 1 : Nat) : Int) by omega]
        exact wrap_nat (by omega)
      have e3 : decide ((0 : Int) ≤ ((l.length - 1 : Nat) : Int)) = true := by simp
      have e4 : Nat.blt (l.length - 1) l.length = true := by rw [Nat.blt_eq]; omega
      simp only [h1, h2, h4, h8, hc, e1, e2, e3, e4, Int.toNat_natCast, beq_self_eq_true, Bool.and_self, Bool.and_true, Bool.true_and, Bool.and_false, Bool.false_and, Bool.or_true, Bool.true_or, Bool.or_false, Bool.false_or, cond_true, cond_false, Bool.cond_self, Bool.not_true, Bool.not_false, b_or, b_and]
    | false =>
      simp only [h1, h2, h4, h8, hc, beq_self_eq_true, Bool.and_self, Bool.and_true, Bool.true_and, Bool.and_false, Bool.false_and, Bool.or_true, Bool.true_or, Bool.or_false, Bool.false_or, cond_true, cond_false, Bool.cond_self, Bool.not_true, Bool.not_false, b_or, b_and]
  · rw [sps_sRow, hP]
    unfold rkT
    exact rk_val ..
theorem rkj0101 {w many least most : Int} {l : List Sp} (h1 : wb w 1 = false) (h2 : wb w 2 = true) (h4 : wb w 4 = false) (h8 : wb w 8 = true) (hu : l.all u32B = true) (hn : l.length ≤ 4294967280) (hN : decide (sumS l > 0) = true → 0 < l.length) (hP : pkB l = true) :
    (fnPure Tryz.prog ((E16k false true false true (GG m t fr)).withCuts (mrg (rckR (kB2 w many) (b4T w many least most (sumS l)) (sT many least most (sumS l)) (b7T w many least most (sumS l)) (kB10 (wb w 1) (wb w 2) (wb w 8) (bne (IntKind.u64.wrap many) (sumS l)) (bne least (sp l 0).1) (bne most (sp l (l.length - 1)).2)) (kB14 (wb w 1) (wb w 2) least most) (sT many least most (sumS l) && wb w 8) (kB21 (wb w 1) (wb w 2) many least most)) noCuts)) 60 Tryz.f17 (GG m t fr) [tlP w many least most l.length (sRow l)]).run = some (ckRes (rkT w many least most l)) := by
  refine Tr.run_vc (rck0101_v ..) (rck0101_c ..) ?_ ?_
  · rw [sps_sRow, are_sRow hu, Nat.ble_eq_true_of_le hn, hP]
    unfold kB2 b4T b7T sT kB4 kB7 kB10 kB14 kB21 kS
    rw [h1, h2, h4, h8]
    cases hc : decide (sumS l > 0) with
    | true =>
      have hn0 := hN hc
      have e1 : Nat.blt 0 l.length = true := by rw [Nat.blt_eq]; exact hn0
      have e2 : IntKind.wrap .i64 (((l.length : Nat) : Int) - 1) = ((l.length - 1 : Nat) : Int) := by
        rw [show ((l.length : Nat) : Int) - 1 = ((l.length - 1 : Nat) : Int) by omega]
        exact wrap_nat (by omega)
      have e3 : decide ((0 : Int) ≤ ((l.length - 1 : Nat) : Int)) = true := by simp
      have e4 : Nat.blt (l.length - 1) l.length = true := by rw [Nat.blt_eq]; omega
      simp only [h1, h2, h4, h8, hc, e1, e2, e3, e4, Int.toNat_natCast, beq_self_eq_true, Bool.and_self, Bool.and_true, Bool.true_and, Bool.and_false, Bool.false_and, Bool.or_true, Bool.true_or, Bool.or_false, Bool.false_or, cond_true, cond_false, Bool.cond_self, Bool.not_true, Bool.not_false, b_or, b_and]
    | false =>
      simp only [h1, h2, h4, h8, hc, beq_self_eq_true, Bool.and_self, Bool.and_true, Bool.true_and, Bool.and_false, Bool.false_and, Bool.or_true, Bool.true_or, Bool.or_false, Bool.false_or, cond_true, cond_false, Bool.cond_self, Bool.not_true, Bool.not_false, b_or, b_and]
  · rw [sps_sRow, hP]
    unfold rkT
    exact rk_val ..
theorem rkj1101 {w many least most : Int} {l : List Sp} (h1 : wb w 1 = true) (h2 : wb w 2 = true) (h4 : wb w 4 = false) (h8 : wb w 8 = true) (hu : l.all u32B = true) (hn : l.length ≤ 4294967280) (hN : decide (sumS l > 0) = true → 0 < l.length) (hP : pkB l = true) :
    (fnPure Tryz.prog ((E16k true true false true (GG m t fr)).withCuts (mrg (rckR (kB2 w many) (b4T w many least most (sumS l)) (sT many least most (sumS l)) (b7T w many least most (sumS l)) (kB10 (wb w 1) (wb w 2) (wb w 8) (bne (IntKind.u64.wrap many) (sumS l)) (bne least (sp l 0).1) (bne most (sp l (l.length - 1)).2)) (kB14 (wb w 1) (wb w 2) least most) (sT many least most (sumS l) && wb w 8) (kB21 (wb w 1) (wb w 2) many least most)) noCuts)) 60 Tryz.f17 (GG m t fr) [tlP w many least most l.length (sRow l)]).run = some (ckRes (rkT w many least most l)) := by
  refine Tr.run_vc (rck1101_v ..) (rck1101_c ..) ?_ ?_
  · rw [sps_sRow, are_sRow hu, Nat.ble_eq_true_of_le hn, hP]
    unfold kB2 b4T b7T sT kB4 kB7 kB10 kB14 kB21 kS
    rw [h1, h2, h4, h8]
    cases hc : decide (sumS l > 0) with
    | true =>
      have hn0 := hN hc
      have e1 : Nat.blt 0 l.length = true := by rw [Nat.blt_eq]; exact hn0
      have e2 : IntKind.wrap .i64 (((l.length : Nat) : Int) - 1) = ((l.length - 1 : Nat) : Int) := by
        rw [show ((l.length : Nat) : Int) - 1 = ((l.length - 1 : Nat) : Int) by omega]
        exact wrap_nat (by omega)
      have e3 : decide ((0 : Int) ≤ ((l.length - 1 : Nat) : Int)) = true := by simp
      have e4 : Nat.blt (l.length - 1) l.length = true := by rw [Nat.blt_eq]; omega
      simp only [h1, h2, h4, h8, hc, e1, e2, e3, e4, Int.toNat_natCast, beq_self_eq_true, Bool.and_self, Bool.and_true, Bool.true_and, Bool.and_false, Bool.false_and, Bool.or_true, Bool.true_or, Bool.or_false, Bool.false_or, cond_true, cond_false, Bool.cond_self, Bool.not_true, Bool.not_false, b_or, b_and]
    | false =>
      simp only [h1, h2, h4, h8, hc, beq_self_eq_true, Bool.and_self, Bool.and_true, Bool.true_and, Bool.and_false, Bool.false_and, Bool.or_true, Bool.true_or, Bool.or_false, Bool.false_or, cond_true, cond_false, Bool.cond_self, Bool.not_true, Bool.not_false, b_or, b_and]
  · rw [sps_sRow, hP]
    unfold rkT
    exact rk_val ..
theorem rkj0011 {w many least most : Int} {l : List Sp} (h1 : wb w 1 = false) (h2 : wb w 2 = false) (h4 : wb w 4 = true) (h8 : wb w 8 = true) (hu : l.all u32B = true) (hn : l.length ≤ 4294967280) (hN : decide (sumS l > 0) = true → 0 < l.length) (hP : pkB l = true) :
    (fnPure Tryz.prog ((E16k false false true true (GG m t fr)).withCuts (mrg (rckR (kB2 w many) (b4T w many least most (sumS l)) (sT many least most (sumS l)) (b7T w many least most (sumS l)) (kB10 (wb w 1) (wb w 2) (wb w 8) (bne (IntKind.u64.wrap many) (sumS l)) (bne least (sp l 0).1) (bne most (sp l (l.length - 1)).2)) (kB14 (wb w 1) (wb w 2) least most) (sT many least most (sumS l) && wb w 8) (kB21 (wb w 1) (wb w 2) many least most)) noCuts)) 60 Tryz.f17 (GG m t fr) [tlP w many least most l.length (sRow l)]).run = some (ckRes (rkT w many least most l)) := by
  refine Tr.run_vc (rck0011_v ..) (rck0011_c ..) ?_ ?_
  · rw [sps_sRow, are_sRow hu, Nat.ble_eq_true_of_le hn, hP]
    unfold kB2 b4T b7T sT kB4 kB7 kB10 kB14 kB21 kS
    rw [h1, h2, h4, h8]
    cases hc : decide (sumS l > 0) with
    | true =>
      have hn0 := hN hc
      have e1 : Nat.blt 0 l.length = true := by rw [Nat.blt_eq]; exact hn0
      have e2 : IntKind.wrap .i64 (((l.length : Nat) : Int) - 1) = ((l.length - 1 : Nat) : Int) := by
        rw [show ((l.length : Nat) : Int) - 1 = ((l.length - 1 : Nat) : Int) by omega]
        exact wrap_nat (by omega)
      have e3 : decide ((0 : Int) ≤ ((l.length - 1 : Nat) : Int)) = true := by simp
      have e4 : Nat.blt (l.length - 1) l.length = true := by rw [Nat.blt_eq]; omega
      simp only [h1, h2, h4, h8, hc, e1, e2, e3, e4, Int.toNat_natCast, beq_self_eq_true, Bool.and_self, Bool.and_true, Bool.true_and, Bool.and_false, Bool.false_and, Bool.or_true, Bool.true_or, Bool.or_false, Bool.false_or, cond_true, cond_false, Bool.cond_self, Bool.not_true, Bool.not_false, b_or, b_and]
    | false =>
      simp only [h1, h2, h4, h8, hc, beq_self_eq_true, Bool.and_self, Bool.and_true, Bool.true_and, Bool.and_false, Bool.false_and, Bool.or_true, Bool.true_or, Bool.or_false, Bool.false_or, cond_true, cond_false, Bool.cond_self, Bool.not_true, Bool.not_false, b_or, b_and]
  · rw [sps_sRow, hP]
    unfold rkT
    exact rk_val ..
theorem rkj1011 {w many least most : Int} {l : List Sp} (h1 : wb w 1 = true) (h2 : wb w 2 = false) (h4 : wb w 4 = true) (h8 : wb w 8 = true) (hu : l.all u32B = true) (hn : l.length ≤ 4294967280) (hN : decide (sumS l > 0) = true → 0 < l.length) (hP : pkB l = true) :
    (fnPure Tryz.prog ((E16k true false true true (GG m t fr)).withCuts (mrg (rckR (kB2 w many) (b4T w many least most (sumS l)) (sT many least most (sumS l)) (b7T w many least most (sumS l)) (kB10 (wb w 1) (wb w 2) (wb w 8) (bne (IntKind.u64.wrap many) (sumS l)) (bne least (sp l 0).1) (bne most (sp l (l.length - 1)).2)) (kB14 (wb w 1) (wb w 2) least most) (sT many least most (sumS l) && wb w 8) (kB21 (wb w 1) (wb w 2) many least most)) noCuts)) 60 Tryz.f17 (GG m t fr) [tlP w many least most l.length (sRow l)]).run = some (ckRes (rkT w many least most l)) := by
  refine Tr.run_vc (rck1011_v ..) (rck1011_c ..) ?_ ?_
  · rw [sps_sRow, are_sRow hu, Nat.ble_eq_true_of_le hn, hP]
    unfold kB2 b4T b7T sT kB4 kB7 kB10 kB14 kB21 kS
    rw [h1, h2, h4, h8]
    cases hc : decide (sumS l > 0) with
    | true =>
      have hn0 := hN hc
      have e1 : Nat.blt 0 l.length = true := by rw [Nat.blt_eq]; exact hn0
      have e2 : IntKind.wrap .i64 (((l.length : Nat) : Int) - 1) = ((l.length - 1 : Nat) : Int) := by
        rw [show ((l.length : Nat) : Int) - 1 = ((l.length - 1 : Nat) : Int) by omega]
        exact wrap_nat (by omega)
      have e3 : decide ((0 : Int) ≤ ((l.length - 1 : Nat) : Int)) = true := by simp
      have e4 : Nat.blt (l.length - 1) l.length = true := by rw [Nat.blt_eq]; omega
      simp only [h1, h2, h4, h8, hc, e1, e2, e3, e4, Int.toNat_natCast, beq_self_eq_true, Bool.and_self, Bool.and_true, Bool.true_and, Bool.and_false, Bool.false_and, Bool.or_true, Bool.true_or, Bool.or_false, Bool.false_or, cond_true, cond_false, Bool.cond_self, Bool.not_true, Bool.not_false, b_or, b_and]
    | false =>
      simp only [h1, h2, h4, h8, hc, beq_self_eq_true, Bool.and_self, Bool.and_true, Bool.true_and, Bool.and_false, Bool.false_and, Bool.or_true, Bool.true_or, Bool.or_false, Bool.false_or, cond_true, cond_false, Bool.cond_self, Bool.not_true, Bool.not_false, b_or, b_and]
  · rw [sps_sRow, hP]
    unfold rkT
    exact rk_val ..
theorem rkj0111 {w many least most : Int} {l : List Sp} (h1 : wb w 1 = false) (h2 : wb w 2 = true) (h4 : wb w 4 = true) (h8 : wb w 8 = true) (hu : l.all u32B = true) (hn : l.length ≤ 4294967280) (hN : decide (sumS l > 0) = true → 0 < l.length) (hP : pkB l = true) :
    (fnPure Tryz.prog ((E16k false true true true (GG m t fr)).withCuts (mrg (rckR (kB2 w many) (b4T w many least most (sumS l)) (sT many least most (sumS l)) (b7T w many least most (sumS l)) (kB10 (wb w 1) (wb w 2) (wb w 8) (bne (IntKind.u64.wrap many) (sumS l)) (bne least (sp l 0).1) (bne most (sp l (l.length - 1)).2)) (kB14 (wb w 1) (wb w 2) least most) (sT many least most (sumS l) && wb w 8) (kB21 (wb w 1) (wb w 2) many least most)) noCuts)) 60 Tryz.f17 (GG m t fr) [tlP w many least most l.length (sRow l)]).run = some (ckRes (rkT w many least most l)) := by
  refine Tr.run_vc (rck0111_v ..) (rck0111_c ..) ?_ ?_
  · rw [sps_sRow, are_sRow hu, Nat.ble_eq_true_of_le hn, hP]
    unfold kB2 b4T b7T sT kB4 kB7 kB10 kB14 kB21 kS
    rw [h1, h2, h4, h8]
    cases hc : decide (sumS l > 0) with
    | true =>
      have hn0 := hN hc
      have e1 : Nat.blt 0 l.length = true := by rw [Nat.blt_eq]; exact hn0
      have e2 : IntKind.wrap .i64 (((l.length : Nat) : Int) - 1) = ((l.length - 1 : Nat) : Int) := by
        rw [show ((l.length : Nat) : Int) - 1 = ((l.length - 1 : Nat) : Int) by omega]
        exact wrap_nat (by omega)
      have e3 : decide ((0 : Int) ≤ ((l.length - 1 : Nat) : Int)) = true := by simp
      have e4 : Nat.blt (l.length - 1) l.length = true := by rw [Nat.blt_eq]; omega
      simp only [h1, h2, h4, h8, hc, e1, e2, e3, e4, Int.toNat_natCast, beq_self_eq_true, Bool.and_self, Bool.and_true, Bool.true_and, Bool.and_false, Bool.false_and, Bool.or_true, Bool.true_or, Bool.or_false, Bool.false_or, cond_true, cond_false, Bool.cond_self, Bool.not_true, Bool.not_false, b_or, b_and]
    | false =>
      simp only [h1, h2, h4, h8, hc, beq_self_eq_true, Bool.and_self, Bool.and_true, Bool.true_and, Bool.and_false, Bool.false_and, Bool.or_true, Bool.true_or, Bool.or_false, Bool.false_or, cond_true, cond_false, Bool.cond_self, Bool.not_true, Bool.not_false, b_or, b_and]
  · rw [sps_sRow, hP]
    unfold rkT
    exact rk_val ..
theorem rkj1111 {w many least most : Int} {l : List Sp} (h1 : wb w 1 = true) (h2 : wb w 2 = true) (h4 : wb w 4 = true) (h8 : wb w 8 = true) (hu : l.all u32B = true) (hn : l.length ≤ 4294967280) (hN : decide (sumS l > 0) = true → 0 < l.length) (hP : pkB l = true) :
    (fnPure Tryz.prog ((E16k true true true true (GG m t fr)).withCuts (mrg (rckR (kB2 w many) (b4T w many least most (sumS l)) (sT many least most (sumS l)) (b7T w many least most (sumS l)) (kB10 (wb w 1) (wb w 2) (wb w 8) (bne (IntKind.u64.wrap many) (sumS l)) (bne least (sp l 0).1) (bne most (sp l (l.length - 1)).2)) (kB14 (wb w 1) (wb w 2) least most) (sT many least most (sumS l) && wb w 8) (kB21 (wb w 1) (wb w 2) many least most)) noCuts)) 60 Tryz.f17 (GG m t fr) [tlP w many least most l.length (sRow l)]).run = some (ckRes (rkT w many least most l)) := by
  refine Tr.run_vc (rck1111_v ..) (rck1111_c ..) ?_ ?_
  · rw [sps_sRow, are_sRow hu, Nat.ble_eq_true_of_le hn, hP]
    unfold kB2 b4T b7T sT kB4 kB7 kB10 kB14 kB21 kS
    rw [h1, h2, h4, h8]
    cases hc : decide (sumS l > 0) with
    | true =>
      have hn0 := hN hc
      have e1 : Nat.blt 0 l.length = true := by rw [Nat.blt_eq]; exact hn0
      have e2 : IntKind.wrap .i64 (((l.length : Nat) : Int) - 1) = ((l.length - 1 : Nat) : Int) := by
        rw [show ((l.length : Nat) : Int) - 1 = ((l.length - 1 : Nat) : Int) by omega]
        exact wrap_nat (by omega)
      have e3 : decide ((0 : Int) ≤ ((l.length - 1 : Nat) : Int)) = true := by simp
      have e4 : Nat.blt (l.length - 1) l.length = true := by rw [Nat.blt_eq]; omega
      simp only [h1, h2, h4, h8, hc, e1, e2, e3, e4, Int.toNat_natCast, beq_self_eq_true, Bool.and_self, Bool.and_true, Bool.true_and, Bool.and_false, Bool.false_and, Bool.or_true, Bool.true_or, Bool.or_false, Bool.false_or, cond_true, cond_false, Bool.cond_self, Bool.not_true, Bool.not_false, b_or, b_and]
    | false =>
      simp only [h1, h2, h4, h8, hc, beq_self_eq_true, Bool.and_self, Bool.and_true, Bool.true_and, Bool.and_false, Bool.false_and, Bool.or_true, Bool.true_or, Bool.or_false, Bool.false_or, cond_true, cond_false, Bool.cond_self, Bool.not_true, Bool.not_false, b_or, b_and]
  · rw [sps_sRow, hP]
    unfold rkT
    exact rk_val ..
end
end Go.Proofs.YtcdghinmmhcfcaaGreatDoor.Ev

/- The document's Check of a tally is the program's. No condition. -/
namespace Go.Proofs.YtcdghinmmhcfcaaGreatDoor.Ev
open Go Go.RowKit Go.Proofs Go.Proofs.YtcdghinmmhcfcaaGreatDoor.Str
set_option linter.unusedVariables false
set_option linter.unusedSimpArgs false
section
variable {m : Int} {t : TypeId} {fr : Nat × Nat}
theorem rck_at {w many least most : Int} {l : List Sp} (hw : 0 ≤ w ∧ w < 256) (hl : u32N least = true) (hm : u32N most = true) (hu : l.all u32B = true) (hn : l.length ≤ 4294967280) :
    PureAt Tryz.prog (GG m t fr) 17 [tlP w many least most l.length (sRow l)] (ckRes (ckP w many least most l)) := by
  cases c : pkB l with
  | false =>
    have h : (fnPure Tryz.prog ((E16k true true true true (GG m t fr)).withCuts (mrg (rckR true true true true true true true true) noCuts)) 60 Tryz.f17 (GG m t fr) [tlP w many least most l.length (sRow l)]).run = some (int 2) := by
      refine Tr.run_vc (rck1111_v ..) (rck1111_c ..) ?_ ?_
      · rw [sps_sRow, are_sRow hu, Nat.ble_eq_true_of_le hn, c]
        cases decide (w > 15) <;> rfl
      · rw [sps_sRow, c]
        rfl
    have e : ckRes (ckP w many least most l) = int 2 := by
      unfold ckP
      rw [c]
      cases aN w <;> cases decide (many < 0) <;> cases decide (many > 65536) <;> rfl
    rw [e]
    exact fn_mrg mixed (E16k_ok (w1 := true) (w2 := true) (w4 := true) (w8 := true) (m := m) (t := t) (fr := fr)) (f := 17) (fn := Tryz.f17) (by kernel_rfl) (by kernel_rfl) _ _ h
  | true =>
    have hT := rk_is (many := many) hw hl hm c
    have hN : decide (sumS l > 0) = true → 0 < l.length := fun h => by
      have hP' := c
      unfold pkB at hP'
      simp only [Bool.and_eq_true, decide_eq_true_eq] at hP'
      exact (sumS_pos hP'.1).2 (of_decide_eq_true h)
    cases g1 : wb w 1 with
    | false =>
      cases g2 : wb w 2 with
      | false =>
        cases g4 : wb w 4 with
        | false =>
          cases g8 : wb w 8 with
          | false =>
            have h := rkj0000 (m := m) (t := t) (fr := fr) (many := many) (least := least) (most := most) g1 g2 g4 g8 hu hn hN c
            rw [hT] at h
            exact fn_mrg mixed (E16k_ok (w1 := false) (w2 := false) (w4 := false) (w8 := false) (m := m) (t := t) (fr := fr)) (f := 17) (fn := Tryz.f17) (by kernel_rfl) (by kernel_rfl) _ _ h
          | true =>
            have h := rkj0001 (m := m) (t := t) (fr := fr) (many := many) (least := least) (most := most) g1 g2 g4 g8 hu hn hN c
            rw [hT] at h
            exact fn_mrg mixed (E16k_ok (w1 := false) (w2 := false) (w4 := false) (w8 := true) (m := m) (t := t) (fr := fr)) (f := 17) (fn := Tryz.f17) (by kernel_rfl) (by kernel_rfl) _ _ h
        | true =>
          cases g8 : wb w 8 with
          | false =>
            have h := rkj0010 (m := m) (t := t) (fr := fr) (many := many) (least := least) (most := most) g1 g2 g4 g8 hu hn hN c
            rw [hT] at h
            exact fn_mrg mixed (E16k_ok (w1 := false) (w2 := false) (w4 := true) (w8 := false) (m := m) (t := t) (fr := fr)) (f := 17) (fn := Tryz.f17) (by kernel_rfl) (by kernel_rfl) _ _ h
          | true =>
            have h := rkj0011 (m := m) (t := t) (fr := fr) (many := many) (least := least) (most := most) g1 g2 g4 g8 hu hn hN c
            rw [hT] at h
            exact fn_mrg mixed (E16k_ok (w1 := false) (w2 := false) (w4 := true) (w8 := true) (m := m) (t := t) (fr := fr)) (f := 17) (fn := Tryz.f17) (by kernel_rfl) (by kernel_rfl) _ _ h
      | true =>
        cases g4 : wb w 4 with
        | false =>
          cases g8 : wb w 8 with
          | false =>
            have h := rkj0100 (m := m) (t := t) (fr := fr) (many := many) (least := least) (most := most) g1 g2 g4 g8 hu hn hN c
            rw [hT] at h
            exact fn_mrg mixed (E16k_ok (w1 := false) (w2 := true) (w4 := false) (w8 := false) (m := m) (t := t) (fr := fr)) (f := 17) (fn := Tryz.f17) (by kernel_rfl) (by kernel_rfl) _ _ h
          | true =>
            have h := rkj0101 (m := m) (t := t) (fr := fr) (many := many) (least := least) (most := most) g1 g2 g4 g8 hu hn hN c
            rw [hT] at h
            exact fn_mrg mixed (E16k_ok (w1 := false) (w2 := true) (w4 := false) (w8 := true) (m := m) (t := t) (fr := fr)) (f := 17) (fn := Tryz.f17) (by kernel_rfl) (by kernel_rfl) _ _ h
        | true =>
          cases g8 : wb w 8 with
          | false =>
            have h := rkj0110 (m := m) (t := t) (fr := fr) (many := many) (least := least) (most := most) g1 g2 g4 g8 hu hn hN c
            rw [hT] at h
            exact fn_mrg mixed (E16k_ok (w1 := false) (w2 := true) (w4 := true) (w8 := false) (m := m) (t := t) (fr := fr)) (f := 17) (fn := Tryz.f17) (by kernel_rfl) (by kernel_rfl) _ _ h
          | true =>
            have h := rkj0111 (m := m) (t := t) (fr := fr) (many := many) (least := least) (most := most) g1 g2 g4 g8 hu hn hN c
            rw [hT] at h
            exact fn_mrg mixed (E16k_ok (w1 := false) (w2 := true) (w4 := true) (w8 := true) (m := m) (t := t) (fr := fr)) (f := 17) (fn := Tryz.f17) (by kernel_rfl) (by kernel_rfl) _ _ h
    | true =>
      cases g2 : wb w 2 with
      | false =>
        cases g4 : wb w 4 with
        | false =>
          cases g8 : wb w 8 with
          | false =>
            have h := rkj1000 (m := m) (t := t) (fr := fr) (many := many) (least := least) (most := most) g1 g2 g4 g8 hu hn hN c
            rw [hT] at h
            exact fn_mrg mixed (E16k_ok (w1 := true) (w2 := false) (w4 := false) (w8 := false) (m := m) (t := t) (fr := fr)) (f := 17) (fn := Tryz.f17) (by kernel_rfl) (by kernel_rfl) _ _ h
          | true =>
            have h := rkj1001 (m := m) (t := t) (fr := fr) (many := many) (least := least) (most := most) g1 g2 g4 g8 hu hn hN c
            rw [hT] at h
            exact fn_mrg mixed (E16k_ok (w1 := true) (w2 := false) (w4 := false) (w8 := true) (m := m) (t := t) (fr := fr)) (f := 17) (fn := Tryz.f17) (by kernel_rfl) (by kernel_rfl) _ _ h
        | true =>
          cases g8 : wb w 8 with
          | false =>
            have h := rkj1010 (m := m) (t := t) (fr := fr) (many := many) (least := least) (most := most) g1 g2 g4 g8 hu hn hN c
            rw [hT] at h
            exact fn_mrg mixed (E16k_ok (w1 := true) (w2 := false) (w4 := true) (w8 := false) (m := m) (t := t) (fr := fr)) (f := 17) (fn := Tryz.f17) (by kernel_rfl) (by kernel_rfl) _ _ h
          | true =>
            have h := rkj1011 (m := m) (t := t) (fr := fr) (many := many) (least := least) (most := most) g1 g2 g4 g8 hu hn hN c
            rw [hT] at h
            exact fn_mrg mixed (E16k_ok (w1 := true) (w2 := false) (w4 := true) (w8 := true) (m := m) (t := t) (fr := fr)) (f := 17) (fn := Tryz.f17) (by kernel_rfl) (by kernel_rfl) _ _ h
      | true =>
        cases g4 : wb w 4 with
        | false =>
          cases g8 : wb w 8 with
          | false =>
            have h := rkj1100 (m := m) (t := t) (fr := fr) (many := many) (least := least) (most := most) g1 g2 g4 g8 hu hn hN c
            rw [hT] at h
            exact fn_mrg mixed (E16k_ok (w1 := true) (w2 := true) (w4 := false) (w8 := false) (m := m) (t := t) (fr := fr)) (f := 17) (fn := Tryz.f17) (by kernel_rfl) (by kernel_rfl) _ _ h
          | true =>
            have h := rkj1101 (m := m) (t := t) (fr := fr) (many := many) (least := least) (most := most) g1 g2 g4 g8 hu hn hN c
            rw [hT] at h
            exact fn_mrg mixed (E16k_ok (w1 := true) (w2 := true) (w4 := false) (w8 := true) (m := m) (t := t) (fr := fr)) (f := 17) (fn := Tryz.f17) (by kernel_rfl) (by kernel_rfl) _ _ h
        | true =>
          cases g8 : wb w 8 with
          | false =>
            have h := rkj1110 (m := m) (t := t) (fr := fr) (many := many) (least := least) (most := most) g1 g2 g4 g8 hu hn hN c
            rw [hT] at h
            exact fn_mrg mixed (E16k_ok (w1 := true) (w2 := true) (w4 := true) (w8 := false) (m := m) (t := t) (fr := fr)) (f := 17) (fn := Tryz.f17) (by kernel_rfl) (by kernel_rfl) _ _ h
          | true =>
            have h := rkj1111 (m := m) (t := t) (fr := fr) (many := many) (least := least) (most := most) g1 g2 g4 g8 hu hn hN c
            rw [hT] at h
            exact fn_mrg mixed (E16k_ok (w1 := true) (w2 := true) (w4 := true) (w8 := true) (m := m) (t := t) (fr := fr)) (f := 17) (fn := Tryz.f17) (by kernel_rfl) (by kernel_rfl) _ _ h
theorem rcheck_ok : PureOK Tryz.prog (GG m t fr) 17 checkG := by
  intro ps p hp
  unfold checkG at hp
  split at hp
  · rename_i q
    split at hp
    · rename_i w many least most n f hq
      obtain ⟨hb, hp⟩ := br_run hp
      simp only [tlB, Bool.and_eq_true, decide_eq_true_eq] at hb
      obtain ⟨⟨hw, hl, hm⟩, hf, hn⟩ := hb
      have hL := sps_len n f
      have hn' := Nat.le_of_ble_eq_true hn
      have key := rck_at (m := m) (t := t) (fr := fr) (many := many) hw hl hm (sps_u32 hf) (by omega)
      have le : PLeL [tlP w many least most n f] [tlP w many least most (spsOf n f).length (sRow (spsOf n f))] := (PLeL.cons (PLe.agg (PLeL.cons (.refl _) (PLeL.cons (.refl _) (PLeL.cons (.refl _) (PLeL.cons (.refl _) (PLeL.cons (PLe.gsl hL.symm (sps_row hf)) .nil)))))) .nil)
      have e : p = ckRes (ckP w many least most (spsOf n f)) := by
        revert hp
        unfold ckRes
        cases ckP w many least most (spsOf n f) <;> simp only [Tr.run, cond_true, cond_false, Option.some.injEq] <;> exact Eq.symm
      rw [e]
      exact (key.pre le).pre (PLeL.cons (tlOf_le hq) .nil)
    · cases hp
  · cases hp
end
end Go.Proofs.YtcdghinmmhcfcaaGreatDoor.Ev
