/- JBox15: several texts in one. Condition: each part's own. -/
import Derived.Test.YtlngnfkjpfokhaaDoorJBox14
/- Lists of numbers: contracts; changes, as evaluated. No condition. -/
namespace Go.Proofs.YtlngnfkjpfokhaaDoor.Ev
open Go Go.RowKit Go.Proofs Go.Proofs.YtlngnfkjpfokhaaDoor.Str
set_option linter.unusedVariables false
set_option linter.unusedSimpArgs false
section
variable {m : Int} {t : TypeId} {fr : Nat × Nat}
def inG : List PV → Tr PV
  | [p, .lit (.int .u32 x)] => match rowP 1 p with
    | some (n, f) => .br (areNums n f && Nat.ble n 4294967280) (.leaf (bool (inI (numsOf n f) x))) .fail
    | none => .fail
  | _ => .fail
theorem in_ok : PureOK Tryd.prog (GG m t fr) 28 inG := by
  intro ps p hp
  unfold inG at hp
  split at hp
  · rename_i x
    split at hp
    · rename_i n f hq
      have hb := br_run hp
      clear hp
      obtain ⟨hc, hp⟩ := hb
      simp only [Bool.and_eq_true, Nat.ble_eq] at hc
      obtain ⟨hf, hn⟩ := hc
      simp only [Tr.run, Option.some.injEq] at hp
      subst hp
      have hlen := nums_len n f
      have hle := (rowP_le hq).trans (PLe.gsl rfl (nums_row hf))
      have hu := nums_u32 hf
      generalize hL : numsOf n f = l at hlen hle hu
      subst hlen
      have hv := in_raw_v m t fr l.length l x
      have hc := in_raw_c m t fr l.length l x
      rw [nums_nRow] at hv hc
      rw [are_nRow hu, Nat.ble_eq_true_of_le hn, decide_eq_true rfl] at hc
      simp only [Bool.and_self, Bool.cond_self, cond_true] at hc
      exact ((fn_cuts mixed E16_ok (fn := Tryd.f28) (cuts := cut1 0 (cutOf (GG m t fr) 17 inOuts 0 inF)) (by kernel_rfl) (CutLaws.one (by omega) (by kernel_rfl) fun st e st' h => cutOf_ok E16_ok mixed (noCuts_ok (envOf_cuts ..) _) inF_ok h)) _ _
        (Tr.run_vc hv hc rfl (by cases inI l x <;> rfl))).pre (.cons hle (.refl _))
    · cases hp
  · cases hp
def samG : List PV → Tr PV
  | [p, q] => match rowP 1 p, rowP 1 q with
    | some (n, f), some (n', f') => .br (areNums n f && areNums n' f' && Nat.ble n 4294967280) (.leaf (bool (decide (numsOf n f = numsOf n' f')))) .fail
    | _, _ => .fail
  | _ => .fail
theorem sam_ok : PureOK Tryd.prog (GG m t fr) 15 samG := by
  intro ps p hp
  unfold samG at hp
  split at hp
  · split at hp
    · rename_i n f n' f' hq hq'
      have hb := br_run hp
      clear hp
      obtain ⟨hc, hp⟩ := hb
      simp only [Bool.and_eq_true, Nat.ble_eq] at hc
      obtain ⟨⟨hf, hf'⟩, hn⟩ := hc
      simp only [Tr.run, Option.some.injEq] at hp
      subst hp
      have hlen := nums_len n f
      have hlen' := nums_len n' f'
      have hle := (rowP_le hq).trans (PLe.gsl rfl (nums_row hf))
      have hle' := (rowP_le hq').trans (PLe.gsl rfl (nums_row hf'))
      have hu := nums_u32 hf
      have hu' := nums_u32 hf'
      generalize hL : numsOf n f = l at hlen hle hu
      generalize hL' : numsOf n' f' = l' at hlen' hle' hu'
      subst hlen hlen'
      have hv := sm_raw_v m t fr l.length l'.length l l'
      have hc := sm_raw_c m t fr l.length l'.length l l'
      rw [nums_nRow, nums_nRow] at hv hc
      rw [are_nRow hu, are_nRow hu', Nat.ble_eq_true_of_le hn, decide_eq_true rfl] at hc
      refine ((fn_cuts mixed E16_ok (fn := Tryd.f15) (cuts := cut1 0 (cutOf (GG m t fr) 26 smOuts 0 smF)) (by kernel_rfl) (CutLaws.one (by omega) (by kernel_rfl) fun st e st' h => cutOf_ok E16_ok mixed (noCuts_ok (envOf_cuts ..) _) smF_ok h)) _ _ ?_).pre (.cons hle (.cons hle' .nil))
      by_cases he : l.length = l'.length
      · have h1 : bne ((l.length : Nat) : Int) ((l'.length : Nat) : Int) = false := by simp [he]
        have h2 : Nat.beq l.length l'.length = true := by rw [he]; exact Nat.beq_refl _
        rw [h1] at hv hc
        rw [h2] at hc
        cases hd : decide (l = l') <;> (rw [hd] at hv hc; exact Tr.run_vc hv hc rfl rfl)
      · have h1 : bne ((l.length : Nat) : Int) ((l'.length : Nat) : Int) = true := by
          rw [bne_iff_ne]
          omega
        rw [h1] at hv hc
        have : decide (l = l') = false := decide_eq_false fun h => he (by rw [h])
        rw [this]
        exact Tr.run_vc hv hc rfl rfl
    · cases hp
  · cases hp
def brPure : List (Nat × (List PV → Tr PV)) := (35, postG) :: (36, postG) :: (28, inG) :: (15, samG) :: bqPure
theorem brPure_ok {m : Int} {t : TypeId} {fr : Nat × Nat} : TabOK Tryd.prog (GG m t fr) brPure := (TabOK.cons post_ok (fn := Tryd.f35) (by kernel_rfl) (by kernel_rfl) (TabOK.cons rpost_ok (fn := Tryd.f36) (by kernel_rfl) (by kernel_rfl) (TabOK.cons in_ok (fn := Tryd.f28) (by kernel_rfl) (by kernel_rfl) (TabOK.cons sam_ok (fn := Tryd.f15) (by kernel_rfl) (by kernel_rfl) bqPure_ok))))
noncomputable abbrev E17 (G : GT) : Env := envOf Tryd.prog G brPure biFull
theorem E17_ok : (E17 (GG m t fr)).ok Tryd.prog (GG m t fr) := envOf_ok mixed brPure_ok biFull_ok
/-! ### a change -/
structure Ch where
  k : Int
  us : List Int
  f : Int
  d : Int
  s : Int
  z : Int
  r : ByteArray
deriving DecidableEq
def chP (c : Ch) : PV := .agg [.lit (.int .u8 c.k), .gsl 1 c.us.length (nRow c.us), .lit (.int .u8 c.f), int c.d, int c.s, int c.z, str c.r]
theorem rig_raw_v (m : Int) (t : TypeId) (fr : Nat × Nat) (c : Ch) : ((fnPure Tryd.prog (E17 (GG m t fr)) 60 Tryd.f18 (GG m t fr) [chP c])).val =
 (bif ((Ch.k c) == (1 : Int)) then
 bif (fineB (Ch.f c) (Ch.d c) (Ch.s c) (Ch.z c) (Ch.r c)) then
 bif (!((((List.length (Ch.us c)) : Nat) : Int) == (0 : Int))) then
 (.some (.lit (.int .i64 (2 : Int))))
 else (.some (.lit (.int .i64 (0 : Int))))
 else (.some (.lit (.int .i64 (2 : Int))))
 else bif ((Ch.k c) == (2 : Int)) then
 bif ((IntKind.wrap .u8 (((BitVec.toNat (HAnd.hAnd (BitVec.ofInt 8 (Ch.f c)) (Complement.complement (BitVec.ofInt 8 (31 : Int))))) : Nat) : Int)) == (0 : Int)) then
 bif (!((posE (numsOf (List.length (Ch.us c)) (nRow (Ch.us c)))) == (0 : Int))) then
 (.some (.lit (.int .i64 (2 : Int))))
 else bif (!(((Ch.d c) == (0 : Int)) && (((Ch.s c) == (0 : Int)) && (((Ch.z c) == (0 : Int)) && true)))) then
 (.some (.lit (.int .i64 (2 : Int))))
 else bif (!((ByteArray.toList (Ch.r c)) == (ByteArray.toList (.mk (List.toArray []))))) then
 (.some (.lit (.int .i64 (2 : Int))))
 else (.some (.lit (.int .i64 (0 : Int))))
 else (.some (.lit (.int .i64 (2 : Int))))
 else bif ((Ch.k c) == (3 : Int)) then
 bif ((IntKind.wrap .u8 (((BitVec.toNat (HAnd.hAnd (BitVec.ofInt 8 (Ch.f c)) (Complement.complement (BitVec.ofInt 8 (31 : Int))))) : Nat) : Int)) == (0 : Int)) then
 bif (!((posE (numsOf (List.length (Ch.us c)) (nRow (Ch.us c)))) == (0 : Int))) then
 (.some (.lit (.int .i64 (2 : Int))))
 else bif (!(((Ch.d c) == (0 : Int)) && (((Ch.s c) == (0 : Int)) && (((Ch.z c) == (0 : Int)) && true)))) then
 (.some (.lit (.int .i64 (2 : Int))))
 else bif (!((ByteArray.toList (Ch.r c)) == (ByteArray.toList (.mk (List.toArray []))))) then
 (.some (.lit (.int .i64 (2 : Int))))
 else (.some (.lit (.int .i64 (0 : Int))))
 else (.some (.lit (.int .i64 (2 : Int))))
 else bif ((Ch.k c) == (4 : Int)) then
 bif ((IntKind.wrap .u8 (((BitVec.toNat (HAnd.hAnd (BitVec.ofInt 8 (Ch.f c)) (Complement.complement (BitVec.ofInt 8 (31 : Int))))) : Nat) : Int)) == (0 : Int)) then
 bif (!((posE (numsOf (List.length (Ch.us c)) (nRow (Ch.us c)))) == (0 : Int))) then
 (.some (.lit (.int .i64 (2 : Int))))
 else bif (!(((Ch.d c) == (0 : Int)) && (((Ch.s c) == (0 : Int)) && (((Ch.z c) == (0 : Int)) && true)))) then
 (.some (.lit (.int .i64 (2 : Int))))
 else bif (!((ByteArray.toList (Ch.r c)) == (ByteArray.toList (.mk (List.toArray []))))) then
 (.some (.lit (.int .i64 (2 : Int))))
 else (.some (.lit (.int .i64 (0 : Int))))
 else (.some (.lit (.int .i64 (2 : Int))))
 else bif ((Ch.k c) == (5 : Int)) then
 bif (!((posE (numsOf (List.length (Ch.us c)) (nRow (Ch.us c)))) == (0 : Int))) then
 (.some (.lit (.int .i64 (2 : Int))))
 else bif (bne (Ch.f c) (0 : Int)) then
 (.some (.lit (.int .i64 (2 : Int))))
 else bif (!(((Ch.d c) == (0 : Int)) && (((Ch.s c) == (0 : Int)) && (((Ch.z c) == (0 : Int)) && true)))) then
 (.some (.lit (.int .i64 (2 : Int))))
 else bif (!((ByteArray.toList (Ch.r c)) == (ByteArray.toList (.mk (List.toArray []))))) then
 (.some (.lit (.int .i64 (2 : Int))))
 else (.some (.lit (.int .i64 (0 : Int))))
 else bif ((Ch.k c) == (6 : Int)) then
 bif (!((((List.length (Ch.us c)) : Nat) : Int) == (0 : Int))) then
 (.some (.lit (.int .i64 (2 : Int))))
 else bif (bne (Ch.f c) (0 : Int)) then
 (.some (.lit (.int .i64 (2 : Int))))
 else bif (!(((Ch.d c) == (0 : Int)) && (((Ch.s c) == (0 : Int)) && (((Ch.z c) == (0 : Int)) && true)))) then
 (.some (.lit (.int .i64 (2 : Int))))
 else bif (!((ByteArray.toList (Ch.r c)) == (ByteArray.toList (.mk (List.toArray []))))) then
 (.some (.lit (.int .i64 (2 : Int))))
 else (.some (.lit (.int .i64 (0 : Int))))
 else (.some (.lit (.int .i64 (2 : Int)))) : Option PV) := by
  kernel_rfl
theorem rig_raw_c (m : Int) (t : TypeId) (fr : Nat × Nat) (c : Ch) : ((fnPure Tryd.prog (E17 (GG m t fr)) 60 Tryd.f18 (GG m t fr) [chP c])).conds =
 (bif ((Ch.k c) == (1 : Int)) then
 bif (u8B (Ch.f c)) then
 bif (fineB (Ch.f c) (Ch.d c) (Ch.s c) (Ch.z c) (Ch.r c)) then
 bif (!((((List.length (Ch.us c)) : Nat) : Int) == (0 : Int))) then
 true
 else true
 else true
 else false
 else bif ((Ch.k c) == (2 : Int)) then
 bif ((IntKind.wrap .u8 (((BitVec.toNat (HAnd.hAnd (BitVec.ofInt 8 (Ch.f c)) (Complement.complement (BitVec.ofInt 8 (31 : Int))))) : Nat) : Int)) == (0 : Int)) then
 bif ((areNums (List.length (Ch.us c)) (nRow (Ch.us c))) && (Nat.ble (List.length (Ch.us c)) (4294967280 : Nat))) then
 bif (!((posE (numsOf (List.length (Ch.us c)) (nRow (Ch.us c)))) == (0 : Int))) then
 true
 else bif (!(((Ch.d c) == (0 : Int)) && (((Ch.s c) == (0 : Int)) && (((Ch.z c) == (0 : Int)) && true)))) then
 true
 else bif (!((ByteArray.toList (Ch.r c)) == (ByteArray.toList (.mk (List.toArray []))))) then
 true
 else true
 else false
 else true
 else bif ((Ch.k c) == (3 : Int)) then
 bif ((IntKind.wrap .u8 (((BitVec.toNat (HAnd.hAnd (BitVec.ofInt 8 (Ch.f c)) (Complement.complement (BitVec.ofInt 8 (31 : Int))))) : Nat) : Int)) == (0 : Int)) then
 bif ((areNums (List.length (Ch.us c)) (nRow (Ch.us c))) && (Nat.ble (List.length (Ch.us c)) (4294967280 : Nat))) then
 bif (!((posE (numsOf (List.length (Ch.us c)) (nRow (Ch.us c)))) == (0 : Int))) then
 true
 else bif (!(((Ch.d c) == (0 : Int)) && (((Ch.s c) == (0 : Int)) && (((Ch.z c) == (0 : Int)) && true)))) then
 true
 else bif (!((ByteArray.toList (Ch.r c)) == (ByteArray.toList (.mk (List.toArray []))))) then
 true
 else true
 else false
 else true
 else bif ((Ch.k c) == (4 : Int)) then
 bif ((IntKind.wrap .u8 (((BitVec.toNat (HAnd.hAnd (BitVec.ofInt 8 (Ch.f c)) (Complement.complement (BitVec.ofInt 8 (31 : Int))))) : Nat) : Int)) == (0 : Int)) then
 bif ((areNums (List.length (Ch.us c)) (nRow (Ch.us c))) && (Nat.ble (List.length (Ch.us c)) (4294967280 : Nat))) then
 bif (!((posE (numsOf (List.length (Ch.us c)) (nRow (Ch.us c)))) == (0 : Int))) then
 true
 else bif (!(((Ch.d c) == (0 : Int)) && (((Ch.s c) == (0 : Int)) && (((Ch.z c) == (0 : Int)) && true)))) then
 true
 else bif (!((ByteArray.toList (Ch.r c)) == (ByteArray.toList (.mk (List.toArray []))))) then
 true
 else true
 else false
 else true
 else bif ((Ch.k c) == (5 : Int)) then
 bif ((areNums (List.length (Ch.us c)) (nRow (Ch.us c))) && (Nat.ble (List.length (Ch.us c)) (4294967280 : Nat))) then
 bif (!((posE (numsOf (List.length (Ch.us c)) (nRow (Ch.us c)))) == (0 : Int))) then
 true
 else bif (bne (Ch.f c) (0 : Int)) then
 true
 else bif (!(((Ch.d c) == (0 : Int)) && (((Ch.s c) == (0 : Int)) && (((Ch.z c) == (0 : Int)) && true)))) then
 true
 else bif (!((ByteArray.toList (Ch.r c)) == (ByteArray.toList (.mk (List.toArray []))))) then
 true
 else true
 else false
 else bif ((Ch.k c) == (6 : Int)) then
 bif (!((((List.length (Ch.us c)) : Nat) : Int) == (0 : Int))) then
 true
 else bif (bne (Ch.f c) (0 : Int)) then
 true
 else bif (!(((Ch.d c) == (0 : Int)) && (((Ch.s c) == (0 : Int)) && (((Ch.z c) == (0 : Int)) && true)))) then
 true
 else bif (!((ByteArray.toList (Ch.r c)) == (ByteArray.toList (.mk (List.toArray []))))) then
 true
 else true
 else true : Bool) := by
  kernel_rfl
theorem rri_raw_v (m : Int) (t : TypeId) (fr : Nat × Nat) (c : Ch) : ((fnPure Tryd.prog (E17 (GG m t fr)) 60 Tryd.f19 (GG m t fr) [chP c])).val =
 (bif ((Ch.k c) == (1 : Int)) then
 bif (fineB (Ch.f c) (Ch.d c) (Ch.s c) (Ch.z c) (Ch.r c)) then
 bif (!((((List.length (Ch.us c)) : Nat) : Int) == (0 : Int))) then
 (.some (.lit (.int .i64 (2 : Int))))
 else (.some (.lit (.int .i64 (0 : Int))))
 else (.some (.lit (.int .i64 (2 : Int))))
 else bif ((Ch.k c) == (2 : Int)) then
 bif ((posE (numsOf (List.length (Ch.us c)) (nRow (Ch.us c)))) == (0 : Int)) then
 bif (!(decide ((Ch.f c) ≤ (31 : Int)))) then
 (.some (.lit (.int .i64 (2 : Int))))
 else bif (!(((Ch.d c) == (0 : Int)) && (((Ch.s c) == (0 : Int)) && (((Ch.z c) == (0 : Int)) && true)))) then
 (.some (.lit (.int .i64 (2 : Int))))
 else bif (!((ByteArray.toList (Ch.r c)) == (ByteArray.toList (.mk (List.toArray []))))) then
 (.some (.lit (.int .i64 (2 : Int))))
 else (.some (.lit (.int .i64 (0 : Int))))
 else (.some (.lit (.int .i64 (2 : Int))))
 else bif ((Ch.k c) == (3 : Int)) then
 bif ((posE (numsOf (List.length (Ch.us c)) (nRow (Ch.us c)))) == (0 : Int)) then
 bif (!(decide ((Ch.f c) ≤ (31 : Int)))) then
 (.some (.lit (.int .i64 (2 : Int))))
 else bif (!(((Ch.d c) == (0 : Int)) && (((Ch.s c) == (0 : Int)) && (((Ch.z c) == (0 : Int)) && true)))) then
 (.some (.lit (.int .i64 (2 : Int))))
 else bif (!((ByteArray.toList (Ch.r c)) == (ByteArray.toList (.mk (List.toArray []))))) then
 (.some (.lit (.int .i64 (2 : Int))))
 else (.some (.lit (.int .i64 (0 : Int))))
 else (.some (.lit (.int .i64 (2 : Int))))
 else bif ((Ch.k c) == (4 : Int)) then
 bif ((posE (numsOf (List.length (Ch.us c)) (nRow (Ch.us c)))) == (0 : Int)) then
 bif (!(decide ((Ch.f c) ≤ (31 : Int)))) then
 (.some (.lit (.int .i64 (2 : Int))))
 else bif (!(((Ch.d c) == (0 : Int)) && (((Ch.s c) == (0 : Int)) && (((Ch.z c) == (0 : Int)) && true)))) then
 (.some (.lit (.int .i64 (2 : Int))))
 else bif (!((ByteArray.toList (Ch.r c)) == (ByteArray.toList (.mk (List.toArray []))))) then
 (.some (.lit (.int .i64 (2 : Int))))
 else (.some (.lit (.int .i64 (0 : Int))))
 else (.some (.lit (.int .i64 (2 : Int))))
 else bif ((Ch.k c) == (5 : Int)) then
 bif (!((posE (numsOf (List.length (Ch.us c)) (nRow (Ch.us c)))) == (0 : Int))) then
 (.some (.lit (.int .i64 (2 : Int))))
 else bif (bne (Ch.f c) (0 : Int)) then
 (.some (.lit (.int .i64 (2 : Int))))
 else bif (!(((Ch.d c) == (0 : Int)) && (((Ch.s c) == (0 : Int)) && (((Ch.z c) == (0 : Int)) && true)))) then
 (.some (.lit (.int .i64 (2 : Int))))
 else bif (!((ByteArray.toList (Ch.r c)) == (ByteArray.toList (.mk (List.toArray []))))) then
 (.some (.lit (.int .i64 (2 : Int))))
 else (.some (.lit (.int .i64 (0 : Int))))
 else bif ((Ch.k c) == (6 : Int)) then
 bif (!((((List.length (Ch.us c)) : Nat) : Int) == (0 : Int))) then
 (.some (.lit (.int .i64 (2 : Int))))
 else bif (bne (Ch.f c) (0 : Int)) then
 (.some (.lit (.int .i64 (2 : Int))))
 else bif (!(((Ch.d c) == (0 : Int)) && (((Ch.s c) == (0 : Int)) && (((Ch.z c) == (0 : Int)) && true)))) then
 (.some (.lit (.int .i64 (2 : Int))))
 else bif (!((ByteArray.toList (Ch.r c)) == (ByteArray.toList (.mk (List.toArray []))))) then
 (.some (.lit (.int .i64 (2 : Int))))
 else (.some (.lit (.int .i64 (0 : Int))))
 else (.some (.lit (.int .i64 (2 : Int)))) : Option PV) := by
  kernel_rfl
theorem rri_raw_c (m : Int) (t : TypeId) (fr : Nat × Nat) (c : Ch) : ((fnPure Tryd.prog (E17 (GG m t fr)) 60 Tryd.f19 (GG m t fr) [chP c])).conds =
 (bif ((Ch.k c) == (1 : Int)) then
 bif (u8B (Ch.f c)) then
 bif (fineB (Ch.f c) (Ch.d c) (Ch.s c) (Ch.z c) (Ch.r c)) then
 bif (!((((List.length (Ch.us c)) : Nat) : Int) == (0 : Int))) then
 true
 else true
 else true
 else false
 else bif ((Ch.k c) == (2 : Int)) then
 bif ((areNums (List.length (Ch.us c)) (nRow (Ch.us c))) && (Nat.ble (List.length (Ch.us c)) (4294967280 : Nat))) then
 bif ((posE (numsOf (List.length (Ch.us c)) (nRow (Ch.us c)))) == (0 : Int)) then
 bif (!(decide ((Ch.f c) ≤ (31 : Int)))) then
 true
 else bif (!(((Ch.d c) == (0 : Int)) && (((Ch.s c) == (0 : Int)) && (((Ch.z c) == (0 : Int)) && true)))) then
 true
 else bif (!((ByteArray.toList (Ch.r c)) == (ByteArray.toList (.mk (List.toArray []))))) then
 true
 else true
 else true
 else false
 else bif ((Ch.k c) == (3 : Int)) then
 bif ((areNums (List.length (Ch.us c)) (nRow (Ch.us c))) && (Nat.ble (List.length (Ch.us c)) (4294967280 : Nat))) then
 bif ((posE (numsOf (List.length (Ch.us c)) (nRow (Ch.us c)))) == (0 : Int)) then
 bif (!(decide ((Ch.f c) ≤ (31 : Int)))) then
 true
 else bif (!(((Ch.d c) == (0 : Int)) && (((Ch.s c) == (0 : Int)) && (((Ch.z c) == (0 : Int)) && true)))) then
 true
 else bif (!((ByteArray.toList (Ch.r c)) == (ByteArray.toList (.mk (List.toArray []))))) then
 true
 else true
 else true
 else false
 else bif ((Ch.k c) == (4 : Int)) then
 bif ((areNums (List.length (Ch.us c)) (nRow (Ch.us c))) && (Nat.ble (List.length (Ch.us c)) (4294967280 : Nat))) then
 bif ((posE (numsOf (List.length (Ch.us c)) (nRow (Ch.us c)))) == (0 : Int)) then
 bif (!(decide ((Ch.f c) ≤ (31 : Int)))) then
 true
 else bif (!(((Ch.d c) == (0 : Int)) && (((Ch.s c) == (0 : Int)) && (((Ch.z c) == (0 : Int)) && true)))) then
 true
 else bif (!((ByteArray.toList (Ch.r c)) == (ByteArray.toList (.mk (List.toArray []))))) then
 true
 else true
 else true
 else false
 else bif ((Ch.k c) == (5 : Int)) then
 bif ((areNums (List.length (Ch.us c)) (nRow (Ch.us c))) && (Nat.ble (List.length (Ch.us c)) (4294967280 : Nat))) then
 bif (!((posE (numsOf (List.length (Ch.us c)) (nRow (Ch.us c)))) == (0 : Int))) then
 true
 else bif (bne (Ch.f c) (0 : Int)) then
 true
 else bif (!(((Ch.d c) == (0 : Int)) && (((Ch.s c) == (0 : Int)) && (((Ch.z c) == (0 : Int)) && true)))) then
 true
 else bif (!((ByteArray.toList (Ch.r c)) == (ByteArray.toList (.mk (List.toArray []))))) then
 true
 else true
 else false
 else bif ((Ch.k c) == (6 : Int)) then
 bif (!((((List.length (Ch.us c)) : Nat) : Int) == (0 : Int))) then
 true
 else bif (bne (Ch.f c) (0 : Int)) then
 true
 else bif (!(((Ch.d c) == (0 : Int)) && (((Ch.s c) == (0 : Int)) && (((Ch.z c) == (0 : Int)) && true)))) then
 true
 else bif (!((ByteArray.toList (Ch.r c)) == (ByteArray.toList (.mk (List.toArray []))))) then
 true
 else true
 else true : Bool) := by
  kernel_rfl
end
end Go.Proofs.YtlngnfkjpfokhaaDoor.Ev

/- Changes: whether one is right. No condition. -/
namespace Go.Proofs.YtlngnfkjpfokhaaDoor.Ev
open Go Go.RowKit Go.Proofs Go.Proofs.YtlngnfkjpfokhaaDoor.Str
set_option linter.unusedVariables false
set_option linter.unusedSimpArgs false
def inZ (c : Ch) : Bool := (c.d == 0) && ((c.s == 0) && ((c.z == 0) && true))
def rZ (c : Ch) : Bool := ByteArray.toList c.r == ByteArray.toList (.mk (List.toArray []))
def usZ (c : Ch) : Bool := ((c.us.length : Nat) : Int) == 0
def okCh (c : Ch) : Bool :=
  bif c.k == 1 then fineB c.f c.d c.s c.z c.r && usZ c
  else bif c.k == 2 then decide (c.f ≤ 31) && (posE c.us == 0 && (inZ c && rZ c))
  else bif c.k == 3 then decide (c.f ≤ 31) && (posE c.us == 0 && (inZ c && rZ c))
  else bif c.k == 4 then decide (c.f ≤ 31) && (posE c.us == 0 && (inZ c && rZ c))
  else bif c.k == 5 then posE c.us == 0 && (!(bne c.f 0) && (inZ c && rZ c))
  else bif c.k == 6 then usZ c && (!(bne c.f 0) && (inZ c && rZ c))
  else false
def rightE (c : Ch) : Int := bif okCh c then 0 else 2
/-- a change, as it may be told -/
def chOf : PV → Option (Ch × Nat × (Nat → List PV))
  | .agg [.lit (.int .u8 k), q, .lit (.int .u8 f), .lit (.int .i64 d), .lit (.int .i64 s), .lit (.int .i64 z), .lit (.string r)] => match rowP 1 q with
    | some (n, g) => some (⟨k, numsOf n g, f, d, s, z, r⟩, n, g)
    | none => none
  | _ => none
def chR (c : Ch) : Bool := u8B c.k && c.us.all u32N && u8B c.f && Nat.ble c.us.length 4294967280
def chGd (c : Ch) (n : Nat) (g : Nat → List PV) : Bool := u8B c.k && areNums n g && u8B c.f && Nat.ble n 4294967280
theorem chOf_le {p : PV} {c : Ch} {n : Nat} {g : Nat → List PV} (h : chOf p = some (c, n, g)) (hg : chGd c n g = true) : PLe p (chP c) ∧ chR c = true := by
  unfold chGd at hg
  simp only [Bool.and_eq_true] at hg
  obtain ⟨⟨⟨g1, g2⟩, g3⟩, g4⟩ := hg
  unfold chOf at h
  split at h
  · split at h
    · rename_i hq
      cases h
      have hlen := nums_len n g
      refine ⟨PLe.agg (.cons (.refl _) (.cons ((rowP_le hq).trans (PLe.gsl hlen.symm (nums_row g2))) (.refl _))), ?_⟩
      unfold chR
      dsimp only at g1 g3 ⊢
      simp only [g1, g3, nums_u32 g2, hlen, g4, Bool.and_self]
    · cases h
  · cases h
theorem chOf_chP (c : Ch) : chOf (chP c) = some (c, c.us.length, nRow c.us) := by
  show some ((⟨c.k, numsOf c.us.length (nRow c.us), c.f, c.d, c.s, c.z, c.r⟩ : Ch), c.us.length, nRow c.us) = _
  rw [nums_nRow]
theorem chGd_of {c : Ch} (h : chR c = true) : chGd c c.us.length (nRow c.us) = true := by
  unfold chR at h
  simp only [Bool.and_eq_true] at h
  obtain ⟨⟨⟨g1, g2⟩, g3⟩, g4⟩ := h
  unfold chGd
  simp only [g1, are_nRow g2, g3, g4, Bool.and_self]
theorem chR_at {c : Ch} (h : chR c = true) : u8B c.k = true ∧ c.us.all u32N = true ∧ u8B c.f = true ∧ c.us.length ≤ 4294967280 := by
  unfold chR at h
  simp only [Bool.and_eq_true, Nat.ble_eq] at h
  exact ⟨h.1.1.1, h.1.1.2, h.1.2, h.2⟩
section
variable {m : Int} {t : TypeId} {fr : Nat × Nat}
def crightG : List PV → Tr PV
  | [p] => match chOf p with
    | some (c, n, g) => .br (chGd c n g) (.leaf (int (rightE c))) .fail
    | none => .fail
  | _ => .fail
theorem cright_ok : PureOK Tryd.prog (GG m t fr) 18 crightG := by
  intro ps p hp
  unfold crightG at hp
  split at hp
  · split at hp
    · rename_i c n g hq
      have hb := br_run hp
      clear hp
      obtain ⟨hc, hp⟩ := hb
      simp only [Tr.run, Option.some.injEq] at hp
      subst hp
      obtain ⟨hle, hR⟩ := chOf_le hq hc
      obtain ⟨r1, r2, r3, r4⟩ := chR_at hR
      have hv := rig_raw_v m t fr c
      have hcc := rig_raw_c m t fr c
      have r3' := r3
      unfold u8B at r3'
      simp only [Bool.and_eq_true, decide_eq_true_eq] at r3'
      rw [flag31 r3'.1 r3'.2, nums_nRow] at hv hcc
      rw [are_nRow r2, Nat.ble_eq_true_of_le r4, r3] at hcc
      simp only [Bool.and_self, Bool.cond_self, cond_true] at hcc
      refine ((fn_pure mixed E17_ok (envOf_cuts ..) (fn := Tryd.f18) (by kernel_rfl)) _ _ (Tr.run_vc hv hcc rfl ?_)).pre (.cons hle .nil)
      have e1 : (((c.us.length : Nat) : Int) == 0) = usZ c := rfl
      have e2 : ((c.d == 0) && ((c.s == 0) && ((c.z == 0) && true))) = inZ c := rfl
      have e3 : (ByteArray.toList c.r == ByteArray.toList (.mk (List.toArray []))) = rZ c := rfl
      rw [e1, e2, e3]
      unfold rightE okCh
      generalize usZ c = a1
      generalize inZ c = a2
      generalize rZ c = a3
      generalize (posE c.us == 0) = a4
      generalize (bne c.f 0) = a5
      generalize decide (c.f ≤ 31) = a6
      generalize fineB c.f c.d c.s c.z c.r = a7
      cases c.k == 1
      · cases c.k == 2
        · cases c.k == 3
          · cases c.k == 4
            · cases c.k == 5
              · cases c.k == 6
                · rfl
                · cases a1 <;> cases a5 <;> cases a2 <;> cases a3 <;> rfl
              · cases a4 <;> cases a5 <;> cases a2 <;> cases a3 <;> rfl
            · cases a6 <;> cases a4 <;> cases a2 <;> cases a3 <;> rfl
          · cases a6 <;> cases a4 <;> cases a2 <;> cases a3 <;> rfl
        · cases a6 <;> cases a4 <;> cases a2 <;> cases a3 <;> rfl
      · cases a7 <;> cases a1 <;> rfl
    · cases hp
  · cases hp
theorem rright_ok : PureOK Tryd.prog (GG m t fr) 19 crightG := by
  intro ps p hp
  unfold crightG at hp
  split at hp
  · split at hp
    · rename_i c n g hq
      have hb := br_run hp
      clear hp
      obtain ⟨hc, hp⟩ := hb
      simp only [Tr.run, Option.some.injEq] at hp
      subst hp
      obtain ⟨hle, hR⟩ := chOf_le hq hc
      obtain ⟨r1, r2, r3, r4⟩ := chR_at hR
      have hv := rri_raw_v m t fr c
      have hcc := rri_raw_c m t fr c
      rw [nums_nRow] at hv hcc
      rw [are_nRow r2, Nat.ble_eq_true_of_le r4, r3] at hcc
      simp only [Bool.and_self, Bool.cond_self, cond_true] at hcc
      refine ((fn_pure mixed E17_ok (envOf_cuts ..) (fn := Tryd.f19) (by kernel_rfl)) _ _ (Tr.run_vc hv hcc rfl ?_)).pre (.cons hle .nil)
      have e1 : (((c.us.length : Nat) : Int) == 0) = usZ c := rfl
      have e2 : ((c.d == 0) && ((c.s == 0) && ((c.z == 0) && true))) = inZ c := rfl
      have e3 : (ByteArray.toList c.r == ByteArray.toList (.mk (List.toArray []))) = rZ c := rfl
      rw [e1, e2, e3]
      unfold rightE okCh
      generalize usZ c = a1
      generalize inZ c = a2
      generalize rZ c = a3
      generalize (posE c.us == 0) = a4
      generalize (bne c.f 0) = a5
      generalize decide (c.f ≤ 31) = a6
      generalize fineB c.f c.d c.s c.z c.r = a7
      cases c.k == 1
      · cases c.k == 2
        · cases c.k == 3
          · cases c.k == 4
            · cases c.k == 5
              · cases c.k == 6
                · rfl
                · cases a1 <;> cases a5 <;> cases a2 <;> cases a3 <;> rfl
              · cases a4 <;> cases a5 <;> cases a2 <;> cases a3 <;> rfl
            · cases a6 <;> cases a4 <;> cases a2 <;> cases a3 <;> rfl
          · cases a6 <;> cases a4 <;> cases a2 <;> cases a3 <;> rfl
        · cases a6 <;> cases a4 <;> cases a2 <;> cases a3 <;> rfl
      · cases a7 <;> cases a1 <;> rfl
    · cases hp
  · cases hp
def bsPure : List (Nat × (List PV → Tr PV)) := (18, crightG) :: (19, crightG) :: brPure
theorem bsPure_ok {m : Int} {t : TypeId} {fr : Nat × Nat} : TabOK Tryd.prog (GG m t fr) bsPure := (TabOK.cons cright_ok (fn := Tryd.f18) (by kernel_rfl) (by kernel_rfl) (TabOK.cons rright_ok (fn := Tryd.f19) (by kernel_rfl) (by kernel_rfl) brPure_ok))
noncomputable abbrev E18 (G : GT) : Env := envOf Tryd.prog G bsPure biFull
theorem E18_ok : (E18 (GG m t fr)).ok Tryd.prog (GG m t fr) := envOf_ok mixed bsPure_ok biFull_ok
/-! ### mark, a round each -/
def shC (b : Bx) (q : PV) : Blk := .cells 65 [.lit (.int .u32 b.v), .lit (.int .u64 b.nx), .lit (.int .u32 b.ma), .lit (.int .u32 b.la), q]
def chC (c : Ch) : Blk := .cells 33 [.lit (.int .u8 c.k), .gsl 1 c.us.length (nRow c.us), .lit (.int .u8 c.f), int c.d, int c.s, int c.z, str c.r]
def m1Outs : Exit → Outs
  | .normal => { ks := [0, 3, 16, 17, 18], rs := [.slot 0, .slot 3, .cell 0 4], pin := true }
  | .exit _ => { ks := [0, 3], rs := [.slot 0, .slot 3, .cell 0 4], pin := true }
  | _ => { ks := [4, 5], rs := [.slot 0, .slot 3, .cell 0 4], pin := true }
noncomputable abbrev m1Round (G : GT) := roundT Tryd.prog (E18 G) 60 G 67 m1Outs .normal (theLoop 0 Tryd.f32)
theorem m1_round_v (m : Int) (t : TypeId) (fr : Nat × Nat) (b : Bx) (c : Ch) (l : List Ml) (n u i : Int) : ((m1Round (GG m t fr) ([.ptr 0 0, .ptr 1 0, .gsl 1 c.us.length (nRow c.us), int u, int i], [shC b (.own 2), chC c, .row 47 6 l.length (mRow l)]))).val =
 (bif (decide (i < u)) then
 bif (!(inI (usM (mlsOf (List.length l) (mRow l))) (nu (Ch.us c) (Int.toNat i)))) then
 (.some (.ret, ([(.lit (.slice .none 0 0)), (.lit (.int .i64 (3 : Int)))], [(.cells 65 [(.lit (.int .u32 (Bx.v b))), (.lit (.int .u64 (Bx.nx b))), (.lit (.int .u32 (Bx.ma b))), (.lit (.int .u32 (Bx.la b))), (.own 2)]), (.cells 33 [(.lit (.int .u8 (Ch.k c))), (.gsl 1 (List.length (Ch.us c)) (fun i => [PV.lit (Value.int IntKind.u32 (nu c.us i))])), (.lit (.int .u8 (Ch.f c))), (.lit (.int .i64 (Ch.d c))), (.lit (.int .i64 (Ch.s c))), (.lit (.int .i64 (Ch.z c))), (.lit (.string (Ch.r c)))]), (.row 47 6 (List.length l) (mRow l))])))
 else (.some (.normal, ([(.ptr 0 0), (.ptr 1 0), (.gsl 1 (List.length (Ch.us c)) (fun i => [PV.lit (Value.int IntKind.u32 (nu c.us i))])), (.lit (.int .i64 u)), (.lit (.int .i64 (IntKind.wrap .i64 (i + (1 : Int)))))], [(.cells 65 [(.lit (.int .u32 (Bx.v b))), (.lit (.int .u64 (Bx.nx b))), (.lit (.int .u32 (Bx.ma b))), (.lit (.int .u32 (Bx.la b))), (.own 2)]), (.cells 33 [(.lit (.int .u8 (Ch.k c))), (.gsl 1 (List.length (Ch.us c)) (fun i => [PV.lit (Value.int IntKind.u32 (nu c.us i))])), (.lit (.int .u8 (Ch.f c))), (.lit (.int .i64 (Ch.d c))), (.lit (.int .i64 (Ch.s c))), (.lit (.int .i64 (Ch.z c))), (.lit (.string (Ch.r c)))]), (.row 47 6 (List.length l) (mRow l))])))
 else (.some ((.exit 0), ([(.ptr 0 0), (.ptr 1 0)], [(.cells 65 [(.lit (.int .u32 (Bx.v b))), (.lit (.int .u64 (Bx.nx b))), (.lit (.int .u32 (Bx.ma b))), (.lit (.int .u32 (Bx.la b))), (.own 2)]), (.cells 33 [(.lit (.int .u8 (Ch.k c))), (.gsl 1 (List.length (Ch.us c)) (fun i => [PV.lit (Value.int IntKind.u32 (nu c.us i))])), (.lit (.int .u8 (Ch.f c))), (.lit (.int .i64 (Ch.d c))), (.lit (.int .i64 (Ch.s c))), (.lit (.int .i64 (Ch.z c))), (.lit (.string (Ch.r c)))]), (.row 47 6 (List.length l) (mRow l))]))) : Option (Exit × Kept)) := by
  kernel_rfl
theorem m1_round_c (m : Int) (t : TypeId) (fr : Nat × Nat) (b : Bx) (c : Ch) (l : List Ml) (n u i : Int) : ((m1Round (GG m t fr) ([.ptr 0 0, .ptr 1 0, .gsl 1 c.us.length (nRow c.us), int u, int i], [shC b (.own 2), chC c, .row 47 6 l.length (mRow l)]))).conds =
 (bif (decide (i < u)) then
 bif ((decide ((0 : Int) ≤ i)) && (Nat.blt (Int.toNat i) (List.length (Ch.us c)))) then
 bif (((areMls (List.length l) (mRow l)) && (risI (usM (mlsOf (List.length l) (mRow l))))) && (Nat.ble (List.length l) (4294967280 : Nat))) then
 bif (!(inI (usM (mlsOf (List.length l) (mRow l))) (nu (Ch.us c) (Int.toNat i)))) then
 true
 else true
 else false
 else false
 else true : Bool) := by
  kernel_rfl
def m2Outs : Exit → Outs
  | .normal => { ks := [0, 3, 32, 33, 34], rs := [.slot 0, .slot 3, .cell 0 4], pin := true }
  | .exit _ => { ks := [0, 3], rs := [.slot 0, .slot 3, .cell 0 4], pin := true }
  | _ => { ks := [], rs := [.slot 0], pin := true }
noncomputable abbrev m2Round (G : GT) := roundT Tryd.prog (E18 G) 60 G 67 m2Outs .normal (theLoop 2 Tryd.f32)
theorem m2_round_v (m : Int) (t : TypeId) (fr : Nat × Nat) (b : Bx) (c : Ch) (l : List Ml) (n u i : Int) : ((m2Round (GG m t fr) ([.ptr 0 0, .ptr 1 0, .gsl 1 c.us.length (nRow c.us), int u, int i], [shC b (.own 2), chC c, .row 47 6 l.length (mRow l)]))).val =
 (bif (decide (i < u)) then
 bif ((Ch.k c) == (3 : Int)) then
 (.some (.normal, ([(.ptr 0 0), (.ptr 1 0), (.gsl 1 (List.length (Ch.us c)) (fun i => [PV.lit (Value.int IntKind.u32 (nu c.us i))])), (.lit (.int .i64 u)), (.lit (.int .i64 (IntKind.wrap .i64 (i + (1 : Int)))))], [(.cells 65 [(.lit (.int .u32 (Bx.v b))), (.lit (.int .u64 (Bx.nx b))), (.lit (.int .u32 (Bx.ma b))), (.lit (.int .u32 (Bx.la b))), (.own 2)]), (.cells 33 [(.lit (.int .u8 (Ch.k c))), (.gsl 1 (List.length (Ch.us c)) (fun i => [PV.lit (Value.int IntKind.u32 (nu c.us i))])), (.lit (.int .u8 (Ch.f c))), (.lit (.int .i64 (Ch.d c))), (.lit (.int .i64 (Ch.s c))), (.lit (.int .i64 (Ch.z c))), (.lit (.string (Ch.r c)))]), (.row 47 6 (List.length l) (rowSet (mRow l) (Int.toNat (((lbI (usM (mlsOf (List.length l) (mRow l))) (nu (Ch.us c) (Int.toNat i))) : Nat) : Int)) 1 [(.lit (.int .u8 (IntKind.wrap .u8 (((BitVec.toNat (HOr.hOr (BitVec.ofInt 8 (Ml.f (ml l (Int.toNat (((lbI (usM (mlsOf (List.length l) (mRow l))) (nu (Ch.us c) (Int.toNat i))) : Nat) : Int))))) (BitVec.ofInt 8 (Ch.f c)))) : Nat) : Int))))]))])))
 else bif ((Ch.k c) == (4 : Int)) then
 (.some (.normal, ([(.ptr 0 0), (.ptr 1 0), (.gsl 1 (List.length (Ch.us c)) (fun i => [PV.lit (Value.int IntKind.u32 (nu c.us i))])), (.lit (.int .i64 u)), (.lit (.int .i64 (IntKind.wrap .i64 (i + (1 : Int)))))], [(.cells 65 [(.lit (.int .u32 (Bx.v b))), (.lit (.int .u64 (Bx.nx b))), (.lit (.int .u32 (Bx.ma b))), (.lit (.int .u32 (Bx.la b))), (.own 2)]), (.cells 33 [(.lit (.int .u8 (Ch.k c))), (.gsl 1 (List.length (Ch.us c)) (fun i => [PV.lit (Value.int IntKind.u32 (nu c.us i))])), (.lit (.int .u8 (Ch.f c))), (.lit (.int .i64 (Ch.d c))), (.lit (.int .i64 (Ch.s c))), (.lit (.int .i64 (Ch.z c))), (.lit (.string (Ch.r c)))]), (.row 47 6 (List.length l) (rowSet (mRow l) (Int.toNat (((lbI (usM (mlsOf (List.length l) (mRow l))) (nu (Ch.us c) (Int.toNat i))) : Nat) : Int)) 1 [(.lit (.int .u8 (IntKind.wrap .u8 (((BitVec.toNat (HAnd.hAnd (BitVec.ofInt 8 (Ml.f (ml l (Int.toNat (((lbI (usM (mlsOf (List.length l) (mRow l))) (nu (Ch.us c) (Int.toNat i))) : Nat) : Int))))) (Complement.complement (BitVec.ofInt 8 (Ch.f c))))) : Nat) : Int))))]))])))
 else (.some (.normal, ([(.ptr 0 0), (.ptr 1 0), (.gsl 1 (List.length (Ch.us c)) (fun i => [PV.lit (Value.int IntKind.u32 (nu c.us i))])), (.lit (.int .i64 u)), (.lit (.int .i64 (IntKind.wrap .i64 (i + (1 : Int)))))], [(.cells 65 [(.lit (.int .u32 (Bx.v b))), (.lit (.int .u64 (Bx.nx b))), (.lit (.int .u32 (Bx.ma b))), (.lit (.int .u32 (Bx.la b))), (.own 2)]), (.cells 33 [(.lit (.int .u8 (Ch.k c))), (.gsl 1 (List.length (Ch.us c)) (fun i => [PV.lit (Value.int IntKind.u32 (nu c.us i))])), (.lit (.int .u8 (Ch.f c))), (.lit (.int .i64 (Ch.d c))), (.lit (.int .i64 (Ch.s c))), (.lit (.int .i64 (Ch.z c))), (.lit (.string (Ch.r c)))]), (.row 47 6 (List.length l) (rowSet (mRow l) (Int.toNat (((lbI (usM (mlsOf (List.length l) (mRow l))) (nu (Ch.us c) (Int.toNat i))) : Nat) : Int)) 1 [(.lit (.int .u8 (Ch.f c)))]))])))
 else (.some ((.exit 2), ([(.ptr 0 0), (.ptr 1 0)], [(.cells 65 [(.lit (.int .u32 (Bx.v b))), (.lit (.int .u64 (Bx.nx b))), (.lit (.int .u32 (Bx.ma b))), (.lit (.int .u32 (Bx.la b))), (.own 2)]), (.cells 33 [(.lit (.int .u8 (Ch.k c))), (.gsl 1 (List.length (Ch.us c)) (fun i => [PV.lit (Value.int IntKind.u32 (nu c.us i))])), (.lit (.int .u8 (Ch.f c))), (.lit (.int .i64 (Ch.d c))), (.lit (.int .i64 (Ch.s c))), (.lit (.int .i64 (Ch.z c))), (.lit (.string (Ch.r c)))]), (.row 47 6 (List.length l) (mRow l))]))) : Option (Exit × Kept)) := by
  kernel_rfl
theorem m2_round_c (m : Int) (t : TypeId) (fr : Nat × Nat) (b : Bx) (c : Ch) (l : List Ml) (n u i : Int) : ((m2Round (GG m t fr) ([.ptr 0 0, .ptr 1 0, .gsl 1 c.us.length (nRow c.us), int u, int i], [shC b (.own 2), chC c, .row 47 6 l.length (mRow l)]))).conds =
 (bif (decide (i < u)) then
 bif ((decide ((0 : Int) ≤ i)) && (Nat.blt (Int.toNat i) (List.length (Ch.us c)))) then
 bif (((areMls (List.length l) (mRow l)) && (risI (usM (mlsOf (List.length l) (mRow l))))) && (Nat.ble (List.length l) (4294967280 : Nat))) then
 bif ((decide ((0 : Int) ≤ (((lbI (usM (mlsOf (List.length l) (mRow l))) (nu (Ch.us c) (Int.toNat i))) : Nat) : Int))) && (Nat.blt (Int.toNat (((lbI (usM (mlsOf (List.length l) (mRow l))) (nu (Ch.us c) (Int.toNat i))) : Nat) : Int)) (List.length l))) then
 bif (Nat.blt (Int.toNat (((lbI (usM (mlsOf (List.length l) (mRow l))) (nu (Ch.us c) (Int.toNat i))) : Nat) : Int)) (List.length l)) then
 bif ((Ch.k c) == (3 : Int)) then
 bif (Nat.blt (Int.toNat (((lbI (usM (mlsOf (List.length l) (mRow l))) (nu (Ch.us c) (Int.toNat i))) : Nat) : Int)) (List.length l)) then
 true
 else false
 else bif ((Ch.k c) == (4 : Int)) then
 bif (Nat.blt (Int.toNat (((lbI (usM (mlsOf (List.length l) (mRow l))) (nu (Ch.us c) (Int.toNat i))) : Nat) : Int)) (List.length l)) then
 true
 else false
 else bif (Nat.blt (Int.toNat (((lbI (usM (mlsOf (List.length l) (mRow l))) (nu (Ch.us c) (Int.toNat i))) : Nat) : Int)) (List.length l)) then
 true
 else false
 else false
 else false
 else false
 else false
 else true : Bool) := by
  kernel_rfl
end
end Go.Proofs.YtlngnfkjpfokhaaDoor.Ev

/- Mails marked. No condition. -/
namespace Go.Proofs.YtlngnfkjpfokhaaDoor.Ev
open Go Go.RowKit Go.Proofs Go.Proofs.YtlngnfkjpfokhaaDoor.Str
set_option linter.unusedVariables false
set_option linter.unusedSimpArgs false
/-- what flags become -/
def turnF (k had f : Int) : Int := bif k == 3 then IntKind.wrap .u8 (((BitVec.toNat (HOr.hOr (BitVec.ofInt 8 had) (BitVec.ofInt 8 f))) : Nat) : Int)
  else bif k == 4 then IntKind.wrap .u8 (((BitVec.toNat (HAnd.hAnd (BitVec.ofInt 8 had) (Complement.complement (BitVec.ofInt 8 f)))) : Nat) : Int) else f
def mk1 (k f : Int) (x : Ml) : Ml := { x with f := turnF k x.f f }
def markL (k f : Int) (us : List Int) (l : List Ml) : List Ml := l.map fun x => bif inI us x.u then mk1 k f x else x
theorem mark_len (k f : Int) (us : List Int) (l : List Ml) : (markL k f us l).length = l.length := by simp [markL]
theorem mark_us (k f : Int) (us : List Int) (l : List Ml) : usM (markL k f us l) = usM l := by
  unfold usM markL
  rw [List.map_map]
  refine List.map_congr_left fun x _ => ?_
  show (bif inI us x.u then mk1 k f x else x).u = x.u
  cases inI us x.u <;> rfl
theorem mark_at {k f : Int} {us : List Int} {l : List Ml} {j : Nat} (h : j < l.length) : ml (markL k f us l) j = bif inI us (ml l j).u then mk1 k f (ml l j) else ml l j := by
  simp [ml, markL, h]
theorem mark_nil (k f : Int) (l : List Ml) : markL k f [] l = l := by
  unfold markL
  have : (fun x : Ml => bif inI [] x.u then mk1 k f x else x) = id := by
    funext x
    simp [inI]
  rw [this, List.map_id]
theorem wrap_u8_rng (n : Nat) : 0 ≤ IntKind.wrap .u8 (n : Int) ∧ IntKind.wrap .u8 (n : Int) < 256 := by
  simp [IntKind.wrap, IntKind.bits, IntKind.signed]
  omega
theorem turn_u8 {k had f : Int} (h : u8B f = true) : u8B (turnF k had f) = true := by
  unfold turnF
  cases k == 3 with
  | true =>
    have := wrap_u8_rng (BitVec.toNat (HOr.hOr (BitVec.ofInt 8 had) (BitVec.ofInt 8 f)))
    unfold u8B
    simp only [cond_true, Bool.and_eq_true, decide_eq_true_eq]
    exact this
  | false =>
    cases k == 4 with
    | true =>
      have := wrap_u8_rng (BitVec.toNat (HAnd.hAnd (BitVec.ofInt 8 had) (Complement.complement (BitVec.ofInt 8 f))))
      unfold u8B
      simp only [cond_true, cond_false, Bool.and_eq_true, decide_eq_true_eq]
      exact this
    | false => exact h
theorem mark_R {k f : Int} {us : List Int} {l : List Ml} (hf : u8B f = true) (h : l.all mlR = true) : (markL k f us l).all mlR = true := by
  rw [List.all_eq_true] at h ⊢
  intro x hx
  simp only [markL, List.mem_map] at hx
  obtain ⟨y, hy, rfl⟩ := hx
  have := h y hy
  cases inI us y.u with
  | false => exact this
  | true =>
    unfold mlR at this ⊢
    simp only [Bool.and_eq_true] at this
    show (decide (0 ≤ y.u) && decide (y.u < 4294967296) && u8B (turnF k y.f f)) = true
    rw [this.1.1, this.1.2, turn_u8 hf]
    rfl
theorem u_inj {l : List Ml} (hl : (usM l).Pairwise (· < ·)) {i j : Nat} (hi : i < l.length) (hj : j < l.length) (h : (ml l i).u = (ml l j).u) : i = j := by
  rw [← us_at hi, ← us_at hj] at h
  have hi' : i < (usM l).length := by rw [us_len]; exact hi
  have hj' : j < (usM l).length := by rw [us_len]; exact hj
  rw [nu_get hi', nu_get hj'] at h
  rcases Nat.lt_trichotomy i j with h1 | h1 | h1
  · have := List.pairwise_iff_getElem.1 hl i j hi' hj' h1
    omega
  · exact h1
  · have := List.pairwise_iff_getElem.1 hl j i hj' hi' h1
    omega
/-- the mail with a number that is there -/
theorem lb_mail {l : List Ml} (hl : (usM l).Pairwise (· < ·)) {u : Int} (h : inI (usM l) u = true) : lbI (usM l) u < l.length ∧ (ml l (lbI (usM l) u)).u = u := by
  rw [lb_in hl] at h
  simp only [Bool.and_eq_true, decide_eq_true_eq] at h
  rw [us_len] at h
  refine ⟨h.1, ?_⟩
  rw [← us_at h.1]
  exact h.2
theorem rowSet_flag (l : List Ml) (j : Nat) (v : Int) (p : Nat) : rowSet (mRow l) j 1 [.lit (.int .u8 v)] p = bif Nat.beq p j then mC { ml l j with f := v } else mRow l p := by
  show rowSetO (mRow l) j 1 [.lit (.int .u8 v)] p = _
  unfold rowSetO
  cases h : Nat.beq p j <;> rfl
theorem inI_cons (l : List Int) (i : Nat) (h : i < l.length) (x : Int) : inI (l.take (i + 1)) x = (inI (l.take i) x || decide (x = nu l i)) := by
  unfold inI
  rw [List.take_add_one, List.getElem?_eq_getElem h, nu_get h]
  simp only [Option.toList, List.mem_append, List.mem_singleton]
  rw [Bool.decide_or]
/-- one number more -/
theorem mark_step {k f : Int} {us : List Int} {l : List Ml} (hl : (usM l).Pairwise (· < ·)) (hus : us.Pairwise (· < ·)) {i : Nat} (hi : i < us.length) (hin : inI (usM l) (nu us i) = true) :
    ∀ p, p < l.length → rowSet (mRow (markL k f (us.take i) l)) (lbI (usM l) (nu us i)) 1 [.lit (.int .u8 (turnF k (ml (markL k f (us.take i) l) (lbI (usM l) (nu us i))).f f))] p = mRow (markL k f (us.take (i + 1)) l) p := by
  intro p hp
  obtain ⟨h1, h2⟩ := lb_mail hl hin
  rw [rowSet_flag]
  have hno : inI (us.take i) (nu us i) = false := by
    unfold inI
    refine decide_eq_false fun hm => ?_
    obtain ⟨q, hq, e⟩ := List.mem_iff_getElem.1 hm
    have hq' : q < i := by simp at hq; omega
    rw [List.getElem_take, nu_get hi] at e
    have := List.pairwise_iff_getElem.1 hus q i (by omega) hi hq'
    omega
  have hx : ml (markL k f (us.take i) l) (lbI (usM l) (nu us i)) = ml l (lbI (usM l) (nu us i)) := by
    rw [mark_at h1, h2, hno]
    rfl
  rw [hx]
  unfold mRow
  rw [mark_at hp, mark_at hp, inI_cons us i hi]
  cases hb : Nat.beq p (lbI (usM l) (nu us i)) with
  | true =>
    have := Nat.eq_of_beq_eq_true hb
    subst this
    rw [h2, hno, decide_eq_true rfl]
    rfl
  | false =>
    have hne : ¬ (ml l p).u = nu us i := by
      intro e
      have := u_inj hl hp h1 (by rw [e, h2])
      rw [this] at hb
      simp at hb
    rw [decide_eq_false hne, Bool.or_false]
    rfl
section
variable {m : Int} {t : TypeId} {fr : Nat × Nat}
def mkBlks (b : Bx) (c : Ch) (l : List Ml) : List Blk := [shC b (.own 2), chC c, .row 47 6 l.length (mRow l)]
def m1Bad (b : Bx) (c : Ch) (l : List Ml) (i : Nat) : Option (Exit × Kept) := bif inI (usM l) (nu c.us i) then none else some (.ret, ([.lit (.slice none 0 0), int 3], mkBlks b c l))
theorem m1_LR (b : Bx) (c : Ch) (l : List Ml) (hR : l.all mlR = true) (hl : (usM l).Pairwise (· < ·)) (hn : l.length ≤ 4294967280) (hc : c.us.length ≤ 4294967280) (k i : Nat) (hk : i + k = c.us.length) :
    LR Tryd.prog (E18 (GG m t fr)) 60 (GG m t fr) 67 m1Outs .normal (theLoop 0 Tryd.f32) ([.ptr 0 0, .ptr 1 0, .gsl 1 c.us.length (nRow c.us), int c.us.length, int i], mkBlks b c l)
    (scanR (m1Bad b c l) (.exit 0, ([.ptr 0 0, .ptr 1 0], mkBlks b c l)) k i).1 (scanR (m1Bad b c l) (.exit 0, ([.ptr 0 0, .ptr 1 0], mkBlks b c l)) k i).2 := by
  have hris : risI (usM l) = true := decide_eq_true hl
  refine LR.scan2 (s := 0) (K := c.us.length) (st := fun j : Nat => ([.ptr 0 0, .ptr 1 0, .gsl 1 c.us.length (nRow c.us), int c.us.length, int j], mkBlks b c l)) (fun j h1 hlt => ?_) (fun j r hb => ?_) ?_ (by simp) (by simp) k i (by omega) hk
  · have hv := m1_round_v m t fr b c l 0 c.us.length j
    have hcc := m1_round_c m t fr b c l 0 c.us.length j
    rw [lt_cast, decide_eq_true hlt, Int.toNat_natCast, mls_mRow, wrap_succ (by omega)] at hv
    rw [lt_cast, decide_eq_true hlt, Int.toNat_natCast, in_rng hlt, mls_mRow, are_mRow hR, hris, Nat.ble_eq_true_of_le hn] at hcc
    simp only [Bool.and_self, Bool.cond_self, cond_true] at hcc
    unfold m1Bad
    cases hd : inI (usM l) (nu c.us j) <;> (rw [hd] at hv; exact Tr.run_vc hv hcc rfl rfl)
  · unfold m1Bad at hb
    cases hd : inI (usM l) (nu c.us j) <;> (rw [hd] at hb; cases hb)
    exact ⟨by simp, by simp⟩
  · have hv := m1_round_v m t fr b c l 0 c.us.length c.us.length
    have hcc := m1_round_c m t fr b c l 0 c.us.length c.us.length
    rw [lt_cast, decide_eq_false (by omega)] at hv hcc
    exact Tr.run_vc hv hcc rfl rfl
def allIn (us v : List Int) : Bool := us.all fun u => inI v u
theorem m1_scan {b : Bx} {c : Ch} {l : List Ml} {z : Exit × Kept} : scanR (m1Bad b c l) z c.us.length 0 = bif allIn c.us (usM l) then z else (.ret, ([.lit (.slice none 0 0), int 3], mkBlks b c l)) := by
  cases h : allIn c.us (usM l) with
  | true =>
    unfold allIn at h
    rw [List.all_eq_true] at h
    refine scanR_all fun j h1 h2 => ?_
    have hj : j < c.us.length := by omega
    unfold m1Bad
    rw [nu_get hj, h _ (List.getElem_mem hj)]
    rfl
  | false =>
    unfold allIn at h
    rw [List.all_eq_false] at h
    obtain ⟨x, hx, h2⟩ := h
    obtain ⟨j, hj, rfl⟩ := List.mem_iff_getElem.1 hx
    refine scanR_some (fun j => ?_) ⟨j, by omega, by omega, ?_⟩
    · unfold m1Bad
      cases inI (usM l) (nu c.us j)
      · exact .inr rfl
      · exact .inl rfl
    · unfold m1Bad
      rw [nu_get hj]
      simp only [Bool.not_eq_true] at h2
      rw [h2]
      rfl
theorem m2_LR (b : Bx) (c : Ch) (l : List Ml) (hR : l.all mlR = true) (hl : (usM l).Pairwise (· < ·)) (hus : c.us.Pairwise (· < ·)) (hf : u8B c.f = true) (hin : allIn c.us (usM l) = true) (hn : l.length ≤ 4294967280) (hc : c.us.length ≤ 4294967280) : ∀ (k i : Nat), i + k = c.us.length →
    LR Tryd.prog (E18 (GG m t fr)) 60 (GG m t fr) 67 m2Outs .normal (theLoop 2 Tryd.f32) ([.ptr 0 0, .ptr 1 0, .gsl 1 c.us.length (nRow c.us), int c.us.length, int i], mkBlks b c (markL c.k c.f (c.us.take i) l))
    (.exit 2) ([.ptr 0 0, .ptr 1 0], mkBlks b c (markL c.k c.f c.us l))
  | 0, i, hk => by
    have : i = c.us.length := by omega
    subst this
    have hv := m2_round_v m t fr b c (markL c.k c.f (c.us.take c.us.length) l) 0 c.us.length c.us.length
    have hcc := m2_round_c m t fr b c (markL c.k c.f (c.us.take c.us.length) l) 0 c.us.length c.us.length
    rw [lt_cast, decide_eq_false (by omega)] at hv hcc
    rw [List.take_length] at hv hcc ⊢
    exact .last (Tr.run_vc hv hcc rfl rfl) (by simp) (by simp)
  | k + 1, i, hk => by
    have hi : i < c.us.length := by omega
    have hL := mark_len c.k c.f (c.us.take i) l
    have hinu : inI (usM l) (nu c.us i) = true := by
      unfold allIn at hin
      rw [List.all_eq_true] at hin
      rw [nu_get hi]
      exact hin _ (List.getElem_mem hi)
    obtain ⟨q1, q2⟩ := lb_mail hl hinu
    have hv := m2_round_v m t fr b c (markL c.k c.f (c.us.take i) l) 0 c.us.length i
    have hcc := m2_round_c m t fr b c (markL c.k c.f (c.us.take i) l) 0 c.us.length i
    have hris : risI (usM l) = true := decide_eq_true hl
    have hblt : Nat.blt (lbI (usM l) (nu c.us i)) (markL c.k c.f (c.us.take i) l).length = true := by rw [Nat.blt_eq, hL]; exact q1
    have hble : Nat.ble (markL c.k c.f (c.us.take i) l).length 4294967280 = true := Nat.ble_eq_true_of_le (by rw [hL]; exact hn)
    have hz : decide ((0 : Int) ≤ ((lbI (usM l) (nu c.us i) : Nat) : Int)) = true := decide_eq_true (by omega)
    rw [lt_cast, decide_eq_true hi, Int.toNat_natCast, mls_mRow, mark_us, Int.toNat_natCast, wrap_succ (by omega)] at hv
    rw [lt_cast, decide_eq_true hi, Int.toNat_natCast, in_rng hi, mls_mRow, are_mRow (mark_R hf hR), mark_us, hris, hble, Int.toNat_natCast, hz, hblt] at hcc
    simp only [Bool.and_self, Bool.cond_self, cond_true] at hcc
    have ih := m2_LR b c l hR hl hus hf hin hn hc k (i + 1) (by omega)
    have fin : ∀ v : Int, v = turnF c.k (ml (markL c.k c.f (c.us.take i) l) (lbI (usM l) (nu c.us i))).f c.f →
        KLe ([.ptr 0 0, .ptr 1 0, .gsl 1 c.us.length (nRow c.us), int c.us.length, int ((i + 1 : Nat) : Int)], [shC b (.own 2), chC c, .row 47 6 (markL c.k c.f (c.us.take i) l).length (rowSet (mRow (markL c.k c.f (c.us.take i) l)) (lbI (usM l) (nu c.us i)) 1 [.lit (.int .u8 v)])])
          ([.ptr 0 0, .ptr 1 0, .gsl 1 c.us.length (nRow c.us), int c.us.length, int ((i + 1 : Nat) : Int)], mkBlks b c (markL c.k c.f (c.us.take (i + 1)) l)) := by
      intro v hv
      subst hv
      refine ⟨.refl _, BLeL.cons (.refl _) (BLeL.cons (.refl _) (BLeL.cons (.row _ _ (by rw [mark_len, mark_len]) fun p hp => ?_) .nil))⟩
      rw [mark_len] at hp
      exact mark_step hl hus hi hinu p hp
    cases k3 : c.k == 3 with
    | true =>
      rw [k3] at hv
      refine .more (Tr.run_vc hv hcc rfl rfl) (.le (fin _ ?_) ih)
      unfold turnF
      rw [k3]
      rfl
    | false =>
      cases k4 : c.k == 4 with
      | true =>
        rw [k3, k4] at hv
        refine .more (Tr.run_vc hv hcc rfl rfl) (.le (fin _ ?_) ih)
        unfold turnF
        rw [k3, k4]
        rfl
      | false =>
        rw [k3, k4] at hv
        refine .more (Tr.run_vc hv hcc rfl rfl) (.le (fin _ ?_) ih)
        unfold turnF
        rw [k3, k4]
        rfl
end
end Go.Proofs.YtlngnfkjpfokhaaDoor.Ev

/- Mails marked: the contract. No condition. -/
namespace Go.Proofs.YtlngnfkjpfokhaaDoor.Ev
open Go Go.RowKit Go.Proofs Go.Proofs.YtlngnfkjpfokhaaDoor.Str
set_option linter.unusedVariables false
set_option linter.unusedSimpArgs false
section
variable {m : Int} {t : TypeId} {fr : Nat × Nat}
def mkGd (tS tC tM : TypeId) (n : Nat) (g : Nat → List PV) (a : Nat) (h : Nat → List PV) (a' : Nat) (h' : Nat → List PV) (u : Int) : Bool :=
  Nat.beq tS 65 && (Nat.beq tC 33 && (Nat.beq tM 47 && (areMls n g && (risI (usM (mlsOf n g)) && (Nat.ble n 4294967280 && (areNums a h && (areNums a' h' && (decide (numsOf a' h' = numsOf a h) && (decide (u = a) && Nat.ble a 4294967280)))))))))
def m1F : Kept → Tr (Exit × Kept)
  | ([.ptr 0 0, .ptr 1 0, p, .lit (.int .i64 u), .lit (.int .i64 0)], [.cells tS [.lit (.int .u32 v), .lit (.int .u64 nx), .lit (.int .u32 ma), .lit (.int .u32 la), .own 2], .cells tC [.lit (.int .u8 k), q, .lit (.int .u8 f), .lit (.int .i64 d), .lit (.int .i64 s), .lit (.int .i64 z), .lit (.string r)], .row tM 6 n g]) => match rowP 1 p, rowP 1 q with
    | some (a, h), some (a', h') => .br (mkGd tS tC tM n g a h a' h' u)
      (.br (allIn (numsOf a h) (usM (mlsOf n g))) (.leaf (.exit 0, ([.ptr 0 0, .ptr 1 0], mkBlks ⟨v, nx, ma, la, []⟩ ⟨k, numsOf a h, f, d, s, z, r⟩ (mlsOf n g)))) (.leaf (.ret, ([.lit (.slice none 0 0), int 3], mkBlks ⟨v, nx, ma, la, []⟩ ⟨k, numsOf a h, f, d, s, z, r⟩ (mlsOf n g))))) .fail
    | _, _ => .fail
  | _ => .fail
def m2F : Kept → Tr (Exit × Kept)
  | ([.ptr 0 0, .ptr 1 0, p, .lit (.int .i64 u), .lit (.int .i64 0)], [.cells tS [.lit (.int .u32 v), .lit (.int .u64 nx), .lit (.int .u32 ma), .lit (.int .u32 la), .own 2], .cells tC [.lit (.int .u8 k), q, .lit (.int .u8 f), .lit (.int .i64 d), .lit (.int .i64 s), .lit (.int .i64 z), .lit (.string r)], .row tM 6 n g]) => match rowP 1 p, rowP 1 q with
    | some (a, h), some (a', h') => .br (mkGd tS tC tM n g a h a' h' u && (risI (numsOf a h) && (u8B f && allIn (numsOf a h) (usM (mlsOf n g)))))
      (.leaf (.exit 2, ([.ptr 0 0, .ptr 1 0], mkBlks ⟨v, nx, ma, la, []⟩ ⟨k, numsOf a h, f, d, s, z, r⟩ (markL k f (numsOf a h) (mlsOf n g))))) .fail
    | _, _ => .fail
  | _ => .fail
theorem mk_in {tS tC tM : TypeId} {n : Nat} {g : Nat → List PV} {a : Nat} {h : Nat → List PV} {a' : Nat} {h' : Nat → List PV} {u : Int} (hg : mkGd tS tC tM n g a h a' h' u = true) {p q : PV} (hp : rowP 1 p = some (a, h)) (hq : rowP 1 q = some (a', h')) {v nx ma la k f d s z : Int} {r : ByteArray} :
    KLe ([.ptr 0 0, .ptr 1 0, p, .lit (.int .i64 u), .lit (.int .i64 0)], [.cells tS [.lit (.int .u32 v), .lit (.int .u64 nx), .lit (.int .u32 ma), .lit (.int .u32 la), .own 2], .cells tC [.lit (.int .u8 k), q, .lit (.int .u8 f), .lit (.int .i64 d), .lit (.int .i64 s), .lit (.int .i64 z), .lit (.string r)], .row tM 6 n g])
      ([.ptr 0 0, .ptr 1 0, .gsl 1 (numsOf a h).length (nRow (numsOf a h)), int (numsOf a h).length, int (0 : Nat)], mkBlks ⟨v, nx, ma, la, []⟩ ⟨k, numsOf a h, f, d, s, z, r⟩ (mlsOf n g)) ∧
    (mlsOf n g).all mlR = true ∧ (usM (mlsOf n g)).Pairwise (· < ·) ∧ (mlsOf n g).length ≤ 4294967280 ∧ (numsOf a h).length ≤ 4294967280 := by
  unfold mkGd at hg
  simp only [Bool.and_eq_true, Nat.ble_eq, decide_eq_true_eq] at hg
  obtain ⟨g1, g2, g3, g4, g5, g6, g7, g8, g9, rfl, g11⟩ := hg
  have g1 := Nat.eq_of_beq_eq_true g1
  have g2 := Nat.eq_of_beq_eq_true g2
  have g3 := Nat.eq_of_beq_eq_true g3
  subst g1 g2 g3
  have l1 := nums_len a h
  have l2 := nums_len a' h'
  have l3 := mls_len n g
  have hpl := (rowP_le hp).trans (PLe.gsl l1.symm (nums_row g7))
  have hql : PLe q (.gsl 1 (numsOf a h).length (nRow (numsOf a h))) := by
    rw [← g9]
    exact (rowP_le hq).trans (PLe.gsl l2.symm (nums_row g8))
  refine ⟨⟨.cons (.refl _) (.cons (.refl _) (.cons hpl (.cons (PLe.of_eq (by rw [l1])) (.refl _)))), BLeL.cons (.refl _) (BLeL.cons (.cells _ (.cons (.refl _) (.cons hql (.refl _)))) (BLeL.cons (.row _ _ l3.symm (mls_row g4)) .nil))⟩, mls_R g4, ris_at g5, by omega, by omega⟩
theorem m1F_ok (x : Kept) (e : Exit) (y : Kept) (h : (m1F x).run = some (e, y)) : LR Tryd.prog (E18 (GG m t fr)) 60 (GG m t fr) 67 m1Outs .normal (theLoop 0 Tryd.f32) x e y := by
  unfold m1F at h
  split at h
  · rename_i p u tS v nx ma la tC k q f d s z r tM n g
    split at h
    · rename_i a h0 a' h' hp hq
      have hb := br_run h
      clear h
      obtain ⟨hc, h⟩ := hb
      obtain ⟨hin, i1, i2, i3, i4⟩ := mk_in (v := v) (nx := nx) (ma := ma) (la := la) (k := k) (f := f) (d := d) (s := s) (z := z) (r := r) hc hp hq
      have key := m1_LR (m := m) (t := t) (fr := fr) ⟨v, nx, ma, la, []⟩ ⟨k, numsOf a h0, f, d, s, z, r⟩ (mlsOf n g) i1 i2 i3 i4 _ 0 (Nat.zero_add _)
      rw [m1_scan] at key
      cases hr : allIn (numsOf a h0) (usM (mlsOf n g)) with
      | true =>
        rw [hr] at key h
        simp only [Tr.run, cond_true, Option.some.injEq, Prod.mk.injEq] at h
        obtain ⟨rfl, rfl⟩ := h
        exact .le hin key
      | false =>
        rw [hr] at key h
        simp only [Tr.run, cond_false, Option.some.injEq, Prod.mk.injEq] at h
        obtain ⟨rfl, rfl⟩ := h
        exact .le hin key
    · cases h
  · cases h
theorem m2F_ok (x : Kept) (e : Exit) (y : Kept) (h : (m2F x).run = some (e, y)) : LR Tryd.prog (E18 (GG m t fr)) 60 (GG m t fr) 67 m2Outs .normal (theLoop 2 Tryd.f32) x e y := by
  unfold m2F at h
  split at h
  · rename_i p u tS v nx ma la tC k q f d s z r tM n g
    split at h
    · rename_i a h0 a' h' hp hq
      have hb := br_run h
      clear h
      obtain ⟨hc, h⟩ := hb
      simp only [Bool.and_eq_true] at hc
      obtain ⟨hc, c1, c2, c3⟩ := hc
      obtain ⟨hin, i1, i2, i3, i4⟩ := mk_in (v := v) (nx := nx) (ma := ma) (la := la) (k := k) (f := f) (d := d) (s := s) (z := z) (r := r) hc hp hq
      have key := m2_LR (m := m) (t := t) (fr := fr) ⟨v, nx, ma, la, []⟩ ⟨k, numsOf a h0, f, d, s, z, r⟩ (mlsOf n g) i1 i2 (ris_at c1) c2 c3 i3 i4 _ 0 (Nat.zero_add _)
      rw [List.take_zero, mark_nil] at key
      simp only [Tr.run, Option.some.injEq, Prod.mk.injEq] at h
      obtain ⟨rfl, rfl⟩ := h
      exact .le hin key
    · cases h
  · cases h
noncomputable abbrev mkCuts (G : GT) := cutAlso 2 (cutOf G 67 m2Outs 2 m2F) (cut1 0 (cutOf G 67 m1Outs 0 m1F))
theorem mk_raw_v (m : Int) (t : TypeId) (fr : Nat × Nat) (b : Bx) (c : Ch) (l : List Ml) : ((fnPin Tryd.prog ((E18 (GG m t fr)).withCuts (mkCuts (GG m t fr))) 60 Tryd.f32 (GG m t fr) [.ptr 0 0, chP c] [shC b (.own 1), .row 47 6 l.length (mRow l)])).val =
 (bif (allIn (numsOf (List.length (Ch.us c)) (nRow (Ch.us c))) (usM (mlsOf (List.length l) (mRow l)))) then
 (.some ((.tup [(.own 1), (.lit (.int .i64 (0 : Int)))]), [(.cells 65 [(.lit (.int .u32 (Bx.v b))), (.lit (.int .u64 (Bx.nx b))), (.lit (.int .u32 (Bx.ma b))), (.lit (.int .u32 (Bx.la b))), (.own 2)]), (.row (Prod.fst (22, (1, ((List.length (Ch.us (.mk (Ch.k (.mk (Ch.k c) (numsOf (List.length (Ch.us c)) (nRow (Ch.us c))) (Ch.f c) (Ch.d c) (Ch.s c) (Ch.z c) (Ch.r c))) (numsOf (List.length (Ch.us (.mk (Ch.k c) (numsOf (List.length (Ch.us c)) (nRow (Ch.us c))) (Ch.f c) (Ch.d c) (Ch.s c) (Ch.z c) (Ch.r c)))) (nRow (Ch.us (.mk (Ch.k c) (numsOf (List.length (Ch.us c)) (nRow (Ch.us c))) (Ch.f c) (Ch.d c) (Ch.s c) (Ch.z c) (Ch.r c))))) (Ch.f c) (Ch.d c) (Ch.s c) (Ch.z c) (Ch.r c)))), (nRow (numsOf (List.length (Ch.us (.mk (Ch.k (.mk (Ch.k c) (numsOf (List.length (Ch.us c)) (nRow (Ch.us c))) (Ch.f c) (Ch.d c) (Ch.s c) (Ch.z c) (Ch.r c))) (numsOf (List.length (Ch.us (.mk (Ch.k c) (numsOf (List.length (Ch.us c)) (nRow (Ch.us c))) (Ch.f c) (Ch.d c) (Ch.s c) (Ch.z c) (Ch.r c)))) (nRow (Ch.us (.mk (Ch.k c) (numsOf (List.length (Ch.us c)) (nRow (Ch.us c))) (Ch.f c) (Ch.d c) (Ch.s c) (Ch.z c) (Ch.r c))))) (Ch.f c) (Ch.d c) (Ch.s c) (Ch.z c) (Ch.r c)))) (nRow (Ch.us (.mk (Ch.k (.mk (Ch.k c) (numsOf (List.length (Ch.us c)) (nRow (Ch.us c))) (Ch.f c) (Ch.d c) (Ch.s c) (Ch.z c) (Ch.r c))) (numsOf (List.length (Ch.us (.mk (Ch.k c) (numsOf (List.length (Ch.us c)) (nRow (Ch.us c))) (Ch.f c) (Ch.d c) (Ch.s c) (Ch.z c) (Ch.r c)))) (nRow (Ch.us (.mk (Ch.k c) (numsOf (List.length (Ch.us c)) (nRow (Ch.us c))) (Ch.f c) (Ch.d c) (Ch.s c) (Ch.z c) (Ch.r c))))) (Ch.f c) (Ch.d c) (Ch.s c) (Ch.z c) (Ch.r c)))))))))) (Prod.fst (Prod.snd (22, (1, ((List.length (Ch.us (.mk (Ch.k (.mk (Ch.k c) (numsOf (List.length (Ch.us c)) (nRow (Ch.us c))) (Ch.f c) (Ch.d c) (Ch.s c) (Ch.z c) (Ch.r c))) (numsOf (List.length (Ch.us (.mk (Ch.k c) (numsOf (List.length (Ch.us c)) (nRow (Ch.us c))) (Ch.f c) (Ch.d c) (Ch.s c) (Ch.z c) (Ch.r c)))) (nRow (Ch.us (.mk (Ch.k c) (numsOf (List.length (Ch.us c)) (nRow (Ch.us c))) (Ch.f c) (Ch.d c) (Ch.s c) (Ch.z c) (Ch.r c))))) (Ch.f c) (Ch.d c) (Ch.s c) (Ch.z c) (Ch.r c)))), (nRow (numsOf (List.length (Ch.us (.mk (Ch.k (.mk (Ch.k c) (numsOf (List.length (Ch.us c)) (nRow (Ch.us c))) (Ch.f c) (Ch.d c) (Ch.s c) (Ch.z c) (Ch.r c))) (numsOf (List.length (Ch.us (.mk (Ch.k c) (numsOf (List.length (Ch.us c)) (nRow (Ch.us c))) (Ch.f c) (Ch.d c) (Ch.s c) (Ch.z c) (Ch.r c)))) (nRow (Ch.us (.mk (Ch.k c) (numsOf (List.length (Ch.us c)) (nRow (Ch.us c))) (Ch.f c) (Ch.d c) (Ch.s c) (Ch.z c) (Ch.r c))))) (Ch.f c) (Ch.d c) (Ch.s c) (Ch.z c) (Ch.r c)))) (nRow (Ch.us (.mk (Ch.k (.mk (Ch.k c) (numsOf (List.length (Ch.us c)) (nRow (Ch.us c))) (Ch.f c) (Ch.d c) (Ch.s c) (Ch.z c) (Ch.r c))) (numsOf (List.length (Ch.us (.mk (Ch.k c) (numsOf (List.length (Ch.us c)) (nRow (Ch.us c))) (Ch.f c) (Ch.d c) (Ch.s c) (Ch.z c) (Ch.r c)))) (nRow (Ch.us (.mk (Ch.k c) (numsOf (List.length (Ch.us c)) (nRow (Ch.us c))) (Ch.f c) (Ch.d c) (Ch.s c) (Ch.z c) (Ch.r c))))) (Ch.f c) (Ch.d c) (Ch.s c) (Ch.z c) (Ch.r c))))))))))) (Prod.fst (Prod.snd (Prod.snd (22, (1, ((List.length (Ch.us (.mk (Ch.k (.mk (Ch.k c) (numsOf (List.length (Ch.us c)) (nRow (Ch.us c))) (Ch.f c) (Ch.d c) (Ch.s c) (Ch.z c) (Ch.r c))) (numsOf (List.length (Ch.us (.mk (Ch.k c) (numsOf (List.length (Ch.us c)) (nRow (Ch.us c))) (Ch.f c) (Ch.d c) (Ch.s c) (Ch.z c) (Ch.r c)))) (nRow (Ch.us (.mk (Ch.k c) (numsOf (List.length (Ch.us c)) (nRow (Ch.us c))) (Ch.f c) (Ch.d c) (Ch.s c) (Ch.z c) (Ch.r c))))) (Ch.f c) (Ch.d c) (Ch.s c) (Ch.z c) (Ch.r c)))), (nRow (numsOf (List.length (Ch.us (.mk (Ch.k (.mk (Ch.k c) (numsOf (List.length (Ch.us c)) (nRow (Ch.us c))) (Ch.f c) (Ch.d c) (Ch.s c) (Ch.z c) (Ch.r c))) (numsOf (List.length (Ch.us (.mk (Ch.k c) (numsOf (List.length (Ch.us c)) (nRow (Ch.us c))) (Ch.f c) (Ch.d c) (Ch.s c) (Ch.z c) (Ch.r c)))) (nRow (Ch.us (.mk (Ch.k c) (numsOf (List.length (Ch.us c)) (nRow (Ch.us c))) (Ch.f c) (Ch.d c) (Ch.s c) (Ch.z c) (Ch.r c))))) (Ch.f c) (Ch.d c) (Ch.s c) (Ch.z c) (Ch.r c)))) (nRow (Ch.us (.mk (Ch.k (.mk (Ch.k c) (numsOf (List.length (Ch.us c)) (nRow (Ch.us c))) (Ch.f c) (Ch.d c) (Ch.s c) (Ch.z c) (Ch.r c))) (numsOf (List.length (Ch.us (.mk (Ch.k c) (numsOf (List.length (Ch.us c)) (nRow (Ch.us c))) (Ch.f c) (Ch.d c) (Ch.s c) (Ch.z c) (Ch.r c)))) (nRow (Ch.us (.mk (Ch.k c) (numsOf (List.length (Ch.us c)) (nRow (Ch.us c))) (Ch.f c) (Ch.d c) (Ch.s c) (Ch.z c) (Ch.r c))))) (Ch.f c) (Ch.d c) (Ch.s c) (Ch.z c) (Ch.r c)))))))))))) (Prod.snd (Prod.snd (Prod.snd (22, (1, ((List.length (Ch.us (.mk (Ch.k (.mk (Ch.k c) (numsOf (List.length (Ch.us c)) (nRow (Ch.us c))) (Ch.f c) (Ch.d c) (Ch.s c) (Ch.z c) (Ch.r c))) (numsOf (List.length (Ch.us (.mk (Ch.k c) (numsOf (List.length (Ch.us c)) (nRow (Ch.us c))) (Ch.f c) (Ch.d c) (Ch.s c) (Ch.z c) (Ch.r c)))) (nRow (Ch.us (.mk (Ch.k c) (numsOf (List.length (Ch.us c)) (nRow (Ch.us c))) (Ch.f c) (Ch.d c) (Ch.s c) (Ch.z c) (Ch.r c))))) (Ch.f c) (Ch.d c) (Ch.s c) (Ch.z c) (Ch.r c)))), (nRow (numsOf (List.length (Ch.us (.mk (Ch.k (.mk (Ch.k c) (numsOf (List.length (Ch.us c)) (nRow (Ch.us c))) (Ch.f c) (Ch.d c) (Ch.s c) (Ch.z c) (Ch.r c))) (numsOf (List.length (Ch.us (.mk (Ch.k c) (numsOf (List.length (Ch.us c)) (nRow (Ch.us c))) (Ch.f c) (Ch.d c) (Ch.s c) (Ch.z c) (Ch.r c)))) (nRow (Ch.us (.mk (Ch.k c) (numsOf (List.length (Ch.us c)) (nRow (Ch.us c))) (Ch.f c) (Ch.d c) (Ch.s c) (Ch.z c) (Ch.r c))))) (Ch.f c) (Ch.d c) (Ch.s c) (Ch.z c) (Ch.r c)))) (nRow (Ch.us (.mk (Ch.k (.mk (Ch.k c) (numsOf (List.length (Ch.us c)) (nRow (Ch.us c))) (Ch.f c) (Ch.d c) (Ch.s c) (Ch.z c) (Ch.r c))) (numsOf (List.length (Ch.us (.mk (Ch.k c) (numsOf (List.length (Ch.us c)) (nRow (Ch.us c))) (Ch.f c) (Ch.d c) (Ch.s c) (Ch.z c) (Ch.r c)))) (nRow (Ch.us (.mk (Ch.k c) (numsOf (List.length (Ch.us c)) (nRow (Ch.us c))) (Ch.f c) (Ch.d c) (Ch.s c) (Ch.z c) (Ch.r c))))) (Ch.f c) (Ch.d c) (Ch.s c) (Ch.z c) (Ch.r c))))))))))))), (.row 47 6 (List.length (markL (Ch.k (.mk (Ch.k c) (numsOf (List.length (Ch.us c)) (nRow (Ch.us c))) (Ch.f c) (Ch.d c) (Ch.s c) (Ch.z c) (Ch.r c))) (Ch.f c) (numsOf (List.length (Ch.us (.mk (Ch.k c) (numsOf (List.length (Ch.us c)) (nRow (Ch.us c))) (Ch.f c) (Ch.d c) (Ch.s c) (Ch.z c) (Ch.r c)))) (nRow (Ch.us (.mk (Ch.k c) (numsOf (List.length (Ch.us c)) (nRow (Ch.us c))) (Ch.f c) (Ch.d c) (Ch.s c) (Ch.z c) (Ch.r c))))) (mlsOf (List.length (mlsOf (List.length l) (mRow l))) (mRow (mlsOf (List.length l) (mRow l)))))) (mRow (markL (Ch.k (.mk (Ch.k c) (numsOf (List.length (Ch.us c)) (nRow (Ch.us c))) (Ch.f c) (Ch.d c) (Ch.s c) (Ch.z c) (Ch.r c))) (Ch.f c) (numsOf (List.length (Ch.us (.mk (Ch.k c) (numsOf (List.length (Ch.us c)) (nRow (Ch.us c))) (Ch.f c) (Ch.d c) (Ch.s c) (Ch.z c) (Ch.r c)))) (nRow (Ch.us (.mk (Ch.k c) (numsOf (List.length (Ch.us c)) (nRow (Ch.us c))) (Ch.f c) (Ch.d c) (Ch.s c) (Ch.z c) (Ch.r c))))) (mlsOf (List.length (mlsOf (List.length l) (mRow l))) (mRow (mlsOf (List.length l) (mRow l)))))))]))
 else (.some ((.tup [(.lit (.slice .none 0 0)), (.lit (.int .i64 (3 : Int)))]), [(.cells 65 [(.lit (.int .u32 (Bx.v b))), (.lit (.int .u64 (Bx.nx b))), (.lit (.int .u32 (Bx.ma b))), (.lit (.int .u32 (Bx.la b))), (.own 1)]), (.row 47 6 (List.length (mlsOf (List.length l) (mRow l))) (mRow (mlsOf (List.length l) (mRow l))))])) : Option (PV × List Blk)) := by
  kernel_rfl
theorem mk_raw_c (m : Int) (t : TypeId) (fr : Nat × Nat) (b : Bx) (c : Ch) (l : List Ml) : ((fnPin Tryd.prog ((E18 (GG m t fr)).withCuts (mkCuts (GG m t fr))) 60 Tryd.f32 (GG m t fr) [.ptr 0 0, chP c] [shC b (.own 1), .row 47 6 l.length (mRow l)])).conds =
 (bif (mkGd 65 33 47 (List.length l) (mRow l) (List.length (Ch.us c)) (nRow (Ch.us c)) (List.length (Ch.us c)) (nRow (Ch.us c)) (((List.length (Ch.us c)) : Nat) : Int)) then
 bif (allIn (numsOf (List.length (Ch.us c)) (nRow (Ch.us c))) (usM (mlsOf (List.length l) (mRow l)))) then
 bif ((mkGd 65 33 47 (List.length (mlsOf (List.length l) (mRow l))) (mRow (mlsOf (List.length l) (mRow l))) (List.length (Ch.us (.mk (Ch.k c) (numsOf (List.length (Ch.us c)) (nRow (Ch.us c))) (Ch.f c) (Ch.d c) (Ch.s c) (Ch.z c) (Ch.r c)))) (nRow (Ch.us (.mk (Ch.k c) (numsOf (List.length (Ch.us c)) (nRow (Ch.us c))) (Ch.f c) (Ch.d c) (Ch.s c) (Ch.z c) (Ch.r c)))) (List.length (Ch.us (.mk (Ch.k c) (numsOf (List.length (Ch.us c)) (nRow (Ch.us c))) (Ch.f c) (Ch.d c) (Ch.s c) (Ch.z c) (Ch.r c)))) (nRow (Ch.us (.mk (Ch.k c) (numsOf (List.length (Ch.us c)) (nRow (Ch.us c))) (Ch.f c) (Ch.d c) (Ch.s c) (Ch.z c) (Ch.r c)))) (((List.length (Ch.us (.mk (Ch.k c) (numsOf (List.length (Ch.us c)) (nRow (Ch.us c))) (Ch.f c) (Ch.d c) (Ch.s c) (Ch.z c) (Ch.r c)))) : Nat) : Int)) && ((risI (numsOf (List.length (Ch.us (.mk (Ch.k c) (numsOf (List.length (Ch.us c)) (nRow (Ch.us c))) (Ch.f c) (Ch.d c) (Ch.s c) (Ch.z c) (Ch.r c)))) (nRow (Ch.us (.mk (Ch.k c) (numsOf (List.length (Ch.us c)) (nRow (Ch.us c))) (Ch.f c) (Ch.d c) (Ch.s c) (Ch.z c) (Ch.r c)))))) && ((u8B (Ch.f c)) && (allIn (numsOf (List.length (Ch.us (.mk (Ch.k c) (numsOf (List.length (Ch.us c)) (nRow (Ch.us c))) (Ch.f c) (Ch.d c) (Ch.s c) (Ch.z c) (Ch.r c)))) (nRow (Ch.us (.mk (Ch.k c) (numsOf (List.length (Ch.us c)) (nRow (Ch.us c))) (Ch.f c) (Ch.d c) (Ch.s c) (Ch.z c) (Ch.r c))))) (usM (mlsOf (List.length (mlsOf (List.length l) (mRow l))) (mRow (mlsOf (List.length l) (mRow l))))))))) then
 bif ((areNums (List.length (Ch.us (.mk (Ch.k (.mk (Ch.k c) (numsOf (List.length (Ch.us c)) (nRow (Ch.us c))) (Ch.f c) (Ch.d c) (Ch.s c) (Ch.z c) (Ch.r c))) (numsOf (List.length (Ch.us (.mk (Ch.k c) (numsOf (List.length (Ch.us c)) (nRow (Ch.us c))) (Ch.f c) (Ch.d c) (Ch.s c) (Ch.z c) (Ch.r c)))) (nRow (Ch.us (.mk (Ch.k c) (numsOf (List.length (Ch.us c)) (nRow (Ch.us c))) (Ch.f c) (Ch.d c) (Ch.s c) (Ch.z c) (Ch.r c))))) (Ch.f c) (Ch.d c) (Ch.s c) (Ch.z c) (Ch.r c)))) (nRow (Ch.us (.mk (Ch.k (.mk (Ch.k c) (numsOf (List.length (Ch.us c)) (nRow (Ch.us c))) (Ch.f c) (Ch.d c) (Ch.s c) (Ch.z c) (Ch.r c))) (numsOf (List.length (Ch.us (.mk (Ch.k c) (numsOf (List.length (Ch.us c)) (nRow (Ch.us c))) (Ch.f c) (Ch.d c) (Ch.s c) (Ch.z c) (Ch.r c)))) (nRow (Ch.us (.mk (Ch.k c) (numsOf (List.length (Ch.us c)) (nRow (Ch.us c))) (Ch.f c) (Ch.d c) (Ch.s c) (Ch.z c) (Ch.r c))))) (Ch.f c) (Ch.d c) (Ch.s c) (Ch.z c) (Ch.r c))))) && (Nat.ble (List.length (Ch.us (.mk (Ch.k (.mk (Ch.k c) (numsOf (List.length (Ch.us c)) (nRow (Ch.us c))) (Ch.f c) (Ch.d c) (Ch.s c) (Ch.z c) (Ch.r c))) (numsOf (List.length (Ch.us (.mk (Ch.k c) (numsOf (List.length (Ch.us c)) (nRow (Ch.us c))) (Ch.f c) (Ch.d c) (Ch.s c) (Ch.z c) (Ch.r c)))) (nRow (Ch.us (.mk (Ch.k c) (numsOf (List.length (Ch.us c)) (nRow (Ch.us c))) (Ch.f c) (Ch.d c) (Ch.s c) (Ch.z c) (Ch.r c))))) (Ch.f c) (Ch.d c) (Ch.s c) (Ch.z c) (Ch.r c)))) (4294967280 : Nat))) then
 true
 else false
 else false
 else true
 else false : Bool) := by
  kernel_rfl
theorem mkGd_of {l : List Ml} {us : List Int} (h1 : l.all mlR = true) (h2 : risI (usM l) = true) (h3 : l.length ≤ 4294967280) (h4 : us.all u32N = true) (h5 : us.length ≤ 4294967280) : mkGd 65 33 47 l.length (mRow l) us.length (nRow us) us.length (nRow us) us.length = true := by
  unfold mkGd
  rw [are_mRow h1, mls_mRow, h2, Nat.ble_eq_true_of_le h3, are_nRow h4, decide_eq_true rfl, decide_eq_true rfl, Nat.ble_eq_true_of_le h5]
  rfl
def markG : List PV → List Blk → Tr (PV × List Blk)
  | [.ptr 0 0, p], [.cells tS [.lit (.int .u32 v), .lit (.int .u64 nx), .lit (.int .u32 ma), .lit (.int .u32 la), .own 1], .row tM 6 n g] => match chOf p with
    | some (c, a, h) => .br (Nat.beq tS 65 && (Nat.beq tM 47 && (areMls n g && (risI (usM (mlsOf n g)) && (Nat.ble n 4294967280 && (chGd c a h && risI c.us))))))
      (.br (allIn c.us (usM (mlsOf n g))) (.leaf (.tup [.own 1, int 0], [shC ⟨v, nx, ma, la, []⟩ (.own 2), .row 22 1 c.us.length (nRow c.us), .row 47 6 n (mRow (markL c.k c.f c.us (mlsOf n g)))]))
        (.leaf (.tup [.lit (.slice none 0 0), int 3], [shC ⟨v, nx, ma, la, []⟩ (.own 1), .row 47 6 n (mRow (mlsOf n g))]))) .fail
    | none => .fail
  | _, _ => .fail
theorem mark_ok : PinB Tryd.prog (GG m t fr) 32 markG := by
  refine PinB.le (pinB_of_ev (n := 60) (E := (E18 (GG m t fr)).withCuts (mkCuts (GG m t fr))) (E18_ok.withCuts _) mixed (fn := Tryd.f32) (by kernel_rfl)
    (CutLaws.ok (E := (E18 (GG m t fr)).withCuts (mkCuts (GG m t fr))) (CutLaws.add (by omega) (by kernel_rfl) (fun st e st' h => cutOf_okM (x0 := .pin) (fun h => by cases h) E18_ok mixed (noCuts_ok (envOf_cuts ..) _) (fun _ e => by cases e <;> rfl) m2F_ok h)
      (CutLaws.one (by omega) (by kernel_rfl) fun st e st' h => cutOf_okM (x0 := .pin) (fun h => by cases h) E18_ok mixed (noCuts_ok (envOf_cuts ..) _) (fun _ e => by cases e <;> rfl) m1F_ok h)))) fun ps bs0 p bs' hp => ?_
  unfold markG at hp
  split at hp
  · rename_i p tS v nx ma la tM n g
    split at hp
    · rename_i c a h hq
      have hb := br_run hp
      clear hp
      obtain ⟨hc, hp⟩ := hb
      simp only [Bool.and_eq_true, Nat.ble_eq] at hc
      obtain ⟨g1, g2, g3, g4, g5, g6, g7⟩ := hc
      have g1 := Nat.eq_of_beq_eq_true g1
      have g2 := Nat.eq_of_beq_eq_true g2
      subst g1 g2
      obtain ⟨hle, hR⟩ := chOf_le hq g6
      obtain ⟨r1, r2, r3, r4⟩ := chR_at hR
      have l3 := mls_len n g
      have hv := mk_raw_v m t fr ⟨v, nx, ma, la, []⟩ c (mlsOf n g)
      have hcc := mk_raw_c m t fr ⟨v, nx, ma, la, []⟩ c (mlsOf n g)
      simp only [nums_nRow, mls_mRow] at hv hcc
      have hgd := mkGd_of (mls_R g3) g4 (by omega) r2 r4
      have hin : BLeL [.cells 65 [.lit (.int .u32 v), .lit (.int .u64 nx), .lit (.int .u32 ma), .lit (.int .u32 la), .own 1], .row 47 6 n g] [shC ⟨v, nx, ma, la, []⟩ (.own 1), .row 47 6 (mlsOf n g).length (mRow (mlsOf n g))] :=
        BLeL.cons (.refl _) (BLeL.cons (.row _ _ l3.symm (mls_row g3)) .nil)
      simp only [hgd, g7, r3, are_nRow r2, Nat.ble_eq_true_of_le r4, cond_true, Bool.true_and] at hcc
      cases hr : allIn c.us (usM (mlsOf n g)) with
      | true =>
        rw [hr] at hp hv hcc
        simp only [Tr.run, cond_true, Option.some.injEq, Prod.mk.injEq] at hp
        obtain ⟨rfl, rfl⟩ := hp
        exact ⟨_, _, _, _, .cons (.refl _) (.cons hle .nil), hin, Tr.run_vc hv hcc rfl rfl, .refl _, BLeL.cons (.refl _) (BLeL.cons (.refl _) (BLeL.cons (.row _ _ (by rw [mark_len, l3]) fun i hi => rfl) .nil))⟩
      | false =>
        rw [hr] at hp hv hcc
        simp only [Tr.run, cond_false, Option.some.injEq, Prod.mk.injEq] at hp
        obtain ⟨rfl, rfl⟩ := hp
        exact ⟨_, _, _, _, .cons (.refl _) (.cons hle .nil), hin, Tr.run_vc hv hcc rfl rfl, .refl _, BLeL.cons (.refl _) (BLeL.cons (.row _ _ l3 fun i hi => rfl) .nil)⟩
    · cases hp
  · cases hp
end
end Go.Proofs.YtlngnfkjpfokhaaDoor.Ev
