/- lex: a number's text, and what a line announces, as the program and the document say it. No condition. -/
import Derived.Test.YtnidaonmigjgkaaDoorLxA
namespace Go.Proofs.YtnidaonmigjgkaaDoor.Ev
open Go Go.RowKit Go.Proofs Go.Proofs.YtnidaonmigjgkaaDoor.Str
set_option linter.unusedVariables false
set_option linter.unusedSimpArgs false
section
variable {m : Int} {t : TypeId} {fr : Nat × Nat}
-- from: number_raw [bs, okS, puOk, puVal] (m : Int) (t : TypeId) (fr : Nat × Nat) (s : ByteArray) : (fnPure Tryd.prog (E1 (GG m t fr)) 60 Tryd.f20 (GG m t fr) [str s]).run2
theorem number_raw (m : Int) (t : TypeId) (fr : Nat × Nat) (s : ByteArray) : (fnPure Tryd.prog (E1 (GG m t fr)) 60 Tryd.f20 (GG m t fr) [str s]).run2 =
    (bif ((ByteArray.toList s) == (ByteArray.toList (.mk (List.toArray [])))) then
        (.some ((.tup ((.lit (.int .i64 (0 : Int))) :: ((.lit (.bool false)) :: []))), (true :: (true :: (true :: (true :: (true :: (true :: (true :: (true :: (true :: (true :: []))))))))))))
      else bif decide ((((ByteArray.size s) : Nat) : Int) > (9 : Int)) then
          (.some ((.tup ((.lit (.int .i64 (0 : Int))) :: ((.lit (.bool false)) :: []))), (true :: (true :: (true :: (true :: (true :: (true :: (true :: [])))))))))
        else bif decide ((((ByteArray.size s) : Nat) : Int) > (1 : Int)) then
            bif ((((UInt8.toNat (Array.getD (ByteArray.data s) 0 (0 : UInt8))) : Nat) : Int) == (48 : Int)) then
              (.some ((.tup ((.lit (.int .i64 (0 : Int))) :: ((.lit (.bool false)) :: []))), (true :: (true :: (true :: ((Nat.blt 0 (ByteArray.size s)) :: []))))))
            else bif (!((ByteArray.toList (bs (Lib.trimS (Array.toList (ByteArray.data s)) ((48 : UInt8) :: ((49 : UInt8) :: ((50 : UInt8) :: ((51 : UInt8) :: ((52 : UInt8) :: ((53 : UInt8) :: ((54 : UInt8) :: ((55 : UInt8) :: ((56 : UInt8) :: ((57 : UInt8) :: []))))))))))))) == (ByteArray.toList (.mk (List.toArray []))))) then
                (.some ((.tup ((.lit (.int .i64 (0 : Int))) :: ((.lit (.bool false)) :: []))), ((((okS s) && true) && true) :: ((Nat.blt 0 (ByteArray.size s)) :: []))))
              else bif (puOk s) then
                  (.some ((.tup ((.lit (.int .i64 (IntKind.wrap .i64 (((puVal s) : Nat) : Int)))) :: ((.lit (.bool true)) :: []))), ((okS s) :: ((((okS s) && true) && true) :: ((Nat.blt 0 (ByteArray.size s)) :: [])))))
                else (.some ((.tup ((.lit (.int .i64 (IntKind.wrap .i64 (((puVal s) : Nat) : Int)))) :: ((.lit (.bool false)) :: []))), ((okS s) :: ((((okS s) && true) && true) :: ((Nat.blt 0 (ByteArray.size s)) :: [])))))
          else bif (!((ByteArray.toList (bs (Lib.trimS (Array.toList (ByteArray.data s)) ((48 : UInt8) :: ((49 : UInt8) :: ((50 : UInt8) :: ((51 : UInt8) :: ((52 : UInt8) :: ((53 : UInt8) :: ((54 : UInt8) :: ((55 : UInt8) :: ((56 : UInt8) :: ((57 : UInt8) :: []))))))))))))) == (ByteArray.toList (.mk (List.toArray []))))) then
              (.some ((.tup ((.lit (.int .i64 (0 : Int))) :: ((.lit (.bool false)) :: []))), ((((okS s) && true) && true) :: [])))
            else bif (puOk s) then
                (.some ((.tup ((.lit (.int .i64 (IntKind.wrap .i64 (((puVal s) : Nat) : Int)))) :: ((.lit (.bool true)) :: []))), ((okS s) :: ((((okS s) && true) && true) :: []))))
              else (.some ((.tup ((.lit (.int .i64 (IntKind.wrap .i64 (((puVal s) : Nat) : Int)))) :: ((.lit (.bool false)) :: []))), ((okS s) :: ((((okS s) && true) && true) :: [])))) : Option (PV × List Bool)) := by
  kernel_rfl
theorem beqD {α : Type} [BEq α] [LawfulBEq α] [DecidableEq α] (a b : α) : (a == b) = decide (a = b) := by
  by_cases h : a = b
  · rw [decide_eq_true h, h]
    exact beq_self_eq_true b
  · rw [decide_eq_false h]
    exact beq_false_of_ne h
theorem eqB (s t : ByteArray) : (ByteArray.toList s == ByteArray.toList t) = decide (ls s = ls t) := by
  rw [ByteArray.toList_eq, ByteArray.toList_eq, beqD]
  rfl
def isDig (b : UInt8) : Bool := Nat.ble 48 b.toNat && Nat.ble b.toNat 57
def valD : Nat → List UInt8 → Nat
  | a, [] => a
  | a, c :: r => valD (a * 10 + (c.toNat - 48)) r
/-- is this a number's text, as the program takes it? -/
def numI (l : List UInt8) : Bool := !l.isEmpty && decide (l.length ≤ 9) && !(decide (1 < l.length) && decide (l.getD 0 0 = 48)) && l.all isDig
def numR (l : List UInt8) : Nat := bif numI l then valD 0 l else 0
theorem digs_has (b : UInt8) : ([48, 49, 50, 51, 52, 53, 54, 55, 56, 57] : List UInt8).contains b = isDig b := by
  have h : ((List.range 256).all fun n => ([48, 49, 50, 51, 52, 53, 54, 55, 56, 57] : List UInt8).contains (UInt8.ofNat n) == isDig (UInt8.ofNat n)) = true := by kernel_rfl
  have := List.all_eq_true.1 h b.toNat (List.mem_range.2 b.toNat_lt)
  simpa using this
theorem parseM_ok : ∀ (l : List UInt8) (a k : Nat), k + l.length ≤ 9 → a < 10 ^ k → l.all isDig = true → Lib.parseUintM (2 ^ 64 - 1) a l = .ok (valD a l) ∧ valD a l < 10 ^ (k + l.length)
  | [], a, k, _, ha, _ => ⟨rfl, ha⟩
  | c :: r, a, k, hk, ha, hd => by
    simp only [List.all_cons, Bool.and_eq_true] at hd
    have hc := hd.1
    unfold isDig at hc
    simp only [Bool.and_eq_true, Nat.ble_eq] at hc
    simp only [List.length_cons] at hk
    have hp : 10 ^ k ≤ 10 ^ 8 := Nat.pow_le_pow_right (by omega) (by omega)
    have hs : 10 ^ (k + 1) = 10 ^ k * 10 := Nat.pow_succ ..
    unfold Lib.parseUintM valD
    rw [if_pos hc, if_neg (by omega), if_neg (by omega)]
    have h := parseM_ok r (a * 10 + (c.toNat - 48)) (k + 1) (by omega) (by omega) hd.2
    have e : k + (c :: r).length = k + 1 + r.length := by simp; omega
    rw [e]
    exact h
theorem parseB_ok {l : List UInt8} (h0 : l ≠ []) (h9 : l.length ≤ 9) (hd : l.all isDig = true) : Lib.parseUintB 64 l = .ok (valD 0 l) ∧ valD 0 l < 1000000000 := by
  unfold Lib.parseUintB
  rw [if_neg h0]
  have h := parseM_ok l 0 0 (by omega) (by simp) hd
  refine ⟨h.1, Nat.lt_of_lt_of_le h.2 ?_⟩
  have : 10 ^ (0 + l.length) ≤ 10 ^ 9 := Nat.pow_le_pow_right (by omega) (by omega)
  simpa using this
theorem dropW_nil {p : UInt8 → Bool} : ∀ {l : List UInt8}, l.dropWhile p = [] ↔ l.all p = true
  | [] => by simp
  | c :: r => by
    rw [List.dropWhile_cons, List.all_cons]
    cases hc : p c with
    | true => simp [dropW_nil (l := r)]
    | false => simp
theorem dropW_head {p : UInt8 → Bool} : ∀ {l : List UInt8} {c : UInt8} {r : List UInt8}, l.dropWhile p = c :: r → p c = false
  | [], c, r, h => by simp at h
  | d :: l, c, r, h => by
    rw [List.dropWhile_cons] at h
    split at h
    · exact dropW_head h
    · cases h
      rename_i hd
      simpa using hd
theorem trimS_nil (l cs : List UInt8) : Lib.trimS l cs = [] ↔ l.all (fun b => cs.contains b) = true := by
  unfold Lib.trimS Lib.trimLeftS
  rw [dropW_nil]
  unfold Lib.trimRightS
  rw [List.all_reverse]
  constructor
  · intro h
    rcases hd : l.reverse.dropWhile (fun b => cs.contains b) with _ | ⟨c, r⟩
    · have := dropW_nil.1 hd
      rwa [List.all_reverse] at this
    · rw [hd, List.all_cons, dropW_head hd] at h
      simp at h
  · intro h
    have : l.reverse.dropWhile (fun b => cs.contains b) = [] := dropW_nil.2 (by rw [List.all_reverse]; exact h)
    rw [this]
    rfl
theorem getD_ls (s : ByteArray) (i : Nat) : Array.getD s.data i (0 : UInt8) = (ls s).getD i 0 := by
  simp [ls, Array.getD, List.getD]
  split <;> simp_all
theorem byte_eq (c d : UInt8) : ((c.toNat : Int) == (d.toNat : Int)) = decide (c = d) := by
  rw [beqD]
  congr 1
  refine propext ⟨fun h => UInt8.toNat_inj.1 (by omega), fun h => by rw [h]⟩
def numberG : List PV → Tr PV
  | [.lit (.string s)] => .br (okS s) (.leaf (.tup [int (numR (ls s)), bool (numI (ls s))])) .fail
  | _ => .fail
theorem puOk_of {s : ByteArray} {v : Nat} (h : Lib.parseUintB 64 (ls s) = .ok v) : puOk s = true ∧ puVal s = v := by
  unfold puOk puVal
  have : s.data.toList = ls s := rfl
  rw [this, h]
  exact ⟨rfl, rfl⟩
theorem number_ok : PureOK Tryd.prog (GG m t fr) 20 numberG := by
  refine PureOK.of (fn_pure mixed E1_ok (envOf_cuts ..) (fn := Tryd.f20) (by kernel_rfl)) fun ps p hp => ?_
  unfold numberG at hp
  split at hp
  · rename_i s
    obtain ⟨hs, hp⟩ := br_run hp
    simp only [Tr.run, Option.some.injEq] at hp
    subst hp
    have h := number_raw m t fr s
    rw [eqB, eqB, getD_ls] at h
    have e0 : ls (ByteArray.mk (List.toArray [])) = [] := rfl
    rw [e0, ls_bs] at h
    have e48 : ((48 : Int)) = (((48 : UInt8).toNat : Nat) : Int) := rfl
    rw [e48, byte_eq] at h
    by_cases h0 : ls s = []
    · have hI : numI (ls s) = false := by rw [h0]; rfl
      rw [decide_eq_true h0] at h
      refine ⟨_, Tr.run_of h (by simp), PLe.of_eq ?_⟩
      simp [numR, hI]
    · rw [decide_eq_false h0] at h
      simp only [cond_false] at h
      by_cases h9 : (ls s).length ≤ 9
      · have e9 : decide (((s.size : Nat) : Int) > 9) = false := by simp [← ls_len]; omega
        rw [e9] at h
        simp only [cond_false] at h
        have hne : (ls s).isEmpty = false := by simpa using h0
        have hall : decide (Lib.trimS s.data.toList [48, 49, 50, 51, 52, 53, 54, 55, 56, 57] = []) = (ls s).all isDig := by
          have e : (fun b => ([48, 49, 50, 51, 52, 53, 54, 55, 56, 57] : List UInt8).contains b) = isDig := funext digs_has
          have := trimS_nil (ls s) [48, 49, 50, 51, 52, 53, 54, 55, 56, 57]
          rw [e] at this
          cases ha : (ls s).all isDig with
          | true => exact decide_eq_true (this.2 ha)
          | false => exact decide_eq_false fun hc => by rw [this.1 hc] at ha; cases ha
        rw [hall] at h
        have hlt : Nat.blt 0 s.size = true := by
          rw [Nat.blt_eq, ← ls_len]
          exact List.length_pos_iff.2 h0
        have e1 : decide (((s.size : Nat) : Int) > 1) = decide (1 < (ls s).length) := by
          rw [ls_len, decide_eq_decide]
          omega
        rw [e1] at h
        by_cases hz : (decide (1 < (ls s).length) && decide ((ls s).getD 0 0 = 48)) = true
        · have hI : numI (ls s) = false := by unfold numI; rw [hz]; simp
          simp only [Bool.and_eq_true] at hz
          rw [hz.1, hz.2] at h
          refine ⟨_, Tr.run_of h (by simp [hlt]), PLe.of_eq ?_⟩
          simp [numR, hI]
        · have hz' : (decide (1 < (ls s).length) && decide ((ls s).getD 0 0 = 48)) = false := by simpa using hz
          have hI : numI (ls s) = (ls s).all isDig := by
            unfold numI
            rw [hz', hne, decide_eq_true h9]
            simp
          cases ha : (ls s).all isDig with
          | false =>
            rw [ha] at h
            rw [ha] at hI
            cases h1 : decide (1 < (ls s).length) with
            | false =>
              rw [h1] at h
              refine ⟨_, Tr.run_of h (by simp [hs]), PLe.of_eq ?_⟩
              simp [numR, hI]
            | true =>
              rw [h1] at h hz'
              simp only [Bool.true_and] at hz'
              rw [hz'] at h
              refine ⟨_, Tr.run_of h (by simp [hs, hlt]), PLe.of_eq ?_⟩
              simp [numR, hI]
          | true =>
            rw [ha] at h
            rw [ha] at hI
            obtain ⟨hp1, hp2⟩ := parseB_ok h0 h9 ha
            obtain ⟨hp3, hp4⟩ := puOk_of hp1
            have hw : IntKind.i64.wrap ((valD 0 (ls s) : Nat) : Int) = ((valD 0 (ls s) : Nat) : Int) := wrap_nat (by omega)
            rw [hp3, hp4, hw] at h
            cases h1 : decide (1 < (ls s).length) with
            | false =>
              rw [h1] at h
              refine ⟨_, Tr.run_of h (by simp [hs]), PLe.of_eq ?_⟩
              simp [numR, hI]
            | true =>
              rw [h1] at h hz'
              simp only [Bool.true_and] at hz'
              rw [hz'] at h
              refine ⟨_, Tr.run_of h (by simp [hs, hlt]), PLe.of_eq ?_⟩
              simp [numR, hI]
      · have e9 : decide (((s.size : Nat) : Int) > 9) = true := by simp [← ls_len]; omega
        rw [e9] at h
        have hI : numI (ls s) = false := by
          unfold numI
          rw [decide_eq_false h9]
          simp
        refine ⟨_, Tr.run_of h (by simp), PLe.of_eq ?_⟩
        simp [numR, hI]
  · cases hp
end
end Go.Proofs.YtnidaonmigjgkaaDoor.Ev
