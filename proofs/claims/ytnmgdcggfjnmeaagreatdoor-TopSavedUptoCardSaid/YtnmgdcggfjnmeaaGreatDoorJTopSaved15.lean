/- JTopSaved15: several texts in one. Condition: each part's own. -/
import Derived.Test.YtnmgdcggfjnmeaaGreatDoorJTopSaved14
import Derived.Test.YtnmgdcggfjnmeaaGreatDoorJTopSaved12
import Derived.Test.YtnmgdcggfjnmeaaGreatDoorJTopSaved11
import Derived.Test.YtnmgdcggfjnmeaaGreatDoorJTopSaved08
import Derived.Stop.LaidErr
/- A disk with one file: what is done to it. No condition. -/
namespace Go.Proofs.YtnmgdcggfjnmeaaGreatDoor.Ev
open Go Go.RowKit Go.Proofs Go.Proofs.YtnmgdcggfjnmeaaGreatDoor.Str
set_option linter.unusedVariables false
set_option linter.unusedSimpArgs false
section
variable {m : Int} {t : TypeId} {fr : Nat × Nat}
/-- whole numbers in a row -/
def iRow (k : List Int) (i : Nat) : List PV := [int (k.getD i 0)]
theorem mk_raw_v (m : Int) (t : TypeId) (fr : Nat × Nat) : ((fnPure Tryz.prog (E12 (GG m t fr)) 60 Tryz.f6 (GG m t fr) [int 1048576])).val =
 ((.some (.tup [(.agg [(.lit (.int .i64 (1048576 : Int))), (.lit (.slice .none 0 0)), (.lit (.int .i64 (-1 : Int))), (.lit (.int .i64 (-1 : Int))), (.lit (.bool false))]), (.lit (.int .i64 (0 : Int)))])) : Option PV) := by
  kernel_rfl
theorem mk_raw_c (m : Int) (t : TypeId) (fr : Nat × Nat) : ((fnPure Tryz.prog (E12 (GG m t fr)) 60 Tryz.f6 (GG m t fr) [int 1048576])).conds =
 (true : Bool) := by
  kernel_rfl
theorem cr_raw_v (m : Int) (t : TypeId) (fr : Nat × Nat) : (((fnPure Tryz.prog (EC (GG m t fr)) 60 Tryz.f7 (GG m t fr) [fsP (.lit (.slice none 0 0)), str sSet]).bind fzT)).val =
 ((.some (.tup [(.agg [(.lit (.int .i64 (1048576 : Int))), (.gsl 3 1 (fR (.mk (List.toArray [(115 : UInt8), (101 : UInt8), (116 : UInt8)])) (.mk (List.toArray [])) (0 : Int))), (.lit (.int .i64 (-1 : Int))), (.lit (.int .i64 (-1 : Int))), (.lit (.bool false))]), (.lit (.int .i64 (0 : Int)))])) : Option PV) := by
  kernel_rfl
theorem cr_raw_c (m : Int) (t : TypeId) (fr : Nat × Nat) : (((fnPure Tryz.prog (EC (GG m t fr)) 60 Tryz.f7 (GG m t fr) [fsP (.lit (.slice none 0 0)), str sSet]).bind fzT)).conds =
 (true : Bool) := by
  kernel_rfl
theorem ap_raw_v (m : Int) (t : TypeId) (fr : Nat × Nat) (x s : ByteArray) (y : Int) : (((fnPure Tryz.prog (ED (GG m t fr)) 60 Tryz.f8 (GG m t fr) [fsP (.gsl 3 1 (fR sSet x y)), str sSet, .gsl 1 1 (fun _ => [str s])]).bind fzT)).val =
 (bif (decide ((IntKind.wrap .i64 (((1048576 : Int) - (((List.length (ls x)) : Nat) : Int)) - (((List.length (ls s)) : Nat) : Int))) < (0 : Int))) then
 (.some (.tup [(.agg [(.lit (.int .i64 (1048576 : Int))), (.gsl 3 1 (fR (.mk (List.toArray [(115 : UInt8), (101 : UInt8), (116 : UInt8)])) x y)), (.lit (.int .i64 (-1 : Int))), (.lit (.int .i64 (-1 : Int))), (.lit (.bool false))]), (.lit (.int .i64 (8 : Int)))]))
 else (.some (.tup [(.agg [(.lit (.int .i64 (1048576 : Int))), (.gsl 3 1 (fR (.mk (List.toArray [(115 : UInt8), (101 : UInt8), (116 : UInt8)])) (x ++ (bs (Lib.join (List.map (fun x => x.data.toList) [s]) []))) y)), (.lit (.int .i64 (-1 : Int))), (.lit (.int .i64 (-1 : Int))), (.lit (.bool false))]), (.lit (.int .i64 (0 : Int)))])) : Option PV) := by
  kernel_rfl
theorem ap_raw_c (m : Int) (t : TypeId) (fr : Nat × Nat) (x s : ByteArray) (y : Int) : (((fnPure Tryz.prog (ED (GG m t fr)) 60 Tryz.f8 (GG m t fr) [fsP (.gsl 3 1 (fR sSet x y)), str sSet, .gsl 1 1 (fun _ => [str s])]).bind fzT)).conds =
 (bif (dOk x y) then
 bif (dOk x y) then
 bif (decide ((IntKind.wrap .i64 (((1048576 : Int) - (((List.length (ls x)) : Nat) : Int)) - (((List.length (ls s)) : Nat) : Int))) < (0 : Int))) then
 true
 else bif (Nat.ble (List.length (Lib.join (List.map (fun x => x.data.toList) [s]) [])) (4294967280 : Nat)) then
 bif (Nat.ble ((List.length (ls x)) + (List.length (Lib.join (List.map (fun x => x.data.toList) [s]) []))) (9223372036854775807 : Nat)) then
 true
 else false
 else false
 else false
 else false : Bool) := by
  kernel_rfl
theorem sy_raw_v (m : Int) (t : TypeId) (fr : Nat × Nat) (x : ByteArray) (y : Int) : (((fnPure Tryz.prog (ED (GG m t fr)) 60 Tryz.f9 (GG m t fr) [fsP (.gsl 3 1 (fR sSet x y)), str sSet]).bind fzT)).val =
 ((.some (.tup [(.agg [(.lit (.int .i64 (1048576 : Int))), (.gsl 3 1 (fR (.mk (List.toArray [(115 : UInt8), (101 : UInt8), (116 : UInt8)])) x (((List.length (ls x)) : Nat) : Int))), (.lit (.int .i64 (-1 : Int))), (.lit (.int .i64 (-1 : Int))), (.lit (.bool false))]), (.lit (.int .i64 (0 : Int)))])) : Option PV) := by
  kernel_rfl
theorem sy_raw_c (m : Int) (t : TypeId) (fr : Nat × Nat) (x : ByteArray) (y : Int) : (((fnPure Tryz.prog (ED (GG m t fr)) 60 Tryz.f9 (GG m t fr) [fsP (.gsl 3 1 (fR sSet x y)), str sSet]).bind fzT)).conds =
 (bif (dOk x y) then
 true
 else false : Bool) := by
  kernel_rfl
theorem ch_raw_v (m : Int) (t : TypeId) (fr : Nat × Nat) (x : ByteArray) (y : Int) (n : Nat) (k : List Int) : (((fnPure Tryz.prog (ED (GG m t fr)) 60 Tryz.f10 (GG m t fr) [fsP (.gsl 3 1 (fR sSet x y)), .gsl 1 n (iRow k)]).bind fzT)).val =
 (bif (decide ((0 : Int) < ((n : Nat) : Int))) then
 (.some (.tup [(.agg [(.lit (.int .i64 (1048576 : Int))), (.gsl 3 1 (fR (.mk (List.toArray [(115 : UInt8), (101 : UInt8), (116 : UInt8)])) (ByteArray.extract x 0 (Int.toNat (IntKind.wrap .i64 (y + (ite ((IntKind.wrap .i64 ((((List.length (ls x)) : Nat) : Int) - y)) < (ite ((List.getD k 0 (0 : Int)) > (0 : Int)) (List.getD k 0 (0 : Int)) (0 : Int))) (IntKind.wrap .i64 ((((List.length (ls x)) : Nat) : Int) - y)) (ite ((List.getD k 0 (0 : Int)) > (0 : Int)) (List.getD k 0 (0 : Int)) (0 : Int))))))) (IntKind.wrap .i64 (y + (ite ((IntKind.wrap .i64 ((((List.length (ls x)) : Nat) : Int) - y)) < (ite ((List.getD k 0 (0 : Int)) > (0 : Int)) (List.getD k 0 (0 : Int)) (0 : Int))) (IntKind.wrap .i64 ((((List.length (ls x)) : Nat) : Int) - y)) (ite ((List.getD k 0 (0 : Int)) > (0 : Int)) (List.getD k 0 (0 : Int)) (0 : Int))))))), (.lit (.int .i64 (-1 : Int))), (.lit (.int .i64 (-1 : Int))), (.lit (.bool false))]), (.lit (.int .i64 (0 : Int)))]))
 else (.some (.tup [(.agg [(.lit (.int .i64 (1048576 : Int))), (.gsl 3 1 (fR (.mk (List.toArray [(115 : UInt8), (101 : UInt8), (116 : UInt8)])) (ByteArray.extract x 0 (Int.toNat (IntKind.wrap .i64 (y + (0 : Int))))) (IntKind.wrap .i64 (y + (0 : Int))))), (.lit (.int .i64 (-1 : Int))), (.lit (.int .i64 (-1 : Int))), (.lit (.bool false))]), (.lit (.int .i64 (0 : Int)))])) : Option PV) := by
  kernel_rfl
theorem ch_raw_c (m : Int) (t : TypeId) (fr : Nat × Nat) (x : ByteArray) (y : Int) (n : Nat) (k : List Int) : (((fnPure Tryz.prog (ED (GG m t fr)) 60 Tryz.f10 (GG m t fr) [fsP (.gsl 3 1 (fR sSet x y)), .gsl 1 n (iRow k)]).bind fzT)).conds =
 (bif (dOk x y) then
 bif (decide ((0 : Int) < ((n : Nat) : Int))) then
 bif (Nat.blt 0 n) then
 bif ((decide ((0 : Int) ≤ (IntKind.wrap .i64 (y + (ite ((IntKind.wrap .i64 ((((List.length (ls x)) : Nat) : Int) - y)) < (ite ((List.getD k 0 (0 : Int)) > (0 : Int)) (List.getD k 0 (0 : Int)) (0 : Int))) (IntKind.wrap .i64 ((((List.length (ls x)) : Nat) : Int) - y)) (ite ((List.getD k 0 (0 : Int)) > (0 : Int)) (List.getD k 0 (0 : Int)) (0 : Int))))))) && (decide ((IntKind.wrap .i64 (y + (ite ((IntKind.wrap .i64 ((((List.length (ls x)) : Nat) : Int) - y)) < (ite ((List.getD k 0 (0 : Int)) > (0 : Int)) (List.getD k 0 (0 : Int)) (0 : Int))) (IntKind.wrap .i64 ((((List.length (ls x)) : Nat) : Int) - y)) (ite ((List.getD k 0 (0 : Int)) > (0 : Int)) (List.getD k 0 (0 : Int)) (0 : Int))))) ≤ (((List.length (ls x)) : Nat) : Int)))) then
 true
 else false
 else false
 else bif ((decide ((0 : Int) ≤ (IntKind.wrap .i64 (y + (0 : Int))))) && (decide ((IntKind.wrap .i64 (y + (0 : Int))) ≤ (((List.length (ls x)) : Nat) : Int)))) then
 true
 else false
 else false : Bool) := by
  kernel_rfl
theorem rd_raw_v (m : Int) (t : TypeId) (fr : Nat × Nat) (x : ByteArray) (y : Int) : ((fnPure Tryz.prog (ED (GG m t fr)) 60 Tryz.f11 (GG m t fr) [fsP (.gsl 3 1 (fR sSet x y)), str sSet])).val =
 ((.some (.tup [(.lit (.string x)), (.lit (.int .i64 (0 : Int)))])) : Option PV) := by
  kernel_rfl
theorem rd_raw_c (m : Int) (t : TypeId) (fr : Nat × Nat) (x : ByteArray) (y : Int) : ((fnPure Tryz.prog (ED (GG m t fr)) 60 Tryz.f11 (GG m t fr) [fsP (.gsl 3 1 (fR sSet x y)), str sSet])).conds =
 (bif (dOk x y) then
 true
 else false : Bool) := by
  kernel_rfl
end
end Go.Proofs.YtnmgdcggfjnmeaaGreatDoor.Ev

/- The spans that nset.Write writes, nset.Parse reads as they were. No condition, and no program in it. -/
namespace Go.Proofs.YtnmgdcggfjnmeaaGreatDoor.Ev
open Go Go.RowKit Go.Proofs Go.Proofs.YtnmgdcggfjnmeaaGreatDoor.Str
set_option linter.unusedVariables false
set_option linter.unusedSimpArgs false
theorem dig_nat {n : Nat} (h : n < 10) : (UInt8.ofNat (48 + n)).toNat = 48 + n := by
  rw [UInt8.toNat_ofNat']
  omega
theorem num_fwd (M : Nat) (hM : M < 4294967296) (n : Nat) : ∀ (r : List UInt8), n ≤ M → Lib.parseUintM M 0 (Lib.decDigits n ++ r) = Lib.parseUintM M n r := by
  induction n using Nat.strongRecOn with
  | ind n ih =>
    intro r hn
    rw [Lib.decDigits.eq_1 n]
    by_cases h : n < 10
    · rw [dif_pos h]
      show Lib.parseUintM M 0 (UInt8.ofNat (48 + n) :: r) = _
      have e := dig_nat h
      rw [Lib.parseUintM, if_pos (by rw [e]; omega), if_neg (by omega), if_neg (by rw [e]; omega), e]
      have : 0 * 10 + (48 + n - 48) = n := by omega
      rw [this]
    · rw [dif_neg h, List.append_assoc, ih (n / 10) (by omega) _ (by omega)]
      show Lib.parseUintM M (n / 10) (UInt8.ofNat (48 + n % 10) :: r) = _
      have e := dig_nat (n := n % 10) (by omega)
      have : n / 10 * 10 + (48 + n % 10 - 48) = n := by omega
      rw [Lib.parseUintM, if_pos (by rw [e]; omega), if_neg (by omega), if_neg (by rw [e]; omega), e, this]
theorem dec_dig (n : Nat) : ∀ c ∈ Lib.decDigits n, 48 ≤ c.toNat ∧ c.toNat ≤ 57 := by
  induction n using Nat.strongRecOn with
  | ind n ih =>
    intro c hc
    rw [Lib.decDigits.eq_1 n] at hc
    by_cases h : n < 10
    · rw [dif_pos h] at hc
      rw [List.mem_singleton.1 hc, dig_nat h]
      omega
    · rw [dif_neg h] at hc
      rcases List.mem_append.1 hc with hc | hc
      · exact ih _ (by omega) c hc
      · rw [List.mem_singleton.1 hc, dig_nat (by omega)]
        omega
theorem dec_ne (n : Nat) : Lib.decDigits n ≠ [] := by
  rw [Lib.decDigits.eq_1 n]
  split <;> simp
theorem dec_first (n : Nat) : 0 < n → 49 ≤ ((Lib.decDigits n).getD 0 0).toNat := by
  induction n using Nat.strongRecOn with
  | ind n ih =>
    intro hn
    rw [Lib.decDigits.eq_1 n]
    by_cases h : n < 10
    · rw [dif_pos h]
      show 49 ≤ (UInt8.ofNat (48 + n)).toNat
      rw [dig_nat h]
      omega
    · rw [dif_neg h]
      have h1 := ih (n / 10) (by omega) (by omega)
      have h2 := dec_ne (n / 10)
      cases hd : Lib.decDigits (n / 10) with
      | nil => exact absurd hd h2
      | cons c r =>
        rw [hd] at h1
        simpa using h1
theorem dec_pu {n : Nat} (h : n < 4294967296) : Lib.parseUintB 32 (Lib.decDigits n) = .ok n := by
  unfold Lib.parseUintB
  rw [if_neg (dec_ne n)]
  have := num_fwd (2 ^ 32 - 1) (by omega) n [] (by omega)
  rw [List.append_nil] at this
  rw [this]
  rfl
theorem dec_ok {n : Nat} (h : n < 4294967296) : puOk (bs (Lib.decDigits n)) = true ∧ puVal (bs (Lib.decDigits n)) = n := by
  unfold puOk puVal
  have hb : (bs (Lib.decDigits n)).data.toList = Lib.decDigits n := ls_bs _
  rw [hb, dec_pu h]
  exact ⟨rfl, rfl⟩
theorem no_byte {n : Nat} {c : UInt8} (h : c.toNat < 48 ∨ 57 < c.toNat) : c ∉ Lib.decDigits n := fun hc => by
  have := dec_dig n c hc
  omega
theorem end_word {n : Int} (h0 : 0 ≤ n) (h1 : n < 4294967296) : endB (wordS n) = true ∧ endV (wordS n) = n := by
  unfold wordS
  by_cases hz : n = 0
  · subst hz
    exact ⟨rfl, rfl⟩
  · have e : (n == 0) = false := by simpa using hz
    rw [e, cond_false]
    obtain ⟨a, b⟩ := dec_ok (n := n.toNat) (by omega)
    have f := dec_first n.toNat (by omega)
    have g : ((Lib.decDigits n.toNat).getD 0 0).toNat ≤ 57 := by
      cases hd : Lib.decDigits n.toNat with
      | nil => exact absurd hd (dec_ne _)
      | cons c r =>
        have := dec_dig n.toNat c (by rw [hd]; simp)
        simpa using this.2
    have hne := dec_ne n.toNat
    have h42 : decide (Lib.decDigits n.toNat = [42]) = false := decide_eq_false fun h => by
      have := dec_dig n.toNat 42 (by rw [h]; simp)
      exact absurd this (by decide)
    have k1 : decide (Lib.decDigits n.toNat = []) = false := decide_eq_false hne
    have k2 : decide (((Lib.decDigits n.toNat).getD 0 0).toNat < 49) = false := decide_eq_false (by omega)
    have k3 : decide (57 < ((Lib.decDigits n.toNat).getD 0 0).toNat) = false := decide_eq_false (by omega)
    unfold endB endV
    rw [h42, k1, k2, k3, a, b]
    refine ⟨rfl, ?_⟩
    show IntKind.wrap .u32 ((n.toNat : Nat) : Int) = n
    rw [IntKind.wrap_u32]
    omega
theorem word_free {n : Int} {c : UInt8} (h : c.toNat < 48 ∨ 57 < c.toNat) (h42 : c ≠ 42) : c ∉ wordS n := by
  unfold wordS
  cases n == 0
  · exact no_byte h
  · simpa using h42
theorem one_fwd {x : Sp} (h : u32B x = true) : okW (oneS x) = true ∧ spW (oneS x) = x := by
  unfold u32B at h
  simp only [Bool.and_eq_true, decide_eq_true_eq] at h
  obtain ⟨⟨h1, h2⟩, h3, h4⟩ := h
  obtain ⟨a1, a2⟩ := end_word h1 h2
  obtain ⟨b1, b2⟩ := end_word h3 h4
  have f : ∀ n, (58 : UInt8) ∉ wordS n := fun n => word_free (by decide) (by decide)
  unfold oneS
  cases hq : bne x.2 x.1 with
  | true =>
    rw [cond_true]
    have hc := cutC_app 58 (wordS x.1) (wordS x.2) (f _)
    have eA : wA (wordS x.1 ++ 58 :: wordS x.2) = wordS x.1 := by show (cutC 58 _).1 = _; rw [hc]
    have eB : wB (wordS x.1 ++ 58 :: wordS x.2) = wordS x.2 := by unfold wB; rw [hc]; rfl
    unfold okW spW
    rw [eA, eB, a1, b1, a2, b2]
    exact ⟨rfl, rfl⟩
  | false =>
    rw [cond_false, List.append_nil]
    have hc := cutC_free 58 (wordS x.1) (f _)
    have eA : wA (wordS x.1) = wordS x.1 := by show (cutC 58 _).1 = _; rw [hc]
    have eB : wB (wordS x.1) = wordS x.1 := by unfold wB; rw [hc]; rfl
    have e : x.2 = x.1 := by simpa using hq
    unfold okW spW
    rw [eA, eB, a1, a2]
    exact ⟨rfl, Prod.ext rfl e.symm⟩
theorem one_free {x : Sp} {c : UInt8} (h : c.toNat < 48 ∨ 57 < c.toNat) (h42 : c ≠ 42) (h58 : c ≠ 58) : c ∉ oneS x := by
  unfold oneS
  intro hc
  rcases List.mem_append.1 hc with hc | hc
  · exact word_free h h42 hc
  · cases hq : bne x.2 x.1 with
    | false => rw [hq] at hc; cases hc
    | true =>
      rw [hq, cond_true] at hc
      rcases List.mem_cons.1 hc with hc | hc
      · exact h58 hc
      · exact word_free h h42 hc
theorem join_free {d c : UInt8} (hd : c ≠ d) : ∀ (L : List (List UInt8)), (∀ x ∈ L, c ∉ x) → c ∉ joinC d L
  | [], _ => by simp [joinC]
  | [x], h => by
    have : joinC d [x] = x := by simp [joinC]
    rw [this]
    exact h x (by simp)
  | x :: y :: r, h => by
    have : joinC d (x :: y :: r) = x ++ d :: joinC d (y :: r) := by simp [joinC]
    rw [this]
    intro hc
    rcases List.mem_append.1 hc with hc | hc
    · exact h x (by simp) hc
    · rcases List.mem_cons.1 hc with hc | hc
      · exact hd hc
      · exact join_free hd (y :: r) (fun z hz => h z (by simp [hz])) hc
theorem spans_fwd {l : List Sp} (h : l.all u32B = true) (hne : l ≠ []) : areS (writeS l) = true ∧ spansS (writeS l) = l := by
  rw [List.all_eq_true] at h
  have hs : splitC 44 (writeS l) = l.map oneS := by
    unfold writeS
    refine split_join 44 _ (by simpa using hne) fun x hx => ?_
    obtain ⟨y, hy, rfl⟩ := List.mem_map.1 hx
    exact one_free (by decide) (by decide) (by decide)
  constructor
  · unfold areS
    rw [hs, List.all_eq_true]
    intro x hx
    obtain ⟨y, hy, rfl⟩ := List.mem_map.1 hx
    exact (one_fwd (h y hy)).1
  · unfold spansS
    rw [hs, List.map_map]
    have : l.map (spW ∘ oneS) = l.map id := List.map_congr_left fun y hy => (one_fwd (h y hy)).2
    rw [this, List.map_id]
end Go.Proofs.YtnmgdcggfjnmeaaGreatDoor.Ev

/- A disk with one file: the contracts. The law TopSaved, as evaluated. No condition. -/
namespace Go.Proofs.YtnmgdcggfjnmeaaGreatDoor.Ev
open Go Go.RowKit Go.Proofs Go.Proofs.YtnmgdcggfjnmeaaGreatDoor.Str
set_option linter.unusedVariables false
set_option linter.unusedSimpArgs false
section
variable {m : Int} {t : TypeId} {fr : Nat × Nat}
def isI : List PV → Bool
  | [.lit (.int .i64 _)] => true
  | _ => false
def valI : List PV → Int
  | [.lit (.int .i64 n)] => n
  | _ => 0
def areIs (n : Nat) (f : Nat → List PV) : Bool := (List.range n).all fun i => isI (f i)
def isOf (n : Nat) (f : Nat → List PV) : List Int := (List.range n).map fun i => valI (f i)
theorem is_row {n : Nat} {f : Nat → List PV} (h : areIs n f = true) : ∀ i, i < n → f i = iRow (isOf n f) i := by
  intro i hi
  have := List.all_eq_true.1 h i (List.mem_range.2 hi)
  unfold iRow isOf
  rw [List.getD_eq_getElem?_getD, List.getElem?_map, List.getElem?_range hi]
  revert this
  unfold isI valI
  split
  · rename_i e
    intro _
    simp [e]
  · intro h
    cases h
/-- how much stays behind a crash -/
def zS (n : Nat) (k : Int) (x : ByteArray) (y : Int) : Int := bif Nat.blt 0 n then y + (if (x.size : Int) - y < (if k > 0 then k else 0) then (x.size : Int) - y else (if k > 0 then k else 0)) else y
theorem zS_at {n : Nat} {k : Int} {x : ByteArray} {y : Int} (h : dOk x y = true) : y ≤ zS n k x y ∧ zS n k x y ≤ x.size := by
  obtain ⟨h1, h2, h3⟩ := dOk_at h
  unfold zS
  cases Nat.blt 0 n
  · exact ⟨Int.le_refl _, h3⟩
  · simp only [cond_true]
    split <;> split <;> omega
def sizeI (s : ByteArray) : Int := s.size
def makeG : List PV → Tr PV
  | [.lit (.int .i64 r)] => .br (r == 1048576) (.leaf (.tup [fsP (.lit (.slice none 0 0)), int 0])) .fail
  | _ => .fail
def createG : List PV → Tr PV
  | [p, .lit (.string n)] => .br (fs0 p && ls n == ls sSet) (.leaf (.tup [fsP (.gsl 3 1 (fR sSet ⟨#[]⟩ 0)), int 0])) .fail
  | _ => .fail
/-- one text in a row -/
def st1 : PV → Option ByteArray
  | .gsl 1 1 f => match f 0 with
    | [.lit (.string s)] => some s
    | _ => none
  | _ => none
theorem st1_le {p : PV} {s : ByteArray} (h : st1 p = some s) : PLe p (.gsl 1 1 (fun _ => [str s])) := by
  unfold st1 at h
  split at h
  · rename_i f
    split at h
    · rename_i e
      cases h
      refine PLe.gsl rfl fun i hi => ?_
      have : i = 0 := by omega
      subst this
      exact e
    · cases h
  · cases h
def fitsB (x s : ByteArray) : Bool := decide (x.size + s.size ≤ 1048576)
def putS (x s : ByteArray) : ByteArray := bif fitsB x s then x ++ s else x
def putE (x s : ByteArray) : Int := bif fitsB x s then 0 else 8
def appendG : List PV → Tr PV
  | [p, .lit (.string n), q] => match fs1 p, st1 q with
    | some (a, x, y), some s => .br (ls a == ls sSet && ls n == ls sSet && dOk x y && okS s)
      (.leaf (.tup [fsP (.gsl 3 1 (fR sSet (putS x s) y)), int (putE x s)])) .fail
    | _, _ => .fail
  | _ => .fail
def syncG : List PV → Tr PV
  | [p, .lit (.string n)] => match fs1 p with
    | some (a, x, y) => .br (ls a == ls sSet && ls n == ls sSet && dOk x y) (.leaf (.tup [fsP (.gsl 3 1 (fR sSet x (sizeI x))), int 0])) .fail
    | none => .fail
  | _ => .fail
def cutTo (x : ByteArray) (z : Int) : ByteArray := x.extract 0 z.toNat
def crashG : List PV → Tr PV
  | [p, .gsl 1 n f] => match fs1 p with
    | some (a, x, y) => .br (ls a == ls sSet && dOk x y && areIs n f) (.leaf (.tup [fsP (.gsl 3 1 (fR sSet (cutTo x (zS n ((isOf n f).getD 0 0) x y)) (zS n ((isOf n f).getD 0 0) x y))), int 0])) .fail
    | none => .fail
  | _ => .fail
def readG : List PV → Tr PV
  | [p, .lit (.string n)] => match fs1 p with
    | some (a, x, y) => .br (ls a == ls sSet && ls n == ls sSet && dOk x y) (.leaf (.tup [str x, int 0])) .fail
    | none => .fail
  | _ => .fail
theorem make_ok : PureOK Tryz.prog (GG m t fr) 6 makeG := by
  intro ps p hp
  unfold makeG at hp
  split at hp
  · obtain ⟨hc, hq⟩ := br_run hp
    have hc := eq_of_beq hc
    subst hc
    simp only [Tr.run, Option.some.injEq] at hq
    subst hq
    exact (fn_pure mixed E12_ok (envOf_cuts ..) (fn := Tryz.f6) (by kernel_rfl)) _ _ (Tr.run_vc (mk_raw_v m t fr) (mk_raw_c m t fr) rfl rfl)
  · cases hp
theorem create_ok : PureOK Tryz.prog (GG m t fr) 7 createG := by
  intro ps p hp
  unfold createG at hp
  split at hp
  · obtain ⟨hc, hq⟩ := br_run hp
    clear hp
    simp only [Bool.and_eq_true] at hc
    have e1 := fs0_eq hc.1
    have e2 := set_of hc.2
    subst e1 e2
    simp only [Tr.run, Option.some.injEq] at hq
    subst hq
    exact (fz_ok (fn_pure mixed EC_ok (envOf_cuts ..) (fn := Tryz.f7) (by kernel_rfl))) _ _ (Tr.run_vc (cr_raw_v m t fr) (cr_raw_c m t fr) rfl rfl)
  · cases hp
theorem join_one (s : ByteArray) : bs (Lib.join (List.map (fun x : ByteArray => x.data.toList) [s]) []) = s := by
  have : (Lib.join (List.map (fun x : ByteArray => x.data.toList) [s]) []) = ls s := by simp [Lib.join, List.intercalate, ls]
  rw [this]
  exact bs_ls s
theorem join1_len (s : ByteArray) : List.length (Lib.join (List.map (fun x : ByteArray => x.data.toList) [s]) []) = s.size := by
  have : (Lib.join (List.map (fun x : ByteArray => x.data.toList) [s]) []) = ls s := by simp [Lib.join, List.intercalate, ls]
  rw [this]
  exact ls_len s
theorem append_ok : PureOK Tryz.prog (GG m t fr) 8 appendG := by
  intro ps p hp
  unfold appendG at hp
  split at hp
  · split at hp
    · rename_i a x y s hr hq1
      obtain ⟨hc, hq⟩ := br_run hp
      clear hp
      simp only [Bool.and_eq_true] at hc
      obtain ⟨⟨⟨c1, c2⟩, c3⟩, c4⟩ := hc
      have e1 := set_of c1
      have e2 := set_of c2
      subst e1 e2
      obtain ⟨h1, h2, h3⟩ := dOk_at c3
      have hs := okS_le c4
      have hv := ap_raw_v m t fr x s y
      have hcc := ap_raw_c m t fr x s y
      have hw : IntKind.wrap .i64 (((1048576 : Int) - (((List.length (ls x)) : Nat) : Int)) - (((List.length (ls s)) : Nat) : Int)) = 1048576 - x.size - s.size := by
        rw [ls_len, ls_len]
        exact wrap_mid (by omega) (by omega)
      rw [hw] at hv hcc
      rw [join_one] at hv
      rw [join1_len] at hcc
      have hl := PLeL.cons (fs1_le hr) (PLeL.cons (PLe.refl (.lit (.string sSet))) (PLeL.cons (st1_le hq1) PLeL.nil))
      have hb : Nat.ble s.size 4294967280 = true := c4
      have hb2 : Nat.ble ((List.length (ls x)) + s.size) 9223372036854775807 = true := Nat.ble_eq_true_of_le (by rw [ls_len]; omega)
      cases hf : fitsB x s with
      | true =>
        have hd : decide ((1048576 : Int) - x.size - s.size < 0) = false := by
          unfold fitsB at hf
          simp at hf ⊢
          omega
        simp only [putS, putE, hf, Tr.run, cond_true, Option.some.injEq] at hq
        subst hq
        simp only [hd, cond_false] at hv
        simp only [hd, c3, hb, hb2, cond_true, cond_false] at hcc
        exact ((fz_ok (fn_pure mixed ED_ok (envOf_cuts ..) (fn := Tryz.f8) (by kernel_rfl))) _ _ (Tr.run_vc hv hcc rfl rfl)).pre hl
      | false =>
        have hd : decide ((1048576 : Int) - x.size - s.size < 0) = true := by
          unfold fitsB at hf
          simp at hf ⊢
          omega
        simp only [putS, putE, hf, Tr.run, cond_false, Option.some.injEq] at hq
        subst hq
        simp only [hd, cond_true] at hv
        simp only [hd, c3, hb, hb2, cond_true, cond_false] at hcc
        exact ((fz_ok (fn_pure mixed ED_ok (envOf_cuts ..) (fn := Tryz.f8) (by kernel_rfl))) _ _ (Tr.run_vc hv hcc rfl rfl)).pre hl
    · cases hp
  · cases hp
theorem sync_ok : PureOK Tryz.prog (GG m t fr) 9 syncG := by
  intro ps p hp
  unfold syncG at hp
  split at hp
  · split at hp
    · rename_i a x y hr
      obtain ⟨hc, hq⟩ := br_run hp
      clear hp
      simp only [Bool.and_eq_true] at hc
      obtain ⟨⟨c1, c2⟩, c3⟩ := hc
      have e1 := set_of c1
      have e2 := set_of c2
      subst e1 e2
      simp only [Tr.run, Option.some.injEq] at hq
      subst hq
      have hv := sy_raw_v m t fr x y
      have hcc := sy_raw_c m t fr x y
      rw [ls_len] at hv
      rw [c3, cond_true] at hcc
      exact ((fz_ok (fn_pure mixed ED_ok (envOf_cuts ..) (fn := Tryz.f9) (by kernel_rfl))) _ _ (Tr.run_vc hv hcc rfl rfl)).pre (PLeL.cons (fs1_le hr) (.refl _))
    · cases hp
  · cases hp
theorem read_ok : PureOK Tryz.prog (GG m t fr) 11 readG := by
  intro ps p hp
  unfold readG at hp
  split at hp
  · split at hp
    · rename_i a x y hr
      obtain ⟨hc, hq⟩ := br_run hp
      clear hp
      simp only [Bool.and_eq_true] at hc
      obtain ⟨⟨c1, c2⟩, c3⟩ := hc
      have e1 := set_of c1
      have e2 := set_of c2
      subst e1 e2
      simp only [Tr.run, Option.some.injEq] at hq
      subst hq
      have hv := rd_raw_v m t fr x y
      have hcc := rd_raw_c m t fr x y
      rw [c3, cond_true] at hcc
      exact ((fn_pure mixed ED_ok (envOf_cuts ..) (fn := Tryz.f11) (by kernel_rfl)) _ _ (Tr.run_vc hv hcc rfl rfl)).pre (PLeL.cons (fs1_le hr) (.refl _))
    · cases hp
  · cases hp
theorem crash_ok : PureOK Tryz.prog (GG m t fr) 10 crashG := by
  intro ps p hp
  unfold crashG at hp
  split at hp
  · split at hp
    · rename_i n f _ a x y hr
      obtain ⟨hc, hq⟩ := br_run hp
      clear hp
      simp only [Bool.and_eq_true] at hc
      obtain ⟨⟨c1, c2⟩, c3⟩ := hc
      have e1 := set_of c1
      subst e1
      simp only [Tr.run, Option.some.injEq] at hq
      subst hq
      have hz := zS_at (n := n) (k := (isOf n f).getD 0 0) c2
      obtain ⟨h1, h2, h3⟩ := dOk_at c2
      have hv := ch_raw_v m t fr x y n (isOf n f)
      have hcc := ch_raw_c m t fr x y n (isOf n f)
      have hw : IntKind.wrap .i64 ((((List.length (ls x)) : Nat) : Int) - y) = x.size - y := by
        rw [ls_len]
        exact wrap_mid (by omega) (by omega)
      rw [hw] at hv hcc
      refine ((fz_ok (fn_pure mixed ED_ok (envOf_cuts ..) (fn := Tryz.f10) (by kernel_rfl))) _ _ (?_ : _ = some (.tup [fsP (.gsl 3 1 (fR sSet (cutTo x (zS n ((isOf n f).getD 0 0) x y)) (zS n ((isOf n f).getD 0 0) x y))), int 0]))).pre (PLeL.cons (fs1_le hr) (PLeL.cons (PLe.gsl rfl (is_row c3)) .nil))
      cases hn : Nat.blt 0 n with
      | true =>
        have hd : decide ((0 : Int) < ((n : Nat) : Int)) = true := by
          rw [Nat.blt_eq] at hn
          exact decide_eq_true (by omega)
        have hzz : zS n ((isOf n f).getD 0 0) x y = y + (if (x.size : Int) - y < (if (isOf n f).getD 0 0 > 0 then (isOf n f).getD 0 0 else 0) then (x.size : Int) - y else (if (isOf n f).getD 0 0 > 0 then (isOf n f).getD 0 0 else 0)) := by
          unfold zS
          rw [hn, cond_true]
        rw [← hzz] at hv hcc
        have hw2 : IntKind.wrap .i64 (zS n ((isOf n f).getD 0 0) x y) = zS n ((isOf n f).getD 0 0) x y := wrap_mid (by omega) (by omega)
        rw [hw2] at hv hcc
        have d1 : decide ((0 : Int) ≤ zS n ((isOf n f).getD 0 0) x y) = true := decide_eq_true (by omega)
        have d2 : decide (zS n ((isOf n f).getD 0 0) x y ≤ (((List.length (ls x)) : Nat) : Int)) = true := by rw [ls_len]; exact decide_eq_true (by omega)
        simp only [hd, cond_true] at hv
        simp only [hd, hn, c2, d1, d2, cond_true, Bool.and_self] at hcc
        exact Tr.run_vc hv hcc rfl rfl
      | false =>
        have hd : decide ((0 : Int) < ((n : Nat) : Int)) = false := by
          have : ¬ 0 < n := fun h => by
            have h2 : Nat.blt 0 n = true := by rw [Nat.blt_eq]; exact h
            rw [h2] at hn
            cases hn
          exact decide_eq_false (by omega)
        have hzz : zS n ((isOf n f).getD 0 0) x y = y := by
          unfold zS
          rw [hn, cond_false]
        rw [hzz]
        have hw2 : IntKind.wrap .i64 (y + 0) = y := by rw [Int.add_zero]; exact wrap_mid (by omega) (by omega)
        rw [hw2] at hv hcc
        have d1 : decide ((0 : Int) ≤ y) = true := decide_eq_true (by omega)
        have d2 : decide (y ≤ (((List.length (ls x)) : Nat) : Int)) = true := by rw [ls_len]; exact decide_eq_true (by omega)
        simp only [hd, cond_false] at hv
        simp only [hd, hn, c2, d1, d2, cond_true, cond_false, Bool.and_self] at hcc
        exact Tr.run_vc hv hcc rfl rfl
    · cases hp
  · cases hp
end
end Go.Proofs.YtnmgdcggfjnmeaaGreatDoor.Ev

/- The law TopSaved, as evaluated. No condition. -/
namespace Go.Proofs.YtnmgdcggfjnmeaaGreatDoor.Ev
open Go Go.RowKit Go.Proofs Go.Proofs.YtnmgdcggfjnmeaaGreatDoor.Str
set_option linter.unusedVariables false
set_option linter.unusedSimpArgs false
/-- what nset.Write says -/
def svE (n : Nat) : Int := bif Nat.blt 0 n && Nat.ble n 1024 then 0 else 1
def svS (n : Nat) (l : List Sp) : ByteArray := bif Nat.blt 0 n && Nat.ble n 1024 then bs (writeS l) else ⟨#[]⟩
def writeV : List PV → Tr PV
  | [.gsl 2 n f] => .br (areSps n f && Nat.ble n 4294967280) (.leaf (.tup [str (svS n (spsOf n f)), int (svE n)])) .fail
  | _ => .fail
/-- .. and nset.Parse -/
def prL (s : List UInt8) : List Sp := bif areS s && Nat.ble (spansS s).length 1024 then spansS s else []
def prE (s : List UInt8) : Int := bif areS s then bif Nat.ble (spansS s).length 1024 then 0 else 15 else 7
def parseV : List PV → Tr PV
  | [.lit (.string s)] => .br (okS s) (.leaf (.tup [.gsl 2 (prL (ls s)).length (sRow (prL (ls s))), int (prE (ls s))])) .fail
  | _ => .fail
section
variable {m : Int} {t : TypeId} {fr : Nat × Nat}
theorem writeV_ok : PureOK Tryz.prog (GG m t fr) 5 writeV := by
  refine PureOK.of write_ok fun ps p hp => ?_
  unfold writeV at hp
  split at hp
  · rename_i n f
    obtain ⟨hc, hq⟩ := br_run hp
    clear hp
    simp only [Tr.run, Option.some.injEq] at hq
    subst hq
    have e : wrG [.gsl 2 n f] = .br (areSps n f && Nat.ble n 4294967280) (.br (Nat.blt 0 n && Nat.ble n 1024) (.leaf (.tup [str (bs (writeS (spsOf n f))), int 0])) (.leaf (.tup [str ⟨#[]⟩, int 1]))) .fail := rfl
    rw [e]
    simp only [Tr.run, hc, cond_true, svS, svE]
    cases hb : Nat.blt 0 n && Nat.ble n 1024
    · exact ⟨_, rfl, PLe.of_eq rfl⟩
    · exact ⟨_, rfl, PLe.of_eq rfl⟩
  · cases hp
theorem parseV_ok : PureOK Tryz.prog (GG m t fr) 12 parseV := by
  refine PureOK.of parse_ok fun ps p hp => ?_
  unfold parseV at hp
  split at hp
  · rename_i s
    obtain ⟨hc, hq⟩ := br_run hp
    clear hp
    simp only [Tr.run, Option.some.injEq] at hq
    subst hq
    have e : parseG [.lit (.string s)] = .br (okS s) (.br (areS (ls s)) (.br (Nat.ble (spansS (ls s)).length 1024) (.leaf (.tup [.gsl 2 (spansS (ls s)).length (sRow (spansS (ls s))), int 0])) (.leaf (.tup [.lit (.slice none 0 0), int 15])))
      (.leaf (.tup [.lit (.slice none 0 0), int 7]))) .fail := rfl
    rw [e]
    simp only [Tr.run, hc, cond_true, prL, prE]
    cases h1 : areS (ls s) with
    | false => exact ⟨_, rfl, PLe.tup (.cons (PLe.nil 2 _) (.refl _))⟩
    | true =>
      cases h2 : Nat.ble (spansS (ls s)).length 1024 with
      | false => exact ⟨_, rfl, PLe.tup (.cons (PLe.nil 2 _) (.refl _))⟩
      | true => exact ⟨_, rfl, PLe.of_eq rfl⟩
  · cases hp
def diPure : List (Nat × (List PV → Tr PV)) := (5, writeV) :: (12, parseV) :: (6, makeG) :: (7, createG) :: (8, appendG) :: (9, syncG) :: (10, crashG) :: (11, readG) :: wrPure
theorem diPure_ok {m : Int} {t : TypeId} {fr : Nat × Nat} : TabOK Tryz.prog (GG m t fr) diPure := (TabOK.cons writeV_ok (fn := Tryz.f5) (by kernel_rfl) (by kernel_rfl) (TabOK.cons parseV_ok (fn := Tryz.f12) (by kernel_rfl) (by kernel_rfl) (TabOK.cons make_ok (fn := Tryz.f6) (by kernel_rfl) (by kernel_rfl) (TabOK.cons create_ok (fn := Tryz.f7) (by kernel_rfl) (by kernel_rfl) (TabOK.cons append_ok (fn := Tryz.f8) (by kernel_rfl) (by kernel_rfl) (TabOK.cons sync_ok (fn := Tryz.f9) (by kernel_rfl) (by kernel_rfl) (TabOK.cons crash_ok (fn := Tryz.f10) (by kernel_rfl) (by kernel_rfl) (TabOK.cons read_ok (fn := Tryz.f11) (by kernel_rfl) (by kernel_rfl) wrPure_ok))))))))
noncomputable abbrev EI (G : GT) : Env := envOf Tryz.prog G diPure nbFull
theorem EI_ok : (EI (GG m t fr)).ok Tryz.prog (GG m t fr) := envOf_ok mixed diPure_ok nbFull_ok
theorem sav_raw_v (m : Int) (t : TypeId) (fr : Nat × Nat) (n k : Nat) (f g : Nat → List PV) (more : ByteArray) (most x : Int) : ((fnPure Tryz.prog (EI (GG m t fr)) 60 Tryz.f3 (GG m t fr) [.gsl 2 n f, str more, .gsl 1 k g, .lit (.int .u32 most), .lit (.int .u32 x)])).val =
 (bif (bne (svE n) (0 : Int)) then
 (.some (.lit (.bool ((ByteArray.toList (svS n (spsOf n f))) == (ByteArray.toList (.mk (List.toArray [])))))))
 else bif (bne (putE (.mk (List.toArray [])) (svS n (spsOf n f))) (0 : Int)) then
 (.some (.lit (.bool (decide ((((List.length (ls (svS n (spsOf n f)))) : Nat) : Int) > (1048576 : Int))))))
 else bif (decide ((((List.length (ls (cutTo (putS (putS (.mk (List.toArray [])) (svS n (spsOf n f))) more) (zS k (List.getD (isOf k g) 0 (0 : Int)) (putS (putS (.mk (List.toArray [])) (svS n (spsOf n f))) more) (sizeI (putS (.mk (List.toArray [])) (svS n (spsOf n f)))))))) : Nat) : Int) < (((List.length (ls (svS n (spsOf n f)))) : Nat) : Int))) then
 (.some (.lit (.bool false)))
 else bif ((prE (ls (ByteArray.extract (cutTo (putS (putS (.mk (List.toArray [])) (svS n (spsOf n f))) more) (zS k (List.getD (isOf k g) 0 (0 : Int)) (putS (putS (.mk (List.toArray [])) (svS n (spsOf n f))) more) (sizeI (putS (.mk (List.toArray [])) (svS n (spsOf n f)))))) 0 (Int.toNat (((List.length (ls (svS n (spsOf n f)))) : Nat) : Int))))) == (0 : Int)) then
 (.some (.lit (.bool ((hasS most x (spsOf (List.length (prL (ls (ByteArray.extract (cutTo (putS (putS (.mk (List.toArray [])) (svS n (spsOf n f))) more) (zS k (List.getD (isOf k g) 0 (0 : Int)) (putS (putS (.mk (List.toArray [])) (svS n (spsOf n f))) more) (sizeI (putS (.mk (List.toArray [])) (svS n (spsOf n f)))))) 0 (Int.toNat (((List.length (ls (svS n (spsOf n f)))) : Nat) : Int)))))) (sRow (prL (ls (ByteArray.extract (cutTo (putS (putS (.mk (List.toArray [])) (svS n (spsOf n f))) more) (zS k (List.getD (isOf k g) 0 (0 : Int)) (putS (putS (.mk (List.toArray [])) (svS n (spsOf n f))) more) (sizeI (putS (.mk (List.toArray [])) (svS n (spsOf n f)))))) 0 (Int.toNat (((List.length (ls (svS n (spsOf n f)))) : Nat) : Int)))))))) == (hasS most x (spsOf n f))))))
 else (.some (.lit (.bool false))) : Option PV) := by
  kernel_rfl
theorem sav_raw_c (m : Int) (t : TypeId) (fr : Nat × Nat) (n k : Nat) (f g : Nat → List PV) (more : ByteArray) (most x : Int) : ((fnPure Tryz.prog (EI (GG m t fr)) 60 Tryz.f3 (GG m t fr) [.gsl 2 n f, str more, .gsl 1 k g, .lit (.int .u32 most), .lit (.int .u32 x)])).conds =
 (bif ((areSps n f) && (Nat.ble n (4294967280 : Nat))) then
 bif (bne (svE n) (0 : Int)) then
 true
 else bif (okS (svS n (spsOf n f))) then
 bif (okS (svS n (spsOf n f))) then
 bif (dOk (putS (.mk (List.toArray [])) (svS n (spsOf n f))) (0 : Int)) then
 bif (dOk (putS (.mk (List.toArray [])) (svS n (spsOf n f))) (0 : Int)) then
 bif (bne (putE (.mk (List.toArray [])) (svS n (spsOf n f))) (0 : Int)) then
 true
 else bif ((dOk (putS (.mk (List.toArray [])) (svS n (spsOf n f))) (sizeI (putS (.mk (List.toArray [])) (svS n (spsOf n f))))) && (okS more)) then
 bif ((dOk (putS (.mk (List.toArray [])) (svS n (spsOf n f))) (sizeI (putS (.mk (List.toArray [])) (svS n (spsOf n f))))) && (okS more)) then
 bif ((dOk (putS (putS (.mk (List.toArray [])) (svS n (spsOf n f))) more) (sizeI (putS (.mk (List.toArray [])) (svS n (spsOf n f))))) && (areIs k g)) then
 bif ((dOk (putS (putS (.mk (List.toArray [])) (svS n (spsOf n f))) more) (sizeI (putS (.mk (List.toArray [])) (svS n (spsOf n f))))) && (areIs k g)) then
 bif (dOk (cutTo (putS (putS (.mk (List.toArray [])) (svS n (spsOf n f))) more) (zS k (List.getD (isOf k g) 0 (0 : Int)) (putS (putS (.mk (List.toArray [])) (svS n (spsOf n f))) more) (sizeI (putS (.mk (List.toArray [])) (svS n (spsOf n f)))))) (zS k (List.getD (isOf k g) 0 (0 : Int)) (putS (putS (.mk (List.toArray [])) (svS n (spsOf n f))) more) (sizeI (putS (.mk (List.toArray [])) (svS n (spsOf n f)))))) then
 bif (decide ((((List.length (ls (cutTo (putS (putS (.mk (List.toArray [])) (svS n (spsOf n f))) more) (zS k (List.getD (isOf k g) 0 (0 : Int)) (putS (putS (.mk (List.toArray [])) (svS n (spsOf n f))) more) (sizeI (putS (.mk (List.toArray [])) (svS n (spsOf n f)))))))) : Nat) : Int) < (((List.length (ls (svS n (spsOf n f)))) : Nat) : Int))) then
 true
 else bif ((decide ((0 : Int) ≤ (((List.length (ls (svS n (spsOf n f)))) : Nat) : Int))) && (decide ((((List.length (ls (svS n (spsOf n f)))) : Nat) : Int) ≤ (((List.length (ls (cutTo (putS (putS (.mk (List.toArray [])) (svS n (spsOf n f))) more) (zS k (List.getD (isOf k g) 0 (0 : Int)) (putS (putS (.mk (List.toArray [])) (svS n (spsOf n f))) more) (sizeI (putS (.mk (List.toArray [])) (svS n (spsOf n f)))))))) : Nat) : Int)))) then
 bif (okS (ByteArray.extract (cutTo (putS (putS (.mk (List.toArray [])) (svS n (spsOf n f))) more) (zS k (List.getD (isOf k g) 0 (0 : Int)) (putS (putS (.mk (List.toArray [])) (svS n (spsOf n f))) more) (sizeI (putS (.mk (List.toArray [])) (svS n (spsOf n f)))))) 0 (Int.toNat (((List.length (ls (svS n (spsOf n f)))) : Nat) : Int)))) then
 bif (okS (ByteArray.extract (cutTo (putS (putS (.mk (List.toArray [])) (svS n (spsOf n f))) more) (zS k (List.getD (isOf k g) 0 (0 : Int)) (putS (putS (.mk (List.toArray [])) (svS n (spsOf n f))) more) (sizeI (putS (.mk (List.toArray [])) (svS n (spsOf n f)))))) 0 (Int.toNat (((List.length (ls (svS n (spsOf n f)))) : Nat) : Int)))) then
 bif ((prE (ls (ByteArray.extract (cutTo (putS (putS (.mk (List.toArray [])) (svS n (spsOf n f))) more) (zS k (List.getD (isOf k g) 0 (0 : Int)) (putS (putS (.mk (List.toArray [])) (svS n (spsOf n f))) more) (sizeI (putS (.mk (List.toArray [])) (svS n (spsOf n f)))))) 0 (Int.toNat (((List.length (ls (svS n (spsOf n f)))) : Nat) : Int))))) == (0 : Int)) then
 bif (((areSps (List.length (prL (ls (ByteArray.extract (cutTo (putS (putS (.mk (List.toArray [])) (svS n (spsOf n f))) more) (zS k (List.getD (isOf k g) 0 (0 : Int)) (putS (putS (.mk (List.toArray [])) (svS n (spsOf n f))) more) (sizeI (putS (.mk (List.toArray [])) (svS n (spsOf n f)))))) 0 (Int.toNat (((List.length (ls (svS n (spsOf n f)))) : Nat) : Int)))))) (sRow (prL (ls (ByteArray.extract (cutTo (putS (putS (.mk (List.toArray [])) (svS n (spsOf n f))) more) (zS k (List.getD (isOf k g) 0 (0 : Int)) (putS (putS (.mk (List.toArray [])) (svS n (spsOf n f))) more) (sizeI (putS (.mk (List.toArray [])) (svS n (spsOf n f)))))) 0 (Int.toNat (((List.length (ls (svS n (spsOf n f)))) : Nat) : Int))))))) && (Nat.ble (List.length (prL (ls (ByteArray.extract (cutTo (putS (putS (.mk (List.toArray [])) (svS n (spsOf n f))) more) (zS k (List.getD (isOf k g) 0 (0 : Int)) (putS (putS (.mk (List.toArray [])) (svS n (spsOf n f))) more) (sizeI (putS (.mk (List.toArray [])) (svS n (spsOf n f)))))) 0 (Int.toNat (((List.length (ls (svS n (spsOf n f)))) : Nat) : Int)))))) (4294967280 : Nat))) && (u32N most)) then
 bif (((areSps n f) && (Nat.ble n (4294967280 : Nat))) && (u32N most)) then
 true
 else false
 else false
 else true
 else false
 else false
 else false
 else false
 else false
 else false
 else false
 else false
 else false
 else false
 else false
 else false
 else false : Bool) := by
  kernel_rfl
end
end Go.Proofs.YtnmgdcggfjnmeaaGreatDoor.Ev

/- TopSaved: what is synced is read behind a crash. No condition. -/
namespace Go.Proofs.YtnmgdcggfjnmeaaGreatDoor.Ev
open Go Go.RowKit Go.Proofs Go.Proofs.YtnmgdcggfjnmeaaGreatDoor.Str
set_option linter.unusedVariables false
set_option linter.unusedSimpArgs false
theorem put_none (s : ByteArray) (h : s.size ≤ 1048576) : putS (.mk (List.toArray [])) s = s ∧ putE (.mk (List.toArray [])) s = 0 := by
  have hf : fitsB (.mk (List.toArray [])) s = true := by
    unfold fitsB
    refine decide_eq_true ?_
    show 0 + s.size ≤ 1048576
    omega
  unfold putS putE
  rw [hf]
  refine ⟨ls_inj ?_, rfl⟩
  rw [cond_true, ls_app]
  rfl
/-- what was there first is there -/
theorem put_first (x s : ByteArray) (hx : x.size ≤ 1048576) : ∃ r, ls (putS x s) = ls x ++ r ∧ (putS x s).size ≤ 1048576 ∧ x.size ≤ (putS x s).size := by
  unfold putS
  cases h : fitsB x s with
  | false => exact ⟨[], by simp, hx, Nat.le_refl _⟩
  | true =>
    unfold fitsB at h
    have h := of_decide_eq_true h
    have e : (x ++ s).size = x.size + s.size := by rw [← ls_len, ls_app, List.length_append, ls_len, ls_len]
    refine ⟨ls s, by rw [cond_true, ls_app], ?_, ?_⟩
    · rw [cond_true]; omega
    · rw [cond_true]; omega
section
variable {m : Int} {t : TypeId} {fr : Nat × Nat}
def savG : List PV → Tr PV
  | [.gsl 2 n f, .lit (.string more), .gsl 1 k g, .lit (.int .u32 most), .lit (.int .u32 x)] => .br (areSps n f && Nat.ble n 4294967280 && u32N most && areIs k g && okS more) (.leaf (bool true)) .fail
  | _ => .fail
theorem sav_ok : PureOK Tryz.prog (GG m t fr) 3 savG := by
  refine PureOK.of (fn_pure mixed EI_ok (envOf_cuts ..) (fn := Tryz.f3) (by kernel_rfl)) fun ps p hp => ?_
  unfold savG at hp
  split at hp
  · rename_i n f more k g most x
    obtain ⟨hc, hq⟩ := br_run hp
    clear hp
    simp only [Bool.and_eq_true] at hc
    obtain ⟨⟨⟨⟨hf, hn⟩, hm⟩, hk⟩, hmo⟩ := hc
    simp only [Tr.run, Option.some.injEq] at hq
    subst hq
    have hv := sav_raw_v m t fr n k f g more most x
    have hcc := sav_raw_c m t fr n k f g more most x
    have hL : (spsOf n f).length = n := sps_len n f
    have hU := sps_u32 hf
    generalize hl : spsOf n f = l at hv hcc hL hU
    cases hw : Nat.blt 0 n && Nat.ble n 1024 with
    | false =>
      have e1 : svE n = 1 := by unfold svE; rw [hw]; rfl
      have e2 : svS n l = ⟨#[]⟩ := by unfold svS; rw [hw]; rfl
      rw [e1, e2] at hv hcc
      have hb : bne (1 : Int) 0 = true := rfl
      simp only [hb, cond_true] at hv
      simp only [hb, hf, hn, Bool.and_self, cond_true] at hcc
      exact ⟨_, Tr.run_vc hv hcc rfl rfl, PLe.of_eq (by kernel_rfl)⟩
    | true =>
      have e1 : svE n = 0 := by unfold svE; rw [hw]; rfl
      have e2 : svS n l = bs (writeS l) := by unfold svS; rw [hw]; rfl
      simp only [Bool.and_eq_true, Nat.blt_eq, Nat.ble_eq] at hw
      have hwl := writeS_len hU
      rw [hL] at hwl
      generalize hs : bs (writeS l) = s at e2
      have hsz : s.size ≤ 22528 := by rw [← hs, bs_len]; omega
      have hlsz : ls s = writeS l := by rw [← hs, ls_bs]
      obtain ⟨p1, p2⟩ := put_none s (by omega)
      rw [e1, e2, p1, p2] at hv hcc
      obtain ⟨r, d1, d2, d3⟩ := put_first s more (by omega)
      generalize hD : putS s more = D at hv hcc d1 d2 d3
      have ok0 : dOk s 0 = true := by unfold dOk; simp; omega
      have ok1 : dOk s (sizeI s) = true := by unfold dOk sizeI; simp; omega
      have ok2 : dOk D (sizeI s) = true := by unfold dOk sizeI; simp; omega
      obtain ⟨z1, z2⟩ := zS_at (n := k) (k := (isOf k g).getD 0 0) ok2
      generalize hz : zS k ((isOf k g).getD 0 0) D (sizeI s) = z at hv hcc z1 z2
      have z0 : (s.size : Int) ≤ z := z1
      have tl : ls (cutTo D z) = (ls D).take z.toNat := by
        unfold cutTo
        rw [ls_ext, List.drop_zero]
      have tn : (cutTo D z).size = z.toNat := by
        rw [← ls_len, tl, List.length_take, ls_len]
        omega
      have ok3 : dOk (cutTo D z) z = true := by unfold dOk; rw [tn]; simp; omega
      have te : (cutTo D z).extract 0 s.size = s := by
        refine ls_inj ?_
        rw [ls_ext, List.drop_zero, tl, List.take_take, d1, List.take_append_of_le_length (by rw [ls_len]; omega), List.take_of_length_le (by rw [ls_len]; omega)]
      have hlt : decide ((((ls (cutTo D z)).length : Nat) : Int) < (((ls s).length : Nat) : Int)) = false := by
        rw [ls_len, ls_len, tn]
        exact decide_eq_false (by omega)
      have hle : (decide ((0 : Int) ≤ (((ls s).length : Nat) : Int)) && decide ((((ls s).length : Nat) : Int) ≤ (((ls (cutTo D z)).length : Nat) : Int))) = true := by
        rw [ls_len, ls_len, tn, Bool.and_eq_true]
        exact ⟨decide_eq_true (by omega), decide_eq_true (by omega)⟩
      have hne : l ≠ [] := fun e => by rw [e] at hL; simp at hL; omega
      obtain ⟨g1, g2⟩ := spans_fwd hU hne
      have q1 : prE (ls s) = 0 := by
        unfold prE
        rw [hlsz, g1, g2, hL, Nat.ble_eq_true_of_le hw.2]
        rfl
      have q2 : prL (ls s) = l := by
        unfold prL
        rw [hlsz, g1, g2, hL, Nat.ble_eq_true_of_le hw.2]
        rfl
      have hos : okS s = true := okS_of (by omega)
      have hb : bne (0 : Int) 0 = false := rfl
      have hbt : ((0 : Int) == 0) = true := rfl
      have hlen : Int.toNat (((ls s).length : Nat) : Int) = s.size := by rw [ls_len]; rfl
      rw [hlen, te, q1, q2] at hv hcc
      have hsp : spsOf l.length (sRow l) = l := sps_sRow l
      have har : areSps l.length (sRow l) = true := are_sRow hU
      have hln : Nat.ble l.length 4294967280 = true := by rw [hL]; exact hn
      simp only [hb, hbt, hlt, hsp, cond_true, cond_false, beq_self_eq_true] at hv
      simp only [hb, hbt, hlt, hle, hf, hn, hm, hk, hmo, hos, ok0, ok1, ok2, ok3, har, hln, Bool.and_self, cond_true, cond_false] at hcc
      exact ⟨_, Tr.run_vc hv hcc rfl rfl, PLe.of_eq rfl⟩
  · cases hp
def savSh : List ASh := [.one (.sl [.int .u32, .int .u32]), .one (.sc .str), .one (.sl [.int .i64]), .one (.sc (.int .u32)), .one (.sc (.int .u32))]
theorem int_row {q : List PV} (h : areSc [.int .i64] q = true) : isI q = true := by
  obtain ⟨v, r, rfl, h1, h2⟩ := sc_cons h
  obtain rfl := sc_nil h2
  obtain ⟨k, rfl, _⟩ := sc_int h1
  rfl
theorem sav_args {qs : List PV} (ha : areArgs savSh qs = true) (hb : argsBulk qs ≤ 1048576) : (savG qs).run = some (bool true) := by
  obtain ⟨q0, r0, rfl, h0, hr0⟩ := args_cons ha
  obtain ⟨q1, r1, rfl, h1, hr1⟩ := args_cons hr0
  obtain ⟨q2, r2, rfl, h2, hr2⟩ := args_cons hr1
  obtain ⟨q3, r3, rfl, h3, hr3⟩ := args_cons hr2
  obtain ⟨q4, r4, rfl, h4, hr4⟩ := args_cons hr3
  obtain rfl := args_nil hr4
  obtain ⟨n, f, rfl, hf⟩ := ak_sl h0
  obtain ⟨v1, rfl, hv1⟩ := ak_sc h1
  obtain ⟨more, rfl⟩ := sc_str hv1
  obtain ⟨k, g, rfl, hg⟩ := ak_sl h2
  obtain ⟨v, rfl, hv⟩ := ak_sc h3
  obtain ⟨most, rfl, hm⟩ := u32_given hv
  obtain ⟨v', rfl, hv'⟩ := ak_sc h4
  obtain ⟨x, rfl, hx⟩ := u32_given hv'
  have hb' : (((List.range n).map fun i => scsBulk (f i)).sum + 1) + ((more.size + 1) + ((((List.range k).map fun i => scsBulk (g i)).sum + 1) + (1 + (1 + 0)))) ≤ 1048576 := hb
  obtain ⟨o1, o2⟩ := sps_given hf (by omega)
  have o3 : areIs k g = true := List.all_eq_true.2 fun i hi => int_row (hg i (List.mem_range.1 hi))
  have o5 : Nat.ble n 4294967280 = true := Nat.ble_eq_true_of_le (by omega)
  have o6 : okS more = true := okS_of (by omega)
  show (savG [.gsl 2 n f, .lit (.string more), .gsl 1 k g, .lit (.int .u32 most), .lit (.int .u32 x)]).run = some (bool true)
  simp [savG, Tr.run, o1, o3, o5, o6, hm]
end
end Go.Proofs.YtnmgdcggfjnmeaaGreatDoor.Ev

/- saved: what the variables hold, from what the rows list. Condition: the rows' own. -/
namespace Go.Proofs.YtnmgdcggfjnmeaaGreatDoor.Ev
open Go Go.RowKit Go.Proofs Go.ChangeShapes Go.WideShapes Go.ChangeAt
theorem starX : "*" ++ "errors.errorString" = "*errors.errorString" := by decide
theorem rowErr (u : TypeId) (h : Tryz.prog.typeName? 3 u = some "*errors.errorString") : u = 147 :=
  typeName_ptr_named (P := Tryz.prog) (nm := "errors.errorString") (by rw [starX]; kernel_rfl) (by kernel_rfl) (by decide) u (by rw [starX]; exact h)
theorem globsW {W : World} (hS : W.ShapedOpen Tryz.prog) (hL : laidMetH Tryz.prog Rows.topSavedUptoRow.laid W) : ∃ m t fr, Globs (GG m t fr) (Held W) ∧ Objs (GG m t fr) W := by
  have hL2 := laid_plain (l := Rows.topSavedUptoRow.laid) (by kernel_rfl) hL
  have hd : Rows.laid_internal_strconv_uint64pow10 = Lib.tabData (H := Unit) .u64 Lib.pow10Tab := by kernel_rfl
  have hT := tab_of_reads (g := 1) (t := 131) (e := 42) (n := 20) (by kernel_rfl) (by kernel_rfl) Tryz.underlying131 Tryz.underlying42 (by kernel_rfl) (by kernel_rfl) (hd ▸ Lib.laidMet.reads hL2 (.tail _ (.tail _ (.head _))))
  obtain ⟨m, hm⟩ := cell_of_shapedOpen_int (g := 0) (t := 3) (zero := #[.int .i64 0]) (k := .i64) hS (of_decide_eq_true (by kernel_rfl)) (by kernel_rfl) rfl (by kernel_rfl) (by kernel_rfl) Tryz.underlying3
  obtain ⟨a0, s0, hv0, -, -, -⟩ := laid_sentinel (hL2.tail.tail.tail.tail) (g := 5) (ti := 86) (tp := 147) (te := 149) (ts := 9) (by kernel_rfl) (by kernel_rfl) Tryz.underlying86 rowErr Tryz.underlying147 Tryz.underlying149 rfl rfl Tryz.underlying9 (by kernel_rfl) (by kernel_rfl)
  obtain ⟨a1, s1, hv1, -, -, -⟩ := laid_sentinel (hL2.tail.tail.tail.tail.tail) (g := 4) (ti := 86) (tp := 147) (te := 149) (ts := 9) (by kernel_rfl) (by kernel_rfl) Tryz.underlying86 rowErr Tryz.underlying147 Tryz.underlying149 rfl rfl Tryz.underlying9 (by kernel_rfl) (by kernel_rfl)
  have hc0 : Held W 5 0 (.iface 147 (.pointer (some a0))) := by
    have h0 := World.var?_cell (g := 5) (by kernel_rfl) hv0 0
    unfold Held
    simpa using h0
  have hc1 : Held W 4 0 (.iface 147 (.pointer (some a1))) := by
    have h0 := World.var?_cell (g := 4) (by kernel_rfl) hv1 0
    unfold Held
    simpa using h0
  have hob : ∃ t fr, W.heap[1]? = some (.cells ((Lib.pow10Tab.map fun z => Value.int .u64 z).toArray) t fr) := by
    unfold Lib.TabIs World.var? at hT
    have hg : Tryz.prog.globalNamed "internal/strconv.uint64pow10" = some 1 := by kernel_rfl
    rw [hg] at hT
    simp only [Option.bind_some] at hT
    split at hT
    · rename_i cs t fr hh
      simp only [Option.some.injEq] at hT
      subst hT
      exact ⟨t, fr, hh⟩
    · cases hT
  obtain ⟨t, fr, ho⟩ := hob
  refine ⟨m, t, fr, fun g cs hg => ?_, fun g o hg => ?_⟩
  · unfold GG at hg
    dsimp only at hg
    split at hg
    · rename_i he
      obtain rfl := Nat.eq_of_beq_eq_true he
      cases hg
      exact gptr1 hm rfl (.lit _ _)
    · split at hg
      · rename_i he
        cases hg
        simp only [Bool.or_eq_true] at he
        rcases he with he | he
        · obtain rfl := Nat.eq_of_beq_eq_true he
          exact gptr1 hc1 rfl (.iface _ _ _ _ (.junk _ _))
        · obtain rfl := Nat.eq_of_beq_eq_true he
          exact gptr1 hc0 rfl (.iface _ _ _ _ (.junk _ _))
      · cases hg
  · unfold GG at hg
    dsimp only at hg
    split at hg
    · rename_i he
      obtain rfl := Nat.eq_of_beq_eq_true he
      cases hg
      exact ho
    · cases hg
end Go.Proofs.YtnmgdcggfjnmeaaGreatDoor.Ev
