/- JTallyTells19: several texts in one. Condition: each part's own. -/
import Derived.Test.YtcdghinmmhcfcaaGreatDoorJTallyTells18
import Derived.Test.YtcdghinmmhcfcaaGreatDoorJTallyTells14
/- The document's words of a tally are the program's. No condition. -/
namespace Go.Proofs.YtcdghinmmhcfcaaGreatDoor.Ev
open Go Go.RowKit Go.Proofs Go.Proofs.YtcdghinmmhcfcaaGreatDoor.Str Go.Proofs.YtcdghinmmhcfcaaGreatDoor.Sm
set_option linter.unusedVariables false
set_option linter.unusedSimpArgs false
theorem low_fin : ∀ k : Fin 256, (((lowC (UInt8.ofNat k.val)).toNat : Nat) : Int) = lowI (UInt8.ofNat k.val) := by decide +kernel
theorem low_eq (c : UInt8) : (((lowC c).toNat : Nat) : Int) = lowI c := by
  have := low_fin ⟨c.toNat, c.toNat_lt⟩
  simpa using this
theorem low_inj : ∀ (a b : List UInt8), (a.map lowC = b.map lowC) ↔ lowL a = lowL b
  | [], [] => by simp [lowL]
  | [], y :: b => by simp [lowL]
  | x :: a, [] => by simp [lowL]
  | x :: a, y :: b => by
    have h := low_inj a b
    unfold lowL at h ⊢
    rw [List.map_cons, List.map_cons, List.map_cons, List.map_cons, List.cons.injEq, List.cons.injEq, h, ← low_eq, ← low_eq]
    refine and_congr_left fun _ => ?_
    constructor
    · intro e; rw [e]
    · intro e
      exact UInt8.toNat_inj.1 (by omega)
section
variable {m : Int} {t : TypeId} {fr : Nat × Nat}
def small3G : List PV → Tr PV
  | [.lit (.string s)] => .br (okS s) (.leaf (str (bs ((ls s).map lowC)))) .fail
  | _ => .fail
theorem small3_ok : PureOK Tryz.prog (GG m t fr) 69 small3G := by
  intro ps p hp
  unfold small3G at hp
  split at hp
  · rename_i s
    obtain ⟨hs, hp⟩ := br_run hp
    simp only [Tr.run, Option.some.injEq] at hp
    subst hp
    refine PureAt.lits (vs := [.string s]) fun w C hK hG hO => ?_
    have hl := ls_len s
    have h := small_walk (ls s) (by have := okS_le hs; omega) w
    have e : (⟨(ls s).toArray⟩ : ByteArray) = s := bs_ls s
    rw [e] at h
    refine h.mono ?_
    rintro e w' ⟨rfl, hb⟩
    exact ⟨Keeps.of_below hb fun _ h => h, .lit _ _⟩
  · cases hp
def smPure : List (Nat × (List PV → Tr PV)) := (69, small3G) :: libPure
theorem smPure_ok {m : Int} {t : TypeId} {fr : Nat × Nat} : TabOK Tryz.prog (GG m t fr) smPure := (TabOK.cons small3_ok (fn := Tryz.f69) (by kernel_rfl) (by kernel_rfl) libPure_ok)
noncomputable abbrev Esm (G : GT) : Env := envOf Tryz.prog G smPure libFull
theorem Esm_ok : (Esm (GG m t fr)).ok Tryz.prog (GG m t fr) := envOf_ok mixed smPure_ok libFull_ok
theorem like3_raw (m : Int) (t : TypeId) (fr : Nat × Nat) (a b : ByteArray) : (fnPure Tryz.prog (Esm (GG m t fr)) 60 Tryz.f41 (GG m t fr) [str a, str b]).run2 =
 ((.some ((.lit (.bool ((ByteArray.toList (bs (List.map (lowC) (ls a)))) == (ByteArray.toList (bs (List.map (lowC) (ls b))))))), [(okS b), (okS a)])) : Option (PV × List Bool)) := by
  kernel_rfl
theorem like3_ok : PureOK Tryz.prog (GG m t fr) 41 likeG := by
  refine PureOK.of (fn_pure mixed Esm_ok (envOf_cuts ..) (fn := Tryz.f41) (by kernel_rfl)) fun ps p hp => ?_
  unfold likeG at hp
  split at hp
  · rename_i a b
    obtain ⟨hs, hp⟩ := br_run hp
    simp only [Bool.and_eq_true] at hs
    simp only [Tr.run, Option.some.injEq] at hp
    subst hp
    have h := like3_raw m t fr a b
    rw [eqB, ls_bs, ls_bs, hs.1, hs.2, decide_eq_decide.2 (low_inj (ls a) (ls b))] at h
    exact ⟨_, Tr.run_of h rfl, PLe.of_eq rfl⟩
  · cases hp
def lkPure3 : List (Nat × (List PV → Tr PV)) := (41, likeG) :: smPure
theorem lkPure3_ok {m : Int} {t : TypeId} {fr : Nat × Nat} : TabOK Tryz.prog (GG m t fr) lkPure3 := (TabOK.cons like3_ok (fn := Tryz.f41) (by kernel_rfl) (by kernel_rfl) smPure_ok)
noncomputable abbrev Elk3 (G : GT) : Env := envOf Tryz.prog G lkPure3 libFull
theorem Elk3_ok : (Elk3 (GG m t fr)).ok Tryz.prog (GG m t fr) := envOf_ok mixed lkPure3_ok libFull_ok
theorem rword_raw_v (m : Int) (t : TypeId) (fr : Nat × Nat) (s : ByteArray) : ((fnPure Tryz.prog (Elk3 (GG m t fr)) 60 Tryz.f13 (GG m t fr) [str s])).val =
 (bif (decide ((lowL (ls s)) = (lowL [(77 : UInt8), (73 : UInt8), (78 : UInt8)]))) then
 (.some (.tup [(.lit (.int .u8 (1 : Int))), (.lit (.int .i64 (0 : Int)))]))
 else bif (decide ((lowL (ls s)) = (lowL [(77 : UInt8), (65 : UInt8), (88 : UInt8)]))) then
 (.some (.tup [(.lit (.int .u8 (2 : Int))), (.lit (.int .i64 (0 : Int)))]))
 else bif (decide ((lowL (ls s)) = (lowL [(65 : UInt8), (76 : UInt8), (76 : UInt8)]))) then
 (.some (.tup [(.lit (.int .u8 (4 : Int))), (.lit (.int .i64 (0 : Int)))]))
 else bif (decide ((lowL (ls s)) = (lowL [(67 : UInt8), (79 : UInt8), (85 : UInt8), (78 : UInt8), (84 : UInt8)]))) then
 (.some (.tup [(.lit (.int .u8 (8 : Int))), (.lit (.int .i64 (0 : Int)))]))
 else (.some (.tup [(.lit (.int .u8 (0 : Int))), (.lit (.int .i64 (7 : Int)))])) : Option PV) := by
  kernel_rfl
theorem rword_raw_c (m : Int) (t : TypeId) (fr : Nat × Nat) (s : ByteArray) : ((fnPure Tryz.prog (Elk3 (GG m t fr)) 60 Tryz.f13 (GG m t fr) [str s])).conds =
 (bif ((okS s) && true) then
 bif (decide ((lowL (ls s)) = (lowL [(77 : UInt8), (73 : UInt8), (78 : UInt8)]))) then
 true
 else bif ((okS s) && true) then
 bif (decide ((lowL (ls s)) = (lowL [(77 : UInt8), (65 : UInt8), (88 : UInt8)]))) then
 true
 else bif ((okS s) && true) then
 bif (decide ((lowL (ls s)) = (lowL [(65 : UInt8), (76 : UInt8), (76 : UInt8)]))) then
 true
 else bif ((okS s) && true) then
 bif (decide ((lowL (ls s)) = (lowL [(67 : UInt8), (79 : UInt8), (85 : UInt8), (78 : UInt8), (84 : UInt8)]))) then
 true
 else true
 else false
 else false
 else false
 else false : Bool) := by
  kernel_rfl
theorem rword_ok : PureOK Tryz.prog (GG m t fr) 13 twordG := by
  refine PureOK.of (fn_pure mixed Elk3_ok (envOf_cuts ..) (fn := Tryz.f13) (by kernel_rfl)) fun ps p hp => ?_
  unfold twordG at hp
  split at hp
  · rename_i s
    obtain ⟨hs, hp⟩ := br_run hp
    simp only [Tr.run, Option.some.injEq] at hp
    subst hp
    have hv := rword_raw_v m t fr s
    have hc := rword_raw_c m t fr s
    rw [hs] at hc
    unfold wdE wdV wMIN wMAX wALL wCOUNT
    cases a : decide (lowL (ls s) = lowL [77, 73, 78]) with
    | true =>
      rw [a] at hv hc
      exact ⟨_, Tr.run_vc hv hc rfl rfl, PLe.of_eq rfl⟩
    | false =>
      cases b : decide (lowL (ls s) = lowL [77, 65, 88]) with
      | true =>
        rw [a, b] at hv hc
        exact ⟨_, Tr.run_vc hv hc rfl rfl, PLe.of_eq rfl⟩
      | false =>
        cases c : decide (lowL (ls s) = lowL [65, 76, 76]) with
        | true =>
          rw [a, b, c] at hv hc
          exact ⟨_, Tr.run_vc hv hc rfl rfl, PLe.of_eq rfl⟩
        | false =>
          cases d : decide (lowL (ls s) = lowL [67, 79, 85, 78, 84]) with
          | true =>
            rw [a, b, c, d] at hv hc
            exact ⟨_, Tr.run_vc hv hc rfl rfl, PLe.of_eq rfl⟩
          | false =>
            rw [a, b, c, d] at hv hc
            exact ⟨_, Tr.run_vc hv hc rfl rfl, PLe.of_eq rfl⟩
  · cases hp
end
end Go.Proofs.YtcdghinmmhcfcaaGreatDoor.Ev

/- The document's digits, ends, spans and sets as texts. No condition. -/
namespace Go.Proofs.YtcdghinmmhcfcaaGreatDoor.Ev
open Go Go.RowKit Go.Proofs Go.Proofs.YtcdghinmmhcfcaaGreatDoor.Str
set_option linter.unusedVariables false
set_option linter.unusedSimpArgs false
section
variable {m : Int} {t : TypeId} {fr : Nat × Nat}
def byB (x : Int) : Bool := (decide (0 ≤ x) && decide (x < 256)) && true
/-- numbers below a bound have their digits -/
def digB (B : Int) : List PV → Tr PV
  | [.lit (.int .u64 n)] => .br (decide (0 ≤ n) && decide (n < B)) (.leaf (str (bs (Lib.decDigits n.toNat)))) .fail
  | _ => .fail
def tdPure (B : Int) : List (Nat × (List PV → Tr PV)) := (33, digB B) :: libPure
noncomputable abbrev Edg (B : Int) (G : GT) : Env := envOf Tryz.prog G (tdPure B) libFull
theorem dig_raw (m : Int) (t : TypeId) (fr : Nat × Nat) (B n : Int) : (fnPure Tryz.prog (Edg B (GG m t fr)) 60 Tryz.f33 (GG m t fr) [.lit (.int .u64 n)]).run2 =
 (bif (decide (n > (9 : Int))) then
 (.some ((.lit (.string ((bs (Lib.decDigits (Int.toNat (IntKind.wrap .u64 (Int.tdiv n (10 : Int)))))) ++ (.mk (List.toArray [(UInt8.ofNat (Int.toNat (IntKind.wrap .u8 (IntKind.wrap .u64 ((48 : Int) + (Int.tmod n (10 : Int)))))))]))))), [(Nat.ble ((List.length (Lib.decDigits (Int.toNat (IntKind.wrap .u64 (Int.tdiv n (10 : Int)))))) + (List.length (ls (.mk (List.toArray [(UInt8.ofNat (Int.toNat (IntKind.wrap .u8 (IntKind.wrap .u64 ((48 : Int) + (Int.tmod n (10 : Int)))))))]))))) (9223372036854775807 : Nat)), ((decide ((0 : Int) ≤ (IntKind.wrap .u64 (Int.tdiv n (10 : Int))))) && (decide ((IntKind.wrap .u64 (Int.tdiv n (10 : Int))) < B))), (byB (IntKind.wrap .u8 (IntKind.wrap .u64 ((48 : Int) + (Int.tmod n (10 : Int))))))]))
 else (.some ((.lit (.string (.mk (List.toArray [(UInt8.ofNat (Int.toNat (IntKind.wrap .u8 (IntKind.wrap .u64 ((48 : Int) + (Int.tmod n (10 : Int)))))))])))), [(byB (IntKind.wrap .u8 (IntKind.wrap .u64 ((48 : Int) + (Int.tmod n (10 : Int))))))])) : Option (PV × List Bool)) := by
  kernel_rfl
theorem dig_step {B C : Int} (hB : C ≤ 10 ∨ C ≤ 10 * B) (hC : C ≤ 18446744073709551616) (h : PureOK Tryz.prog (GG m t fr) 33 (digB B)) : PureOK Tryz.prog (GG m t fr) 33 (digB C) := by
  have hT : TabOK Tryz.prog (GG m t fr) (tdPure B) := TabOK.cons h (fn := Tryz.f33) (by kernel_rfl) (by kernel_rfl) libPure_ok
  have hE : (Edg B (GG m t fr)).ok Tryz.prog (GG m t fr) := envOf_ok mixed hT libFull_ok
  refine PureOK.of (fn_pure mixed hE (envOf_cuts ..) (fn := Tryz.f33) (by kernel_rfl)) fun ps p hp => ?_
  unfold digB at hp
  split at hp
  · rename_i n
    obtain ⟨hc, hp⟩ := br_run hp
    simp only [Bool.and_eq_true, decide_eq_true_eq] at hc
    obtain ⟨h0, h1⟩ := hc
    simp only [Tr.run, Option.some.injEq] at hp
    subst hp
    have h := dig_raw m t fr B n
    obtain ⟨k, rfl⟩ : ∃ k : Nat, n = (k : Int) := ⟨n.toNat, by omega⟩
    have e1 : Int.tmod ((k : Nat) : Int) 10 = ((k % 10 : Nat) : Int) := by
      rw [Int.tmod_eq_emod_of_nonneg (by omega)]; rfl
    have e2 : Int.tdiv ((k : Nat) : Int) 10 = ((k / 10 : Nat) : Int) := by
      rw [Int.tdiv_eq_ediv_of_nonneg (by omega)]; rfl
    have w1 : IntKind.u64.wrap (48 + ((k % 10 : Nat) : Int)) = ((48 + k % 10 : Nat) : Int) := by
      have : (48 + ((k % 10 : Nat) : Int)) = ((48 + k % 10 : Nat) : Int) := by omega
      rw [this]
      simp only [IntKind.wrap, IntKind.signed, IntKind.bits]
      simp
      omega
    have w2 : IntKind.u8.wrap ((48 + k % 10 : Nat) : Int) = ((48 + k % 10 : Nat) : Int) := by
      simp only [IntKind.wrap, IntKind.signed, IntKind.bits]
      simp
      omega
    have w3 : IntKind.u64.wrap ((k / 10 : Nat) : Int) = ((k / 10 : Nat) : Int) := by
      simp only [IntKind.wrap, IntKind.signed, IntKind.bits]
      simp
      omega
    have b1 : byB ((48 + k % 10 : Nat) : Int) = true := by
      unfold byB
      rw [decide_eq_true (by omega), decide_eq_true (by omega)]
      rfl
    rw [e1, e2, w1, w2, w3, b1, Int.toNat_natCast, Int.toNat_natCast] at h
    rw [Int.toNat_natCast]
    by_cases hk : k < 10
    · rw [decide_eq_false (show ¬ ((k : Nat) : Int) > 9 by omega)] at h
      refine ⟨_, Tr.run_of h rfl, PLe.of_eq ?_⟩
      rw [Lib.decDigits_one hk, show k % 10 = k from Nat.mod_eq_of_lt hk]
      rfl
    · have hl : ∀ j : Nat, (j : Int) < 18446744073709551616 → (Lib.decDigits j).length ≤ 1000 := fun j hj => Nat.le_trans (dec_len 20 j (by omega)) (by omega)
      rw [decide_eq_true (show ((k : Nat) : Int) > 9 by omega), decide_eq_true (show (0 : Int) ≤ ((k / 10 : Nat) : Int) by omega), decide_eq_true (show ((k / 10 : Nat) : Int) < B by omega)] at h
      have hb : Nat.ble ((Lib.decDigits (k / 10)).length + (ls ⟨#[UInt8.ofNat (48 + k % 10)]⟩).length) 9223372036854775807 = true := by
        refine Nat.ble_eq_true_of_le ?_
        have := hl (k / 10) (by omega)
        have e : (ls ⟨#[UInt8.ofNat (48 + k % 10)]⟩).length = 1 := rfl
        omega
      rw [hb] at h
      refine ⟨_, Tr.run_of h rfl, PLe.of_eq ?_⟩
      have : Lib.decDigits k = Lib.decDigits (k / 10) ++ [UInt8.ofNat (48 + k % 10)] := by rw [Lib.decDigits, dif_neg hk]
      rw [this]
      exact congrArg (fun z => PV.lit (.string z)) (ba_app _ _)
  · cases hp
theorem dig_all : PureOK Tryz.prog (GG m t fr) 33 (digB 18446744073709551616) := by
  have h0 : PureOK Tryz.prog (GG m t fr) 33 (digB 0) := by
    intro ps p hp
    unfold digB at hp
    split at hp
    · obtain ⟨hc, hp⟩ := br_run hp
      simp only [Bool.and_eq_true, decide_eq_true_eq] at hc
      omega
    · cases hp
  have key : ∀ k : Nat, k ≤ 19 → PureOK Tryz.prog (GG m t fr) 33 (digB (10 ^ k)) := by
    intro k
    induction k with
    | zero => intro _; exact dig_step (.inl (by decide)) (by decide) h0
    | succ k ih =>
      intro hk
      refine dig_step (B := 10 ^ k) (.inr (by rw [Int.pow_succ]; omega)) ?_ (ih (by omega))
      have : (10 : Int) ^ (k + 1) ≤ 10 ^ 19 := by
        have := Nat.pow_le_pow_right (n := 10) (by omega) hk
        exact_mod_cast this
      omega
  exact dig_step (B := 10 ^ 19) (.inr (by omega)) (by omega) (key 19 (by omega))
noncomputable abbrev Ed (G : GT) : Env := envOf Tryz.prog G (tdPure 18446744073709551616) libFull
theorem td_ok : TabOK Tryz.prog (GG m t fr) (tdPure 18446744073709551616) := TabOK.cons dig_all (fn := Tryz.f33) (by kernel_rfl) (by kernel_rfl) libPure_ok
theorem Ed_ok : (Ed (GG m t fr)).ok Tryz.prog (GG m t fr) := envOf_ok mixed td_ok libFull_ok
theorem w3_raw (m : Int) (t : TypeId) (fr : Nat × Nat) (n : Int) : (fnPure Tryz.prog (Ed (GG m t fr)) 60 Tryz.f92 (GG m t fr) [.lit (.int .u32 n)]).run2 =
 (bif (n == (0 : Int)) then
 (.some ((.lit (.string (.mk (List.toArray [(42 : UInt8)])))), []))
 else (.some ((.lit (.string (bs (Lib.decDigits (Int.toNat (IntKind.wrap .u64 n)))))), [((decide ((0 : Int) ≤ (IntKind.wrap .u64 n))) && (decide ((IntKind.wrap .u64 n) < (18446744073709551616 : Int))))])) : Option (PV × List Bool)) := by
  kernel_rfl
theorem word3_ok : PureOK Tryz.prog (GG m t fr) 92 wordG := by
  refine PureOK.of (fn_pure mixed Ed_ok (envOf_cuts ..) (fn := Tryz.f92) (by kernel_rfl)) fun ps p hp => ?_
  unfold wordG at hp
  split at hp
  · rename_i n
    obtain ⟨hc, hp⟩ := br_run hp
    simp only [Bool.and_eq_true, decide_eq_true_eq] at hc
    obtain ⟨h0, h1⟩ := hc
    simp only [Tr.run, Option.some.injEq] at hp
    subst hp
    have h := w3_raw m t fr n
    have w : IntKind.u64.wrap n = n := by
      simp only [IntKind.wrap, IntKind.signed, IntKind.bits]
      simp
      omega
    rw [w, decide_eq_true h0, decide_eq_true (show n < 18446744073709551616 by omega)] at h
    unfold wordS
    cases c : n == 0 with
    | true =>
      rw [c] at h
      exact ⟨_, Tr.run_of h rfl, PLe.of_eq rfl⟩
    | false =>
      rw [c] at h
      exact ⟨_, Tr.run_of h rfl, PLe.of_eq rfl⟩
  · cases hp
end
end Go.Proofs.YtcdghinmmhcfcaaGreatDoor.Ev

/- The document's spans and sets as texts. No condition. -/
namespace Go.Proofs.YtcdghinmmhcfcaaGreatDoor.Ev
open Go Go.RowKit Go.Proofs Go.Proofs.YtcdghinmmhcfcaaGreatDoor.Str
set_option linter.unusedVariables false
set_option linter.unusedSimpArgs false
section
variable {m : Int} {t : TypeId} {fr : Nat × Nat}
def dgPure : List (Nat × (List PV → Tr PV)) := tdPure 18446744073709551616
theorem dgPure_ok : TabOK Tryz.prog (GG m t fr) dgPure := td_ok
def toPure : List (Nat × (List PV → Tr PV)) := (92, wordG) :: dgPure
theorem toPure_ok {m : Int} {t : TypeId} {fr : Nat × Nat} : TabOK Tryz.prog (GG m t fr) toPure := (TabOK.cons word3_ok (fn := Tryz.f92) (by kernel_rfl) (by kernel_rfl) dgPure_ok)
noncomputable abbrev Eo (G : GT) : Env := envOf Tryz.prog G toPure libFull
theorem Eo_ok : (Eo (GG m t fr)).ok Tryz.prog (GG m t fr) := envOf_ok mixed toPure_ok libFull_ok
theorem one3_raw (m : Int) (t : TypeId) (fr : Nat × Nat) (a b : Int) : (fnPure Tryz.prog (Eo (GG m t fr)) 60 Tryz.f65 (GG m t fr) [.agg [.lit (.int .u32 a), .lit (.int .u32 b)]]).run2 =
 (bif (a == b) then
 (.some ((.lit (.string (bs (wordS a)))), [((decide ((0 : Int) ≤ a)) && (decide (a < (4294967296 : Int))))]))
 else (.some ((.lit (.string (((bs (wordS a)) ++ (.mk (List.toArray [(58 : UInt8)]))) ++ (bs (wordS b))))), [(Nat.ble ((List.length (ls ((bs (wordS a)) ++ (.mk (List.toArray [(58 : UInt8)]))))) + (List.length (wordS b))) (9223372036854775807 : Nat)), ((decide ((0 : Int) ≤ b)) && (decide (b < (4294967296 : Int)))), (Nat.ble ((List.length (wordS a)) + 1) (9223372036854775807 : Nat)), ((decide ((0 : Int) ≤ a)) && (decide (a < (4294967296 : Int))))])) : Option (PV × List Bool)) := by
  kernel_rfl
theorem word_len {n : Int} (h : n < 4294967296) : (wordS n).length ≤ 30 := by
  unfold wordS
  cases c : n == 0 with
  | true => simp
  | false => exact Nat.le_trans (dec_len 10 n.toNat (by omega)) (by omega)
theorem one_len {x : Sp} (h : u32B x = true) : (oneS x).length ≤ 70 := by
  unfold u32B at h
  simp only [Bool.and_eq_true, decide_eq_true_eq] at h
  have h1 := word_len h.1.2
  have h2 := word_len h.2.2
  unfold oneS
  rw [List.length_append]
  cases bne x.2 x.1 with
  | true => simp only [cond_true, List.length_cons]; omega
  | false => simp only [cond_false, List.length_nil]; omega
def one3G : List PV → Tr PV
  | [.agg [.lit (.int .u32 a), .lit (.int .u32 b)]] => .br (u32B (a, b)) (.leaf (str (bs (oneS (a, b))))) .fail
  | _ => .fail
theorem one3_ok : PureOK Tryz.prog (GG m t fr) 65 one3G := by
  refine PureOK.of (fn_pure mixed Eo_ok (envOf_cuts ..) (fn := Tryz.f65) (by kernel_rfl)) fun ps p hp => ?_
  unfold one3G at hp
  split at hp
  · rename_i a b
    obtain ⟨hc, hp⟩ := br_run hp
    have hc' := hc
    unfold u32B at hc'
    simp only [Bool.and_eq_true] at hc'
    simp only [Tr.run, Option.some.injEq] at hp
    subst hp
    have h := one3_raw m t fr a b
    rw [hc'.1.1, hc'.1.2, hc'.2.1, hc'.2.2] at h
    have h1 := word_len (of_decide_eq_true hc'.1.2)
    have h2 := word_len (of_decide_eq_true hc'.2.2)
    have e58 : (⟨#[58]⟩ : ByteArray) = bs [58] := rfl
    have l1 : (ls (bs (wordS a) ++ ⟨#[58]⟩)).length = (wordS a).length + 1 := by
      rw [e58, ba_app, ls_bs, List.length_append]
      rfl
    rw [Nat.ble_eq_true_of_le (show (ls (bs (wordS a) ++ ⟨#[58]⟩)).length + (wordS b).length ≤ 9223372036854775807 by omega), Nat.ble_eq_true_of_le (show (wordS a).length + 1 ≤ 9223372036854775807 by omega)] at h
    unfold oneS
    have e : bne b a = !(a == b) := by
      by_cases hab : a = b
      · subst hab; rfl
      · have hba : b ≠ a := fun e => hab e.symm
        unfold bne
        rw [beq_eq_false_iff_ne.2 hab, beq_eq_false_iff_ne.2 hba]
    rw [show ((a, b) : Sp).1 = a from rfl, show ((a, b) : Sp).2 = b from rfl, e]
    cases c : a == b with
    | true =>
      rw [c] at h
      refine ⟨_, Tr.run_of h rfl, PLe.of_eq ?_⟩
      simp
    | false =>
      rw [c] at h
      refine ⟨_, Tr.run_of h rfl, PLe.of_eq ?_⟩
      rw [e58, ba_app, ba_app]
      simp
  · cases hp
def t1Pure : List (Nat × (List PV → Tr PV)) := (65, one3G) :: toPure
theorem t1Pure_ok {m : Int} {t : TypeId} {fr : Nat × Nat} : TabOK Tryz.prog (GG m t fr) t1Pure := (TabOK.cons one3_ok (fn := Tryz.f65) (by kernel_rfl) (by kernel_rfl) toPure_ok)
noncomputable abbrev Ep (G : GT) : Env := envOf Tryz.prog G t1Pure libFull
theorem Ep_ok : (Ep (GG m t fr)).ok Tryz.prog (GG m t fr) := envOf_ok mixed t1Pure_ok libFull_ok
def w3Outs : Exit → Outs
  | .normal => { ks := [4, 15, 16, 17] }
  | .exit _ => { ks := [4] }
  | _ => { ks := [] }
noncomputable abbrev w3Round (G : GT) := roundT Tryz.prog (Ep G) 60 G 32 w3Outs .normal (theLoop 0 Tryz.f34)
theorem w3_round (m : Int) (t : TypeId) (fr : Nat × Nat) (s : List UInt8) (o : List Sp) (n : Nat) (u i : Int) : (w3Round (GG m t fr) ([str (bs s), .gsl 2 n (sRow o), int u, int i], [])).run2 =
 (bif (decide (i < u)) then
 bif (decide (i > (0 : Int))) then
 (.some ((.normal, ([(.lit (.string (((bs s) ++ (.mk (List.toArray [(44 : UInt8)]))) ++ (bs (oneS ((Prod.fst (sp o (Int.toNat i))), (Prod.snd (sp o (Int.toNat i))))))))), (.gsl 2 n (sRow o)), (.lit (.int .i64 u)), (.lit (.int .i64 (IntKind.wrap .i64 (i + (1 : Int)))))], [])), [(Nat.ble ((List.length (ls ((bs s) ++ (.mk (List.toArray [(44 : UInt8)]))))) + (List.length (oneS ((Prod.fst (sp o (Int.toNat i))), (Prod.snd (sp o (Int.toNat i))))))) (9223372036854775807 : Nat)), (u32B ((Prod.fst (sp o (Int.toNat i))), (Prod.snd (sp o (Int.toNat i))))), (Nat.ble ((List.length s) + 1) (9223372036854775807 : Nat)), ((decide ((0 : Int) ≤ i)) && (Nat.blt (Int.toNat i) n))]))
 else (.some ((.normal, ([(.lit (.string ((bs s) ++ (bs (oneS ((Prod.fst (sp o (Int.toNat i))), (Prod.snd (sp o (Int.toNat i))))))))), (.gsl 2 n (sRow o)), (.lit (.int .i64 u)), (.lit (.int .i64 (IntKind.wrap .i64 (i + (1 : Int)))))], [])), [(Nat.ble ((List.length s) + (List.length (oneS ((Prod.fst (sp o (Int.toNat i))), (Prod.snd (sp o (Int.toNat i))))))) (9223372036854775807 : Nat)), (u32B ((Prod.fst (sp o (Int.toNat i))), (Prod.snd (sp o (Int.toNat i))))), ((decide ((0 : Int) ≤ i)) && (Nat.blt (Int.toNat i) n))]))
 else (.some (((.exit 0), ([(.lit (.string (bs s)))], [])), [])) : Option ((Exit × Kept) × List Bool)) := by
  kernel_rfl
/-- a set's text, from a span on -/
def wj : List UInt8 → List Sp → List UInt8
  | T, [] => T
  | T, x :: r => wj (T ++ 44 :: oneS x) r
theorem wj_eq : ∀ (r : List Sp) (T : List UInt8), wj T r = T ++ r.flatMap fun x => 44 :: oneS x
  | [], T => by simp [wj]
  | x :: r, T => by rw [wj, wj_eq r]; simp
theorem wj_join : ∀ (r : List Sp) (x : Sp), wj (oneS x) r = writeS (x :: r)
  | [], x => by simp [wj, writeS, joinC]
  | y :: r, x => by
    have h := wj_join r y
    rw [wj_eq] at h ⊢
    unfold writeS at h ⊢
    rw [List.map_cons, List.map_cons, joinC, ← List.map_cons, ← h]
    simp
theorem w3_LR (o : List Sp) (hu : o.all u32B = true) (hn : o.length ≤ 1024) : ∀ (r : List Sp) (i : Nat) (T : List UInt8), o.drop i = r → 0 < i → T.length ≤ 80 * i → 
    LR Tryz.prog (Ep (GG m t fr)) 60 (GG m t fr) 32 w3Outs .normal (theLoop 0 Tryz.f34) ([str (bs T), .gsl 2 o.length (sRow o), int o.length, int i], []) (.exit 0) ([str (bs (wj T r))], [])
  | [], i, T, hr, h0, hT => by
    have h := w3_round m t fr T o o.length o.length i
    have hlen := List.drop_eq_nil_iff.1 hr
    have hd : decide ((i : Int) < (o.length : Int)) = false := by simp; omega
    rw [hd] at h
    exact .last (Tr.run_of h rfl) (by simp) (by simp)
  | x :: r, i, T, hr, h0, hT => by
    have h := w3_round m t fr T o o.length o.length i
    obtain ⟨h1, h2, h3⟩ := sp_drop hr
    have hd : decide ((i : Int) < (o.length : Int)) = true := by simp; omega
    have hd0 : decide ((i : Int) > (0 : Int)) = true := by simp; omega
    have hw : IntKind.i64.wrap ((i : Int) + 1) = ((i + 1 : Nat) : Int) := wrap_succ (by omega)
    have b1 : Nat.blt i o.length = true := by rw [Nat.blt_eq]; exact h1
    have b3 : decide ((0 : Int) ≤ (i : Int)) = true := by simp
    have hx : u32B x = true := by
      have := List.all_eq_true.1 hu (sp o i) (by rw [show sp o i = o[i] by simp [sp, h1]]; exact List.getElem_mem _)
      rw [h2] at this
      exact this
    have l1 := one_len hx
    have e44 : (⟨#[44]⟩ : ByteArray) = bs [44] := rfl
    rw [hd, hd0, hw, Int.toNat_natCast, h2, b1, b3, show (x.1, x.2) = x from rfl, hx] at h
    have l2 : (ls (bs T ++ ⟨#[44]⟩)).length = T.length + 1 := by
      rw [e44, ba_app, ls_bs, List.length_append]
      rfl
    rw [Nat.ble_eq_true_of_le (show (ls (bs T ++ ⟨#[44]⟩)).length + (oneS x).length ≤ 9223372036854775807 by omega), Nat.ble_eq_true_of_le (show T.length + 1 ≤ 9223372036854775807 by omega)] at h
    have e : bs T ++ ⟨#[44]⟩ ++ bs (oneS x) = bs (T ++ 44 :: oneS x) := by rw [e44, ba_app, ba_app]; simp
    rw [e] at h
    exact .more (Tr.run_of h rfl) (w3_LR o hu hn r (i + 1) (T ++ 44 :: oneS x) h3 (by omega) (by rw [List.length_append, List.length_cons]; omega))
theorem w3_LR0 (o : List Sp) (hu : o.all u32B = true) (hn : o.length ≤ 1024) (h0 : o ≠ []) : 
    LR Tryz.prog (Ep (GG m t fr)) 60 (GG m t fr) 32 w3Outs .normal (theLoop 0 Tryz.f34) ([str (bs []), .gsl 2 o.length (sRow o), int o.length, int (0 : Nat)], []) (.exit 0) ([str (bs (writeS o))], []) := by
  cases o with
  | nil => exact absurd rfl h0
  | cons x r =>
    have h := w3_round m t fr [] (x :: r) (x :: r).length (x :: r).length (0 : Nat)
    have hd : decide (((0 : Nat) : Int) < (((x :: r).length : Nat) : Int)) = true := by simp
    have hd0 : decide (((0 : Nat) : Int) > (0 : Int)) = false := by simp
    have hw : IntKind.i64.wrap (((0 : Nat) : Int) + 1) = ((1 : Nat) : Int) := rfl
    have hx : u32B x = true := List.all_eq_true.1 hu x (by simp)
    have b1 : Nat.blt 0 (x :: r).length = true := by rw [Nat.blt_eq]; simp
    have b3 : decide ((0 : Int) ≤ ((0 : Nat) : Int)) = true := by simp
    have l1 := one_len hx
    rw [hd, hd0, hw, Int.toNat_natCast, show sp (x :: r) 0 = x from rfl, b1, b3, show (x.1, x.2) = x from rfl, hx, Nat.ble_eq_true_of_le (show ([] : List UInt8).length + (oneS x).length ≤ 9223372036854775807 by simp; omega)] at h
    have e : bs [] ++ bs (oneS x) = bs (oneS x) := by rw [ba_app]; simp
    rw [e] at h
    rw [← wj_join]
    exact .more (Tr.run_of h rfl) (w3_LR (x :: r) hu hn r 1 (oneS x) rfl (by omega) (by omega))
def w3F : Kept → Tr (Exit × Kept)
  | ([.lit (.string s), .gsl 2 n f, .lit (.int .i64 u), .lit (.int .i64 0)], []) => .br (areSps n f && decide (u = (n : Int)) && (Nat.ble n 1024 && (Nat.blt 0 n && decide (ls s = [])))) (.leaf (.exit 0, ([str (bs (writeS (spsOf n f)))], []))) .fail
  | _ => .fail
theorem w3F_ok (k : Kept) (e : Exit) (y : Kept) (h : (w3F k).run = some (e, y)) : LR Tryz.prog (Ep (GG m t fr)) 60 (GG m t fr) 32 w3Outs .normal (theLoop 0 Tryz.f34) k e y := by
  unfold w3F at h
  split at h
  · rename_i s n f u
    have hb := br_run h
    clear h
    obtain ⟨hc, h⟩ := hb
    simp only [Bool.and_eq_true, decide_eq_true_eq, Nat.ble_eq, Nat.blt_eq] at hc
    obtain ⟨⟨hf, rfl⟩, hn, h0, hs⟩ := hc
    simp only [Tr.run, Option.some.injEq, Prod.mk.injEq] at h
    obtain ⟨rfl, rfl⟩ := h
    have hL := sps_len n f
    have hs' : s = bs [] := by rw [← hs, bs_ls]
    subst hs'
    have key := w3_LR0 (m := m) (t := t) (fr := fr) (spsOf n f) (sps_u32 hf) (by omega) (fun e => by rw [e] at hL; simp at hL; omega)
    have hin : KLe ([str (bs []), .gsl 2 n f, int (n : Int), int 0], []) ([str (bs []), .gsl 2 (spsOf n f).length (sRow (spsOf n f)), int (spsOf n f).length, int (0 : Nat)], []) := by
      refine ⟨PLeL.cons (.refl _) (PLeL.cons (PLe.gsl hL.symm (sps_row hf)) (PLeL.cons (PLe.of_eq ?_) (.refl _))), .refl _⟩
      rw [hL]
    exact .le hin key
  · cases h
noncomputable abbrev w3Cut (G : GT) := cutOf G 32 w3Outs 0 w3F
theorem write3_raw (m : Int) (t : TypeId) (fr : Nat × Nat) (n : Nat) (f : Nat → List PV) : (fnPure Tryz.prog ((Ep (GG m t fr)).withCuts (cut1 0 (w3Cut (GG m t fr)))) 60 Tryz.f34 (GG m t fr) [.gsl 2 n f]).run2 =
 (bif (decide (((n : Nat) : Int) < (1 : Int))) then
 (.some ((.tup [(.lit (.string (.mk (List.toArray [])))), (.lit (.int .i64 (1 : Int)))]), [true, true, true]))
 else bif (decide (((n : Nat) : Int) > (1024 : Int))) then
 (.some ((.tup [(.lit (.string (.mk (List.toArray [])))), (.lit (.int .i64 (1 : Int)))]), []))
 else (.some ((.tup [(.lit (.string (bs (writeS (spsOf n f))))), (.lit (.int .i64 (0 : Int)))]), [(((areSps n f) && (decide (((n : Nat) : Int) = ((n : Nat) : Int)))) && ((Nat.ble n (1024 : Nat)) && ((Nat.blt 0 n) && true)))])) : Option (PV × List Bool)) := by
  kernel_rfl
def write3G : List PV → Tr PV
  | [.gsl 2 n f] => .br (areSps n f && (Nat.ble n 1024 && Nat.blt 0 n)) (.leaf (.tup [str (bs (writeS (spsOf n f))), int 0])) .fail
  | _ => .fail
theorem write3_ok : PureOK Tryz.prog (GG m t fr) 34 write3G := by
  refine PureOK.of (fn_cuts mixed Ep_ok (fn := Tryz.f34) (cuts := cut1 0 (w3Cut (GG m t fr))) (by kernel_rfl) (CutLaws.one (by omega) (by kernel_rfl) fun st e st' h => cutOf_ok Ep_ok mixed (noCuts_ok (envOf_cuts ..) _) w3F_ok h)) fun ps p hp => ?_
  unfold write3G at hp
  split at hp
  · rename_i n f
    obtain ⟨hc, hp⟩ := br_run hp
    simp only [Bool.and_eq_true] at hc
    simp only [Tr.run, Option.some.injEq] at hp
    subst hp
    have h := write3_raw m t fr n f
    have h1 := Nat.le_of_ble_eq_true hc.2.1
    have h2 : 0 < n := by have := hc.2.2; rwa [Nat.blt_eq] at this
    rw [hc.1, hc.2.1, hc.2.2, decide_eq_true rfl, decide_eq_false (show ¬ (n : Int) < 1 by omega), decide_eq_false (show ¬ (n : Int) > 1024 by omega)] at h
    exact ⟨_, Tr.run_of h rfl, PLe.of_eq rfl⟩
  · cases hp
end
end Go.Proofs.YtcdghinmmhcfcaaGreatDoor.Ev

/- The document's words, ends and spans as read. No condition. -/
namespace Go.Proofs.YtcdghinmmhcfcaaGreatDoor.Ev
open Go Go.RowKit Go.Proofs Go.Proofs.YtcdghinmmhcfcaaGreatDoor.Str
set_option linter.unusedVariables false
set_option linter.unusedSimpArgs false
section
variable {m : Int} {t : TypeId} {fr : Nat × Nat}
def wdR (L : List (List UInt8)) (i : Nat) : List PV := [str (bs (L.getD i []))]
def wdOuts : Exit → Outs
  | .normal => { ks := [0, 3, 4], rs := [.slot 3] }
  | .exit _ => { ks := [3], rs := [.slot 3] }
  | _ => { ks := [] }
noncomputable abbrev wdRound (G : GT) := roundT Tryz.prog (E1 G) 60 G 33 wdOuts .normal (theLoop 0 Tryz.f37)
theorem wd_round (m : Int) (t : TypeId) (fr : Nat × Nat) (s : ByteArray) (k : Nat) (L : List (List UInt8)) (i : Int) : (wdRound (GG m t fr) ([str s, .own 0, int i], [.row 9 1 k (wdR L)])).run2 =
 (bif (decide (i < (((List.length (ls s)) : Nat) : Int))) then
 bif ((((UInt8.toNat (Array.getD (ByteArray.data s) (Int.toNat i) (0 : UInt8))) : Nat) : Int) == (32 : Int)) then
 (.some ((.normal, ([(.lit (.string s)), (.own 0), (.lit (.int .i64 (IntKind.wrap .i64 (i + (1 : Int)))))], [(.row 9 1 (k + 1) (rowApp k (wdR L) (rowOf [(.lit (.string (.mk (List.toArray []))))] 1)))])), [(Nat.ble ((k + 1) * 16) (140737488355328 : Nat)), ((decide ((0 : Int) ≤ i)) && (Nat.blt (Int.toNat i) (List.length (ls s))))]))
 else (.some ((.normal, ([(.lit (.string s)), (.own 0), (.lit (.int .i64 (IntKind.wrap .i64 (i + (1 : Int)))))], [(.row 9 1 k (rowSet (wdR L) (Int.toNat (IntKind.wrap .i64 (((k : Nat) : Int) - (1 : Int)))) 0 [(.lit (.string ((bs (List.getD L (Int.toNat (IntKind.wrap .i64 (((k : Nat) : Int) - (1 : Int)))) [])) ++ (ByteArray.extract s (Int.toNat i) (Int.toNat (IntKind.wrap .i64 (i + (1 : Int))))))))]))])), [(Nat.blt (Int.toNat (IntKind.wrap .i64 (((k : Nat) : Int) - (1 : Int)))) k), ((decide ((0 : Int) ≤ (IntKind.wrap .i64 (((k : Nat) : Int) - (1 : Int))))) && (Nat.blt (Int.toNat (IntKind.wrap .i64 (((k : Nat) : Int) - (1 : Int)))) k)), (Nat.ble ((List.length (List.getD L (Int.toNat (IntKind.wrap .i64 (((k : Nat) : Int) - (1 : Int)))) [])) + (List.length (ls (ByteArray.extract s (Int.toNat i) (Int.toNat (IntKind.wrap .i64 (i + (1 : Int)))))))) (9223372036854775807 : Nat)), (((decide ((0 : Int) ≤ i)) && (decide (i ≤ (IntKind.wrap .i64 (i + (1 : Int)))))) && (decide ((IntKind.wrap .i64 (i + (1 : Int))) ≤ (((List.length (ls s)) : Nat) : Int)))), (Nat.blt (Int.toNat (IntKind.wrap .i64 (((k : Nat) : Int) - (1 : Int)))) k), ((decide ((0 : Int) ≤ (IntKind.wrap .i64 (((k : Nat) : Int) - (1 : Int))))) && (Nat.blt (Int.toNat (IntKind.wrap .i64 (((k : Nat) : Int) - (1 : Int)))) k)), ((decide ((0 : Int) ≤ i)) && (Nat.blt (Int.toNat i) (List.length (ls s))))]))
 else (.some (((.exit 0), ([(.own 0)], [(.row 9 1 k (wdR L))])), [])) : Option ((Exit × Kept) × List Bool)) := by
  kernel_rfl
/-- words, byte by byte -/
def wdS : List UInt8 → List (List UInt8) → List UInt8 → List (List UInt8)
  | [], o, c => o ++ [c]
  | b :: r, o, c => bif decide (b = 32) then wdS r (o ++ [c]) [] else wdS r o (c ++ [b])
theorem wdS_eq : ∀ (r : List UInt8) (o : List (List UInt8)) (c : List UInt8), wdS r o c = o ++ (match splitC 32 r with | [] => [c] | h :: t => (c ++ h) :: t)
  | [], o, c => by simp [wdS, splitC]
  | b :: r, o, c => by
    rw [wdS, splitC]
    have hne := splitC_ne 32 r
    by_cases hb : b = 32
    · rw [decide_eq_true hb, cond_true, if_pos hb, wdS_eq r]
      cases hs : splitC 32 r with
      | nil => exact absurd hs hne
      | cons h t => simp
    · rw [decide_eq_false hb, cond_false, if_neg hb, wdS_eq r]
      cases hs : splitC 32 r with
      | nil => exact absurd hs hne
      | cons h t => simp
theorem wdS_split (l : List UInt8) : wdS l [] [] = splitC 32 l := by
  rw [wdS_eq]
  cases hs : splitC 32 l with
  | nil => exact absurd hs (splitC_ne 32 l)
  | cons h t => simp
theorem wd_app (L : List (List UInt8)) (i : Nat) (hi : i < L.length + 1) : rowApp L.length (wdR L) (rowOf [.lit (.string ⟨#[]⟩)] 1) i = wdR (L ++ [[]]) i := by
  rcases Nat.lt_or_ge i L.length with h | h
  · rw [app_lo _ _ h]
    unfold wdR
    rw [List.getD_eq_getElem?_getD, List.getD_eq_getElem?_getD, List.getElem?_append_left h]
  · have : i = L.length + 0 := by omega
    rw [this, app_hi]
    unfold wdR
    rw [List.getD_eq_getElem?_getD, List.getElem?_append_right (by omega)]
    simp
    rfl
theorem wd_set (o : List (List UInt8)) (c : List UInt8) (x : List UInt8) (i : Nat) : rowSet (wdR (o ++ [c])) o.length 0 [.lit (.string (bs x))] i = wdR (o ++ [x]) i := by
  rw [rowSet_eq]
  unfold rowSetO
  cases h : Nat.beq i o.length with
  | true =>
    obtain rfl := Nat.eq_of_beq_eq_true h
    simp [wdR]
  | false =>
    have hne : i ≠ o.length := fun e => by subst e; simp at h
    unfold wdR
    rcases Nat.lt_or_ge i o.length with hi | hi
    · simp [List.getElem?_append_left hi]
    · simp [List.getElem?_append_right hi, List.getElem?_cons, show i - o.length ≠ 0 by omega]
def wdIn (s : ByteArray) (L : List (List UInt8)) (i : Nat) : Kept := ([str s, .own 0, int i], [.row 9 1 L.length (wdR L)])
theorem wd_LR (s : ByteArray) (hs : s.size ≤ 4294967280) : ∀ (r : List UInt8) (i : Nat) (o : List (List UInt8)) (c : List UInt8), (ls s).drop i = r → i ≤ (ls s).length → o.length ≤ i → c.length ≤ i →
    LR Tryz.prog (E1 (GG m t fr)) 60 (GG m t fr) 33 wdOuts .normal (theLoop 0 Tryz.f37) (wdIn s (o ++ [c]) i) (.exit 0) ([.own 0], [.row 9 1 (wdS r o c).length (wdR (wdS r o c))])
  | [], i, o, c, hr, hi, ho, hc => by
    have h := wd_round m t fr s (o ++ [c]).length (o ++ [c]) i
    have hlen := List.drop_eq_nil_iff.1 hr
    have hd : decide ((i : Int) < ((ls s).length : Int)) = false := by simp; omega
    rw [hd] at h
    exact .last (Tr.run_of h rfl) (by simp) (by simp)
  | b :: r, i, o, c, hr, hi, ho, hc => by
    have h := wd_round m t fr s (o ++ [c]).length (o ++ [c]) i
    obtain ⟨h1, h2, h3⟩ := get_drop hr
    have hl := ls_len s
    have hd : decide ((i : Int) < ((ls s).length : Int)) = true := by simp; omega
    have hw : IntKind.i64.wrap ((i : Int) + 1) = ((i + 1 : Nat) : Int) := wrap_succ (by omega)
    have hw2 : IntKind.i64.wrap (((o ++ [c]).length : Int) - 1) = (o.length : Int) := by
      have : (((o ++ [c]).length : Int) - 1) = (o.length : Int) := by simp
      rw [this]
      exact wrap_nat (by omega)
    have b1 : Nat.blt i (ls s).length = true := by rw [Nat.blt_eq, hl]; exact h1
    have b2 : Nat.blt o.length (o ++ [c]).length = true := by rw [Nat.blt_eq]; simp
    have b3 : ∀ k : Nat, decide ((0 : Int) ≤ (k : Int)) = true := fun k => by simp
    have hlast : (o ++ [c]).getD o.length [] = c := by simp
    have e32 : ((b.toNat : Int) == (32 : Int)) = decide (b = 32) := byte_eq b 32
    have hx : s.extract i (i + 1) = bs [b] := by
      have e : ((ls s).take (i + 1)).drop i = [b] := by
        rw [List.drop_take, hr, show i + 1 - i = 1 by omega]
        rfl
      rw [bs_ext, e]
    rw [hd, hw, hw2] at h
    rw [Int.toNat_natCast] at h
    rw [Int.toNat_natCast] at h
    rw [Int.toNat_natCast] at h
    rw [h2, e32, hlast] at h
    rw [hx] at h
    rw [b1, b2] at h
    rw [b3] at h
    rw [b3] at h
    rw [ba_app, ls_bs] at h
    rw [Nat.ble_eq_true_of_le (show ((o ++ [c]).length + 1) * 16 ≤ 140737488355328 by rw [List.length_append, List.length_singleton]; omega), Nat.ble_eq_true_of_le (show c.length + [b].length ≤ 9223372036854775807 by rw [List.length_singleton]; omega)] at h
    rw [wdS]
    cases hb : decide (b = 32) with
    | true =>
      rw [hb] at h
      have le : KLe ([str s, .own 0, int ((i + 1 : Nat) : Int)], [.row 9 1 ((o ++ [c]).length + 1) (rowApp (o ++ [c]).length (wdR (o ++ [c])) (rowOf [.lit (.string ⟨#[]⟩)] 1))]) (wdIn s ((o ++ [c]) ++ [[]]) (i + 1)) :=
        ⟨.refl _, BLeL.cons (.row _ _ (by simp) fun j hj => wd_app (o ++ [c]) j hj) .nil⟩
      exact .more (Tr.run_of h rfl) (.le le (wd_LR s hs r (i + 1) (o ++ [c]) [] h3 (by omega) (by simp; omega) (by simp)))
    | false =>
      rw [hb] at h
      have le : KLe ([str s, .own 0, int ((i + 1 : Nat) : Int)], [.row 9 1 (o ++ [c]).length (rowSet (wdR (o ++ [c])) o.length 0 [.lit (.string (bs (c ++ [b])))])]) (wdIn s (o ++ [c ++ [b]]) (i + 1)) :=
        ⟨.refl _, BLeL.cons (.row _ _ (by simp) fun j hj => wd_set o c (c ++ [b]) j) .nil⟩
      exact .more (Tr.run_of h (by simp; omega)) (.le le (wd_LR s hs r (i + 1) o (c ++ [b]) h3 (by omega) (by omega) (by simp; omega)))
def wdF : Kept → Tr (Exit × Kept)
  | ([.lit (.string s), .own 0, .lit (.int .i64 0)], [.row e 1 1 g]) => match Nat.beq e 9, g 0 with
    | true, [.lit (.string v)] => .br (okS s && decide (ls v = [])) (.leaf (.exit 0, ([.own 0], [.row 9 1 (splitC 32 (ls s)).length (wdR (splitC 32 (ls s)))]))) .fail
    | _, _ => .fail
  | _ => .fail
theorem wdF_ok (k : Kept) (e : Exit) (y : Kept) (h : (wdF k).run = some (e, y)) : LR Tryz.prog (E1 (GG m t fr)) 60 (GG m t fr) 33 wdOuts .normal (theLoop 0 Tryz.f37) k e y := by
  unfold wdF at h
  split at h
  · rename_i s e0 g
    split at h
    · rename_i v he hg
      obtain rfl := Nat.eq_of_beq_eq_true he
      have hb := br_run h
      clear h
      obtain ⟨hc, h⟩ := hb
      simp only [Bool.and_eq_true, decide_eq_true_eq] at hc
      simp only [Tr.run, Option.some.injEq, Prod.mk.injEq] at h
      obtain ⟨rfl, rfl⟩ := h
      have key := wd_LR (m := m) (t := t) (fr := fr) s (okS_le hc.1) (ls s) 0 [] [] rfl (Nat.zero_le _) (by simp) (by simp)
      rw [wdS_split] at key
      have hin : KLe ([str s, .own 0, int 0], [.row 9 1 1 g]) (wdIn s ([] ++ [[]]) 0) := by
        refine ⟨.refl _, BLeL.cons (.row _ _ rfl fun j hj => ?_) .nil⟩
        have : j = 0 := by omega
        subst this
        rw [hg]
        have hv : v = bs [] := by rw [← hc.2, bs_ls]
        rw [hv]
        rfl
      exact .le hin key
    · cases h
  · cases h
noncomputable abbrev wdCut (G : GT) := cutOf G 33 wdOuts 0 wdF
theorem words_raw (m : Int) (t : TypeId) (fr : Nat × Nat) (s : ByteArray) : (fnPure Tryz.prog ((E1 (GG m t fr)).withCuts (cut1 0 (wdCut (GG m t fr)))) 60 Tryz.f37 (GG m t fr) [str s]).run2 =
 ((.some ((.gsl 1 (List.length (splitC (32 : UInt8) (ls s))) (wdR (splitC (32 : UInt8) (ls s)))), [((okS s) && true)])) : Option (PV × List Bool)) := by
  kernel_rfl
def words3G : List PV → Tr PV
  | [.lit (.string s)] => .br (okS s) (.leaf (.gsl 1 (splitC 32 (ls s)).length (wdR (splitC 32 (ls s))))) .fail
  | _ => .fail
theorem words3_ok : PureOK Tryz.prog (GG m t fr) 37 words3G := by
  refine PureOK.of (fn_cuts mixed E1_ok (fn := Tryz.f37) (cuts := cut1 0 (wdCut (GG m t fr))) (by kernel_rfl) (CutLaws.one (by omega) (by kernel_rfl) fun st e st' h => cutOf_ok E1_ok mixed (noCuts_ok (envOf_cuts ..) _) wdF_ok h)) fun ps p hp => ?_
  unfold words3G at hp
  split at hp
  · rename_i s
    obtain ⟨hc, hp⟩ := br_run hp
    simp only [Tr.run, Option.some.injEq] at hp
    subst hp
    have h := words_raw m t fr s
    rw [hc] at h
    exact ⟨_, Tr.run_of h rfl, PLe.of_eq rfl⟩
  · cases hp
end
end Go.Proofs.YtcdghinmmhcfcaaGreatDoor.Ev

/- The document's end of a span as read. No condition. -/
namespace Go.Proofs.YtcdghinmmhcfcaaGreatDoor.Ev
open Go Go.RowKit Go.Proofs Go.Proofs.YtcdghinmmhcfcaaGreatDoor.Str
set_option linter.unusedVariables false
set_option linter.unusedSimpArgs false
section
variable {m : Int} {t : TypeId} {fr : Nat × Nat}
def enOuts : Exit → Outs
  | .normal => { ks := [0, 5, 6] }
  | .exit _ => { ks := [0, 5, 6] }
  | _ => { ks := [] }
noncomputable abbrev enRound (G : GT) := roundT Tryz.prog (E1 G) 60 G 62 enOuts .normal (theLoop 0 Tryz.f38)
theorem en_round (m : Int) (t : TypeId) (fr : Nat × Nat) (s : ByteArray) (n i : Int) : (enRound (GG m t fr) ([str s, .lit (.int .u64 n), int i], [])).run2 =
 (bif (decide (i < (((List.length (ls s)) : Nat) : Int))) then
 bif (decide ((((UInt8.toNat (Array.getD (ByteArray.data s) (Int.toNat i) (0 : UInt8))) : Nat) : Int) ≥ (48 : Int))) then
 bif (decide ((((UInt8.toNat (Array.getD (ByteArray.data s) (Int.toNat i) (0 : UInt8))) : Nat) : Int) ≤ (57 : Int))) then
 bif (decide (n ≤ (4294967295 : Int))) then
 (.some ((.normal, ([(.lit (.string s)), (.lit (.int .u64 (IntKind.wrap .u64 ((IntKind.wrap .u64 ((10 : Int) * n)) + (IntKind.wrap .u64 (IntKind.wrap .u8 ((((UInt8.toNat (Array.getD (ByteArray.data s) (Int.toNat i) (0 : UInt8))) : Nat) : Int) - (48 : Int)))))))), (.lit (.int .i64 (IntKind.wrap .i64 (i + (1 : Int)))))], [])), [((decide ((0 : Int) ≤ i)) && (Nat.blt (Int.toNat i) (List.length (ls s)))), ((decide ((0 : Int) ≤ i)) && (Nat.blt (Int.toNat i) (List.length (ls s)))), ((decide ((0 : Int) ≤ i)) && (Nat.blt (Int.toNat i) (List.length (ls s))))]))
 else (.some (((.exit 0), ([(.lit (.string s)), (.lit (.int .u64 n)), (.lit (.int .i64 i))], [])), [((decide ((0 : Int) ≤ i)) && (Nat.blt (Int.toNat i) (List.length (ls s)))), ((decide ((0 : Int) ≤ i)) && (Nat.blt (Int.toNat i) (List.length (ls s))))]))
 else (.some (((.exit 0), ([(.lit (.string s)), (.lit (.int .u64 n)), (.lit (.int .i64 i))], [])), [((decide ((0 : Int) ≤ i)) && (Nat.blt (Int.toNat i) (List.length (ls s)))), ((decide ((0 : Int) ≤ i)) && (Nat.blt (Int.toNat i) (List.length (ls s))))]))
 else (.some (((.exit 0), ([(.lit (.string s)), (.lit (.int .u64 n)), (.lit (.int .i64 i))], [])), [((decide ((0 : Int) ≤ i)) && (Nat.blt (Int.toNat i) (List.length (ls s))))]))
 else (.some (((.exit 0), ([(.lit (.string s)), (.lit (.int .u64 n)), (.lit (.int .i64 i))], [])), [])) : Option ((Exit × Kept) × List Bool)) := by
  kernel_rfl
/-- digits from a place on: the number, where it ends -/
def enL : List UInt8 → Nat → Nat → Nat × Nat
  | [], n, i => (n, i)
  | c :: r, n, i => bif decide (48 ≤ c.toNat) && (decide (c.toNat ≤ 57) && decide (n ≤ 4294967295)) then enL r (10 * n + (c.toNat - 48)) (i + 1) else (n, i)
theorem en_bd : ∀ (l : List UInt8) (n i : Nat), n ≤ 42949672959 → (enL l n i).1 ≤ 42949672959 ∧ i ≤ (enL l n i).2 ∧ (enL l n i).2 ≤ i + l.length
  | [], n, i, hn => by simp [enL]; omega
  | c :: r, n, i, hn => by
    rw [enL]
    cases h : decide (48 ≤ c.toNat) && (decide (c.toNat ≤ 57) && decide (n ≤ 4294967295)) with
    | true =>
      simp only [Bool.and_eq_true, decide_eq_true_eq] at h
      obtain ⟨h1, h2, h3⟩ := en_bd r (10 * n + (c.toNat - 48)) (i + 1) (by omega)
      rw [cond_true]
      refine ⟨h1, by omega, ?_⟩
      rw [List.length_cons]
      omega
    | false =>
      rw [cond_false]
      simp
      omega
theorem en_LR (s : ByteArray) (hs : s.size ≤ 4294967280) : ∀ (r : List UInt8) (n i : Nat), (ls s).drop i = r → i ≤ (ls s).length → n ≤ 42949672959 →
    LR Tryz.prog (E1 (GG m t fr)) 60 (GG m t fr) 62 enOuts .normal (theLoop 0 Tryz.f38) ([str s, .lit (.int .u64 ((n : Nat) : Int)), int i], []) (.exit 0) ([str s, .lit (.int .u64 (((enL r n i).1 : Nat) : Int)), int (((enL r n i).2 : Nat) : Int)], [])
  | [], n, i, hr, hi, hn => by
    have h := en_round m t fr s n i
    have hlen := List.drop_eq_nil_iff.1 hr
    have hd : decide ((i : Int) < ((ls s).length : Int)) = false := by simp; omega
    rw [hd] at h
    exact .last (Tr.run_of h rfl) (by simp) (by simp)
  | c :: r, n, i, hr, hi, hn => by
    have h := en_round m t fr s n i
    obtain ⟨h1, h2, h3⟩ := get_drop hr
    have hl := ls_len s
    have hd : decide ((i : Int) < ((ls s).length : Int)) = true := by simp; omega
    have hw : IntKind.i64.wrap ((i : Int) + 1) = ((i + 1 : Nat) : Int) := wrap_succ (by omega)
    have b1 : Nat.blt i (ls s).length = true := by rw [Nat.blt_eq, hl]; exact h1
    have b3 : decide ((0 : Int) ≤ ((i : Nat) : Int)) = true := by simp
    have g1 : decide (((c.toNat : Nat) : Int) ≥ 48) = decide (48 ≤ c.toNat) := by rw [decide_eq_decide]; omega
    have g2 : decide (((c.toNat : Nat) : Int) ≤ 57) = decide (c.toNat ≤ 57) := by rw [decide_eq_decide]; omega
    have g3 : decide (((n : Nat) : Int) ≤ 4294967295) = decide (n ≤ 4294967295) := by rw [decide_eq_decide]; omega
    rw [hd, hw, Int.toNat_natCast, h2, g1, g2, g3, b1, b3] at h
    rw [enL]
    cases c1 : decide (48 ≤ c.toNat) with
    | false =>
      rw [c1] at h
      exact .last (Tr.run_of h rfl) (by simp) (by simp)
    | true =>
      rw [c1] at h
      cases c2 : decide (c.toNat ≤ 57) with
      | false =>
        rw [c2] at h
        exact .last (Tr.run_of h rfl) (by simp) (by simp)
      | true =>
        rw [c2] at h
        cases c3 : decide (n ≤ 4294967295) with
        | false =>
          rw [c3] at h
          exact .last (Tr.run_of h rfl) (by simp) (by simp)
        | true =>
          rw [c3] at h
          have k1 := of_decide_eq_true c1
          have k2 := of_decide_eq_true c2
          have k3 := of_decide_eq_true c3
          have w1 : IntKind.u8.wrap (((c.toNat : Nat) : Int) - 48) = ((c.toNat - 48 : Nat) : Int) := by
            rw [show ((c.toNat : Nat) : Int) - 48 = ((c.toNat - 48 : Nat) : Int) by omega]
            exact wrap_u8 (by omega)
          have w2 : ∀ k : Nat, k < 18446744073709551616 → IntKind.u64.wrap ((k : Nat) : Int) = ((k : Nat) : Int) := fun k hk => by
            simp only [IntKind.wrap, IntKind.signed, IntKind.bits]
            simp
            omega
          have w3 : IntKind.u64.wrap ((10 : Int) * ((n : Nat) : Int)) = ((10 * n : Nat) : Int) := by
            rw [show (10 : Int) * ((n : Nat) : Int) = ((10 * n : Nat) : Int) by omega]
            exact w2 _ (by omega)
          have w4 : ((10 * n : Nat) : Int) + ((c.toNat - 48 : Nat) : Int) = ((10 * n + (c.toNat - 48) : Nat) : Int) := by omega
          rw [w1, w3, w2 _ (by omega), w4, w2 _ (by omega)] at h
          exact .more (Tr.run_of h rfl) (en_LR s hs r (10 * n + (c.toNat - 48)) (i + 1) h3 (by omega) (by omega))
def enN (l : List UInt8) : Int := (((enL l 0 0).1 : Nat) : Int)
def enI (l : List UInt8) : Nat := (enL l 0 0).2
def enF : Kept → Tr (Exit × Kept)
  | ([.lit (.string s), .lit (.int .u64 0), .lit (.int .i64 0)], []) => .br (okS s) (.leaf (.exit 0, ([str s, .lit (.int .u64 (enN (ls s))), int (enI (ls s))], []))) .fail
  | _ => .fail
theorem enF_ok (k : Kept) (e : Exit) (y : Kept) (h : (enF k).run = some (e, y)) : LR Tryz.prog (E1 (GG m t fr)) 60 (GG m t fr) 62 enOuts .normal (theLoop 0 Tryz.f38) k e y := by
  unfold enF at h
  split at h
  · rename_i s
    have hb := br_run h
    clear h
    obtain ⟨hc, h⟩ := hb
    simp only [Tr.run, Option.some.injEq, Prod.mk.injEq] at h
    obtain ⟨rfl, rfl⟩ := h
    exact en_LR (m := m) (t := t) (fr := fr) s (okS_le hc) (ls s) 0 0 rfl (Nat.zero_le _) (by omega)
  · cases h
noncomputable abbrev enCut (G : GT) := cutOf G 62 enOuts 0 enF
theorem end3_raw (m : Int) (t : TypeId) (fr : Nat × Nat) (s : ByteArray) : (fnPure Tryz.prog ((E1 (GG m t fr)).withCuts (cut1 0 (enCut (GG m t fr)))) 60 Tryz.f38 (GG m t fr) [str s]).run2 =
 (bif (!((ByteArray.toList s) == (ByteArray.toList (.mk (List.toArray []))))) then
 bif ((((UInt8.toNat (Array.getD (ByteArray.data s) 0 (0 : UInt8))) : Nat) : Int) == (42 : Int)) then
 (.some ((.tup [(.lit (.int .u32 (0 : Int))), (.lit (.string (ByteArray.extract s 1 (Int.toNat (((List.length (ls s)) : Nat) : Int))))), (.lit (.bool true))]), [((decide ((1 : Int) ≤ (((List.length (ls s)) : Nat) : Int))) && (decide ((((List.length (ls s)) : Nat) : Int) ≤ (((List.length (ls s)) : Nat) : Int)))), (Nat.blt 0 (List.length (ls s)))]))
 else bif ((((enI (ls s)) : Nat) : Int) == (0 : Int)) then
 (.some ((.tup [(.lit (.int .u32 (0 : Int))), (.lit (.string (.mk (List.toArray [])))), (.lit (.bool false))]), [true, true, true, true, true, (okS s), (Nat.blt 0 (List.length (ls s)))]))
 else bif ((((UInt8.toNat (Array.getD (ByteArray.data s) 0 (0 : UInt8))) : Nat) : Int) == (48 : Int)) then
 (.some ((.tup [(.lit (.int .u32 (0 : Int))), (.lit (.string (.mk (List.toArray [])))), (.lit (.bool false))]), [true, true, (Nat.blt 0 (List.length (ls s))), (okS s), (Nat.blt 0 (List.length (ls s)))]))
 else bif (decide ((enN (ls s)) > (4294967295 : Int))) then
 (.some ((.tup [(.lit (.int .u32 (0 : Int))), (.lit (.string (.mk (List.toArray [])))), (.lit (.bool false))]), [(Nat.blt 0 (List.length (ls s))), (okS s), (Nat.blt 0 (List.length (ls s)))]))
 else (.some ((.tup [(.lit (.int .u32 (IntKind.wrap .u32 (enN (ls s))))), (.lit (.string (ByteArray.extract s (Int.toNat (((enI (ls s)) : Nat) : Int)) (Int.toNat (((List.length (ls s)) : Nat) : Int))))), (.lit (.bool true))]), [(((decide ((0 : Int) ≤ (((enI (ls s)) : Nat) : Int))) && (decide ((((enI (ls s)) : Nat) : Int) ≤ (((List.length (ls s)) : Nat) : Int)))) && (decide ((((List.length (ls s)) : Nat) : Int) ≤ (((List.length (ls s)) : Nat) : Int)))), (Nat.blt 0 (List.length (ls s))), (okS s), (Nat.blt 0 (List.length (ls s)))]))
 else bif ((((enI (ls s)) : Nat) : Int) == (0 : Int)) then
 (.some ((.tup [(.lit (.int .u32 (0 : Int))), (.lit (.string (.mk (List.toArray [])))), (.lit (.bool false))]), [true, true, true, true, true, (okS s)]))
 else bif ((((UInt8.toNat (Array.getD (ByteArray.data s) 0 (0 : UInt8))) : Nat) : Int) == (48 : Int)) then
 (.some ((.tup [(.lit (.int .u32 (0 : Int))), (.lit (.string (.mk (List.toArray [])))), (.lit (.bool false))]), [true, true, (Nat.blt 0 (List.length (ls s))), (okS s)]))
 else bif (decide ((enN (ls s)) > (4294967295 : Int))) then
 (.some ((.tup [(.lit (.int .u32 (0 : Int))), (.lit (.string (.mk (List.toArray [])))), (.lit (.bool false))]), [(Nat.blt 0 (List.length (ls s))), (okS s)]))
 else (.some ((.tup [(.lit (.int .u32 (IntKind.wrap .u32 (enN (ls s))))), (.lit (.string (ByteArray.extract s (Int.toNat (((enI (ls s)) : Nat) : Int)) (Int.toNat (((List.length (ls s)) : Nat) : Int))))), (.lit (.bool true))]), [(((decide ((0 : Int) ≤ (((enI (ls s)) : Nat) : Int))) && (decide ((((enI (ls s)) : Nat) : Int) ≤ (((List.length (ls s)) : Nat) : Int)))) && (decide ((((List.length (ls s)) : Nat) : Int) ≤ (((List.length (ls s)) : Nat) : Int)))), (Nat.blt 0 (List.length (ls s))), (okS s)])) : Option (PV × List Bool)) := by
  kernel_rfl
/-- an end as the document reads it: it, and what is behind it -/
def endZ (l : List UInt8) : Option (Int × List UInt8) :=
  bif decide (l = []) then none else bif decide (l.getD 0 0 = 42) then some (0, l.drop 1) else bif decide (enI l = 0) then none else bif decide (l.getD 0 0 = 48) then none else
    bif decide (enN l > 4294967295) then none else some (enN l, l.drop (enI l))
def eO (l : List UInt8) : Bool := (endZ l).isSome
def eN (l : List UInt8) : Int := ((endZ l).getD (0, [])).1
def eR (l : List UInt8) : List UInt8 := ((endZ l).getD (0, [])).2
def end3G : List PV → Tr PV
  | [.lit (.string s)] => .br (okS s) (.leaf (.tup [.lit (.int .u32 (eN (ls s))), str (bs (eR (ls s))), bool (eO (ls s))])) .fail
  | _ => .fail
theorem ext_drop (s : ByteArray) (k : Nat) : s.extract k (ls s).length = bs ((ls s).drop k) := by
  rw [bs_ext, List.take_length]
theorem end3_ok : PureOK Tryz.prog (GG m t fr) 38 end3G := by
  refine PureOK.of (fn_cuts mixed E1_ok (fn := Tryz.f38) (cuts := cut1 0 (enCut (GG m t fr))) (by kernel_rfl) (CutLaws.one (by omega) (by kernel_rfl) fun st e st' h => cutOf_ok E1_ok mixed (noCuts_ok (envOf_cuts ..) _) enF_ok h)) fun ps p hp => ?_
  unfold end3G at hp
  split at hp
  · rename_i s
    obtain ⟨hc, hp⟩ := br_run hp
    simp only [Tr.run, Option.some.injEq] at hp
    subst hp
    have h := end3_raw m t fr s
    have hl := ls_len s
    have e42 : ∀ c : UInt8, ((c.toNat : Int) == (42 : Int)) = decide (c = 42) := fun c => byte_eq c 42
    have e48 : ∀ c : UInt8, ((c.toNat : Int) == (48 : Int)) = decide (c = 48) := fun c => byte_eq c 48
    have enil : (⟨#[]⟩ : ByteArray) = bs [] := rfl
    have e0 : ((((enI (ls s)) : Nat) : Int) == (0 : Int)) = decide (enI (ls s) = 0) := by
      rw [beqD, decide_eq_decide]
      omega
    rw [hc, eqB, enil, ls_bs, getD_ls, e42, e48, e0] at h
    simp only [Int.toNat_natCast] at h
    rw [ext_drop, ext_drop] at h
    have bd := en_bd (ls s) 0 0 (by omega)
    have hb : decide ((0 : Int) ≤ (((enI (ls s)) : Nat) : Int)) = true := by simp
    have hb2 : decide ((((enI (ls s)) : Nat) : Int) ≤ (((ls s).length : Nat) : Int)) = true := by
      have := bd.2.2
      unfold enI
      simp
      omega
    have hb3 : decide ((((ls s).length : Nat) : Int) ≤ (((ls s).length : Nat) : Int)) = true := by simp
    rw [hb, hb2, hb3] at h
    unfold eN eR eO endZ
    by_cases hn : ls s = []
    · have hi : enI (ls s) = 0 := by rw [hn]; rfl
      rw [decide_eq_true hn, decide_eq_true hi] at h
      refine ⟨_, Tr.run_of h rfl, PLe.of_eq ?_⟩
      rw [decide_eq_true hn]
      rfl
    · have hpos : 0 < (ls s).length := by
        rcases Nat.eq_zero_or_pos (ls s).length with h0 | h0
        · exact absurd (List.length_eq_zero_iff.1 h0) hn
        · exact h0
      have hb4 : Nat.blt 0 (ls s).length = true := by rw [Nat.blt_eq]; exact hpos
      have hb5 : decide ((1 : Int) ≤ (((ls s).length : Nat) : Int)) = true := by simp; omega
      rw [decide_eq_false hn, hb4, hb5] at h
      rw [decide_eq_false hn]
      cases c1 : decide ((ls s).getD 0 0 = 42) with
      | true =>
        rw [c1] at h
        exact ⟨_, Tr.run_of h rfl, PLe.of_eq rfl⟩
      | false =>
        rw [c1] at h
        cases c2 : decide (enI (ls s) = 0) with
        | true =>
          rw [c2] at h
          exact ⟨_, Tr.run_of h rfl, PLe.of_eq rfl⟩
        | false =>
          rw [c2] at h
          cases c3 : decide ((ls s).getD 0 0 = 48) with
          | true =>
            rw [c3] at h
            exact ⟨_, Tr.run_of h rfl, PLe.of_eq rfl⟩
          | false =>
            rw [c3] at h
            cases c4 : decide (enN (ls s) > 4294967295) with
            | true =>
              rw [c4] at h
              exact ⟨_, Tr.run_of h rfl, PLe.of_eq rfl⟩
            | false =>
              rw [c4] at h
              have hw : IntKind.u32.wrap (enN (ls s)) = enN (ls s) := by
                have := of_decide_eq_false c4
                have h0 : 0 ≤ enN (ls s) := by unfold enN; omega
                simp only [IntKind.wrap, IntKind.signed, IntKind.bits]
                simp
                omega
              rw [hw] at h
              exact ⟨_, Tr.run_of h rfl, PLe.of_eq rfl⟩
  · cases hp
/-- what it holds -/
theorem end_fit (l : List UInt8) : u32N (eN l) = true ∧ (eR l).length ≤ l.length ∧ (eO l = true → (eR l).length < l.length) := by
  have bd := en_bd l 0 0 (by omega)
  unfold eN eR eO endZ
  by_cases h1 : l = []
  · rw [decide_eq_true h1]
    simp [u32N]
  · have hpos : 0 < l.length := by
      rcases Nat.eq_zero_or_pos l.length with h0 | h0
      · exact absurd (List.length_eq_zero_iff.1 h0) h1
      · exact h0
    rw [decide_eq_false h1]
    cases c1 : decide (l.getD 0 0 = 42) with
    | true => simp [u32N]; omega
    | false =>
      by_cases h2 : enI l = 0
      · rw [decide_eq_true h2]; simp [u32N]
      · rw [decide_eq_false h2]
        cases c3 : decide (l.getD 0 0 = 48) with
        | true => simp [u32N]
        | false =>
          by_cases h4 : enN l > 4294967295
          · rw [decide_eq_true h4]; simp [u32N]
          · rw [decide_eq_false h4]
            have h0 : 0 ≤ enN l := by unfold enN; omega
            have hI : 0 < enI l := by omega
            refine ⟨?_, ?_, fun _ => ?_⟩
            · simp only [cond_false, Option.getD_some, u32N, Bool.and_eq_true, decide_eq_true_eq]
              omega
            · simp
            · simp only [cond_false, Option.getD_some, List.length_drop]
              omega
def t3Pure : List (Nat × (List PV → Tr PV)) := (38, end3G) :: (37, words3G) :: (34, write3G) :: t1Pure
theorem t3Pure_ok {m : Int} {t : TypeId} {fr : Nat × Nat} : TabOK Tryz.prog (GG m t fr) t3Pure := (TabOK.cons end3_ok (fn := Tryz.f38) (by kernel_rfl) (by kernel_rfl) (TabOK.cons words3_ok (fn := Tryz.f37) (by kernel_rfl) (by kernel_rfl) (TabOK.cons write3_ok (fn := Tryz.f34) (by kernel_rfl) (by kernel_rfl) t1Pure_ok)))
noncomputable abbrev Eq3 (G : GT) : Env := envOf Tryz.prog G t3Pure libFull
theorem Eq3_ok : (Eq3 (GG m t fr)).ok Tryz.prog (GG m t fr) := envOf_ok mixed t3Pure_ok libFull_ok
end
end Go.Proofs.YtcdghinmmhcfcaaGreatDoor.Ev
