/- JTallyTells20: several texts in one. Condition: each part's own. -/
import Derived.Test.YtcdghinmmhcfcaaGreatDoorJTallyTells19
import Derived.Test.YtcdghinmmhcfcaaGreatDoorJTallyTells16
import Derived.Test.YtcdghinmmhcfcaaGreatDoorJTallyTells18
/- The document's set as read. No condition. -/
namespace Go.Proofs.YtcdghinmmhcfcaaGreatDoor.Ev
open Go Go.RowKit Go.Proofs Go.Proofs.YtcdghinmmhcfcaaGreatDoor.Str
set_option linter.unusedVariables false
set_option linter.unusedSimpArgs false
section
variable {m : Int} {t : TypeId} {fr : Nat × Nat}
def p3Outs : Exit → Outs
  | .normal => { ks := [0, 4], rs := [.slot 4], nils := [(4, 83, 2)] }
  | .exit _ => { ks := [4], rs := [.slot 4], nils := [(4, 83, 2)] }
  | _ => { ks := [2, 3] }
noncomputable abbrev p3Round (G : GT) := roundT Tryz.prog (Eq3 G) 60 G 51 p3Outs .normal (theLoop 0 Tryz.f39)
theorem p3_round (m : Int) (t : TypeId) (fr : Nat × Nat) (s : ByteArray) (k : Nat) (o : List Sp) : (p3Round (GG m t fr) ([str s, .own 0], [.row 83 2 k (sRow o)])).run2 =
 (bif (!(eO (ls s))) then
 (.some ((.ret, ([(.lit (.slice .none 0 0)), (.lit (.int .i64 (7 : Int)))], [])), [(okS s)]))
 else bif (!((ByteArray.toList (bs (eR (ls s)))) == (ByteArray.toList (.mk (List.toArray []))))) then
 bif ((((UInt8.toNat (Array.getD (ByteArray.data (bs (eR (ls s)))) 0 (0 : UInt8))) : Nat) : Int) == (58 : Int)) then
 bif (!(eO (ls (ByteArray.extract (bs (eR (ls s))) 1 (Int.toNat (((List.length (eR (ls s))) : Nat) : Int)))))) then
 (.some ((.ret, ([(.lit (.slice .none 0 0)), (.lit (.int .i64 (7 : Int)))], [])), [(okS (ByteArray.extract (bs (eR (ls s))) 1 (Int.toNat (((List.length (eR (ls s))) : Nat) : Int)))), ((decide ((1 : Int) ≤ (((List.length (eR (ls s))) : Nat) : Int))) && (decide ((((List.length (eR (ls s))) : Nat) : Int) ≤ (((List.length (eR (ls s))) : Nat) : Int)))), (Nat.blt 0 (List.length (eR (ls s)))), (okS s)]))
 else bif ((ByteArray.toList (bs (eR (ls (ByteArray.extract (bs (eR (ls s))) 1 (Int.toNat (((List.length (eR (ls s))) : Nat) : Int))))))) == (ByteArray.toList (.mk (List.toArray [])))) then
 (.some (((.exit 0), ([(.own 0)], [(.row 83 2 (k + 1) (rowApp k (sRow o) (rowOf [(.lit (.int .u32 (eN (ls s)))), (.lit (.int .u32 (eN (ls (ByteArray.extract (bs (eR (ls s))) 1 (Int.toNat (((List.length (eR (ls s))) : Nat) : Int)))))))] 2)))])), [(Nat.ble ((k + 1) * 8) (140737488355328 : Nat)), (okS (ByteArray.extract (bs (eR (ls s))) 1 (Int.toNat (((List.length (eR (ls s))) : Nat) : Int)))), ((decide ((1 : Int) ≤ (((List.length (eR (ls s))) : Nat) : Int))) && (decide ((((List.length (eR (ls s))) : Nat) : Int) ≤ (((List.length (eR (ls s))) : Nat) : Int)))), (Nat.blt 0 (List.length (eR (ls s)))), (okS s)]))
 else bif (bne (((UInt8.toNat (Array.getD (ByteArray.data (bs (eR (ls (ByteArray.extract (bs (eR (ls s))) 1 (Int.toNat (((List.length (eR (ls s))) : Nat) : Int))))))) 0 (0 : UInt8))) : Nat) : Int) (44 : Int)) then
 (.some ((.ret, ([(.lit (.slice .none 0 0)), (.lit (.int .i64 (7 : Int)))], [])), [(Nat.blt 0 (List.length (eR (ls (ByteArray.extract (bs (eR (ls s))) 1 (Int.toNat (((List.length (eR (ls s))) : Nat) : Int))))))), (Nat.ble ((k + 1) * 8) (140737488355328 : Nat)), (okS (ByteArray.extract (bs (eR (ls s))) 1 (Int.toNat (((List.length (eR (ls s))) : Nat) : Int)))), ((decide ((1 : Int) ≤ (((List.length (eR (ls s))) : Nat) : Int))) && (decide ((((List.length (eR (ls s))) : Nat) : Int) ≤ (((List.length (eR (ls s))) : Nat) : Int)))), (Nat.blt 0 (List.length (eR (ls s)))), (okS s)]))
 else (.some ((.normal, ([(.lit (.string (ByteArray.extract (bs (eR (ls (ByteArray.extract (bs (eR (ls s))) 1 (Int.toNat (((List.length (eR (ls s))) : Nat) : Int)))))) 1 (Int.toNat (((List.length (eR (ls (ByteArray.extract (bs (eR (ls s))) 1 (Int.toNat (((List.length (eR (ls s))) : Nat) : Int)))))) : Nat) : Int))))), (.own 0)], [(.row 83 2 (k + 1) (rowApp k (sRow o) (rowOf [(.lit (.int .u32 (eN (ls s)))), (.lit (.int .u32 (eN (ls (ByteArray.extract (bs (eR (ls s))) 1 (Int.toNat (((List.length (eR (ls s))) : Nat) : Int)))))))] 2)))])), [((decide ((1 : Int) ≤ (((List.length (eR (ls (ByteArray.extract (bs (eR (ls s))) 1 (Int.toNat (((List.length (eR (ls s))) : Nat) : Int)))))) : Nat) : Int))) && (decide ((((List.length (eR (ls (ByteArray.extract (bs (eR (ls s))) 1 (Int.toNat (((List.length (eR (ls s))) : Nat) : Int)))))) : Nat) : Int) ≤ (((List.length (eR (ls (ByteArray.extract (bs (eR (ls s))) 1 (Int.toNat (((List.length (eR (ls s))) : Nat) : Int)))))) : Nat) : Int)))), (Nat.blt 0 (List.length (eR (ls (ByteArray.extract (bs (eR (ls s))) 1 (Int.toNat (((List.length (eR (ls s))) : Nat) : Int))))))), (Nat.ble ((k + 1) * 8) (140737488355328 : Nat)), (okS (ByteArray.extract (bs (eR (ls s))) 1 (Int.toNat (((List.length (eR (ls s))) : Nat) : Int)))), ((decide ((1 : Int) ≤ (((List.length (eR (ls s))) : Nat) : Int))) && (decide ((((List.length (eR (ls s))) : Nat) : Int) ≤ (((List.length (eR (ls s))) : Nat) : Int)))), (Nat.blt 0 (List.length (eR (ls s)))), (okS s)]))
 else bif ((ByteArray.toList (bs (eR (ls s)))) == (ByteArray.toList (.mk (List.toArray [])))) then
 (.some (((.exit 0), ([(.own 0)], [(.row 83 2 (k + 1) (rowApp k (sRow o) (rowOf [(.lit (.int .u32 (eN (ls s)))), (.lit (.int .u32 (eN (ls s))))] 2)))])), [(Nat.ble ((k + 1) * 8) (140737488355328 : Nat)), (Nat.blt 0 (List.length (eR (ls s)))), (okS s)]))
 else bif (bne (((UInt8.toNat (Array.getD (ByteArray.data (bs (eR (ls s)))) 0 (0 : UInt8))) : Nat) : Int) (44 : Int)) then
 (.some ((.ret, ([(.lit (.slice .none 0 0)), (.lit (.int .i64 (7 : Int)))], [])), [(Nat.blt 0 (List.length (eR (ls s)))), (Nat.ble ((k + 1) * 8) (140737488355328 : Nat)), (Nat.blt 0 (List.length (eR (ls s)))), (okS s)]))
 else (.some ((.normal, ([(.lit (.string (ByteArray.extract (bs (eR (ls s))) 1 (Int.toNat (((List.length (eR (ls s))) : Nat) : Int))))), (.own 0)], [(.row 83 2 (k + 1) (rowApp k (sRow o) (rowOf [(.lit (.int .u32 (eN (ls s)))), (.lit (.int .u32 (eN (ls s))))] 2)))])), [((decide ((1 : Int) ≤ (((List.length (eR (ls s))) : Nat) : Int))) && (decide ((((List.length (eR (ls s))) : Nat) : Int) ≤ (((List.length (eR (ls s))) : Nat) : Int)))), (Nat.blt 0 (List.length (eR (ls s)))), (Nat.ble ((k + 1) * 8) (140737488355328 : Nat)), (Nat.blt 0 (List.length (eR (ls s)))), (okS s)]))
 else bif ((ByteArray.toList (bs (eR (ls s)))) == (ByteArray.toList (.mk (List.toArray [])))) then
 (.some (((.exit 0), ([(.own 0)], [(.row 83 2 (k + 1) (rowApp k (sRow o) (rowOf [(.lit (.int .u32 (eN (ls s)))), (.lit (.int .u32 (eN (ls s))))] 2)))])), [(Nat.ble ((k + 1) * 8) (140737488355328 : Nat)), (okS s)]))
 else bif (bne (((UInt8.toNat (Array.getD (ByteArray.data (bs (eR (ls s)))) 0 (0 : UInt8))) : Nat) : Int) (44 : Int)) then
 (.some ((.ret, ([(.lit (.slice .none 0 0)), (.lit (.int .i64 (7 : Int)))], [])), [(Nat.blt 0 (List.length (eR (ls s)))), (Nat.ble ((k + 1) * 8) (140737488355328 : Nat)), (okS s)]))
 else (.some ((.normal, ([(.lit (.string (ByteArray.extract (bs (eR (ls s))) 1 (Int.toNat (((List.length (eR (ls s))) : Nat) : Int))))), (.own 0)], [(.row 83 2 (k + 1) (rowApp k (sRow o) (rowOf [(.lit (.int .u32 (eN (ls s)))), (.lit (.int .u32 (eN (ls s))))] 2)))])), [((decide ((1 : Int) ≤ (((List.length (eR (ls s))) : Nat) : Int))) && (decide ((((List.length (eR (ls s))) : Nat) : Int) ≤ (((List.length (eR (ls s))) : Nat) : Int)))), (Nat.blt 0 (List.length (eR (ls s)))), (Nat.ble ((k + 1) * 8) (140737488355328 : Nat)), (okS s)])) : Option ((Exit × Kept) × List Bool)) := by
  kernel_rfl
/-- a span as the document reads it, and what is behind it -/
def p3S (l : List UInt8) : Option (Sp × List UInt8) :=
  bif eO l then (bif !(decide (eR l = [])) && decide ((eR l).getD 0 0 = 58) then (bif eO ((eR l).drop 1) then some ((eN l, eN ((eR l).drop 1)), eR ((eR l).drop 1)) else none) else some ((eN l, eN l), eR l)) else none
def p3F : Nat → List UInt8 → List Sp → Option (List Sp)
  | 0, _, _ => none
  | k + 1, l, o => match p3S l with
    | none => none
    | some (x, r) => bif decide (r = []) then some (o ++ [x]) else bif decide (r.getD 0 0 = 44) then p3F k (r.drop 1) (o ++ [x]) else none
theorem ext1 (r : List UInt8) : (bs r).extract 1 (Int.toNat ((r.length : Nat) : Int)) = bs (r.drop 1) := by
  rw [Int.toNat_natCast]
  have := ext_drop (bs r) 1
  rw [ls_bs] at this
  exact this
theorem p3S_fit {l : List UInt8} {x : Sp} {r : List UInt8} (h : p3S l = some (x, r)) : u32B x = true ∧ r.length < l.length := by
  unfold p3S at h
  have f1 := end_fit l
  have f2 := end_fit ((eR l).drop 1)
  have hl : ((eR l).drop 1).length ≤ (eR l).length := by rw [List.length_drop]; omega
  have hu : ∀ a b : Int, u32N a = true → u32N b = true → u32B (a, b) = true := fun a b ha hb => by
    unfold u32N at ha hb
    unfold u32B
    rw [ha, hb]
    rfl
  cases c1 : eO l with
  | false => rw [c1] at h; cases h
  | true =>
    rw [c1, cond_true] at h
    have g1 := f1.2.2 c1
    cases c2 : (!(decide (eR l = [])) && decide ((eR l).getD 0 0 = 58)) with
    | true =>
      rw [c2, cond_true] at h
      cases c3 : eO ((eR l).drop 1) with
      | false => rw [c3] at h; cases h
      | true =>
        rw [c3, cond_true] at h
        cases h
        exact ⟨hu _ _ f1.1 f2.1, by have := f2.2.1; omega⟩
    | false =>
      rw [c2, cond_false] at h
      cases h
      exact ⟨hu _ _ f1.1 f1.1, g1⟩
def p3End : Option (List Sp) → Exit × Kept
  | some q => (.exit 0, ([.own 0], [.row 83 2 q.length (sRow q)]))
  | none => (.ret, ([.lit (.slice none 0 0), int 7], []))
theorem okS_drop {l : List UInt8} {n : Nat} (h : l.length ≤ n) (hn : n ≤ 4294967280) : okS (bs l) = true := okS_of (by rw [bs_len]; omega)
/-- a round -/
theorem p3_step (l : List UInt8) (hl : l.length ≤ 4294967280) (o : List Sp) (ho : o.length + l.length ≤ 4294967280) :
    (p3Round (GG m t fr) ([str (bs l), .own 0], [.row 83 2 o.length (sRow o)])).run = (match p3S l with
      | none => some (p3End none)
      | some (x, r) => bif decide (r = []) then some (.exit 0, ([.own 0], [.row 83 2 (o.length + 1) (rowApp o.length (sRow o) (rowOf [.lit (.int .u32 x.1), .lit (.int .u32 x.2)] 2))]))
        else bif decide (r.getD 0 0 = 44) then some (.normal, ([str (bs (r.drop 1)), .own 0], [.row 83 2 (o.length + 1) (rowApp o.length (sRow o) (rowOf [.lit (.int .u32 x.1), .lit (.int .u32 x.2)] 2))]))
        else some (p3End none)) := by
  have h := p3_round m t fr (bs l) o.length o
  have enil : (⟨#[]⟩ : ByteArray) = bs [] := rfl
  have e58 : ∀ c : UInt8, ((c.toNat : Int) == (58 : Int)) = decide (c = 58) := fun c => byte_eq c 58
  have e44 : ∀ c : UInt8, ((c.toNat : Int) == (44 : Int)) = decide (c = 44) := fun c => byte_eq c 44
  have f1 := end_fit l
  have f2 := end_fit ((eR l).drop 1)
  have hd1 : ((eR l).drop 1).length ≤ (eR l).length := by rw [List.length_drop]; omega
  have ok0 : okS (bs l) = true := okS_drop hl (by omega)
  have ok1 : okS (bs ((eR l).drop 1)) = true := okS_drop (n := l.length) (by omega) hl
  have hb : ∀ k : Nat, decide (((k : Nat) : Int) ≤ ((k : Nat) : Int)) = true := fun k => by simp
  have hk : l ≠ [] → Nat.ble ((o.length + 1) * 8) 140737488355328 = true := fun _ => Nat.ble_eq_true_of_le (by omega)
  have hone : ∀ r : List UInt8, r ≠ [] → decide ((1 : Int) ≤ ((r.length : Nat) : Int)) = true ∧ Nat.blt 0 r.length = true := fun r hr => by
    have hpos : 0 < r.length := by
      rcases Nat.eq_zero_or_pos r.length with h0 | h0
      · exact absurd (List.length_eq_zero_iff.1 h0) hr
      · exact h0
    refine ⟨by simp; omega, by rw [Nat.blt_eq]; exact hpos⟩
  simp only [ext1, ls_bs, eqB, enil, getD_ls, bne, e58, e44, ok0, ok1, hb] at h
  unfold p3S
  cases c1 : eO l with
  | false =>
    rw [c1] at h
    exact Tr.run_of h rfl
  | true =>
    rw [c1] at h
    have hk' := hk (fun e => by rw [e] at c1; revert c1; decide)
    rw [hk'] at h
    by_cases c2 : eR l = []
    · rw [decide_eq_true c2] at h
      simp only [decide_eq_true c2, cond_true, Bool.not_true, Bool.false_and, cond_false]
      exact Tr.run_of h rfl
    · obtain ⟨g1, g2⟩ := hone _ c2
      rw [decide_eq_false c2, g1, g2] at h
      simp only [decide_eq_false c2, cond_true, Bool.not_false, Bool.true_and]
      cases c3 : decide ((eR l).getD 0 0 = 58) with
      | false =>
        rw [c3] at h
        simp only [cond_false]
        rw [decide_eq_false c2]
        cases c4 : decide ((eR l).getD 0 0 = 44) with
        | false => rw [c4] at h; exact Tr.run_of h rfl
        | true => rw [c4] at h; exact Tr.run_of h rfl
      | true =>
        rw [c3] at h
        simp only [cond_true]
        cases c5 : eO ((eR l).drop 1) with
        | false => rw [c5] at h; exact Tr.run_of h rfl
        | true =>
          rw [c5] at h
          simp only [cond_true]
          by_cases c6 : eR ((eR l).drop 1) = []
          · rw [decide_eq_true c6] at h ⊢
            exact Tr.run_of h rfl
          · obtain ⟨k1, k2⟩ := hone _ c6
            rw [decide_eq_false c6, k1, k2] at h
            rw [decide_eq_false c6]
            cases c7 : decide ((eR ((eR l).drop 1)).getD 0 0 = 44) with
            | false => rw [c7] at h; exact Tr.run_of h rfl
            | true => rw [c7] at h; exact Tr.run_of h rfl
theorem p3_LR : ∀ (k : Nat) (l : List UInt8) (o : List Sp), l.length < k → o.length + l.length ≤ 4294967280 →
    LR Tryz.prog (Eq3 (GG m t fr)) 60 (GG m t fr) 51 p3Outs .normal (theLoop 0 Tryz.f39) ([str (bs l), .own 0], [.row 83 2 o.length (sRow o)]) (p3End (p3F k l o)).1 (p3End (p3F k l o)).2
  | 0, l, o, hk, ho => absurd hk (by omega)
  | k + 1, l, o, hk, ho => by
    have h := p3_step (m := m) (t := t) (fr := fr) l (by omega) o ho
    rw [p3F]
    cases c1 : p3S l with
    | none =>
      rw [c1] at h
      exact .last h (by simp [p3End]) (by simp [p3End])
    | some y =>
      obtain ⟨x, r⟩ := y
      rw [c1] at h
      obtain ⟨hu, hr⟩ := p3S_fit c1
      have le : ∀ ps : List PV, KLe (ps, [.row 83 2 (o.length + 1) (rowApp o.length (sRow o) (rowOf [.lit (.int .u32 x.1), .lit (.int .u32 x.2)] 2))]) (ps, [.row 83 2 (o ++ [x]).length (sRow (o ++ [x]))]) := fun ps =>
        ⟨.refl _, BLeL.cons (.row _ _ (by simp) fun j hj => s_snoc o x.1 x.2 j hj) .nil⟩
      by_cases c2 : r = []
      · simp only [decide_eq_true c2, cond_true] at h ⊢
        show LR _ _ _ _ _ _ _ _ _ (.exit 0) ([.own 0], [.row 83 2 (o ++ [x]).length (sRow (o ++ [x]))])
        refine .out ?_ (le _)
        exact .last h (by simp) (by simp)
      · simp only [decide_eq_false c2, cond_false] at h ⊢
        cases c3 : decide (r.getD 0 0 = 44) with
        | true =>
          simp only [c3, cond_true] at h ⊢
          have hr1 : (r.drop 1).length < r.length := by
            rw [List.length_drop]
            rcases Nat.eq_zero_or_pos r.length with h0 | h0
            · exact absurd (List.length_eq_zero_iff.1 h0) c2
            · omega
          exact .more h (.le (le _) (p3_LR k (r.drop 1) (o ++ [x]) (by omega) (by rw [List.length_append, List.length_singleton]; omega)))
        | false =>
          simp only [c3, cond_false] at h ⊢
          exact .last h (by simp [p3End]) (by simp [p3End])
def p3Z (l : List UInt8) : Option (List Sp) := p3F (l.length + 1) l []
def p3K (l : List UInt8) : Bool := (p3Z l).isSome
def p3L (l : List UInt8) : List Sp := (p3Z l).getD []
theorem p3_u32 : ∀ (k : Nat) (l : List UInt8) (o q : List Sp), o.all u32B = true → p3F k l o = some q → q.all u32B = true ∧ q.length ≤ o.length + l.length
  | 0, l, o, q, ho, h => by cases h
  | k + 1, l, o, q, ho, h => by
    rw [p3F] at h
    cases c1 : p3S l with
    | none => rw [c1] at h; cases h
    | some y =>
      obtain ⟨x, r⟩ := y
      rw [c1] at h
      obtain ⟨hu, hr⟩ := p3S_fit c1
      have ho' : (o ++ [x]).all u32B = true := by rw [List.all_append, ho]; simp [hu]
      by_cases c2 : r = []
      · simp only [decide_eq_true c2, cond_true, Option.some.injEq] at h
        subst h
        refine ⟨ho', ?_⟩
        rw [List.length_append, List.length_singleton]
        omega
      · simp only [decide_eq_false c2, cond_false] at h
        cases c3 : decide (r.getD 0 0 = 44) with
        | true =>
          simp only [c3, cond_true] at h
          obtain ⟨h1, h2⟩ := p3_u32 k (r.drop 1) (o ++ [x]) q ho' h
          refine ⟨h1, ?_⟩
          rw [List.length_append, List.length_singleton, List.length_drop] at h2
          omega
        | false => simp only [c3, cond_false] at h; cases h
theorem p3L_fit (l : List UInt8) : (p3L l).all u32B = true ∧ (p3L l).length ≤ l.length := by
  unfold p3L
  cases h : p3Z l with
  | none => simp
  | some q =>
    obtain ⟨h1, h2⟩ := p3_u32 (l.length + 1) l [] q rfl h
    exact ⟨h1, by simpa using h2⟩
def p3C : Kept → Tr (Exit × Kept)
  | ([.lit (.string s), .own 0], [.row e 2 0 g]) => match Nat.beq e 83 with
    | true => .br (okS s) (.br (p3K (ls s)) (.leaf (.exit 0, ([.own 0], [.row 83 2 (p3L (ls s)).length (sRow (p3L (ls s)))]))) (.leaf (.ret, ([.lit (.slice none 0 0), int 7], [])))) .fail
    | false => .fail
  | _ => .fail
theorem p3C_ok (k : Kept) (e : Exit) (y : Kept) (h : (p3C k).run = some (e, y)) : LR Tryz.prog (Eq3 (GG m t fr)) 60 (GG m t fr) 51 p3Outs .normal (theLoop 0 Tryz.f39) k e y := by
  unfold p3C at h
  split at h
  · rename_i s e0 g
    split at h
    · rename_i he
      obtain rfl := Nat.eq_of_beq_eq_true he
      have hb := br_run h
      clear h
      obtain ⟨hc, h⟩ := hb
      have hl := ls_len s
      have hs := okS_le hc
      have key := p3_LR (m := m) (t := t) (fr := fr) ((ls s).length + 1) (ls s) [] (by omega) (by simp; omega)
      rw [bs_ls] at key
      have hin : KLe ([str s, .own 0], [.row 83 2 0 g]) ([str s, .own 0], [.row 83 2 ([] : List Sp).length (sRow [])]) :=
        ⟨.refl _, BLeL.cons (.row _ _ rfl fun j hj => absurd hj (by omega)) .nil⟩
      simp only [Tr.run] at h
      unfold p3K p3L p3Z at h
      cases c : p3F ((ls s).length + 1) (ls s) [] with
      | none =>
        rw [c] at h key
        simp only [Option.isSome_none, cond_false, Option.some.injEq, Prod.mk.injEq] at h
        obtain ⟨rfl, rfl⟩ := h
        exact .le hin key
      | some q =>
        rw [c] at h key
        simp only [Option.isSome_some, cond_true, Option.getD_some, Option.some.injEq, Prod.mk.injEq] at h
        obtain ⟨rfl, rfl⟩ := h
        exact .le hin key
    · cases h
  · cases h
noncomputable abbrev p3Cut (G : GT) := cutOf G 51 p3Outs 0 p3C
theorem parse3_raw (m : Int) (t : TypeId) (fr : Nat × Nat) (s : ByteArray) : (fnPure Tryz.prog ((Eq3 (GG m t fr)).withCuts (cut1 0 (p3Cut (GG m t fr)))) 60 Tryz.f39 (GG m t fr) [str s]).run2 =
 (bif (p3K (ls s)) then
 bif (decide ((((List.length (p3L (ls s))) : Nat) : Int) > (1024 : Int))) then
 (.some ((.tup [(.lit (.slice .none 0 0)), (.lit (.int .i64 (15 : Int)))]), [(okS s)]))
 else (.some ((.tup [(.gsl 2 (List.length (p3L (ls s))) (sRow (p3L (ls s)))), (.lit (.int .i64 (0 : Int)))]), [(okS s)]))
 else (.some ((.tup [(.lit (.slice .none 0 0)), (.lit (.int .i64 (7 : Int)))]), [(okS s)])) : Option (PV × List Bool)) := by
  kernel_rfl
def d3L (l : List UInt8) : List Sp := bif p3K l && Nat.ble (p3L l).length 1024 then p3L l else []
def parse3G : List PV → Tr PV
  | [.lit (.string s)] => .br (okS s) (.leaf (.tup [.gsl 2 (d3L (ls s)).length (sRow (d3L (ls s))), .junk])) .fail
  | _ => .fail
theorem parse3_ok : PureOK Tryz.prog (GG m t fr) 39 parse3G := by
  have base := fn_cuts mixed (Eq3_ok (m := m) (t := t) (fr := fr)) (f := 39) (fn := Tryz.f39) (cuts := cut1 0 (p3Cut (GG m t fr))) (by kernel_rfl) (CutLaws.one (by omega) (by kernel_rfl) fun st e st' h => cutOf_ok Eq3_ok mixed (noCuts_ok (envOf_cuts ..) _) p3C_ok h)
  intro ps p hp
  unfold parse3G at hp
  split at hp
  · rename_i s
    obtain ⟨hc, hp⟩ := br_run hp
    simp only [Tr.run, Option.some.injEq] at hp
    subst hp
    have h := parse3_raw m t fr s
    rw [hc] at h
    have no : ∀ {x : PV}, PLe (.tup [.lit (.slice none 0 0), x]) (.tup [.gsl 2 ([] : List Sp).length (sRow []), .junk]) := PLe.tup (PLeL.cons (PLe.nil 2 _) (PLeL.cons (PLe.junk _) .nil))
    have yes : ∀ {q x : PV}, PLe (.tup [q, x]) (.tup [q, .junk]) := PLe.tup (PLeL.cons (.refl _) (PLeL.cons (PLe.junk _) .nil))
    unfold d3L
    cases c1 : p3K (ls s) with
    | false =>
      rw [c1] at h
      exact (base _ _ (Tr.run_of h rfl)).post no
    | true =>
      rw [c1] at h
      by_cases c2 : (p3L (ls s)).length ≤ 1024
      · rw [decide_eq_false (show ¬ (((p3L (ls s)).length : Nat) : Int) > 1024 by omega)] at h
        rw [Nat.ble_eq_true_of_le c2]
        exact (base _ _ (Tr.run_of h rfl)).post yes
      · rw [decide_eq_true (show (((p3L (ls s)).length : Nat) : Int) > 1024 by omega)] at h
        have e : Nat.ble (p3L (ls s)).length 1024 = false := by
          rw [Bool.eq_false_iff, ne_eq, Nat.ble_eq]
          exact c2
        rw [e]
        exact (base _ _ (Tr.run_of h rfl)).post no
  · cases hp
theorem d3_fit (l : List UInt8) : (d3L l).all u32B = true ∧ (d3L l).length ≤ 1024 := by
  unfold d3L
  cases c : (p3K l && Nat.ble (p3L l).length 1024) with
  | false => simp
  | true =>
    simp only [Bool.and_eq_true, Nat.ble_eq] at c
    exact ⟨(p3L_fit l).1, c.2⟩
def t4Pure : List (Nat × (List PV → Tr PV)) := (39, parse3G) :: t3Pure
theorem t4Pure_ok {m : Int} {t : TypeId} {fr : Nat × Nat} : TabOK Tryz.prog (GG m t fr) t4Pure := (TabOK.cons parse3_ok (fn := Tryz.f39) (by kernel_rfl) (by kernel_rfl) t3Pure_ok)
end
end Go.Proofs.YtcdghinmmhcfcaaGreatDoor.Ev

/- The document's Check of a tally, as it is evaluated where the bits that are wanted are given. No condition. -/
namespace Go.Proofs.YtcdghinmmhcfcaaGreatDoor.Ev
open Go Go.RowKit Go.Proofs Go.Proofs.YtcdghinmmhcfcaaGreatDoor.Str
set_option linter.unusedVariables false
set_option linter.unusedSimpArgs false
section
variable {m : Int} {t : TypeId} {fr : Nat × Nat}
def bitK (w1 w2 w4 w8 : Bool) (k : Int) : Bool := bif k == 1 then w1 else bif k == 2 then w2 else bif k == 4 then w4 else w8
def rwK (w1 w2 w4 w8 : Bool) : List PV → Tr PV
  | [.agg [.lit (.int .u8 w), .lit (.int .i64 many), .lit (.int .u32 least), .lit (.int .u32 most), .gsl 2 n f], .lit (.int .u8 k)] => .br (wb w k == bitK w1 w2 w4 w8 k) (.leaf (bool (bitK w1 w2 w4 w8 k))) .fail
  | _ => .fail
theorem rwK_ok {w1 w2 w4 w8 : Bool} : PureOK Tryz.prog (GG m t fr) 48 (rwK w1 w2 w4 w8) := by
  refine PureOK.of rwants_ok fun ps p hp => ?_
  unfold rwK at hp
  split at hp
  · obtain ⟨hb, hp⟩ := br_run hp
    simp only [Tr.run, Option.some.injEq] at hp
    subst hp
    rw [← eq_of_beq hb]
    exact ⟨_, rfl, .refl _⟩
  · cases hp
def tgPure (w1 w2 w4 w8 : Bool) : List (Nat × (List PV → Tr PV)) := (48, rwK w1 w2 w4 w8) :: tePure
theorem tgPure_ok {w1 w2 w4 w8 : Bool} : TabOK Tryz.prog (GG m t fr) (tgPure w1 w2 w4 w8) := TabOK.cons rwK_ok (fn := Tryz.f48) (by kernel_rfl) (by kernel_rfl) tePure_ok
noncomputable abbrev E16k (w1 w2 w4 w8 : Bool) (G : GT) : Env := envOf Tryz.prog G (tgPure w1 w2 w4 w8) teFull
theorem E16k_ok {w1 w2 w4 w8 : Bool} : (E16k w1 w2 w4 w8 (GG m t fr)).ok Tryz.prog (GG m t fr) := envOf_ok mixed tgPure_ok teFull_ok
def rckR (b2 b4 s b7 b10 b14 b16 b21 : Bool) : List (Nat × Option Bool) := [(2, some b2), (4, some b4), (6, some s), (7, some b7), (10, some b10), (14, some b14), (16, some b16), (21, some b21)]
end
end Go.Proofs.YtcdghinmmhcfcaaGreatDoor.Ev

/- What the document's Check of a tally tells is what the program's tells. No condition. -/
namespace Go.Proofs.YtcdghinmmhcfcaaGreatDoor.Ev
open Go Go.RowKit Go.Proofs Go.Proofs.YtcdghinmmhcfcaaGreatDoor.Str
set_option linter.unusedVariables false
set_option linter.unusedSimpArgs false
theorem aN_fin : ∀ k : Fin 256, aN ((k.val : Nat) : Int) = decide (((k.val : Nat) : Int) > 15) := by decide +kernel
theorem aN_gt {w : Int} (h : 0 ≤ w ∧ w < 256) : aN w = decide (w > 15) := by
  have := aN_fin ⟨w.toNat, by omega⟩
  have e : ((w.toNat : Nat) : Int) = w := by omega
  simpa only [e] using this
theorem b_or (a b : Bool) : (bif a then true else b) = (a || b) := by cases a <;> rfl
theorem b_and (a b : Bool) : (bif a then b else false) = (a && b) := by cases a <;> rfl
/-- what is wrong, step by step, as the document says it -/
def kB2 (w many : Int) : Bool := decide (w > 15) || (decide (many < 0) || decide (many > 65536))
def kB4 (w1 w2 w4 w8 M L H S : Bool) : Bool := (!w8 && M) || ((!w1 && L) || ((!w2 && H) || (!w4 && S)))
def kS (M L H S : Bool) : Bool := M || (L || (H || S))
def kB7 (w1 w2 w4 w8 s M L H S : Bool) : Bool := s && ((w8 && M) || ((w1 && L) || ((w2 && H) || (w4 && S))))
theorem ev_doc : ∀ (w8 w1 w2 w4 M L H S : Bool), (evOk L w1 (kS M L H S) && (evOk H w2 (kS M L H S) && (evOk S w4 (kS M L H S) && evOk M w8 (kS M L H S)))) = (!(kB4 w1 w2 w4 w8 M L H S) && !(kB7 w1 w2 w4 w8 (kS M L H S) (!M) (!L) (!H) (!S))) := by
  decide +kernel
theorem pos_of {x : Int} (h : 0 ≤ x) : bne x 0 = posB x ∧ (x == 0) = !posB x := by
  unfold posB bne
  by_cases hx : x = 0
  · subst hx
    exact ⟨rfl, rfl⟩
  · have e : (x == 0) = false := by simpa using hx
    rw [e, decide_eq_true (show x > 0 by omega)]
    exact ⟨rfl, rfl⟩
def kB10 (w1 w2 w8 A1 A2 A3 : Bool) : Bool := (w8 && A1) || ((w1 && A2) || (w2 && A3))
def kB14 (w1 w2 : Bool) (least most : Int) : Bool := w1 && (w2 && decide (IntKind.u64.wrap least > IntKind.u64.wrap most))
def kB21 (w1 w2 : Bool) (many least most : Int) : Bool :=
  bif w1 then (bif w2 then decide (IntKind.u64.wrap many > IntKind.u64.wrap (IntKind.u64.wrap (IntKind.u64.wrap most - IntKind.u64.wrap least) + 1)) || (bne (IntKind.u64.wrap least) (IntKind.u64.wrap most) && decide (many < 2))
    else decide (IntKind.u64.wrap many > IntKind.u64.wrap (IntKind.u64.wrap (4294967295 - IntKind.u64.wrap least) + 1)))
  else (bif w2 then decide (IntKind.u64.wrap many > IntKind.u64.wrap (IntKind.u64.wrap (IntKind.u64.wrap most - 1) + 1)) else decide (IntKind.u64.wrap many > 4294967295))
def b7T (w many least most c : Int) : Bool := kB7 (wb w 1) (wb w 2) (wb w 4) (wb w 8) (kS (decide (many > 0)) (decide (least > 0)) (decide (most > 0)) (decide (c > 0))) (many == 0) (least == 0) (most == 0) (c == 0)
def b4T (w many least most c : Int) : Bool := kB4 (wb w 1) (wb w 2) (wb w 4) (wb w 8) (bne many 0) (bne least 0) (bne most 0) (bne c 0)
def sT (many least most c : Int) : Bool := kS (decide (many > 0)) (decide (least > 0)) (decide (most > 0)) (decide (c > 0))
def rkT (w many least most : Int) (l : List Sp) : Bool :=
  bif kB2 w many then false else bif b4T w many least most (sumS l) then false else bif b7T w many least most (sumS l) then false else
  bif decide (sumS l > 0) then !(kB10 (wb w 1) (wb w 2) (wb w 8) (bne (IntKind.u64.wrap many) (sumS l)) (bne least (sp l 0).1) (bne most (sp l (l.length - 1)).2))
  else bif kB14 (wb w 1) (wb w 2) least most then false else
  bif sT many least most (sumS l) && wb w 8 then !(kB21 (wb w 1) (wb w 2) many least most) else true
theorem rk_val (b2 b4 b7 S b10 b14 b16 b21 : Bool) (X : Option PV) : (bif true then (bif b2 then some (int 2) else bif b4 then some (int 2) else bif b7 then some (int 2) else bif S then (bif b10 then some (int 2) else some (int 0)) else bif b14 then some (int 2) else bif b16 then (bif b21 then some (int 2) else some (int 0)) else some (int 0)) else X) =
    some (ckRes (bif b2 then false else bif b4 then false else bif b7 then false else bif S then !b10 else bif b14 then false else bif b16 then !b21 else true)) := by
  cases b2 <;> cases b4 <;> cases b7 <;> cases S <;> cases b10 <;> cases b14 <;> cases b16 <;> cases b21 <;> rfl
theorem rk_is {w many least most : Int} {l : List Sp} (hw : 0 ≤ w ∧ w < 256) (hl : u32N least = true) (hm : u32N most = true) (hP : pkB l = true) : rkT w many least most l = ckP w many least most l := by
  unfold rkT ckP
  rw [aN_gt hw, hP]
  unfold u32N at hl hm
  simp only [Bool.and_eq_true, decide_eq_true_eq] at hl hm
  have hP' := hP
  unfold pkB at hP'
  simp only [Bool.and_eq_true, decide_eq_true_eq] at hP'
  obtain ⟨s0, s1⟩ := sumS_pos hP'.1
  unfold kB2
  by_cases d0 : w > 15
  · rw [decide_eq_true d0]; rfl
  by_cases d1 : many < 0
  · rw [decide_eq_false d0, decide_eq_true d1]; rfl
  by_cases d2 : many > 65536
  · rw [decide_eq_false d0, decide_eq_false d1, decide_eq_true d2]; rfl
  rw [decide_eq_false d0, decide_eq_false d1, decide_eq_false d2]
  simp only [Bool.or_false, Bool.not_false, Bool.true_and, cond_false]
  have wm : IntKind.u64.wrap many = many := wrap_u64 (by omega)
  have wl : IntKind.u64.wrap least = least := wrap_u64 (by omega)
  have wt : IntKind.u64.wrap most = most := wrap_u64 (by omega)
  have fold : ∀ x : Int, decide (x > 0) = posB x := fun _ => rfl
  unfold b4T b7T sT
  simp only [fold, (pos_of (show 0 ≤ many by omega)).1, (pos_of (show 0 ≤ many by omega)).2, (pos_of hl.1).1, (pos_of hl.1).2, (pos_of hm.1).1, (pos_of hm.1).2, (pos_of s0).1, (pos_of s0).2]
  have eS : evS many least most (sumS l) = kS (posB many) (posB least) (posB most) (posB (sumS l)) := by
    unfold evS kS
    cases posB many <;> cases posB least <;> cases posB most <;> cases posB (sumS l) <;> rfl
  have hev := ev_doc (wb w 8) (wb w 1) (wb w 2) (wb w 4) (posB many) (posB least) (posB most) (posB (sumS l))
  unfold evA
  rw [eS, hev]
  cases c4 : kB4 (wb w 1) (wb w 2) (wb w 4) (wb w 8) (posB many) (posB least) (posB most) (posB (sumS l)) with
  | true => rfl
  | false =>
    cases c7 : kB7 (wb w 1) (wb w 2) (wb w 4) (wb w 8) (kS (posB many) (posB least) (posB most) (posB (sumS l))) (!posB many) (!posB least) (!posB most) (!posB (sumS l)) with
    | true => rfl
    | false =>
      simp only [cond_false, Bool.not_false, Bool.and_self, Bool.true_and]
      by_cases hS : sumS l > 0
      · have e1 : posB (sumS l) = true := decide_eq_true hS
        have e2 : gtB (sumS l) 0 = true := decide_eq_true hS
        rw [e1, e2]
        simp only [cond_true, cond_false, Bool.not_true, Bool.and_true]
        unfold kB10 agB bne
        cases wb w 8 <;> cases wb w 1 <;> cases wb w 2 <;> cases (IntKind.u64.wrap many == sumS l) <;> cases (least == (sp l 0).1) <;> cases (most == (sp l (l.length - 1)).2) <;> rfl
      · have e1 : posB (sumS l) = false := decide_eq_false hS
        have e2 : gtB (sumS l) 0 = false := decide_eq_false hS
        rw [e1] at c4 c7
        rw [e1, e2]
        simp only [cond_true, cond_false, Bool.not_false, Bool.true_and]
        unfold kB14 kB21 fiB
        rw [wm, wl, wt]
        cases cs : kS (posB many) (posB least) (posB most) false with
        | false =>
          unfold kS at cs
          simp only [Bool.or_eq_false_iff] at cs
          obtain ⟨m0, l0, t0, _⟩ := cs
          have l0' : ¬ (least > 0) := of_decide_eq_false l0
          have t0' : ¬ (most > 0) := of_decide_eq_false t0
          rw [decide_eq_false (show ¬ (least > most) by omega)]
          simp only [Bool.and_false, Bool.false_and, cond_false, Bool.not_false, Bool.true_or]
        | true =>
          rw [cs] at c7
          have hx : posB many = wb w 8 ∧ posB least = wb w 1 ∧ posB most = wb w 2 := by
            revert c4 c7
            cases wb w 8 <;> cases wb w 1 <;> cases wb w 2 <;> cases wb w 4 <;> cases posB many <;> cases posB least <;> cases posB most <;> decide
          obtain ⟨xm, xl, xt⟩ := hx
          rw [← xm, ← xl, ← xt]
          have pL : ∀ {x : Int} {b : Bool}, posB x = b → (b = true → x > 0) ∧ (b = false → ¬ x > 0) := by
            intro x b h
            subst h
            exact ⟨fun h => of_decide_eq_true h, fun h => of_decide_eq_false h⟩
          cases cl : posB least <;> cases ct : posB most <;> cases cm : posB many <;> simp only [cond_true, cond_false, Bool.true_and, Bool.false_and, Bool.and_true, Bool.and_false, Bool.not_true, Bool.not_false, Bool.false_or, Bool.true_or]
          all_goals
            have ql := pL cl
            have qt := pL ct
            have qm := pL cm
            simp only [reduceCtorEq, false_implies, true_implies, true_and, and_true] at ql qt qm
            have wx : ∀ x : Int, IntKind.u64.wrap x = x % 18446744073709551616 := fun x => by simp [IntKind.wrap, IntKind.signed, IntKind.bits]
            simp only [gtB, leB, wx, bne, beqD, Bool.cond_eq_ite]
          all_goals
            rw [Bool.eq_iff_iff]
            repeat' split
          all_goals
            simp_all
          all_goals
            try omega
          all_goals
            have := (pL (x := most)).1 (by assumption)
            omega
end Go.Proofs.YtcdghinmmhcfcaaGreatDoor.Ev

/- The document's Check of a tally, bits 0000. No condition. -/
namespace Go.Proofs.YtcdghinmmhcfcaaGreatDoor.Ev
open Go Go.RowKit Go.Proofs Go.Proofs.YtcdghinmmhcfcaaGreatDoor.Str
set_option linter.unusedVariables false
section
variable {m : Int} {t : TypeId} {fr : Nat × Nat}
theorem rck0000_v (m : Int) (t : TypeId) (fr : Nat × Nat) (w many least most : Int) (n : Nat) (l : List Sp) (b2 b4 s b7 b10 b14 b16 b21 : Bool) : ((fnPure Tryz.prog ((E16k false false false false (GG m t fr)).withCuts (mrg (rckR b2 b4 s b7 b10 b14 b16 b21) noCuts)) 60 Tryz.f17 (GG m t fr) [tlP w many least most n (sRow l)])).val =
 (bif (pkB (spsOf n (sRow l))) then
 bif b2 then
 (.some (.lit (.int .i64 (2 : Int))))
 else bif b4 then
 (.some (.lit (.int .i64 (2 : Int))))
 else bif b7 then
 (.some (.lit (.int .i64 (2 : Int))))
 else bif (decide ((sumS (spsOf n (sRow l))) > (0 : Int))) then
 bif b10 then
 (.some (.lit (.int .i64 (2 : Int))))
 else (.some (.lit (.int .i64 (0 : Int))))
 else bif b14 then
 (.some (.lit (.int .i64 (2 : Int))))
 else bif b16 then
 bif b21 then
 (.some (.lit (.int .i64 (2 : Int))))
 else (.some (.lit (.int .i64 (0 : Int))))
 else (.some (.lit (.int .i64 (0 : Int))))
 else bif b2 then
 (.some (.lit (.int .i64 (2 : Int))))
 else bif b4 then
 (.some (.lit (.int .i64 (2 : Int))))
 else (.some (.lit (.int .i64 (2 : Int)))) : Option PV) := by
  kernel_rfl
theorem rck0000_c (m : Int) (t : TypeId) (fr : Nat × Nat) (w many least most : Int) (n : Nat) (l : List Sp) (b2 b4 s b7 b10 b14 b16 b21 : Bool) : ((fnPure Tryz.prog ((E16k false false false false (GG m t fr)).withCuts (mrg (rckR b2 b4 s b7 b10 b14 b16 b21) noCuts)) 60 Tryz.f17 (GG m t fr) [tlP w many least most n (sRow l)])).conds =
 (bif ((areSps n (sRow l)) && (Nat.ble n (4294967280 : Nat))) then
 bif (pkB (spsOf n (sRow l))) then
 bif (bif (decide (w > (15 : Int))) then true else (bif (decide (many < (0 : Int))) then true else true)) then
 bif ((bif (decide (w > (15 : Int))) then true else (bif (decide (many < (0 : Int))) then true else (decide (many > (65536 : Int))))) == b2) then
 bif b2 then
 true
 else bif (bif ((wb w (8 : Int)) == false) then (bif (bne many (0 : Int)) then true else (bif ((wb w (1 : Int)) == false) then (bif (bne least (0 : Int)) then true else (bif ((wb w (2 : Int)) == false) then (bif (bne most (0 : Int)) then true else (bif ((wb w (4 : Int)) == false) then true else false)) else false)) else false)) else false) then
 bif ((bif ((wb w (8 : Int)) == false) then (bif (bne many (0 : Int)) then true else (bif ((wb w (1 : Int)) == false) then (bif (bne least (0 : Int)) then true else (bif ((wb w (2 : Int)) == false) then (bif (bne most (0 : Int)) then true else (bif ((wb w (4 : Int)) == false) then (bne (sumS (spsOf n (sRow l))) (0 : Int)) else false)) else false)) else false)) else false) == b4) then
 bif b4 then
 true
 else bif (bif (decide (many > (0 : Int))) then true else (bif (decide (least > (0 : Int))) then true else (bif (decide (most > (0 : Int))) then true else true))) then
 bif ((bif (decide (many > (0 : Int))) then true else (bif (decide (least > (0 : Int))) then true else (bif (decide (most > (0 : Int))) then true else (decide ((sumS (spsOf n (sRow l))) > (0 : Int)))))) == s) then
 bif (bif s then (bif ((wb w (8 : Int)) == false) then (bif ((wb w (1 : Int)) == false) then (bif ((wb w (2 : Int)) == false) then (bif ((wb w (4 : Int)) == false) then true else false) else false) else false) else false) else true) then
 bif ((bif s then (bif ((wb w (8 : Int)) == false) then (bif ((wb w (1 : Int)) == false) then (bif ((wb w (2 : Int)) == false) then (bif ((wb w (4 : Int)) == false) then false else false) else false) else false) else false) else false) == b7) then
 bif b7 then
 true
 else bif (decide ((sumS (spsOf n (sRow l))) > (0 : Int))) then
 bif (bif ((wb w (8 : Int)) == false) then (bif ((wb w (1 : Int)) == false) then (bif ((wb w (2 : Int)) == false) then true else false) else false) else false) then
 bif ((bif ((wb w (8 : Int)) == false) then (bif ((wb w (1 : Int)) == false) then (bif ((wb w (2 : Int)) == false) then false else false) else false) else false) == b10) then
 bif b10 then
 true
 else true
 else false
 else false
 else bif (bif ((wb w (1 : Int)) == false) then true else false) then
 bif ((bif ((wb w (1 : Int)) == false) then false else false) == b14) then
 bif b14 then
 true
 else bif (bif s then (bif ((wb w (8 : Int)) == false) then true else false) else true) then
 bif ((bif s then (bif ((wb w (8 : Int)) == false) then false else false) else false) == b16) then
 bif b16 then
 bif ((wb w (1 : Int)) == false) then
 bif ((wb w (2 : Int)) == false) then
 bif (bif (decide ((IntKind.wrap .u64 many) > (4294967295 : Int))) then true else (bif ((wb w (1 : Int)) == false) then true else false)) then
 bif ((bif (decide ((IntKind.wrap .u64 many) > (4294967295 : Int))) then true else (bif ((wb w (1 : Int)) == false) then false else false)) == b21) then
 bif b21 then
 true
 else true
 else false
 else false
 else false
 else false
 else true
 else false
 else false
 else false
 else false
 else false
 else false
 else false
 else false
 else false
 else false
 else false
 else false
 else bif (bif (decide (w > (15 : Int))) then true else true) then
 bif ((bif (decide (w > (15 : Int))) then true else true) == b2) then
 bif b2 then
 true
 else bif (bif ((wb w (8 : Int)) == false) then (bif (bne many (0 : Int)) then true else (bif ((wb w (1 : Int)) == false) then (bif (bne least (0 : Int)) then true else (bif ((wb w (2 : Int)) == false) then (bif (bne most (0 : Int)) then true else (bif ((wb w (4 : Int)) == false) then false else false)) else false)) else false)) else false) then
 bif ((bif ((wb w (8 : Int)) == false) then (bif (bne many (0 : Int)) then true else (bif ((wb w (1 : Int)) == false) then (bif (bne least (0 : Int)) then true else (bif ((wb w (2 : Int)) == false) then (bif (bne most (0 : Int)) then true else (bif ((wb w (4 : Int)) == false) then false else false)) else false)) else false)) else false) == b4) then
 bif b4 then
 true
 else bif (bif (decide (many > (0 : Int))) then true else (bif (decide (least > (0 : Int))) then true else (bif (decide (most > (0 : Int))) then true else false))) then
 bif ((bif (decide (many > (0 : Int))) then true else (bif (decide (least > (0 : Int))) then true else (bif (decide (most > (0 : Int))) then true else false))) == s) then
 bif (bif s then (bif ((wb w (8 : Int)) == false) then (bif ((wb w (1 : Int)) == false) then (bif ((wb w (2 : Int)) == false) then (bif ((wb w (4 : Int)) == false) then true else false) else false) else false) else false) else true) then
 bif ((bif s then (bif ((wb w (8 : Int)) == false) then (bif ((wb w (1 : Int)) == false) then (bif ((wb w (2 : Int)) == false) then (bif ((wb w (4 : Int)) == false) then false else false) else false) else false) else false) else false) == b7) then
 bif b7 then
 true
 else false
 else false
 else false
 else false
 else false
 else false
 else false
 else false
 else false
 else false : Bool) := by
  kernel_rfl
end
end Go.Proofs.YtcdghinmmhcfcaaGreatDoor.Ev

/- The document's Check of a tally, bits 1000. No condition. -/
namespace Go.Proofs.YtcdghinmmhcfcaaGreatDoor.Ev
open Go Go.RowKit Go.Proofs Go.Proofs.YtcdghinmmhcfcaaGreatDoor.Str
set_option linter.unusedVariables false
section
variable {m : Int} {t : TypeId} {fr : Nat × Nat}
theorem rck1000_v (m : Int) (t : TypeId) (fr : Nat × Nat) (w many least most : Int) (n : Nat) (l : List Sp) (b2 b4 s b7 b10 b14 b16 b21 : Bool) : ((fnPure Tryz.prog ((E16k true false false false (GG m t fr)).withCuts (mrg (rckR b2 b4 s b7 b10 b14 b16 b21) noCuts)) 60 Tryz.f17 (GG m t fr) [tlP w many least most n (sRow l)])).val =
 (bif (pkB (spsOf n (sRow l))) then
 bif b2 then
 (.some (.lit (.int .i64 (2 : Int))))
 else bif b4 then
 (.some (.lit (.int .i64 (2 : Int))))
 else bif b7 then
 (.some (.lit (.int .i64 (2 : Int))))
 else bif (decide ((sumS (spsOf n (sRow l))) > (0 : Int))) then
 bif b10 then
 (.some (.lit (.int .i64 (2 : Int))))
 else (.some (.lit (.int .i64 (0 : Int))))
 else bif b14 then
 (.some (.lit (.int .i64 (2 : Int))))
 else bif b16 then
 bif b21 then
 (.some (.lit (.int .i64 (2 : Int))))
 else (.some (.lit (.int .i64 (0 : Int))))
 else (.some (.lit (.int .i64 (0 : Int))))
 else bif b2 then
 (.some (.lit (.int .i64 (2 : Int))))
 else bif b4 then
 (.some (.lit (.int .i64 (2 : Int))))
 else (.some (.lit (.int .i64 (2 : Int)))) : Option PV) := by
  kernel_rfl
theorem rck1000_c (m : Int) (t : TypeId) (fr : Nat × Nat) (w many least most : Int) (n : Nat) (l : List Sp) (b2 b4 s b7 b10 b14 b16 b21 : Bool) : ((fnPure Tryz.prog ((E16k true false false false (GG m t fr)).withCuts (mrg (rckR b2 b4 s b7 b10 b14 b16 b21) noCuts)) 60 Tryz.f17 (GG m t fr) [tlP w many least most n (sRow l)])).conds =
 (bif ((areSps n (sRow l)) && (Nat.ble n (4294967280 : Nat))) then
 bif (pkB (spsOf n (sRow l))) then
 bif (bif (decide (w > (15 : Int))) then true else (bif (decide (many < (0 : Int))) then true else true)) then
 bif ((bif (decide (w > (15 : Int))) then true else (bif (decide (many < (0 : Int))) then true else (decide (many > (65536 : Int))))) == b2) then
 bif b2 then
 true
 else bif (bif ((wb w (8 : Int)) == false) then (bif (bne many (0 : Int)) then true else (bif ((wb w (1 : Int)) == true) then (bif ((wb w (2 : Int)) == false) then (bif (bne most (0 : Int)) then true else (bif ((wb w (4 : Int)) == false) then true else false)) else false) else false)) else false) then
 bif ((bif ((wb w (8 : Int)) == false) then (bif (bne many (0 : Int)) then true else (bif ((wb w (1 : Int)) == true) then (bif ((wb w (2 : Int)) == false) then (bif (bne most (0 : Int)) then true else (bif ((wb w (4 : Int)) == false) then (bne (sumS (spsOf n (sRow l))) (0 : Int)) else false)) else false) else false)) else false) == b4) then
 bif b4 then
 true
 else bif (bif (decide (many > (0 : Int))) then true else (bif (decide (least > (0 : Int))) then true else (bif (decide (most > (0 : Int))) then true else true))) then
 bif ((bif (decide (many > (0 : Int))) then true else (bif (decide (least > (0 : Int))) then true else (bif (decide (most > (0 : Int))) then true else (decide ((sumS (spsOf n (sRow l))) > (0 : Int)))))) == s) then
 bif (bif s then (bif ((wb w (8 : Int)) == false) then (bif ((wb w (1 : Int)) == true) then (bif (least == (0 : Int)) then true else (bif ((wb w (2 : Int)) == false) then (bif ((wb w (4 : Int)) == false) then true else false) else false)) else false) else false) else true) then
 bif ((bif s then (bif ((wb w (8 : Int)) == false) then (bif ((wb w (1 : Int)) == true) then (bif (least == (0 : Int)) then true else (bif ((wb w (2 : Int)) == false) then (bif ((wb w (4 : Int)) == false) then false else false) else false)) else false) else false) else false) == b7) then
 bif b7 then
 true
 else bif (decide ((sumS (spsOf n (sRow l))) > (0 : Int))) then
 bif (bif ((wb w (8 : Int)) == false) then (bif ((wb w (1 : Int)) == true) then (bif (Nat.blt 0 n) then (bif (bne least (Prod.fst (sp l 0))) then true else (bif ((wb w (2 : Int)) == false) then true else false)) else false) else false) else false) then
 bif ((bif ((wb w (8 : Int)) == false) then (bif ((wb w (1 : Int)) == true) then (bif (Nat.blt 0 n) then (bif (bne least (Prod.fst (sp l 0))) then true else (bif ((wb w (2 : Int)) == false) then false else false)) else false) else false) else false) == b10) then
 bif b10 then
 true
 else true
 else false
 else false
 else bif (bif ((wb w (1 : Int)) == true) then (bif ((wb w (2 : Int)) == false) then true else false) else false) then
 bif ((bif ((wb w (1 : Int)) == true) then (bif ((wb w (2 : Int)) == false) then false else false) else false) == b14) then
 bif b14 then
 true
 else bif (bif s then (bif ((wb w (8 : Int)) == false) then true else false) else true) then
 bif ((bif s then (bif ((wb w (8 : Int)) == false) then false else false) else false) == b16) then
 bif b16 then
 bif ((wb w (1 : Int)) == true) then
 bif ((wb w (2 : Int)) == false) then
 bif (bif (decide ((IntKind.wrap .u64 many) > (IntKind.wrap .u64 ((IntKind.wrap .u64 ((4294967295 : Int) - (IntKind.wrap .u64 least))) + (1 : Int))))) then true else (bif ((wb w (1 : Int)) == true) then (bif ((wb w (2 : Int)) == false) then true else false) else false)) then
 bif ((bif (decide ((IntKind.wrap .u64 many) > (IntKind.wrap .u64 ((IntKind.wrap .u64 ((4294967295 : Int) - (IntKind.wrap .u64 least))) + (1 : Int))))) then true else (bif ((wb w (1 : Int)) == true) then (bif ((wb w (2 : Int)) == false) then false else false) else false)) == b21) then
 bif b21 then
 true
 else true
 else false
 else false
 else false
 else false
 else true
 else false
 else false
 else false
 else false
 else false
 else false
 else false
 else false
 else false
 else false
 else false
 else false
 else bif (bif (decide (w > (15 : Int))) then true else true) then
 bif ((bif (decide (w > (15 : Int))) then true else true) == b2) then
 bif b2 then
 true
 else bif (bif ((wb w (8 : Int)) == false) then (bif (bne many (0 : Int)) then true else (bif ((wb w (1 : Int)) == true) then (bif ((wb w (2 : Int)) == false) then (bif (bne most (0 : Int)) then true else (bif ((wb w (4 : Int)) == false) then false else false)) else false) else false)) else false) then
 bif ((bif ((wb w (8 : Int)) == false) then (bif (bne many (0 : Int)) then true else (bif ((wb w (1 : Int)) == true) then (bif ((wb w (2 : Int)) == false) then (bif (bne most (0 : Int)) then true else (bif ((wb w (4 : Int)) == false) then false else false)) else false) else false)) else false) == b4) then
 bif b4 then
 true
 else bif (bif (decide (many > (0 : Int))) then true else (bif (decide (least > (0 : Int))) then true else (bif (decide (most > (0 : Int))) then true else false))) then
 bif ((bif (decide (many > (0 : Int))) then true else (bif (decide (least > (0 : Int))) then true else (bif (decide (most > (0 : Int))) then true else false))) == s) then
 bif (bif s then (bif ((wb w (8 : Int)) == false) then (bif ((wb w (1 : Int)) == true) then (bif (least == (0 : Int)) then true else (bif ((wb w (2 : Int)) == false) then (bif ((wb w (4 : Int)) == false) then true else false) else false)) else false) else false) else true) then
 bif ((bif s then (bif ((wb w (8 : Int)) == false) then (bif ((wb w (1 : Int)) == true) then (bif (least == (0 : Int)) then true else (bif ((wb w (2 : Int)) == false) then (bif ((wb w (4 : Int)) == false) then false else false) else false)) else false) else false) else false) == b7) then
 bif b7 then
 true
 else false
 else false
 else false
 else false
 else false
 else false
 else false
 else false
 else false
 else false : Bool) := by
  kernel_rfl
end
end Go.Proofs.YtcdghinmmhcfcaaGreatDoor.Ev

/- The document's Check of a tally, bits 0100. No condition. -/
namespace Go.Proofs.YtcdghinmmhcfcaaGreatDoor.Ev
open Go Go.RowKit Go.Proofs Go.Proofs.YtcdghinmmhcfcaaGreatDoor.Str
set_option linter.unusedVariables false
section
variable {m : Int} {t : TypeId} {fr : Nat × Nat}
theorem rck0100_v (m : Int) (t : TypeId) (fr : Nat × Nat) (w many least most : Int) (n : Nat) (l : List Sp) (b2 b4 s b7 b10 b14 b16 b21 : Bool) : ((fnPure Tryz.prog ((E16k false true false false (GG m t fr)).withCuts (mrg (rckR b2 b4 s b7 b10 b14 b16 b21) noCuts)) 60 Tryz.f17 (GG m t fr) [tlP w many least most n (sRow l)])).val =
 (bif (pkB (spsOf n (sRow l))) then
 bif b2 then
 (.some (.lit (.int .i64 (2 : Int))))
 else bif b4 then
 (.some (.lit (.int .i64 (2 : Int))))
 else bif b7 then
 (.some (.lit (.int .i64 (2 : Int))))
 else bif (decide ((sumS (spsOf n (sRow l))) > (0 : Int))) then
 bif b10 then
 (.some (.lit (.int .i64 (2 : Int))))
 else (.some (.lit (.int .i64 (0 : Int))))
 else bif b14 then
 (.some (.lit (.int .i64 (2 : Int))))
 else bif b16 then
 bif b21 then
 (.some (.lit (.int .i64 (2 : Int))))
 else (.some (.lit (.int .i64 (0 : Int))))
 else (.some (.lit (.int .i64 (0 : Int))))
 else bif b2 then
 (.some (.lit (.int .i64 (2 : Int))))
 else bif b4 then
 (.some (.lit (.int .i64 (2 : Int))))
 else (.some (.lit (.int .i64 (2 : Int)))) : Option PV) := by
  kernel_rfl
theorem rck0100_c (m : Int) (t : TypeId) (fr : Nat × Nat) (w many least most : Int) (n : Nat) (l : List Sp) (b2 b4 s b7 b10 b14 b16 b21 : Bool) : ((fnPure Tryz.prog ((E16k false true false false (GG m t fr)).withCuts (mrg (rckR b2 b4 s b7 b10 b14 b16 b21) noCuts)) 60 Tryz.f17 (GG m t fr) [tlP w many least most n (sRow l)])).conds =
 (bif ((areSps n (sRow l)) && (Nat.ble n (4294967280 : Nat))) then
 bif (pkB (spsOf n (sRow l))) then
 bif (bif (decide (w > (15 : Int))) then true else (bif (decide (many < (0 : Int))) then true else true)) then
 bif ((bif (decide (w > (15 : Int))) then true else (bif (decide (many < (0 : Int))) then true else (decide (many > (65536 : Int))))) == b2) then
 bif b2 then
 true
 else bif (bif ((wb w (8 : Int)) == false) then (bif (bne many (0 : Int)) then true else (bif ((wb w (1 : Int)) == false) then (bif (bne least (0 : Int)) then true else (bif ((wb w (2 : Int)) == true) then (bif ((wb w (4 : Int)) == false) then true else false) else false)) else false)) else false) then
 bif ((bif ((wb w (8 : Int)) == false) then (bif (bne many (0 : Int)) then true else (bif ((wb w (1 : Int)) == false) then (bif (bne least (0 : Int)) then true else (bif ((wb w (2 : Int)) == true) then (bif ((wb w (4 : Int)) == false) then (bne (sumS (spsOf n (sRow l))) (0 : Int)) else false) else false)) else false)) else false) == b4) then
 bif b4 then
 true
 else bif (bif (decide (many > (0 : Int))) then true else (bif (decide (least > (0 : Int))) then true else (bif (decide (most > (0 : Int))) then true else true))) then
 bif ((bif (decide (many > (0 : Int))) then true else (bif (decide (least > (0 : Int))) then true else (bif (decide (most > (0 : Int))) then true else (decide ((sumS (spsOf n (sRow l))) > (0 : Int)))))) == s) then
 bif (bif s then (bif ((wb w (8 : Int)) == false) then (bif ((wb w (1 : Int)) == false) then (bif ((wb w (2 : Int)) == true) then (bif (most == (0 : Int)) then true else (bif ((wb w (4 : Int)) == false) then true else false)) else false) else false) else false) else true) then
 bif ((bif s then (bif ((wb w (8 : Int)) == false) then (bif ((wb w (1 : Int)) == false) then (bif ((wb w (2 : Int)) == true) then (bif (most == (0 : Int)) then true else (bif ((wb w (4 : Int)) == false) then false else false)) else false) else false) else false) else false) == b7) then
 bif b7 then
 true
 else bif (decide ((sumS (spsOf n (sRow l))) > (0 : Int))) then
 bif (bif ((wb w (8 : Int)) == false) then (bif ((wb w (1 : Int)) == false) then (bif ((wb w (2 : Int)) == true) then (bif ((decide ((0 : Int) ≤ (IntKind.wrap .i64 (((n : Nat) : Int) - (1 : Int))))) && (Nat.blt (Int.toNat (IntKind.wrap .i64 (((n : Nat) : Int) - (1 : Int)))) n)) then true else false) else false) else false) else false) then
 bif ((bif ((wb w (8 : Int)) == false) then (bif ((wb w (1 : Int)) == false) then (bif ((wb w (2 : Int)) == true) then (bif ((decide ((0 : Int) ≤ (IntKind.wrap .i64 (((n : Nat) : Int) - (1 : Int))))) && (Nat.blt (Int.toNat (IntKind.wrap .i64 (((n : Nat) : Int) - (1 : Int)))) n)) then (bne most (Prod.snd (sp l (Int.toNat (IntKind.wrap .i64 (((n : Nat) : Int) - (1 : Int))))))) else false) else false) else false) else false) == b10) then
 bif b10 then
 true
 else true
 else false
 else false
 else bif (bif ((wb w (1 : Int)) == false) then true else false) then
 bif ((bif ((wb w (1 : Int)) == false) then false else false) == b14) then
 bif b14 then
 true
 else bif (bif s then (bif ((wb w (8 : Int)) == false) then true else false) else true) then
 bif ((bif s then (bif ((wb w (8 : Int)) == false) then false else false) else false) == b16) then
 bif b16 then
 bif ((wb w (1 : Int)) == false) then
 bif ((wb w (2 : Int)) == true) then
 bif (bif (decide ((IntKind.wrap .u64 many) > (IntKind.wrap .u64 ((IntKind.wrap .u64 ((IntKind.wrap .u64 most) - (1 : Int))) + (1 : Int))))) then true else (bif ((wb w (1 : Int)) == false) then true else false)) then
 bif ((bif (decide ((IntKind.wrap .u64 many) > (IntKind.wrap .u64 ((IntKind.wrap .u64 ((IntKind.wrap .u64 most) - (1 : Int))) + (1 : Int))))) then true else (bif ((wb w (1 : Int)) == false) then false else false)) == b21) then
 bif b21 then
 true
 else true
 else false
 else false
 else false
 else false
 else true
 else false
 else false
 else false
 else false
 else false
 else false
 else false
 else false
 else false
 else false
 else false
 else false
 else bif (bif (decide (w > (15 : Int))) then true else true) then
 bif ((bif (decide (w > (15 : Int))) then true else true) == b2) then
 bif b2 then
 true
 else bif (bif ((wb w (8 : Int)) == false) then (bif (bne many (0 : Int)) then true else (bif ((wb w (1 : Int)) == false) then (bif (bne least (0 : Int)) then true else (bif ((wb w (2 : Int)) == true) then (bif ((wb w (4 : Int)) == false) then false else false) else false)) else false)) else false) then
 bif ((bif ((wb w (8 : Int)) == false) then (bif (bne many (0 : Int)) then true else (bif ((wb w (1 : Int)) == false) then (bif (bne least (0 : Int)) then true else (bif ((wb w (2 : Int)) == true) then (bif ((wb w (4 : Int)) == false) then false else false) else false)) else false)) else false) == b4) then
 bif b4 then
 true
 else bif (bif (decide (many > (0 : Int))) then true else (bif (decide (least > (0 : Int))) then true else (bif (decide (most > (0 : Int))) then true else false))) then
 bif ((bif (decide (many > (0 : Int))) then true else (bif (decide (least > (0 : Int))) then true else (bif (decide (most > (0 : Int))) then true else false))) == s) then
 bif (bif s then (bif ((wb w (8 : Int)) == false) then (bif ((wb w (1 : Int)) == false) then (bif ((wb w (2 : Int)) == true) then (bif (most == (0 : Int)) then true else (bif ((wb w (4 : Int)) == false) then true else false)) else false) else false) else false) else true) then
 bif ((bif s then (bif ((wb w (8 : Int)) == false) then (bif ((wb w (1 : Int)) == false) then (bif ((wb w (2 : Int)) == true) then (bif (most == (0 : Int)) then true else (bif ((wb w (4 : Int)) == false) then false else false)) else false) else false) else false) else false) == b7) then
 bif b7 then
 true
 else false
 else false
 else false
 else false
 else false
 else false
 else false
 else false
 else false
 else false : Bool) := by
  kernel_rfl
end
end Go.Proofs.YtcdghinmmhcfcaaGreatDoor.Ev

/- The document's Check of a tally, bits 1100. No condition. -/
namespace Go.Proofs.YtcdghinmmhcfcaaGreatDoor.Ev
open Go Go.RowKit Go.Proofs Go.Proofs.YtcdghinmmhcfcaaGreatDoor.Str
set_option linter.unusedVariables false
section
variable {m : Int} {t : TypeId} {fr : Nat × Nat}
theorem rck1100_v (m : Int) (t : TypeId) (fr : Nat × Nat) (w many least most : Int) (n : Nat) (l : List Sp) (b2 b4 s b7 b10 b14 b16 b21 : Bool) : ((fnPure Tryz.prog ((E16k true true false false (GG m t fr)).withCuts (mrg (rckR b2 b4 s b7 b10 b14 b16 b21) noCuts)) 60 Tryz.f17 (GG m t fr) [tlP w many least most n (sRow l)])).val =
 (bif (pkB (spsOf n (sRow l))) then
 bif b2 then
 (.some (.lit (.int .i64 (2 : Int))))
 else bif b4 then
 (.some (.lit (.int .i64 (2 : Int))))
 else bif b7 then
 (.some (.lit (.int .i64 (2 : Int))))
 else bif (decide ((sumS (spsOf n (sRow l))) > (0 : Int))) then
 bif b10 then
 (.some (.lit (.int .i64 (2 : Int))))
 else (.some (.lit (.int .i64 (0 : Int))))
 else bif b14 then
 (.some (.lit (.int .i64 (2 : Int))))
 else bif b16 then
 bif b21 then
 (.some (.lit (.int .i64 (2 : Int))))
 else (.some (.lit (.int .i64 (0 : Int))))
 else (.some (.lit (.int .i64 (0 : Int))))
 else bif b2 then
 (.some (.lit (.int .i64 (2 : Int))))
 else bif b4 then
 (.some (.lit (.int .i64 (2 : Int))))
 else (.some (.lit (.int .i64 (2 : Int)))) : Option PV) := by
  kernel_rfl
theorem rck1100_c (m : Int) (t : TypeId) (fr : Nat × Nat) (w many least most : Int) (n : Nat) (l : List Sp) (b2 b4 s b7 b10 b14 b16 b21 : Bool) : ((fnPure Tryz.prog ((E16k true true false false (GG m t fr)).withCuts (mrg (rckR b2 b4 s b7 b10 b14 b16 b21) noCuts)) 60 Tryz.f17 (GG m t fr) [tlP w many least most n (sRow l)])).conds =
 (bif ((areSps n (sRow l)) && (Nat.ble n (4294967280 : Nat))) then
 bif (pkB (spsOf n (sRow l))) then
 bif (bif (decide (w > (15 : Int))) then true else (bif (decide (many < (0 : Int))) then true else true)) then
 bif ((bif (decide (w > (15 : Int))) then true else (bif (decide (many < (0 : Int))) then true else (decide (many > (65536 : Int))))) == b2) then
 bif b2 then
 true
 else bif (bif ((wb w (8 : Int)) == false) then (bif (bne many (0 : Int)) then true else (bif ((wb w (1 : Int)) == true) then (bif ((wb w (2 : Int)) == true) then (bif ((wb w (4 : Int)) == false) then true else false) else false) else false)) else false) then
 bif ((bif ((wb w (8 : Int)) == false) then (bif (bne many (0 : Int)) then true else (bif ((wb w (1 : Int)) == true) then (bif ((wb w (2 : Int)) == true) then (bif ((wb w (4 : Int)) == false) then (bne (sumS (spsOf n (sRow l))) (0 : Int)) else false) else false) else false)) else false) == b4) then
 bif b4 then
 true
 else bif (bif (decide (many > (0 : Int))) then true else (bif (decide (least > (0 : Int))) then true else (bif (decide (most > (0 : Int))) then true else true))) then
 bif ((bif (decide (many > (0 : Int))) then true else (bif (decide (least > (0 : Int))) then true else (bif (decide (most > (0 : Int))) then true else (decide ((sumS (spsOf n (sRow l))) > (0 : Int)))))) == s) then
 bif (bif s then (bif ((wb w (8 : Int)) == false) then (bif ((wb w (1 : Int)) == true) then (bif (least == (0 : Int)) then true else (bif ((wb w (2 : Int)) == true) then (bif (most == (0 : Int)) then true else (bif ((wb w (4 : Int)) == false) then true else false)) else false)) else false) else false) else true) then
 bif ((bif s then (bif ((wb w (8 : Int)) == false) then (bif ((wb w (1 : Int)) == true) then (bif (least == (0 : Int)) then true else (bif ((wb w (2 : Int)) == true) then (bif (most == (0 : Int)) then true else (bif ((wb w (4 : Int)) == false) then false else false)) else false)) else false) else false) else false) == b7) then
 bif b7 then
 true
 else bif (decide ((sumS (spsOf n (sRow l))) > (0 : Int))) then
 bif (bif ((wb w (8 : Int)) == false) then (bif ((wb w (1 : Int)) == true) then (bif (Nat.blt 0 n) then (bif (bne least (Prod.fst (sp l 0))) then true else (bif ((wb w (2 : Int)) == true) then (bif ((decide ((0 : Int) ≤ (IntKind.wrap .i64 (((n : Nat) : Int) - (1 : Int))))) && (Nat.blt (Int.toNat (IntKind.wrap .i64 (((n : Nat) : Int) - (1 : Int)))) n)) then true else false) else false)) else false) else false) else false) then
 bif ((bif ((wb w (8 : Int)) == false) then (bif ((wb w (1 : Int)) == true) then (bif (Nat.blt 0 n) then (bif (bne least (Prod.fst (sp l 0))) then true else (bif ((wb w (2 : Int)) == true) then (bif ((decide ((0 : Int) ≤ (IntKind.wrap .i64 (((n : Nat) : Int) - (1 : Int))))) && (Nat.blt (Int.toNat (IntKind.wrap .i64 (((n : Nat) : Int) - (1 : Int)))) n)) then (bne most (Prod.snd (sp l (Int.toNat (IntKind.wrap .i64 (((n : Nat) : Int) - (1 : Int))))))) else false) else false)) else false) else false) else false) == b10) then
 bif b10 then
 true
 else true
 else false
 else false
 else bif (bif ((wb w (1 : Int)) == true) then (bif ((wb w (2 : Int)) == true) then true else false) else false) then
 bif ((bif ((wb w (1 : Int)) == true) then (bif ((wb w (2 : Int)) == true) then (decide ((IntKind.wrap .u64 least) > (IntKind.wrap .u64 most))) else false) else false) == b14) then
 bif b14 then
 true
 else bif (bif s then (bif ((wb w (8 : Int)) == false) then true else false) else true) then
 bif ((bif s then (bif ((wb w (8 : Int)) == false) then false else false) else false) == b16) then
 bif b16 then
 bif ((wb w (1 : Int)) == true) then
 bif ((wb w (2 : Int)) == true) then
 bif (bif (decide ((IntKind.wrap .u64 many) > (IntKind.wrap .u64 ((IntKind.wrap .u64 ((IntKind.wrap .u64 most) - (IntKind.wrap .u64 least))) + (1 : Int))))) then true else (bif ((wb w (1 : Int)) == true) then (bif ((wb w (2 : Int)) == true) then (bif (bne (IntKind.wrap .u64 least) (IntKind.wrap .u64 most)) then true else true) else false) else false)) then
 bif ((bif (decide ((IntKind.wrap .u64 many) > (IntKind.wrap .u64 ((IntKind.wrap .u64 ((IntKind.wrap .u64 most) - (IntKind.wrap .u64 least))) + (1 : Int))))) then true else (bif ((wb w (1 : Int)) == true) then (bif ((wb w (2 : Int)) == true) then (bif (bne (IntKind.wrap .u64 least) (IntKind.wrap .u64 most)) then (decide (many < (2 : Int))) else false) else false) else false)) == b21) then
 bif b21 then
 true
 else true
 else false
 else false
 else false
 else false
 else true
 else false
 else false
 else false
 else false
 else false
 else false
 else false
 else false
 else false
 else false
 else false
 else false
 else bif (bif (decide (w > (15 : Int))) then true else true) then
 bif ((bif (decide (w > (15 : Int))) then true else true) == b2) then
 bif b2 then
 true
 else bif (bif ((wb w (8 : Int)) == false) then (bif (bne many (0 : Int)) then true else (bif ((wb w (1 : Int)) == true) then (bif ((wb w (2 : Int)) == true) then (bif ((wb w (4 : Int)) == false) then false else false) else false) else false)) else false) then
 bif ((bif ((wb w (8 : Int)) == false) then (bif (bne many (0 : Int)) then true else (bif ((wb w (1 : Int)) == true) then (bif ((wb w (2 : Int)) == true) then (bif ((wb w (4 : Int)) == false) then false else false) else false) else false)) else false) == b4) then
 bif b4 then
 true
 else bif (bif (decide (many > (0 : Int))) then true else (bif (decide (least > (0 : Int))) then true else (bif (decide (most > (0 : Int))) then true else false))) then
 bif ((bif (decide (many > (0 : Int))) then true else (bif (decide (least > (0 : Int))) then true else (bif (decide (most > (0 : Int))) then true else false))) == s) then
 bif (bif s then (bif ((wb w (8 : Int)) == false) then (bif ((wb w (1 : Int)) == true) then (bif (least == (0 : Int)) then true else (bif ((wb w (2 : Int)) == true) then (bif (most == (0 : Int)) then true else (bif ((wb w (4 : Int)) == false) then true else false)) else false)) else false) else false) else true) then
 bif ((bif s then (bif ((wb w (8 : Int)) == false) then (bif ((wb w (1 : Int)) == true) then (bif (least == (0 : Int)) then true else (bif ((wb w (2 : Int)) == true) then (bif (most == (0 : Int)) then true else (bif ((wb w (4 : Int)) == false) then false else false)) else false)) else false) else false) else false) == b7) then
 bif b7 then
 true
 else false
 else false
 else false
 else false
 else false
 else false
 else false
 else false
 else false
 else false : Bool) := by
  kernel_rfl
end
end Go.Proofs.YtcdghinmmhcfcaaGreatDoor.Ev

/- The document's Check of a tally, bits 0010. No condition. -/
namespace Go.Proofs.YtcdghinmmhcfcaaGreatDoor.Ev
open Go Go.RowKit Go.Proofs Go.Proofs.YtcdghinmmhcfcaaGreatDoor.Str
set_option linter.unusedVariables false
section
variable {m : Int} {t : TypeId} {fr : Nat × Nat}
theorem rck0010_v (m : Int) (t : TypeId) (fr : Nat × Nat) (w many least most : Int) (n : Nat) (l : List Sp) (b2 b4 s b7 b10 b14 b16 b21 : Bool) : ((fnPure Tryz.prog ((E16k false false true false (GG m t fr)).withCuts (mrg (rckR b2 b4 s b7 b10 b14 b16 b21) noCuts)) 60 Tryz.f17 (GG m t fr) [tlP w many least most n (sRow l)])).val =
 (bif (pkB (spsOf n (sRow l))) then
 bif b2 then
 (.some (.lit (.int .i64 (2 : Int))))
 else bif b4 then
 (.some (.lit (.int .i64 (2 : Int))))
 else bif b7 then
 (.some (.lit (.int .i64 (2 : Int))))
 else bif (decide ((sumS (spsOf n (sRow l))) > (0 : Int))) then
 bif b10 then
 (.some (.lit (.int .i64 (2 : Int))))
 else (.some (.lit (.int .i64 (0 : Int))))
 else bif b14 then
 (.some (.lit (.int .i64 (2 : Int))))
 else bif b16 then
 bif b21 then
 (.some (.lit (.int .i64 (2 : Int))))
 else (.some (.lit (.int .i64 (0 : Int))))
 else (.some (.lit (.int .i64 (0 : Int))))
 else bif b2 then
 (.some (.lit (.int .i64 (2 : Int))))
 else bif b4 then
 (.some (.lit (.int .i64 (2 : Int))))
 else (.some (.lit (.int .i64 (2 : Int)))) : Option PV) := by
  kernel_rfl
theorem rck0010_c (m : Int) (t : TypeId) (fr : Nat × Nat) (w many least most : Int) (n : Nat) (l : List Sp) (b2 b4 s b7 b10 b14 b16 b21 : Bool) : ((fnPure Tryz.prog ((E16k false false true false (GG m t fr)).withCuts (mrg (rckR b2 b4 s b7 b10 b14 b16 b21) noCuts)) 60 Tryz.f17 (GG m t fr) [tlP w many least most n (sRow l)])).conds =
 (bif ((areSps n (sRow l)) && (Nat.ble n (4294967280 : Nat))) then
 bif (pkB (spsOf n (sRow l))) then
 bif (bif (decide (w > (15 : Int))) then true else (bif (decide (many < (0 : Int))) then true else true)) then
 bif ((bif (decide (w > (15 : Int))) then true else (bif (decide (many < (0 : Int))) then true else (decide (many > (65536 : Int))))) == b2) then
 bif b2 then
 true
 else bif (bif ((wb w (8 : Int)) == false) then (bif (bne many (0 : Int)) then true else (bif ((wb w (1 : Int)) == false) then (bif (bne least (0 : Int)) then true else (bif ((wb w (2 : Int)) == false) then (bif (bne most (0 : Int)) then true else (bif ((wb w (4 : Int)) == true) then true else false)) else false)) else false)) else false) then
 bif ((bif ((wb w (8 : Int)) == false) then (bif (bne many (0 : Int)) then true else (bif ((wb w (1 : Int)) == false) then (bif (bne least (0 : Int)) then true else (bif ((wb w (2 : Int)) == false) then (bif (bne most (0 : Int)) then true else (bif ((wb w (4 : Int)) == true) then false else false)) else false)) else false)) else false) == b4) then
 bif b4 then
 true
 else bif (bif (decide (many > (0 : Int))) then true else (bif (decide (least > (0 : Int))) then true else (bif (decide (most > (0 : Int))) then true else true))) then
 bif ((bif (decide (many > (0 : Int))) then true else (bif (decide (least > (0 : Int))) then true else (bif (decide (most > (0 : Int))) then true else (decide ((sumS (spsOf n (sRow l))) > (0 : Int)))))) == s) then
 bif (bif s then (bif ((wb w (8 : Int)) == false) then (bif ((wb w (1 : Int)) == false) then (bif ((wb w (2 : Int)) == false) then (bif ((wb w (4 : Int)) == true) then true else false) else false) else false) else false) else true) then
 bif ((bif s then (bif ((wb w (8 : Int)) == false) then (bif ((wb w (1 : Int)) == false) then (bif ((wb w (2 : Int)) == false) then (bif ((wb w (4 : Int)) == true) then ((sumS (spsOf n (sRow l))) == (0 : Int)) else false) else false) else false) else false) else false) == b7) then
 bif b7 then
 true
 else bif (decide ((sumS (spsOf n (sRow l))) > (0 : Int))) then
 bif (bif ((wb w (8 : Int)) == false) then (bif ((wb w (1 : Int)) == false) then (bif ((wb w (2 : Int)) == false) then true else false) else false) else false) then
 bif ((bif ((wb w (8 : Int)) == false) then (bif ((wb w (1 : Int)) == false) then (bif ((wb w (2 : Int)) == false) then false else false) else false) else false) == b10) then
 bif b10 then
 true
 else true
 else false
 else false
 else bif (bif ((wb w (1 : Int)) == false) then true else false) then
 bif ((bif ((wb w (1 : Int)) == false) then false else false) == b14) then
 bif b14 then
 true
 else bif (bif s then (bif ((wb w (8 : Int)) == false) then true else false) else true) then
 bif ((bif s then (bif ((wb w (8 : Int)) == false) then false else false) else false) == b16) then
 bif b16 then
 bif ((wb w (1 : Int)) == false) then
 bif ((wb w (2 : Int)) == false) then
 bif (bif (decide ((IntKind.wrap .u64 many) > (4294967295 : Int))) then true else (bif ((wb w (1 : Int)) == false) then true else false)) then
 bif ((bif (decide ((IntKind.wrap .u64 many) > (4294967295 : Int))) then true else (bif ((wb w (1 : Int)) == false) then false else false)) == b21) then
 bif b21 then
 true
 else true
 else false
 else false
 else false
 else false
 else true
 else false
 else false
 else false
 else false
 else false
 else false
 else false
 else false
 else false
 else false
 else false
 else false
 else bif (bif (decide (w > (15 : Int))) then true else true) then
 bif ((bif (decide (w > (15 : Int))) then true else true) == b2) then
 bif b2 then
 true
 else bif (bif ((wb w (8 : Int)) == false) then (bif (bne many (0 : Int)) then true else (bif ((wb w (1 : Int)) == false) then (bif (bne least (0 : Int)) then true else (bif ((wb w (2 : Int)) == false) then (bif (bne most (0 : Int)) then true else (bif ((wb w (4 : Int)) == true) then true else false)) else false)) else false)) else false) then
 bif ((bif ((wb w (8 : Int)) == false) then (bif (bne many (0 : Int)) then true else (bif ((wb w (1 : Int)) == false) then (bif (bne least (0 : Int)) then true else (bif ((wb w (2 : Int)) == false) then (bif (bne most (0 : Int)) then true else (bif ((wb w (4 : Int)) == true) then false else false)) else false)) else false)) else false) == b4) then
 bif b4 then
 true
 else bif (bif (decide (many > (0 : Int))) then true else (bif (decide (least > (0 : Int))) then true else (bif (decide (most > (0 : Int))) then true else false))) then
 bif ((bif (decide (many > (0 : Int))) then true else (bif (decide (least > (0 : Int))) then true else (bif (decide (most > (0 : Int))) then true else false))) == s) then
 bif (bif s then (bif ((wb w (8 : Int)) == false) then (bif ((wb w (1 : Int)) == false) then (bif ((wb w (2 : Int)) == false) then (bif ((wb w (4 : Int)) == true) then false else false) else false) else false) else false) else true) then
 bif ((bif s then (bif ((wb w (8 : Int)) == false) then (bif ((wb w (1 : Int)) == false) then (bif ((wb w (2 : Int)) == false) then (bif ((wb w (4 : Int)) == true) then false else false) else false) else false) else false) else false) == b7) then
 bif b7 then
 true
 else false
 else false
 else false
 else false
 else false
 else false
 else false
 else false
 else false
 else false : Bool) := by
  kernel_rfl
end
end Go.Proofs.YtcdghinmmhcfcaaGreatDoor.Ev
