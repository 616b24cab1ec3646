/- lex: the reader's quoted text. No condition. -/
import Derived.Test.YtnidaonmigjgkaaDoorLxR
namespace Go.Proofs.YtnidaonmigjgkaaDoor.Ev
open Go Go.RowKit Go.Proofs Go.Proofs.YtnidaonmigjgkaaDoor.Str
set_option linter.unusedVariables false
set_option linter.unusedSimpArgs false
section
variable {m : Int} {t : TypeId} {fr : Nat × Nat}
def qdOuts : Exit → Outs
  | .goto _ => { ks := [0, 3], rs := [.slot 0, .slot 3, .cell 1 1], pin := true }
  | _ => { ks := [0, 2], rs := [.slot 0], pin := true }
noncomputable abbrev qdRound (G : GT) := roundT Tryd.prog (E8 G) 60 G 77 qdOuts (.goto 0) (theRest 0 Tryd.f40)
-- from: qd_round [bs, okS, ls, bytesOf, areBytes, rowApp, rowOf, bRow] (m : Int) (t : TypeId) (fr : Nat × Nat) (s : ByteArray) (g d : Bool) (k : Nat) (f : Nat → List PV) : (qdRound (GG m t fr) ([.ptr 0 0, .ptr 1 0], [.cells 61 [str s, bool g, bool d], .cells 51 [.ptr 1 0, .own 2], .row 5 1 k f])).run2
theorem qd_round (m : Int) (t : TypeId) (fr : Nat × Nat) (s : ByteArray) (g d : Bool) (k : Nat) (f : Nat → List PV) : (qdRound (GG m t fr) ([.ptr 0 0, .ptr 1 0], [.cells 61 [str s, bool g, bool d], .cells 51 [.ptr 1 0, .own 2], .row 5 1 k f])).run2 =
    (bif ((ByteArray.toList s) == (ByteArray.toList (.mk (List.toArray [])))) then
        (.some ((.ret, ([(.ptr 0 0), (.lit (.string (.mk (List.toArray []))))], [(.cells (61 : TypeId) [(.lit (.string s)), (.lit (.bool g)), (.lit (.bool true))])])), []))
      else bif ((((UInt8.toNat (Array.getD (ByteArray.data s) 0 (0 : UInt8))) : Nat) : Int) == (34 : Int)) then
          (.some ((.ret, ([(.ptr 0 0), (.lit (.string (.mk (List.toArray (bytesOf k f)))))], [(.cells (61 : TypeId) [(.lit (.string (ByteArray.extract s 1 (Int.toNat (((List.length (ls s)) : Nat) : Int))))), (.lit (.bool g)), (.lit (.bool d))])])), [(areBytes k f), ((decide ((1 : Int) ≤ (((List.length (ls s)) : Nat) : Int))) && (decide ((((List.length (ls s)) : Nat) : Int) ≤ (((List.length (ls s)) : Nat) : Int)))), (Nat.blt 0 (List.length (ls s)))]))
        else bif ((((UInt8.toNat (Array.getD (ByteArray.data s) 0 (0 : UInt8))) : Nat) : Int) == (13 : Int)) then
            (.some ((.ret, ([(.ptr 0 0), (.lit (.string (.mk (List.toArray []))))], [(.cells (61 : TypeId) [(.lit (.string (ByteArray.extract s 1 (Int.toNat (((List.length (ls s)) : Nat) : Int))))), (.lit (.bool g)), (.lit (.bool true))])])), [((decide ((1 : Int) ≤ (((List.length (ls s)) : Nat) : Int))) && (decide ((((List.length (ls s)) : Nat) : Int) ≤ (((List.length (ls s)) : Nat) : Int)))), (Nat.blt 0 (List.length (ls s)))]))
          else bif ((((UInt8.toNat (Array.getD (ByteArray.data s) 0 (0 : UInt8))) : Nat) : Int) == (10 : Int)) then
              (.some ((.ret, ([(.ptr 0 0), (.lit (.string (.mk (List.toArray []))))], [(.cells (61 : TypeId) [(.lit (.string (ByteArray.extract s 1 (Int.toNat (((List.length (ls s)) : Nat) : Int))))), (.lit (.bool g)), (.lit (.bool true))])])), [((decide ((1 : Int) ≤ (((List.length (ls s)) : Nat) : Int))) && (decide ((((List.length (ls s)) : Nat) : Int) ≤ (((List.length (ls s)) : Nat) : Int)))), (Nat.blt 0 (List.length (ls s)))]))
            else bif ((((UInt8.toNat (Array.getD (ByteArray.data s) 0 (0 : UInt8))) : Nat) : Int) == (92 : Int)) then
                bif ((ByteArray.toList (ByteArray.extract s 1 (Int.toNat (((List.length (ls s)) : Nat) : Int)))) == (ByteArray.toList (.mk (List.toArray [])))) then
                  (.some ((.ret, ([(.ptr 0 0), (.lit (.string (.mk (List.toArray []))))], [(.cells (61 : TypeId) [(.lit (.string (ByteArray.extract s 1 (Int.toNat (((List.length (ls s)) : Nat) : Int))))), (.lit (.bool g)), (.lit (.bool true))])])), [true, true, true, true, true, true, true, ((decide ((1 : Int) ≤ (((List.length (ls s)) : Nat) : Int))) && (decide ((((List.length (ls s)) : Nat) : Int) ≤ (((List.length (ls s)) : Nat) : Int)))), (Nat.blt 0 (List.length (ls s)))]))
                else bif (bne (((UInt8.toNat (Array.getD (ByteArray.data (ByteArray.extract s 1 (Int.toNat (((List.length (ls s)) : Nat) : Int)))) 0 (0 : UInt8))) : Nat) : Int) (34 : Int)) then
                    bif (bne (((UInt8.toNat (Array.getD (ByteArray.data (ByteArray.extract s 1 (Int.toNat (((List.length (ls s)) : Nat) : Int)))) 0 (0 : UInt8))) : Nat) : Int) (92 : Int)) then
                      (.some ((.ret, ([(.ptr 0 0), (.lit (.string (.mk (List.toArray []))))], [(.cells (61 : TypeId) [(.lit (.string (ByteArray.extract s 1 (Int.toNat (((List.length (ls s)) : Nat) : Int))))), (.lit (.bool g)), (.lit (.bool true))])])), [(Nat.blt 0 (List.length (ls (ByteArray.extract s 1 (Int.toNat (((List.length (ls s)) : Nat) : Int)))))), (Nat.blt 0 (List.length (ls (ByteArray.extract s 1 (Int.toNat (((List.length (ls s)) : Nat) : Int)))))), ((decide ((1 : Int) ≤ (((List.length (ls s)) : Nat) : Int))) && (decide ((((List.length (ls s)) : Nat) : Int) ≤ (((List.length (ls s)) : Nat) : Int)))), (Nat.blt 0 (List.length (ls s)))]))
                    else (.some (((.goto 0), ([(.ptr 0 0), (.ptr 1 0)], [(.cells (61 : TypeId) [(.lit (.string (ByteArray.extract (ByteArray.extract s 1 (Int.toNat (((List.length (ls s)) : Nat) : Int))) 1 (Int.toNat (((List.length (ls (ByteArray.extract s 1 (Int.toNat (((List.length (ls s)) : Nat) : Int))))) : Nat) : Int))))), (.lit (.bool g)), (.lit (.bool d))]), (.cells (51 : TypeId) [(.ptr 1 0), (.own 2)]), (.row 5 1 (k + 1) (rowApp k f (rowOf [(.lit (.int .u8 (((UInt8.toNat (Array.getD (ByteArray.data (ByteArray.extract s 1 (Int.toNat (((List.length (ls s)) : Nat) : Int)))) 0 (0 : UInt8))) : Nat) : Int)))] 1)))])), [(Nat.ble ((k + 1) * 1) (140737488355328 : Nat)), ((decide ((1 : Int) ≤ (((List.length (ls (ByteArray.extract s 1 (Int.toNat (((List.length (ls s)) : Nat) : Int))))) : Nat) : Int))) && (decide ((((List.length (ls (ByteArray.extract s 1 (Int.toNat (((List.length (ls s)) : Nat) : Int))))) : Nat) : Int) ≤ (((List.length (ls (ByteArray.extract s 1 (Int.toNat (((List.length (ls s)) : Nat) : Int))))) : Nat) : Int)))), (Nat.blt 0 (List.length (ls (ByteArray.extract s 1 (Int.toNat (((List.length (ls s)) : Nat) : Int)))))), (Nat.blt 0 (List.length (ls (ByteArray.extract s 1 (Int.toNat (((List.length (ls s)) : Nat) : Int)))))), (Nat.blt 0 (List.length (ls (ByteArray.extract s 1 (Int.toNat (((List.length (ls s)) : Nat) : Int)))))), ((decide ((1 : Int) ≤ (((List.length (ls s)) : Nat) : Int))) && (decide ((((List.length (ls s)) : Nat) : Int) ≤ (((List.length (ls s)) : Nat) : Int)))), (Nat.blt 0 (List.length (ls s)))]))
                  else (.some (((.goto 0), ([(.ptr 0 0), (.ptr 1 0)], [(.cells (61 : TypeId) [(.lit (.string (ByteArray.extract (ByteArray.extract s 1 (Int.toNat (((List.length (ls s)) : Nat) : Int))) 1 (Int.toNat (((List.length (ls (ByteArray.extract s 1 (Int.toNat (((List.length (ls s)) : Nat) : Int))))) : Nat) : Int))))), (.lit (.bool g)), (.lit (.bool d))]), (.cells (51 : TypeId) [(.ptr 1 0), (.own 2)]), (.row 5 1 (k + 1) (rowApp k f (rowOf [(.lit (.int .u8 (((UInt8.toNat (Array.getD (ByteArray.data (ByteArray.extract s 1 (Int.toNat (((List.length (ls s)) : Nat) : Int)))) 0 (0 : UInt8))) : Nat) : Int)))] 1)))])), [(Nat.ble ((k + 1) * 1) (140737488355328 : Nat)), ((decide ((1 : Int) ≤ (((List.length (ls (ByteArray.extract s 1 (Int.toNat (((List.length (ls s)) : Nat) : Int))))) : Nat) : Int))) && (decide ((((List.length (ls (ByteArray.extract s 1 (Int.toNat (((List.length (ls s)) : Nat) : Int))))) : Nat) : Int) ≤ (((List.length (ls (ByteArray.extract s 1 (Int.toNat (((List.length (ls s)) : Nat) : Int))))) : Nat) : Int)))), (Nat.blt 0 (List.length (ls (ByteArray.extract s 1 (Int.toNat (((List.length (ls s)) : Nat) : Int)))))), (Nat.blt 0 (List.length (ls (ByteArray.extract s 1 (Int.toNat (((List.length (ls s)) : Nat) : Int)))))), ((decide ((1 : Int) ≤ (((List.length (ls s)) : Nat) : Int))) && (decide ((((List.length (ls s)) : Nat) : Int) ≤ (((List.length (ls s)) : Nat) : Int)))), (Nat.blt 0 (List.length (ls s)))]))
              else (.some (((.goto 0), ([(.ptr 0 0), (.ptr 1 0)], [(.cells (61 : TypeId) [(.lit (.string (ByteArray.extract s 1 (Int.toNat (((List.length (ls s)) : Nat) : Int))))), (.lit (.bool g)), (.lit (.bool d))]), (.cells (51 : TypeId) [(.ptr 1 0), (.own 2)]), (.row 5 1 (k + 1) (rowApp k f (rowOf [(.lit (.int .u8 (((UInt8.toNat (Array.getD (ByteArray.data s) 0 (0 : UInt8))) : Nat) : Int)))] 1)))])), [(Nat.ble ((k + 1) * 1) (140737488355328 : Nat)), ((decide ((1 : Int) ≤ (((List.length (ls s)) : Nat) : Int))) && (decide ((((List.length (ls s)) : Nat) : Int) ≤ (((List.length (ls s)) : Nat) : Int)))), (Nat.blt 0 (List.length (ls s)))])) : Option ((Exit × Kept) × List Bool)) := by
  kernel_rfl
/-- what a quoted text says, behind its first mark; and what is behind it -/
def qR : List UInt8 → Option (List UInt8) × List UInt8
  | [] => (none, [])
  | [c] => bif decide (c = 34) then (some [], []) else bif decide (c = 13) || decide (c = 10) then (none, []) else (none, [])
  | c :: e :: r => bif decide (c = 34) then (some [], e :: r) else bif decide (c = 13) || decide (c = 10) then (none, e :: r)
    else bif decide (c = 92) then (bif decide (e = 34) || decide (e = 92) then ((qR r).1.map (e :: ·), (qR r).2) else (none, e :: r)) else ((qR (e :: r)).1.map (c :: ·), (qR (e :: r)).2)
def qdEnd (g d : Bool) (a : List UInt8) (z : Option (List UInt8) × List UInt8) : Kept := match z with
  | (some q, r) => ([.ptr 0 0, str (bs (a ++ q))], [.cells 61 [str (bs r), bool g, bool d]])
  | (none, r) => ([.ptr 0 0, str (.mk (List.toArray []))], [.cells 61 [str (bs r), bool g, bool true]])
theorem qdEnd_map (g d : Bool) (a : List UInt8) (c : UInt8) (z : Option (List UInt8) × List UInt8) : qdEnd g d (a ++ [c]) z = qdEnd g d a (z.1.map (c :: ·), z.2) := by
  rcases z with ⟨_ | q, r⟩
  · rfl
  · simp [qdEnd]
theorem ext_tail (c : UInt8) (r : List UInt8) : (bs (c :: r)).extract 1 (c :: r).length = bs r := by
  rw [bs_ext, ls_bs, List.take_length]
  rfl
theorem qd_LR (g d : Bool) : ∀ (n : Nat) (l : List UInt8) (k : Nat) (f : Nat → List PV), l.length ≤ n → k + l.length ≤ 140737488355328 → areBytes k f = true →
    LR Tryd.prog (E8 (GG m t fr)) 60 (GG m t fr) 77 qdOuts (.goto 0) (theRest 0 Tryd.f40) ([.ptr 0 0, .ptr 1 0], [.cells 61 [str (bs l), bool g, bool d], .cells 51 [.ptr 1 0, .own 2], .row 5 1 k f]) .ret (qdEnd g d (bytesOf k f) (qR l))
  | n, [], k, f, hn, hk, hf => by
    have h := qd_round m t fr (bs []) g d k f
    have e0 : (ByteArray.toList (bs []) == ByteArray.toList (ByteArray.mk (List.toArray []))) = true := by
      rw [eqB, ls_bs]
      rfl
    rw [e0] at h
    exact .last (Tr.run_of h rfl) (by simp) (by simp)
  | 0, c :: r, k, f, hn, hk, hf => by simp at hn
  | n + 1, c :: r, k, f, hn, hk, hf => by
    have h := qd_round m t fr (bs (c :: r)) g d k f
    simp only [List.length_cons] at hn hk
    have e0 : ls (ByteArray.mk (List.toArray [])) = [] := rfl
    have e34 : (34 : Int) = (((34 : UInt8).toNat : Nat) : Int) := rfl
    have e13 : (13 : Int) = (((13 : UInt8).toNat : Nat) : Int) := rfl
    have e10 : (10 : Int) = (((10 : UInt8).toNat : Nat) : Int) := rfl
    have e92 : (92 : Int) = (((92 : UInt8).toNat : Nat) : Int) := rfl
    have hne : decide (c :: r = []) = false := by simp
    have hg0 : (c :: r).getD 0 0 = c := rfl
    have hb0 : Nat.blt 0 (c :: r).length = true := rfl
    have hl1 : decide ((1 : Int) ≤ (((c :: r).length : Nat) : Int)) = true := by simp; omega
    have hle : ∀ j : Nat, decide ((j : Int) ≤ (j : Int)) = true := by intro j; simp
    have o1 : Nat.ble ((k + 1) * 1) 140737488355328 = true := by rw [Nat.ble_eq]; omega
    rw [ls_bs, Int.toNat_natCast, ext_tail, ls_bs] at h
    simp only [eqB, getD_ls, ls_bs, e0, hne, hg0, hb0, hl1, hle, bne, o1] at h
    rw [e34, byte_eq, e13, byte_eq, e10, byte_eq, e92, byte_eq, byte_eq, byte_eq] at h
    simp only [cond_false] at h
    cases c1 : decide (c = 34) with
    | true =>
      rw [c1] at h
      have hq : qR (c :: r) = (some [], r) := by cases r <;> simp [qR, c1]
      rw [hq]
      refine .out (.last (Tr.run_of h (by simp [hf])) (by simp) (by simp)) ⟨PLeL.cons (.refl _) (PLeL.cons (PLe.of_eq ?_) (.refl _)), .refl _⟩
      rw [List.append_nil]
      rfl
    | false =>
    rw [c1] at h
    simp only [cond_false] at h
    cases c2 : decide (c = 13) with
    | true =>
      rw [c2] at h
      have hq : qR (c :: r) = (none, r) := by cases r <;> simp [qR, c1, c2]
      rw [hq]
      exact .last (Tr.run_of h (by simp)) (by simp) (by simp)
    | false =>
    rw [c2] at h
    simp only [cond_false] at h
    cases c3 : decide (c = 10) with
    | true =>
      rw [c3] at h
      have hq : qR (c :: r) = (none, r) := by cases r <;> simp [qR, c1, c2, c3]
      rw [hq]
      exact .last (Tr.run_of h (by simp)) (by simp) (by simp)
    | false =>
    rw [c3] at h
    simp only [cond_false] at h
    have push : ∀ (x : UInt8) (l' : List UInt8), l'.length ≤ n → k + 1 + l'.length ≤ 140737488355328 →
        LR Tryd.prog (E8 (GG m t fr)) 60 (GG m t fr) 77 qdOuts (.goto 0) (theRest 0 Tryd.f40) ([.ptr 0 0, .ptr 1 0], [.cells 61 [str (bs l'), bool g, bool d], .cells 51 [.ptr 1 0, .own 2], .row 5 1 (k + 1) (rowApp k f (rowOf [.lit (.int .u8 ((x.toNat : Nat) : Int))] 1))]) .ret (qdEnd g d (bytesOf k f) ((qR l').1.map (x :: ·), (qR l').2)) := by
      intro x l' h1 h2
      have := qd_LR g d n l' (k + 1) (rowApp k f (rowOf [.lit (.int .u8 ((x.toNat : Nat) : Int))] 1)) h1 h2 (by rw [are_app, hf, one_are]; rfl)
      rw [bytes_app, one_bytes, qdEnd_map] at this
      exact this
    cases c4 : decide (c = 92) with
    | false =>
      rw [c4] at h
      have hq : qR (c :: r) = ((qR r).1.map (c :: ·), (qR r).2) := by cases r <;> simp [qR, c1, c2, c3, c4]
      rw [hq]
      exact .more (Tr.run_of h (by simp)) (push c r (by omega) (by omega))
    | true =>
    rw [c4] at h
    simp only [cond_true] at h
    rcases r with _ | ⟨e, r⟩
    · have hq : qR [c] = (none, []) := by simp [qR, c1, c2, c3]
      rw [hq]
      exact .last (Tr.run_of h (by simp)) (by simp) (by simp)
    · simp only [List.length_cons] at hn hk
      have hne2 : decide (e :: r = []) = false := by simp
      have hg1 : (e :: r).getD 0 0 = e := rfl
      have hb1 : Nat.blt 0 (e :: r).length = true := rfl
      have hl2 : decide ((1 : Int) ≤ (((e :: r).length : Nat) : Int)) = true := by simp; omega
      rw [Int.toNat_natCast, ext_tail] at h
      simp only [hne2, hg1, hb1, hl2, cond_false] at h
      have hq : qR (c :: e :: r) = bif decide (e = 34) || decide (e = 92) then ((qR r).1.map (e :: ·), (qR r).2) else (none, e :: r) := by simp only [qR, c1, c2, c3, c4, Bool.or_false, cond_false, cond_true]
      rw [hq]
      cases c5 : decide (e = 34) with
      | true =>
        rw [c5] at h
        exact .more (Tr.run_of h (by simp)) (push e r (by omega) (by omega))
      | false =>
      rw [c5] at h
      cases c6 : decide (e = 92) with
      | true =>
        rw [c6] at h
        exact .more (Tr.run_of h (by simp)) (push e r (by omega) (by omega))
      | false =>
        rw [c6] at h
        exact .last (Tr.run_of h (by simp)) (by simp) (by simp)
def hasQ (l : List UInt8) : Bool := (qR l).1.isSome
def theQ (l : List UInt8) : List UInt8 := (qR l).1.getD []
def restQ (l : List UInt8) : List UInt8 := (qR l).2
def qdF : Kept → Tr (Exit × Kept)
  | ([.ptr 0 0, .ptr 1 0], [.cells a [.lit (.string s), .lit (.bool g), .lit (.bool d)], .cells b [.ptr 1 0, .own 2], .row e 1 k f]) => match Nat.beq a 61 && (Nat.beq b 51 && Nat.beq e 5) with
    | true => .br (okS s && Nat.ble k 100000 && areBytes k f) (.br (hasQ (ls s)) (.leaf (.ret, ([.ptr 0 0, str (bs (bytesOf k f ++ theQ (ls s)))], [.cells 61 [str (bs (restQ (ls s))), bool g, bool d]])))
      (.leaf (.ret, ([.ptr 0 0, str (.mk (List.toArray []))], [.cells 61 [str (bs (restQ (ls s))), bool g, bool true]])))) .fail
    | false => .fail
  | _ => .fail
theorem qdEnd_q (g d : Bool) (a l : List UInt8) : qdEnd g d a (qR l) = bif hasQ l then ([.ptr 0 0, str (bs (a ++ theQ l))], [.cells 61 [str (bs (restQ l)), bool g, bool d]]) else ([.ptr 0 0, str (.mk (List.toArray []))], [.cells 61 [str (bs (restQ l)), bool g, bool true]]) := by
  unfold hasQ theQ restQ
  rcases qR l with ⟨_ | q, r⟩ <;> rfl
theorem qdF_ok (x : Kept) (e : Exit) (y : Kept) (h : (qdF x).run = some (e, y)) : LR Tryd.prog (E8 (GG m t fr)) 60 (GG m t fr) 77 qdOuts (.goto 0) (theRest 0 Tryd.f40) x e y := by
  unfold qdF at h
  split at h
  · rename_i a s g d b u k f
    split at h
    · rename_i ha
      simp only [Bool.and_eq_true] at ha
      obtain rfl := Nat.eq_of_beq_eq_true ha.1
      obtain rfl := Nat.eq_of_beq_eq_true ha.2.1
      obtain rfl := Nat.eq_of_beq_eq_true ha.2.2
      have hb := br_run h
      clear h
      obtain ⟨hc, h⟩ := hb
      simp only [Bool.and_eq_true, Nat.ble_eq] at hc
      obtain ⟨⟨hs, hk⟩, hf⟩ := hc
      have hs' := okS_le hs
      have key := qd_LR (m := m) (t := t) (fr := fr) g d (ls s).length (ls s) k f (Nat.le_refl _) (by rw [ls_len]; omega) hf
      rw [bs_ls, qdEnd_q] at key
      cases hq : hasQ (ls s) with
      | true =>
        rw [hq] at key h
        simp only [Tr.run, cond_true, Option.some.injEq, Prod.mk.injEq] at h
        obtain ⟨rfl, rfl⟩ := h
        exact key
      | false =>
        rw [hq] at key h
        simp only [Tr.run, cond_false, Option.some.injEq, Prod.mk.injEq] at h
        obtain ⟨rfl, rfl⟩ := h
        exact key
    · cases h
  · cases h
noncomputable abbrev qdCut (G : GT) := cutJ G 77 qdOuts 0 qdF
-- from: qd_raw [bs, okS, ls, bytesOf, areBytes, rowApp, rowOf, hasQ, theQ, restQ] (m : Int) (t : TypeId) (fr : Nat × Nat) (s : ByteArray) (g d : Bool) : (fnSpot Tryd.prog ((E8 (GG m t fr)).withCuts (cut1 (1000000 + 0) (qdCut (GG m t fr)))) 60 Tryd.f40 (GG m t fr) 61 [str s, bool g, bool d] []).run2
theorem qd_raw (m : Int) (t : TypeId) (fr : Nat × Nat) (s : ByteArray) (g d : Bool) : (fnSpot Tryd.prog ((E8 (GG m t fr)).withCuts (cut1 (1000000 + 0) (qdCut (GG m t fr)))) 60 Tryd.f40 (GG m t fr) 61 [str s, bool g, bool d] []).run2 =
    (bif ((ByteArray.toList s) == (ByteArray.toList (.mk (List.toArray [])))) then
        (.some (((.lit (.string (.mk (List.toArray [])))), [(.lit (.string s)), (.lit (.bool g)), (.lit (.bool true))]), []))
      else bif ((((UInt8.toNat (Array.getD (ByteArray.data s) 0 (0 : UInt8))) : Nat) : Int) == (34 : Int)) then
          (.some (((.lit (.string ByteArray.empty)), [(.lit (.string (ByteArray.extract s 1 (Int.toNat (((List.length (ls s)) : Nat) : Int))))), (.lit (.bool g)), (.lit (.bool d))]), [((decide ((1 : Int) ≤ (((List.length (ls s)) : Nat) : Int))) && (decide ((((List.length (ls s)) : Nat) : Int) ≤ (((List.length (ls s)) : Nat) : Int)))), (Nat.blt 0 (List.length (ls s)))]))
        else bif ((((UInt8.toNat (Array.getD (ByteArray.data s) 0 (0 : UInt8))) : Nat) : Int) == (13 : Int)) then
            (.some (((.lit (.string (.mk (List.toArray [])))), [(.lit (.string (ByteArray.extract s 1 (Int.toNat (((List.length (ls s)) : Nat) : Int))))), (.lit (.bool g)), (.lit (.bool true))]), [((decide ((1 : Int) ≤ (((List.length (ls s)) : Nat) : Int))) && (decide ((((List.length (ls s)) : Nat) : Int) ≤ (((List.length (ls s)) : Nat) : Int)))), (Nat.blt 0 (List.length (ls s)))]))
          else bif ((((UInt8.toNat (Array.getD (ByteArray.data s) 0 (0 : UInt8))) : Nat) : Int) == (10 : Int)) then
              (.some (((.lit (.string (.mk (List.toArray [])))), [(.lit (.string (ByteArray.extract s 1 (Int.toNat (((List.length (ls s)) : Nat) : Int))))), (.lit (.bool g)), (.lit (.bool true))]), [((decide ((1 : Int) ≤ (((List.length (ls s)) : Nat) : Int))) && (decide ((((List.length (ls s)) : Nat) : Int) ≤ (((List.length (ls s)) : Nat) : Int)))), (Nat.blt 0 (List.length (ls s)))]))
            else bif ((((UInt8.toNat (Array.getD (ByteArray.data s) 0 (0 : UInt8))) : Nat) : Int) == (92 : Int)) then
                bif ((ByteArray.toList (ByteArray.extract s 1 (Int.toNat (((List.length (ls s)) : Nat) : Int)))) == (ByteArray.toList (.mk (List.toArray [])))) then
                  (.some (((.lit (.string (.mk (List.toArray [])))), [(.lit (.string (ByteArray.extract s 1 (Int.toNat (((List.length (ls s)) : Nat) : Int))))), (.lit (.bool g)), (.lit (.bool true))]), [true, true, true, true, true, true, true, ((decide ((1 : Int) ≤ (((List.length (ls s)) : Nat) : Int))) && (decide ((((List.length (ls s)) : Nat) : Int) ≤ (((List.length (ls s)) : Nat) : Int)))), (Nat.blt 0 (List.length (ls s)))]))
                else bif (bne (((UInt8.toNat (Array.getD (ByteArray.data (ByteArray.extract s 1 (Int.toNat (((List.length (ls s)) : Nat) : Int)))) 0 (0 : UInt8))) : Nat) : Int) (34 : Int)) then
                    bif (bne (((UInt8.toNat (Array.getD (ByteArray.data (ByteArray.extract s 1 (Int.toNat (((List.length (ls s)) : Nat) : Int)))) 0 (0 : UInt8))) : Nat) : Int) (92 : Int)) then
                      (.some (((.lit (.string (.mk (List.toArray [])))), [(.lit (.string (ByteArray.extract s 1 (Int.toNat (((List.length (ls s)) : Nat) : Int))))), (.lit (.bool g)), (.lit (.bool true))]), [(Nat.blt 0 (List.length (ls (ByteArray.extract s 1 (Int.toNat (((List.length (ls s)) : Nat) : Int)))))), (Nat.blt 0 (List.length (ls (ByteArray.extract s 1 (Int.toNat (((List.length (ls s)) : Nat) : Int)))))), ((decide ((1 : Int) ≤ (((List.length (ls s)) : Nat) : Int))) && (decide ((((List.length (ls s)) : Nat) : Int) ≤ (((List.length (ls s)) : Nat) : Int)))), (Nat.blt 0 (List.length (ls s)))]))
                    else bif (hasQ (ls (ByteArray.extract (ByteArray.extract s 1 (Int.toNat (((List.length (ls s)) : Nat) : Int))) 1 (Int.toNat (((List.length (ls (ByteArray.extract s 1 (Int.toNat (((List.length (ls s)) : Nat) : Int))))) : Nat) : Int))))) then
                        (.some (((.lit (.string (bs ((bytesOf 1 (rowOf [(.lit (.int .u8 (((UInt8.toNat (Array.getD (ByteArray.data (ByteArray.extract s 1 (Int.toNat (((List.length (ls s)) : Nat) : Int)))) 0 (0 : UInt8))) : Nat) : Int)))] 1)) ++ (theQ (ls (ByteArray.extract (ByteArray.extract s 1 (Int.toNat (((List.length (ls s)) : Nat) : Int))) 1 (Int.toNat (((List.length (ls (ByteArray.extract s 1 (Int.toNat (((List.length (ls s)) : Nat) : Int))))) : Nat) : Int))))))))), [(.lit (.string (bs (restQ (ls (ByteArray.extract (ByteArray.extract s 1 (Int.toNat (((List.length (ls s)) : Nat) : Int))) 1 (Int.toNat (((List.length (ls (ByteArray.extract s 1 (Int.toNat (((List.length (ls s)) : Nat) : Int))))) : Nat) : Int)))))))), (.lit (.bool g)), (.lit (.bool d))]), [(((okS (ByteArray.extract (ByteArray.extract s 1 (Int.toNat (((List.length (ls s)) : Nat) : Int))) 1 (Int.toNat (((List.length (ls (ByteArray.extract s 1 (Int.toNat (((List.length (ls s)) : Nat) : Int))))) : Nat) : Int)))) && true) && (areBytes 1 (rowOf [(.lit (.int .u8 (((UInt8.toNat (Array.getD (ByteArray.data (ByteArray.extract s 1 (Int.toNat (((List.length (ls s)) : Nat) : Int)))) 0 (0 : UInt8))) : Nat) : Int)))] 1))), true, ((decide ((1 : Int) ≤ (((List.length (ls (ByteArray.extract s 1 (Int.toNat (((List.length (ls s)) : Nat) : Int))))) : Nat) : Int))) && (decide ((((List.length (ls (ByteArray.extract s 1 (Int.toNat (((List.length (ls s)) : Nat) : Int))))) : Nat) : Int) ≤ (((List.length (ls (ByteArray.extract s 1 (Int.toNat (((List.length (ls s)) : Nat) : Int))))) : Nat) : Int)))), (Nat.blt 0 (List.length (ls (ByteArray.extract s 1 (Int.toNat (((List.length (ls s)) : Nat) : Int)))))), (Nat.blt 0 (List.length (ls (ByteArray.extract s 1 (Int.toNat (((List.length (ls s)) : Nat) : Int)))))), (Nat.blt 0 (List.length (ls (ByteArray.extract s 1 (Int.toNat (((List.length (ls s)) : Nat) : Int)))))), ((decide ((1 : Int) ≤ (((List.length (ls s)) : Nat) : Int))) && (decide ((((List.length (ls s)) : Nat) : Int) ≤ (((List.length (ls s)) : Nat) : Int)))), (Nat.blt 0 (List.length (ls s)))]))
                      else (.some (((.lit (.string (.mk (List.toArray [])))), [(.lit (.string (bs (restQ (ls (ByteArray.extract (ByteArray.extract s 1 (Int.toNat (((List.length (ls s)) : Nat) : Int))) 1 (Int.toNat (((List.length (ls (ByteArray.extract s 1 (Int.toNat (((List.length (ls s)) : Nat) : Int))))) : Nat) : Int)))))))), (.lit (.bool g)), (.lit (.bool true))]), [(((okS (ByteArray.extract (ByteArray.extract s 1 (Int.toNat (((List.length (ls s)) : Nat) : Int))) 1 (Int.toNat (((List.length (ls (ByteArray.extract s 1 (Int.toNat (((List.length (ls s)) : Nat) : Int))))) : Nat) : Int)))) && true) && (areBytes 1 (rowOf [(.lit (.int .u8 (((UInt8.toNat (Array.getD (ByteArray.data (ByteArray.extract s 1 (Int.toNat (((List.length (ls s)) : Nat) : Int)))) 0 (0 : UInt8))) : Nat) : Int)))] 1))), true, ((decide ((1 : Int) ≤ (((List.length (ls (ByteArray.extract s 1 (Int.toNat (((List.length (ls s)) : Nat) : Int))))) : Nat) : Int))) && (decide ((((List.length (ls (ByteArray.extract s 1 (Int.toNat (((List.length (ls s)) : Nat) : Int))))) : Nat) : Int) ≤ (((List.length (ls (ByteArray.extract s 1 (Int.toNat (((List.length (ls s)) : Nat) : Int))))) : Nat) : Int)))), (Nat.blt 0 (List.length (ls (ByteArray.extract s 1 (Int.toNat (((List.length (ls s)) : Nat) : Int)))))), (Nat.blt 0 (List.length (ls (ByteArray.extract s 1 (Int.toNat (((List.length (ls s)) : Nat) : Int)))))), (Nat.blt 0 (List.length (ls (ByteArray.extract s 1 (Int.toNat (((List.length (ls s)) : Nat) : Int)))))), ((decide ((1 : Int) ≤ (((List.length (ls s)) : Nat) : Int))) && (decide ((((List.length (ls s)) : Nat) : Int) ≤ (((List.length (ls s)) : Nat) : Int)))), (Nat.blt 0 (List.length (ls s)))]))
                  else bif (hasQ (ls (ByteArray.extract (ByteArray.extract s 1 (Int.toNat (((List.length (ls s)) : Nat) : Int))) 1 (Int.toNat (((List.length (ls (ByteArray.extract s 1 (Int.toNat (((List.length (ls s)) : Nat) : Int))))) : Nat) : Int))))) then
                      (.some (((.lit (.string (bs ((bytesOf 1 (rowOf [(.lit (.int .u8 (((UInt8.toNat (Array.getD (ByteArray.data (ByteArray.extract s 1 (Int.toNat (((List.length (ls s)) : Nat) : Int)))) 0 (0 : UInt8))) : Nat) : Int)))] 1)) ++ (theQ (ls (ByteArray.extract (ByteArray.extract s 1 (Int.toNat (((List.length (ls s)) : Nat) : Int))) 1 (Int.toNat (((List.length (ls (ByteArray.extract s 1 (Int.toNat (((List.length (ls s)) : Nat) : Int))))) : Nat) : Int))))))))), [(.lit (.string (bs (restQ (ls (ByteArray.extract (ByteArray.extract s 1 (Int.toNat (((List.length (ls s)) : Nat) : Int))) 1 (Int.toNat (((List.length (ls (ByteArray.extract s 1 (Int.toNat (((List.length (ls s)) : Nat) : Int))))) : Nat) : Int)))))))), (.lit (.bool g)), (.lit (.bool d))]), [(((okS (ByteArray.extract (ByteArray.extract s 1 (Int.toNat (((List.length (ls s)) : Nat) : Int))) 1 (Int.toNat (((List.length (ls (ByteArray.extract s 1 (Int.toNat (((List.length (ls s)) : Nat) : Int))))) : Nat) : Int)))) && true) && (areBytes 1 (rowOf [(.lit (.int .u8 (((UInt8.toNat (Array.getD (ByteArray.data (ByteArray.extract s 1 (Int.toNat (((List.length (ls s)) : Nat) : Int)))) 0 (0 : UInt8))) : Nat) : Int)))] 1))), true, ((decide ((1 : Int) ≤ (((List.length (ls (ByteArray.extract s 1 (Int.toNat (((List.length (ls s)) : Nat) : Int))))) : Nat) : Int))) && (decide ((((List.length (ls (ByteArray.extract s 1 (Int.toNat (((List.length (ls s)) : Nat) : Int))))) : Nat) : Int) ≤ (((List.length (ls (ByteArray.extract s 1 (Int.toNat (((List.length (ls s)) : Nat) : Int))))) : Nat) : Int)))), (Nat.blt 0 (List.length (ls (ByteArray.extract s 1 (Int.toNat (((List.length (ls s)) : Nat) : Int)))))), (Nat.blt 0 (List.length (ls (ByteArray.extract s 1 (Int.toNat (((List.length (ls s)) : Nat) : Int)))))), ((decide ((1 : Int) ≤ (((List.length (ls s)) : Nat) : Int))) && (decide ((((List.length (ls s)) : Nat) : Int) ≤ (((List.length (ls s)) : Nat) : Int)))), (Nat.blt 0 (List.length (ls s)))]))
                    else (.some (((.lit (.string (.mk (List.toArray [])))), [(.lit (.string (bs (restQ (ls (ByteArray.extract (ByteArray.extract s 1 (Int.toNat (((List.length (ls s)) : Nat) : Int))) 1 (Int.toNat (((List.length (ls (ByteArray.extract s 1 (Int.toNat (((List.length (ls s)) : Nat) : Int))))) : Nat) : Int)))))))), (.lit (.bool g)), (.lit (.bool true))]), [(((okS (ByteArray.extract (ByteArray.extract s 1 (Int.toNat (((List.length (ls s)) : Nat) : Int))) 1 (Int.toNat (((List.length (ls (ByteArray.extract s 1 (Int.toNat (((List.length (ls s)) : Nat) : Int))))) : Nat) : Int)))) && true) && (areBytes 1 (rowOf [(.lit (.int .u8 (((UInt8.toNat (Array.getD (ByteArray.data (ByteArray.extract s 1 (Int.toNat (((List.length (ls s)) : Nat) : Int)))) 0 (0 : UInt8))) : Nat) : Int)))] 1))), true, ((decide ((1 : Int) ≤ (((List.length (ls (ByteArray.extract s 1 (Int.toNat (((List.length (ls s)) : Nat) : Int))))) : Nat) : Int))) && (decide ((((List.length (ls (ByteArray.extract s 1 (Int.toNat (((List.length (ls s)) : Nat) : Int))))) : Nat) : Int) ≤ (((List.length (ls (ByteArray.extract s 1 (Int.toNat (((List.length (ls s)) : Nat) : Int))))) : Nat) : Int)))), (Nat.blt 0 (List.length (ls (ByteArray.extract s 1 (Int.toNat (((List.length (ls s)) : Nat) : Int)))))), (Nat.blt 0 (List.length (ls (ByteArray.extract s 1 (Int.toNat (((List.length (ls s)) : Nat) : Int)))))), ((decide ((1 : Int) ≤ (((List.length (ls s)) : Nat) : Int))) && (decide ((((List.length (ls s)) : Nat) : Int) ≤ (((List.length (ls s)) : Nat) : Int)))), (Nat.blt 0 (List.length (ls s)))]))
              else bif (hasQ (ls (ByteArray.extract s 1 (Int.toNat (((List.length (ls s)) : Nat) : Int))))) then
                  (.some (((.lit (.string (bs ((bytesOf 1 (rowOf [(.lit (.int .u8 (((UInt8.toNat (Array.getD (ByteArray.data s) 0 (0 : UInt8))) : Nat) : Int)))] 1)) ++ (theQ (ls (ByteArray.extract s 1 (Int.toNat (((List.length (ls s)) : Nat) : Int))))))))), [(.lit (.string (bs (restQ (ls (ByteArray.extract s 1 (Int.toNat (((List.length (ls s)) : Nat) : Int)))))))), (.lit (.bool g)), (.lit (.bool d))]), [(((okS (ByteArray.extract s 1 (Int.toNat (((List.length (ls s)) : Nat) : Int)))) && true) && (areBytes 1 (rowOf [(.lit (.int .u8 (((UInt8.toNat (Array.getD (ByteArray.data s) 0 (0 : UInt8))) : Nat) : Int)))] 1))), true, ((decide ((1 : Int) ≤ (((List.length (ls s)) : Nat) : Int))) && (decide ((((List.length (ls s)) : Nat) : Int) ≤ (((List.length (ls s)) : Nat) : Int)))), (Nat.blt 0 (List.length (ls s)))]))
                else (.some (((.lit (.string (.mk (List.toArray [])))), [(.lit (.string (bs (restQ (ls (ByteArray.extract s 1 (Int.toNat (((List.length (ls s)) : Nat) : Int)))))))), (.lit (.bool g)), (.lit (.bool true))]), [(((okS (ByteArray.extract s 1 (Int.toNat (((List.length (ls s)) : Nat) : Int)))) && true) && (areBytes 1 (rowOf [(.lit (.int .u8 (((UInt8.toNat (Array.getD (ByteArray.data s) 0 (0 : UInt8))) : Nat) : Int)))] 1))), true, ((decide ((1 : Int) ≤ (((List.length (ls s)) : Nat) : Int))) && (decide ((((List.length (ls s)) : Nat) : Int) ≤ (((List.length (ls s)) : Nat) : Int)))), (Nat.blt 0 (List.length (ls s)))])) : Option ((PV × List PV) × List Bool)) := by
  kernel_rfl
/-- (*reader).quoted -/
def quotedG (cs ps : List PV) : Tr (PV × List PV) := match cs, ps with
  | [.lit (.string s), .lit (.bool g), .lit (.bool d)], [] => .br (okS s) (.br (hasQ (ls s)) (.leaf (str (bs (theQ (ls s))), [str (bs (restQ (ls s))), bool g, bool d])) (.leaf (str (bs []), [str (bs (restQ (ls s))), bool g, bool true]))) .fail
  | _, _ => .fail
theorem q_none {l r : List UInt8} (h : qR l = (none, r)) : hasQ l = false ∧ restQ l = r := by
  unfold hasQ restQ
  rw [h]
  exact ⟨rfl, rfl⟩
theorem q_some {l q r : List UInt8} (h : qR l = (some q, r)) : hasQ l = true ∧ theQ l = q ∧ restQ l = r := by
  unfold hasQ restQ theQ
  rw [h]
  exact ⟨rfl, rfl, rfl⟩
theorem q_map {l l' : List UInt8} {c : UInt8} (h : qR l = ((qR l').1.map (c :: ·), (qR l').2)) : hasQ l = hasQ l' ∧ (hasQ l' = true → theQ l = c :: theQ l') ∧ restQ l = restQ l' := by
  unfold hasQ restQ theQ
  rw [h]
  rcases qR l' with ⟨_ | q, r⟩
  · exact ⟨rfl, fun h => (by cases h), rfl⟩
  · exact ⟨rfl, fun _ => rfl, rfl⟩
theorem quoted_ok : SpotOK Tryd.prog (GG m t fr) 40 61 quotedG := by
  refine SpotOK.of (spot_of_ev (n := 60) (E := (E8 (GG m t fr)).withCuts (cut1 (1000000 + 0) (qdCut (GG m t fr)))) (E8_ok.withCuts _) mixed (fn := Tryd.f40) (by kernel_rfl)
    (CutLaws.jump (by kernel_rfl) (fun st e st' h => cutJ_okM (x0 := .pin) (fun h => by cases h) E8_ok mixed (noCuts_ok (envOf_cuts ..) _) (fun _ e => by cases e <;> rfl) qdF_ok h) (fun c hc => by cases hc; kernel_rfl) _) _) fun cs ps p cs' hp => ?_
  unfold quotedG at hp
  split at hp
  · rename_i s g d
    obtain ⟨hs, hp⟩ := br_run hp
    have h := qd_raw m t fr s g d
    obtain ⟨l, rfl⟩ : ∃ l, s = bs l := ⟨ls s, (bs_ls s).symm⟩
    have hsl := okS_le hs
    rw [bs_len] at hsl
    have e0 : ls (ByteArray.mk (List.toArray [])) = [] := rfl
    have ebs : ByteArray.mk (List.toArray []) = bs [] := rfl
    have eem : ByteArray.empty = bs [] := rfl
    have e34 : (34 : Int) = (((34 : UInt8).toNat : Nat) : Int) := rfl
    have e13 : (13 : Int) = (((13 : UInt8).toNat : Nat) : Int) := rfl
    have e10 : (10 : Int) = (((10 : UInt8).toNat : Nat) : Int) := rfl
    have e92 : (92 : Int) = (((92 : UInt8).toNat : Nat) : Int) := rfl
    rw [ls_bs] at hp
    rcases l with _ | ⟨c, r⟩
    · obtain ⟨z1, z2⟩ := q_none (l := []) (r := []) rfl
      rw [z1, z2] at hp
      simp only [Tr.run, cond_false, Option.some.injEq, Prod.mk.injEq] at hp
      obtain ⟨rfl, rfl⟩ := hp
      rw [eqB, ls_bs, e0, decide_eq_true rfl] at h
      exact Tr.run_of h rfl
    · simp only [List.length_cons] at hsl
      have hne : decide (c :: r = []) = false := by simp
      have hg0 : (c :: r).getD 0 0 = c := rfl
      have hb0 : Nat.blt 0 (c :: r).length = true := rfl
      have hl1 : decide ((1 : Int) ≤ (((c :: r).length : Nat) : Int)) = true := by simp; omega
      have hle : ∀ j : Nat, decide ((j : Int) ≤ (j : Int)) = true := by intro j; simp
      have or' : okS (bs r) = true := okS_of (by rw [bs_len]; omega)
      rw [ls_bs, Int.toNat_natCast, ext_tail, ls_bs] at h
      simp only [eqB, getD_ls, ls_bs, e0, hne, hg0, hb0, hl1, hle, bne, or'] at h
      rw [e34, byte_eq, e13, byte_eq, e10, byte_eq, e92, byte_eq, byte_eq, byte_eq] at h
      simp only [cond_false, one_bytes, one_are] at h
      cases c1 : decide (c = 34) with
      | true =>
        rw [c1] at h
        obtain ⟨z1, z2, z3⟩ := q_some (l := c :: r) (q := []) (r := r) (by cases r <;> simp [qR, c1])
        rw [z1, z2, z3] at hp
        simp only [Tr.run, cond_true, Option.some.injEq, Prod.mk.injEq] at hp
        obtain ⟨rfl, rfl⟩ := hp
        exact Tr.run_of h (by simp)
      | false =>
      rw [c1] at h
      simp only [cond_false] at h
      have bad : ∀ {cd : List Bool}, qR (c :: r) = (none, r) → cd.all id = true → (fnSpot Tryd.prog ((E8 (GG m t fr)).withCuts (cut1 (1000000 + 0) (qdCut (GG m t fr)))) 60 Tryd.f40 (GG m t fr) 61 [str (bs (c :: r)), bool g, bool d] []).run2 = some ((.lit (.string (.mk (List.toArray []))), [.lit (.string (bs r)), .lit (.bool g), .lit (.bool true)]), cd) →
          (fnSpot Tryd.prog ((E8 (GG m t fr)).withCuts (cut1 (1000000 + 0) (qdCut (GG m t fr)))) 60 Tryd.f40 (GG m t fr) 61 [str (bs (c :: r)), bool g, bool d] []).run = some (p, cs') := by
        intro cd hq hcd hh
        obtain ⟨z1, z2⟩ := q_none hq
        rw [z1, z2] at hp
        simp only [Tr.run, cond_false, Option.some.injEq, Prod.mk.injEq] at hp
        obtain ⟨rfl, rfl⟩ := hp
        exact Tr.run_of hh hcd
      cases c2 : decide (c = 13) with
      | true =>
        rw [c2] at h
        exact bad (by cases r <;> simp [qR, c1, c2]) (by simp) h
      | false =>
      rw [c2] at h
      simp only [cond_false] at h
      cases c3 : decide (c = 10) with
      | true =>
        rw [c3] at h
        exact bad (by cases r <;> simp [qR, c1, c2, c3]) (by simp) h
      | false =>
      rw [c3] at h
      simp only [cond_false] at h
      cases c4 : decide (c = 92) with
      | false =>
        rw [c4] at h
        simp only [cond_false] at h
        obtain ⟨z1, z2, z3⟩ := q_map (l := c :: r) (l' := r) (c := c) (by cases r <;> simp [qR, c1, c2, c3, c4])
        rw [z1, z3] at hp
        cases hh : hasQ r with
        | true =>
          rw [hh] at h hp
          rw [z2 hh] at hp
          simp only [cond_true] at h
          simp only [Tr.run, cond_true, Option.some.injEq, Prod.mk.injEq] at hp
          obtain ⟨rfl, rfl⟩ := hp
          exact Tr.run_of h (by simp)
        | false =>
          rw [hh] at h hp
          simp only [cond_false] at h
          simp only [Tr.run, cond_false, Option.some.injEq, Prod.mk.injEq] at hp
          obtain ⟨rfl, rfl⟩ := hp
          exact Tr.run_of h (by simp)
      | true =>
      rw [c4] at h
      simp only [cond_true] at h
      rcases r with _ | ⟨e, r⟩
      · exact bad (by simp [qR, c1, c2, c3]) (by simp) h
      · simp only [List.length_cons] at hsl
        have hne2 : decide (e :: r = []) = false := by simp
        have hg1 : (e :: r).getD 0 0 = e := rfl
        have hb1 : Nat.blt 0 (e :: r).length = true := rfl
        have hl2 : decide ((1 : Int) ≤ (((e :: r).length : Nat) : Int)) = true := by simp; omega
        have or2 : okS (bs r) = true := okS_of (by rw [bs_len]; omega)
        rw [Int.toNat_natCast, ext_tail, ls_bs] at h
        simp only [hne2, hg1, hb1, hl2, or2, cond_false] at h
        try simp only [one_bytes, one_are] at h
        have hq : qR (c :: e :: r) = bif decide (e = 34) || decide (e = 92) then ((qR r).1.map (e :: ·), (qR r).2) else (none, e :: r) := by simp only [qR, c1, c2, c3, c4, Bool.or_false, cond_false, cond_true]
        have good : (decide (e = 34) || decide (e = 92)) = true → ∀ {cd : List Bool}, cd.all id = true → (fnSpot Tryd.prog ((E8 (GG m t fr)).withCuts (cut1 (1000000 + 0) (qdCut (GG m t fr)))) 60 Tryd.f40 (GG m t fr) 61 [str (bs (c :: e :: r)), bool g, bool d] []).run2 = (bif hasQ r then some ((.lit (.string (bs ([e] ++ theQ r))), [.lit (.string (bs (restQ r))), .lit (.bool g), .lit (.bool d)]), cd) else some ((.lit (.string (.mk (List.toArray []))), [.lit (.string (bs (restQ r))), .lit (.bool g), .lit (.bool true)]), cd)) →
            (fnSpot Tryd.prog ((E8 (GG m t fr)).withCuts (cut1 (1000000 + 0) (qdCut (GG m t fr)))) 60 Tryd.f40 (GG m t fr) 61 [str (bs (c :: e :: r)), bool g, bool d] []).run = some (p, cs') := by
          intro he cd hcd hh2
          obtain ⟨z1, z2, z3⟩ := q_map (l := c :: e :: r) (l' := r) (c := e) (by rw [hq, he]; rfl)
          rw [z1, z3] at hp
          cases hh : hasQ r with
          | true =>
            rw [hh] at hh2 hp
            rw [z2 hh] at hp
            simp only [Tr.run, cond_true, Option.some.injEq, Prod.mk.injEq] at hp
            obtain ⟨rfl, rfl⟩ := hp
            exact Tr.run_of hh2 hcd
          | false =>
            rw [hh] at hh2 hp
            simp only [Tr.run, cond_false, Option.some.injEq, Prod.mk.injEq] at hp
            obtain ⟨rfl, rfl⟩ := hp
            exact Tr.run_of hh2 hcd
        cases c5 : decide (e = 34) with
        | true =>
          rw [c5] at h
          exact good (by rw [c5]; rfl) (by simp) h
        | false =>
        rw [c5] at h
        cases c6 : decide (e = 92) with
        | true =>
          rw [c6] at h
          exact good (by rw [c5, c6]; rfl) (by simp) h
        | false =>
          rw [c6] at h
          exact bad (by rw [hq, c5, c6]; rfl) (by simp) h
  · cases hp
end
end Go.Proofs.YtnidaonmigjgkaaDoor.Ev
