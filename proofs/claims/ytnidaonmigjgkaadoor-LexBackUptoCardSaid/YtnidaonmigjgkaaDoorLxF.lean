/- lex: the next command, by both. No condition. -/
import Derived.Test.YtnidaonmigjgkaaDoorLxE
namespace Go.Proofs.YtnidaonmigjgkaaDoor.Ev
open Go Go.RowKit Go.Proofs Go.Proofs.YtnidaonmigjgkaaDoor.Str
set_option linter.unusedVariables false
set_option linter.unusedSimpArgs false
section
variable {m : Int} {t : TypeId} {fr : Nat × Nat}
def annPure : List (Nat × (List PV → Tr PV)) := (8, annG) :: (9, annG) :: numPure
theorem annPure_ok : TabOK Tryd.prog (GG m t fr) annPure :=
  TabOK.cons ann_ok (fn := Tryd.f8) (by kernel_rfl) (by kernel_rfl) (TabOK.cons rann_ok (fn := Tryd.f9) (by kernel_rfl) (by kernel_rfl) numPure_ok)
noncomputable abbrev E3 (G : GT) : Env := envOf Tryd.prog G annPure libFull
theorem E3_ok : (E3 (GG m t fr)).ok Tryd.prog (GG m t fr) := envOf_ok mixed annPure_ok libFull_ok
def nextOuts : Exit → Outs
  | .goto _ => { ks := [0, 5, 6, 7] }
  | .ret => { ks := [2, 3, 4] }
  | _ => { ks := [] }
noncomputable abbrev nextRound (G : GT) := roundT Tryd.prog (E3 G) 60 G 65 nextOuts (.goto 0) (theRest 0 Tryd.f6)
-- from: next_round [bs, okS, annI, annR, ls, lineS] (m : Int) (t : TypeId) (fr : Nat × Nat) (s r : ByteArray) (room many : Int) : (nextRound (GG m t fr) ([str s, int room, int many, str r], [])).run2
theorem next_round (m : Int) (t : TypeId) (fr : Nat × Nat) (s r : ByteArray) (room many : Int) : (nextRound (GG m t fr) ([str s, int room, int many, str r], [])).run2 =
    (bif (decide ((IntKind.wrap .i64 (room - (((List.length (Prod.fst (lineS (ls r)))) : Nat) : Int))) < (0 : Int))) then
        (.some ((.ret, ([(.lit (.string (.mk (List.toArray [])))), (.lit (.string (.mk (List.toArray [])))), (.lit (.int .i64 (15 : Int)))], [])), [(okS r)]))
      else bif (!(Prod.snd (Prod.snd (lineS (ls r))))) then
          (.some ((.ret, ([(.lit (.string (.mk (List.toArray [])))), (.lit (.string (.mk (List.toArray [])))), (.lit (.int .i64 (5 : Int)))], [])), [(okS r)]))
        else bif (!(annI (Prod.fst (lineS (ls r))))) then
            (.some ((.ret, ([(.lit (.string (ByteArray.extract s 0 (Int.toNat (IntKind.wrap .i64 ((IntKind.wrap .i64 ((((List.length (ls s)) : Nat) : Int) - (((List.length (ls r)) : Nat) : Int))) + (((List.length (Prod.fst (lineS (ls r)))) : Nat) : Int))))))), (.lit (.string (bs (Prod.fst (Prod.snd (lineS (ls r))))))), (.lit (.int .i64 (0 : Int)))], [])), [((decide ((0 : Int) ≤ (IntKind.wrap .i64 ((IntKind.wrap .i64 ((((List.length (ls s)) : Nat) : Int) - (((List.length (ls r)) : Nat) : Int))) + (((List.length (Prod.fst (lineS (ls r)))) : Nat) : Int))))) && (decide ((IntKind.wrap .i64 ((IntKind.wrap .i64 ((((List.length (ls s)) : Nat) : Int) - (((List.length (ls r)) : Nat) : Int))) + (((List.length (Prod.fst (lineS (ls r)))) : Nat) : Int))) ≤ (((List.length (ls s)) : Nat) : Int)))), (okS (bs (Prod.fst (lineS (ls r))))), (okS r)]))
          else bif (decide ((((annR (Prod.fst (lineS (ls r)))) : Nat) : Int) > (65536 : Int))) then
              (.some ((.ret, ([(.lit (.string (.mk (List.toArray [])))), (.lit (.string (.mk (List.toArray [])))), (.lit (.int .i64 (15 : Int)))], [])), [true, true, (okS (bs (Prod.fst (lineS (ls r))))), (okS r)]))
            else bif (decide ((IntKind.wrap .i64 (many + (1 : Int))) > (16 : Int))) then
                (.some ((.ret, ([(.lit (.string (.mk (List.toArray [])))), (.lit (.string (.mk (List.toArray [])))), (.lit (.int .i64 (15 : Int)))], [])), [(okS (bs (Prod.fst (lineS (ls r))))), (okS r)]))
              else bif (decide ((((annR (Prod.fst (lineS (ls r)))) : Nat) : Int) > (((List.length (Prod.fst (Prod.snd (lineS (ls r))))) : Nat) : Int))) then
                  (.some ((.ret, ([(.lit (.string (.mk (List.toArray [])))), (.lit (.string (.mk (List.toArray [])))), (.lit (.int .i64 (5 : Int)))], [])), [(okS (bs (Prod.fst (lineS (ls r))))), (okS r)]))
                else (.some (((.goto 0), ([(.lit (.string s)), (.lit (.int .i64 (IntKind.wrap .i64 (room - (((List.length (Prod.fst (lineS (ls r)))) : Nat) : Int))))), (.lit (.int .i64 (IntKind.wrap .i64 (many + (1 : Int))))), (.lit (.string (ByteArray.extract (bs (Prod.fst (Prod.snd (lineS (ls r))))) (Int.toNat (((annR (Prod.fst (lineS (ls r)))) : Nat) : Int)) (Int.toNat (((List.length (Prod.fst (Prod.snd (lineS (ls r))))) : Nat) : Int)))))], [])), [(((decide ((0 : Int) ≤ (((annR (Prod.fst (lineS (ls r)))) : Nat) : Int))) && (decide ((((annR (Prod.fst (lineS (ls r)))) : Nat) : Int) ≤ (((List.length (Prod.fst (Prod.snd (lineS (ls r))))) : Nat) : Int)))) && (decide ((((List.length (Prod.fst (Prod.snd (lineS (ls r))))) : Nat) : Int) ≤ (((List.length (Prod.fst (Prod.snd (lineS (ls r))))) : Nat) : Int)))), (okS (bs (Prod.fst (lineS (ls r))))), (okS r)])) : Option ((Exit × Kept) × List Bool)) := by
  kernel_rfl
def rnextOuts : Exit → Outs
  | .normal => { ks := [0, 5, 6, 7] }
  | .ret => { ks := [2, 3, 4] }
  | _ => { ks := [] }
noncomputable abbrev rnextRound (G : GT) := roundT Tryd.prog (E3 G) 60 G 64 rnextOuts .normal (theLoop 0 Tryd.f7)
-- from: rnext_round [bs, okS, annI, annR, ls, lineS] (m : Int) (t : TypeId) (fr : Nat × Nat) (s r : ByteArray) (sum many : Int) : (rnextRound (GG m t fr) ([str s, int sum, int many, str r], [])).run2
theorem rnext_round (m : Int) (t : TypeId) (fr : Nat × Nat) (s r : ByteArray) (sum many : Int) : (rnextRound (GG m t fr) ([str s, int sum, int many, str r], [])).run2 =
    (bif (decide ((((List.length (Prod.fst (lineS (ls r)))) : Nat) : Int) > (IntKind.wrap .i64 ((8192 : Int) - sum)))) then
        (.some ((.ret, ([(.lit (.string (.mk (List.toArray [])))), (.lit (.string (.mk (List.toArray [])))), (.lit (.int .i64 (15 : Int)))], [])), [(okS r)]))
      else bif (!(Prod.snd (Prod.snd (lineS (ls r))))) then
          (.some ((.ret, ([(.lit (.string (.mk (List.toArray [])))), (.lit (.string (.mk (List.toArray [])))), (.lit (.int .i64 (5 : Int)))], [])), [(okS r)]))
        else bif (!(annI (Prod.fst (lineS (ls r))))) then
            (.some ((.ret, ([(.lit (.string (ByteArray.extract s 0 (Int.toNat (IntKind.wrap .i64 ((IntKind.wrap .i64 ((((List.length (ls s)) : Nat) : Int) - (((List.length (ls r)) : Nat) : Int))) + (((List.length (Prod.fst (lineS (ls r)))) : Nat) : Int))))))), (.lit (.string (bs (Prod.fst (Prod.snd (lineS (ls r))))))), (.lit (.int .i64 (0 : Int)))], [])), [((decide ((0 : Int) ≤ (IntKind.wrap .i64 ((IntKind.wrap .i64 ((((List.length (ls s)) : Nat) : Int) - (((List.length (ls r)) : Nat) : Int))) + (((List.length (Prod.fst (lineS (ls r)))) : Nat) : Int))))) && (decide ((IntKind.wrap .i64 ((IntKind.wrap .i64 ((((List.length (ls s)) : Nat) : Int) - (((List.length (ls r)) : Nat) : Int))) + (((List.length (Prod.fst (lineS (ls r)))) : Nat) : Int))) ≤ (((List.length (ls s)) : Nat) : Int)))), (okS (bs (Prod.fst (lineS (ls r))))), (okS r)]))
          else bif (decide ((((annR (Prod.fst (lineS (ls r)))) : Nat) : Int) > (65536 : Int))) then
              (.some ((.ret, ([(.lit (.string (.mk (List.toArray [])))), (.lit (.string (.mk (List.toArray [])))), (.lit (.int .i64 (15 : Int)))], [])), [true, true, (okS (bs (Prod.fst (lineS (ls r))))), (okS r)]))
            else bif (decide ((IntKind.wrap .i64 (many + (1 : Int))) > (16 : Int))) then
                (.some ((.ret, ([(.lit (.string (.mk (List.toArray [])))), (.lit (.string (.mk (List.toArray [])))), (.lit (.int .i64 (15 : Int)))], [])), [(okS (bs (Prod.fst (lineS (ls r))))), (okS r)]))
              else bif (decide ((((annR (Prod.fst (lineS (ls r)))) : Nat) : Int) > (((List.length (Prod.fst (Prod.snd (lineS (ls r))))) : Nat) : Int))) then
                  (.some ((.ret, ([(.lit (.string (.mk (List.toArray [])))), (.lit (.string (.mk (List.toArray [])))), (.lit (.int .i64 (5 : Int)))], [])), [(okS (bs (Prod.fst (lineS (ls r))))), (okS r)]))
                else (.some ((.normal, ([(.lit (.string s)), (.lit (.int .i64 (IntKind.wrap .i64 (sum + (((List.length (Prod.fst (lineS (ls r)))) : Nat) : Int))))), (.lit (.int .i64 (IntKind.wrap .i64 (many + (1 : Int))))), (.lit (.string (ByteArray.extract (bs (Prod.fst (Prod.snd (lineS (ls r))))) (Int.toNat (((annR (Prod.fst (lineS (ls r)))) : Nat) : Int)) (Int.toNat (((List.length (Prod.fst (Prod.snd (lineS (ls r))))) : Nat) : Int)))))], [])), [(((decide ((0 : Int) ≤ (((annR (Prod.fst (lineS (ls r)))) : Nat) : Int))) && (decide ((((annR (Prod.fst (lineS (ls r)))) : Nat) : Int) ≤ (((List.length (Prod.fst (Prod.snd (lineS (ls r))))) : Nat) : Int)))) && (decide ((((List.length (Prod.fst (Prod.snd (lineS (ls r))))) : Nat) : Int) ≤ (((List.length (Prod.fst (Prod.snd (lineS (ls r))))) : Nat) : Int)))), (okS (bs (Prod.fst (lineS (ls r))))), (okS r)])) : Option ((Exit × Kept) × List Bool)) := by
  kernel_rfl
/-- how a text begins: with too much, with too little, or with a command: how long what was left was at its last line, how long that line is, and what is behind it -/
inductive NR where
  | long
  | short
  | ok (rl ll : Nat) (more : List UInt8)
def nextF : Nat → Nat → Nat → List UInt8 → NR
  | 0, _, _, _ => .long
  | f + 1, many, sum, l =>
    bif decide (8192 < sum + (lineS l).1.length) then .long
    else bif !(lineS l).2.2 then .short
    else bif !annI (lineS l).1 then .ok l.length (lineS l).1.length (lineS l).2.1
    else bif decide (65536 < annR (lineS l).1) || decide (16 < many + 1) then .long
    else bif decide ((lineS l).2.1.length < annR (lineS l).1) then .short
    else nextF f (many + 1) (sum + (lineS l).1.length) ((lineS l).2.1.drop (annR (lineS l).1))
def nrA (s : List UInt8) : NR → List UInt8
  | .ok rl ll _ => s.take (s.length - rl + ll)
  | _ => []
def nrB : NR → List UInt8
  | .ok _ _ more => more
  | _ => []
def nrC : NR → Int
  | .long => 15
  | .short => 5
  | .ok _ _ _ => 0
theorem trimCR_len (l : List UInt8) : (trimCR l).length ≤ l.length := trimSuf_len l [13]
theorem cutC_sum (c : UInt8) : ∀ (l : List UInt8), (cutC c l).1.length + (cutC c l).2.1.length ≤ l.length
  | [] => by simp [cutC]
  | b :: l => by
    have ih := cutC_sum c l
    unfold cutC
    split
    · simp
    · simp
      omega
theorem lineS_len (l : List UInt8) : (lineS l).1.length + (lineS l).2.1.length ≤ l.length := by
  have h := cutC_sum 10 l
  have h2 := trimCR_len (cutC 10 l).1
  unfold lineS
  cases (cutC 10 l).2.2 with
  | true =>
    simp only [cond_true]
    omega
  | false => simp
theorem ann_big {l : List UInt8} : annR l < 1000000000 := by
  unfold annR
  cases Lib.hasSuffix l [125] with
  | true => exact numR_le _
  | false => simp
theorem wrap_mid {i : Int} (h1 : -4611686018427387904 ≤ i) (h2 : i ≤ 4611686018427387904) : IntKind.i64.wrap i = i := by
  simp [IntKind.wrap, IntKind.bits, IntKind.signed]
  omega

theorem next_step (s : ByteArray) (hs : s.size ≤ 4294967280) (f many sum : Nat) (l : List UInt8) (room : Int) (hf : f + many = 16) (hsum : sum ≤ 8192) (hl : l.length ≤ s.size) (hroom : room = (8192 : Int) - (sum : Int))
    (ih : many + 1 ≤ 16 → ∀ (sum' : Nat) (l' : List UInt8) (room' : Int), sum' ≤ 8192 → l'.length ≤ s.size → room' = (8192 : Int) - (sum' : Int) → LR Tryd.prog (E3 (GG m t fr)) 60 (GG m t fr) 65 nextOuts (.goto 0) (theRest 0 Tryd.f6) ([str s, int room', int ((many + 1 : Nat) : Int), str (bs l')], []) .ret ([str (bs (nrA (ls s) (nextF f (many + 1) sum' l'))), str (bs (nrB (nextF f (many + 1) sum' l'))), int (nrC (nextF f (many + 1) sum' l'))], [])) :
    LR Tryd.prog (E3 (GG m t fr)) 60 (GG m t fr) 65 nextOuts (.goto 0) (theRest 0 Tryd.f6) ([str s, int room, int many, str (bs l)], []) .ret ([str (bs (nrA (ls s) (nextF (f + 1) many sum l))), str (bs (nrB (nextF (f + 1) many sum l))), int (nrC (nextF (f + 1) many sum l))], []) := by
    have h := next_round m t fr s (bs l) room many
    have hlen := lineS_len l
    have hab := ann_big (l := (lineS l).1)
    have w1 : IntKind.i64.wrap (room - (((lineS l).1.length : Nat) : Int)) = (8192 : Int) - ((sum + (lineS l).1.length : Nat) : Int) := by
      rw [hroom]
      have e : (8192 : Int) - (sum : Int) - (((lineS l).1.length : Nat) : Int) = (8192 : Int) - ((sum + (lineS l).1.length : Nat) : Int) := by omega
      rw [e]
      exact wrap_mid (by omega) (by omega)
    have d1 : decide ((8192 : Int) - ((sum + (lineS l).1.length : Nat) : Int) < 0) = decide (8192 < sum + (lineS l).1.length) := by
      rw [decide_eq_decide]
      omega
    rw [ls_bs, w1, d1] at h
    have ol : okS (bs l) = true := okS_of (by rw [bs_len]; omega)
    have ol1 : okS (bs (lineS l).1) = true := okS_of (by rw [bs_len]; omega)
    have hn : nextF (f + 1) many sum l = bif decide (8192 < sum + (lineS l).1.length) then .long
      else bif !(lineS l).2.2 then .short
      else bif !annI (lineS l).1 then .ok l.length (lineS l).1.length (lineS l).2.1
      else bif decide (65536 < annR (lineS l).1) || decide (16 < many + 1) then .long
      else bif decide ((lineS l).2.1.length < annR (lineS l).1) then .short
      else nextF f (many + 1) (sum + (lineS l).1.length) ((lineS l).2.1.drop (annR (lineS l).1)) := rfl
    rw [hn]
    cases c1 : decide (8192 < sum + (lineS l).1.length) with
    | true =>
      rw [c1] at h
      exact .last (Tr.run_of h (by simp [ol])) (by simp) (by simp)
    | false =>
    have c1' := of_decide_eq_false c1
    rw [c1] at h
    simp only [cond_false] at h ⊢
    cases c2 : (lineS l).2.2 with
    | false =>
      rw [c2] at h
      exact .last (Tr.run_of h (by simp [ol])) (by simp) (by simp)
    | true =>
    rw [c2] at h
    simp only [Bool.not_true, cond_false] at h ⊢
    cases c3 : annI (lineS l).1 with
    | false =>
      rw [c3] at h
      have e1 : (((ls s).length : Nat) : Int) - ((l.length : Nat) : Int) = (((ls s).length - l.length : Nat) : Int) := by
        rw [ls_len]
        omega
      have e2 : ((((ls s).length - l.length : Nat) : Int)) + (((lineS l).1.length : Nat) : Int) = (((ls s).length - l.length + (lineS l).1.length : Nat) : Int) := by omega
      have hls := ls_len s
      rw [e1, wrap_nat (by omega), e2, wrap_nat (by omega), Int.toNat_natCast, bs_ext, List.drop_zero] at h
      exact .last (Tr.run_of h (by simp [ol, ol1]; omega)) (by simp) (by simp)
    | true =>
    rw [c3] at h
    simp only [Bool.not_true, cond_false] at h ⊢
    have d4 : decide (((annR (lineS l).1 : Nat) : Int) > 65536) = decide (65536 < annR (lineS l).1) := by
      rw [decide_eq_decide]
      omega
    have w5 : IntKind.i64.wrap ((many : Int) + 1) = ((many + 1 : Nat) : Int) := wrap_succ (by omega)
    have d5 : decide (((many + 1 : Nat) : Int) > 16) = decide (16 < many + 1) := by
      rw [decide_eq_decide]
      omega
    have d6 : decide (((annR (lineS l).1 : Nat) : Int) > (((lineS l).2.1.length : Nat) : Int)) = decide ((lineS l).2.1.length < annR (lineS l).1) := by
      rw [decide_eq_decide]
      omega
    rw [d4, w5, d5, d6] at h
    cases c4 : decide (65536 < annR (lineS l).1) with
    | true =>
      rw [c4] at h
      exact .last (Tr.run_of h (by simp [ol, ol1])) (by simp) (by simp)
    | false =>
    rw [c4] at h
    simp only [Bool.false_or, cond_false] at h ⊢
    cases c5 : decide (16 < many + 1) with
    | true =>
      rw [c5] at h
      exact .last (Tr.run_of h (by simp [ol, ol1])) (by simp) (by simp)
    | false =>
    have c5' := of_decide_eq_false c5
    rw [c5] at h
    simp only [cond_false] at h ⊢
    cases c6 : decide ((lineS l).2.1.length < annR (lineS l).1) with
    | true =>
      rw [c6] at h
      exact .last (Tr.run_of h (by simp [ol, ol1])) (by simp) (by simp)
    | false =>
    have c6' := of_decide_eq_false c6
    rw [c6] at h
    simp only [cond_false] at h ⊢
    have hE : (bs (lineS l).2.1).extract ((annR (lineS l).1 : Nat) : Int).toNat (((lineS l).2.1.length : Nat) : Int).toNat = bs ((lineS l).2.1.drop (annR (lineS l).1)) := by
      rw [bs_ext, ls_bs, Int.toNat_natCast, Int.toNat_natCast, List.take_length]
    rw [hE] at h
    exact .more (Tr.run_of h (by simp [ol, ol1]; omega)) (ih (by omega) (sum + (lineS l).1.length) _ _ (by omega) (by rw [List.length_drop]; omega) rfl)

theorem next_LR (s : ByteArray) (hs : s.size ≤ 4294967280) : ∀ (f many sum : Nat) (l : List UInt8) (room : Int), f + many = 16 → sum ≤ 8192 → l.length ≤ s.size → room = (8192 : Int) - (sum : Int) →
    LR Tryd.prog (E3 (GG m t fr)) 60 (GG m t fr) 65 nextOuts (.goto 0) (theRest 0 Tryd.f6) ([str s, int room, int many, str (bs l)], []) .ret ([str (bs (nrA (ls s) (nextF (f + 1) many sum l))), str (bs (nrB (nextF (f + 1) many sum l))), int (nrC (nextF (f + 1) many sum l))], []) := by
  intro f
  induction f with
  | zero =>
    intro many sum l room hf hsum hl hroom
    refine next_step s hs 0 many sum l room hf hsum hl hroom fun hm => ?_
    omega
  | succ f ih =>
    intro many sum l room hf hsum hl hroom
    refine next_step s hs (f + 1) many sum l room hf hsum hl hroom fun hm sum' l' room' h1 h2 h3 => ?_
    exact ih (many + 1) sum' l' room' (by omega) h1 h2 h3

theorem rnext_step (s : ByteArray) (hs : s.size ≤ 4294967280) (f many sum : Nat) (l : List UInt8) (room : Int) (hf : f + many = 16) (hsum : sum ≤ 8192) (hl : l.length ≤ s.size) (hroom : room = (sum : Int))
    (ih : many + 1 ≤ 16 → ∀ (sum' : Nat) (l' : List UInt8) (room' : Int), sum' ≤ 8192 → l'.length ≤ s.size → room' = (sum' : Int) → LR Tryd.prog (E3 (GG m t fr)) 60 (GG m t fr) 64 rnextOuts .normal (theLoop 0 Tryd.f7) ([str s, int room', int ((many + 1 : Nat) : Int), str (bs l')], []) .ret ([str (bs (nrA (ls s) (nextF f (many + 1) sum' l'))), str (bs (nrB (nextF f (many + 1) sum' l'))), int (nrC (nextF f (many + 1) sum' l'))], [])) :
    LR Tryd.prog (E3 (GG m t fr)) 60 (GG m t fr) 64 rnextOuts .normal (theLoop 0 Tryd.f7) ([str s, int room, int many, str (bs l)], []) .ret ([str (bs (nrA (ls s) (nextF (f + 1) many sum l))), str (bs (nrB (nextF (f + 1) many sum l))), int (nrC (nextF (f + 1) many sum l))], []) := by
    have h := rnext_round m t fr s (bs l) room many
    have hlen := lineS_len l
    have hab := ann_big (l := (lineS l).1)
    have w0 : IntKind.i64.wrap ((8192 : Int) - room) = (8192 : Int) - (sum : Int) := by
      rw [hroom]
      exact wrap_mid (by omega) (by omega)
    have w1 : IntKind.i64.wrap (room + (((lineS l).1.length : Nat) : Int)) = ((sum + (lineS l).1.length : Nat) : Int) := by
      rw [hroom]
      have e : (sum : Int) + (((lineS l).1.length : Nat) : Int) = ((sum + (lineS l).1.length : Nat) : Int) := by omega
      rw [e]
      exact wrap_nat (by omega)
    have d1 : decide ((((lineS l).1.length : Nat) : Int) > (8192 : Int) - (sum : Int)) = decide (8192 < sum + (lineS l).1.length) := by
      rw [decide_eq_decide]
      omega
    rw [ls_bs, w0, d1, w1] at h
    have ol : okS (bs l) = true := okS_of (by rw [bs_len]; omega)
    have ol1 : okS (bs (lineS l).1) = true := okS_of (by rw [bs_len]; omega)
    have hn : nextF (f + 1) many sum l = bif decide (8192 < sum + (lineS l).1.length) then .long
      else bif !(lineS l).2.2 then .short
      else bif !annI (lineS l).1 then .ok l.length (lineS l).1.length (lineS l).2.1
      else bif decide (65536 < annR (lineS l).1) || decide (16 < many + 1) then .long
      else bif decide ((lineS l).2.1.length < annR (lineS l).1) then .short
      else nextF f (many + 1) (sum + (lineS l).1.length) ((lineS l).2.1.drop (annR (lineS l).1)) := rfl
    rw [hn]
    cases c1 : decide (8192 < sum + (lineS l).1.length) with
    | true =>
      rw [c1] at h
      exact .last (Tr.run_of h (by simp [ol])) (by simp) (by simp)
    | false =>
    have c1' := of_decide_eq_false c1
    rw [c1] at h
    simp only [cond_false] at h ⊢
    cases c2 : (lineS l).2.2 with
    | false =>
      rw [c2] at h
      exact .last (Tr.run_of h (by simp [ol])) (by simp) (by simp)
    | true =>
    rw [c2] at h
    simp only [Bool.not_true, cond_false] at h ⊢
    cases c3 : annI (lineS l).1 with
    | false =>
      rw [c3] at h
      have e1 : (((ls s).length : Nat) : Int) - ((l.length : Nat) : Int) = (((ls s).length - l.length : Nat) : Int) := by
        rw [ls_len]
        omega
      have e2 : ((((ls s).length - l.length : Nat) : Int)) + (((lineS l).1.length : Nat) : Int) = (((ls s).length - l.length + (lineS l).1.length : Nat) : Int) := by omega
      have hls := ls_len s
      rw [e1, wrap_nat (by omega), e2, wrap_nat (by omega), Int.toNat_natCast, bs_ext, List.drop_zero] at h
      exact .last (Tr.run_of h (by simp [ol, ol1]; omega)) (by simp) (by simp)
    | true =>
    rw [c3] at h
    simp only [Bool.not_true, cond_false] at h ⊢
    have d4 : decide (((annR (lineS l).1 : Nat) : Int) > 65536) = decide (65536 < annR (lineS l).1) := by
      rw [decide_eq_decide]
      omega
    have w5 : IntKind.i64.wrap ((many : Int) + 1) = ((many + 1 : Nat) : Int) := wrap_succ (by omega)
    have d5 : decide (((many + 1 : Nat) : Int) > 16) = decide (16 < many + 1) := by
      rw [decide_eq_decide]
      omega
    have d6 : decide (((annR (lineS l).1 : Nat) : Int) > (((lineS l).2.1.length : Nat) : Int)) = decide ((lineS l).2.1.length < annR (lineS l).1) := by
      rw [decide_eq_decide]
      omega
    rw [d4, w5, d5, d6] at h
    cases c4 : decide (65536 < annR (lineS l).1) with
    | true =>
      rw [c4] at h
      exact .last (Tr.run_of h (by simp [ol, ol1])) (by simp) (by simp)
    | false =>
    rw [c4] at h
    simp only [Bool.false_or, cond_false] at h ⊢
    cases c5 : decide (16 < many + 1) with
    | true =>
      rw [c5] at h
      exact .last (Tr.run_of h (by simp [ol, ol1])) (by simp) (by simp)
    | false =>
    have c5' := of_decide_eq_false c5
    rw [c5] at h
    simp only [cond_false] at h ⊢
    cases c6 : decide ((lineS l).2.1.length < annR (lineS l).1) with
    | true =>
      rw [c6] at h
      exact .last (Tr.run_of h (by simp [ol, ol1])) (by simp) (by simp)
    | false =>
    have c6' := of_decide_eq_false c6
    rw [c6] at h
    simp only [cond_false] at h ⊢
    have hE : (bs (lineS l).2.1).extract ((annR (lineS l).1 : Nat) : Int).toNat (((lineS l).2.1.length : Nat) : Int).toNat = bs ((lineS l).2.1.drop (annR (lineS l).1)) := by
      rw [bs_ext, ls_bs, Int.toNat_natCast, Int.toNat_natCast, List.take_length]
    rw [hE] at h
    exact .more (Tr.run_of h (by simp [ol, ol1]; omega)) (ih (by omega) (sum + (lineS l).1.length) _ _ (by omega) (by rw [List.length_drop]; omega) rfl)

theorem rnext_LR (s : ByteArray) (hs : s.size ≤ 4294967280) : ∀ (f many sum : Nat) (l : List UInt8) (room : Int), f + many = 16 → sum ≤ 8192 → l.length ≤ s.size → room = (sum : Int) →
    LR Tryd.prog (E3 (GG m t fr)) 60 (GG m t fr) 64 rnextOuts .normal (theLoop 0 Tryd.f7) ([str s, int room, int many, str (bs l)], []) .ret ([str (bs (nrA (ls s) (nextF (f + 1) many sum l))), str (bs (nrB (nextF (f + 1) many sum l))), int (nrC (nextF (f + 1) many sum l))], []) := by
  intro f
  induction f with
  | zero =>
    intro many sum l room hf hsum hl hroom
    refine rnext_step s hs 0 many sum l room hf hsum hl hroom fun hm => ?_
    omega
  | succ f ih =>
    intro many sum l room hf hsum hl hroom
    refine rnext_step s hs (f + 1) many sum l room hf hsum hl hroom fun hm sum' l' room' h1 h2 h3 => ?_
    exact ih (many + 1) sum' l' room' (by omega) h1 h2 h3

def nextR (s r : ByteArray) (room many : Int) : NR := nextF (17 - many.toNat) many.toNat (8192 - room).toNat (ls r)
def nextC : Kept → Tr (Exit × Kept)
  | ([.lit (.string s), .lit (.int .i64 room), .lit (.int .i64 many), .lit (.string r)], []) => .br (okS s && Nat.ble r.size s.size && (decide (0 ≤ room) && decide (room ≤ 8192)) && (decide (0 ≤ many) && decide (many ≤ 16))) (.leaf (.ret, ([str (bs (nrA (ls s) (nextR s r room many))), str (bs (nrB (nextR s r room many))), int (nrC (nextR s r room many))], []))) .fail
  | _ => .fail
theorem nextC_ok (x : Kept) (e : Exit) (y : Kept) (h : (nextC x).run = some (e, y)) : LR Tryd.prog (E3 (GG m t fr)) 60 (GG m t fr) 65 nextOuts (.goto 0) (theRest 0 Tryd.f6) x e y := by
  unfold nextC at h
  split at h
  · rename_i s room many r
    obtain ⟨hc, h⟩ := br_run h
    simp only [Bool.and_eq_true, decide_eq_true_eq, Nat.ble_eq] at hc
    obtain ⟨⟨⟨hs, hr⟩, h1, h2⟩, h3, h4⟩ := hc
    obtain ⟨many, rfl⟩ : ∃ k : Nat, many = k := ⟨many.toNat, by omega⟩
    simp only [Tr.run, Option.some.injEq, Prod.mk.injEq] at h
    obtain ⟨rfl, rfl⟩ := h
    have := next_LR (m := m) (t := t) (fr := fr) s (okS_le hs) (16 - many) many (8192 - room).toNat (ls r) room (by omega) (by omega) (by rw [ls_len]; exact hr) (by omega)
    rw [bs_ls] at this
    have e : 16 - many + 1 = 17 - many := by omega
    rw [e] at this
    exact this
  · cases h
noncomputable abbrev nextCut (G : GT) := cutJ G 65 nextOuts 0 nextC

def rnextR (s r : ByteArray) (room many : Int) : NR := nextF (17 - many.toNat) many.toNat room.toNat (ls r)
def rnextC : Kept → Tr (Exit × Kept)
  | ([.lit (.string s), .lit (.int .i64 room), .lit (.int .i64 many), .lit (.string r)], []) => .br (okS s && Nat.ble r.size s.size && (decide (0 ≤ room) && decide (room ≤ 8192)) && (decide (0 ≤ many) && decide (many ≤ 16))) (.leaf (.ret, ([str (bs (nrA (ls s) (rnextR s r room many))), str (bs (nrB (rnextR s r room many))), int (nrC (rnextR s r room many))], []))) .fail
  | _ => .fail
theorem rnextC_ok (x : Kept) (e : Exit) (y : Kept) (h : (rnextC x).run = some (e, y)) : LR Tryd.prog (E3 (GG m t fr)) 60 (GG m t fr) 64 rnextOuts .normal (theLoop 0 Tryd.f7) x e y := by
  unfold rnextC at h
  split at h
  · rename_i s room many r
    obtain ⟨hc, h⟩ := br_run h
    simp only [Bool.and_eq_true, decide_eq_true_eq, Nat.ble_eq] at hc
    obtain ⟨⟨⟨hs, hr⟩, h1, h2⟩, h3, h4⟩ := hc
    obtain ⟨many, rfl⟩ : ∃ k : Nat, many = k := ⟨many.toNat, by omega⟩
    simp only [Tr.run, Option.some.injEq, Prod.mk.injEq] at h
    obtain ⟨rfl, rfl⟩ := h
    have := rnext_LR (m := m) (t := t) (fr := fr) s (okS_le hs) (16 - many) many room.toNat (ls r) room (by omega) (by omega) (by rw [ls_len]; exact hr) (by omega)
    rw [bs_ls] at this
    have e : 16 - many + 1 = 17 - many := by omega
    rw [e] at this
    exact this
  · cases h
noncomputable abbrev rnextCut (G : GT) := cutOf G 64 rnextOuts 0 rnextC
-- from: next_raw [bs, okS, lineS, annI, annR, nrA, nrB, nrC, nextR, ls] (m : Int) (t : TypeId) (fr : Nat × Nat) (s : ByteArray) : (fnPure Tryd.prog ((E3 (GG m t fr)).withCuts (cut1 (1000000 + 0) (nextCut (GG m t fr)))) 60 Tryd.f6 (GG m t fr) [str s]).run2
theorem next_raw (m : Int) (t : TypeId) (fr : Nat × Nat) (s : ByteArray) : (fnPure Tryd.prog ((E3 (GG m t fr)).withCuts (cut1 (1000000 + 0) (nextCut (GG m t fr)))) 60 Tryd.f6 (GG m t fr) [str s]).run2 =
    (bif (decide ((IntKind.wrap .i64 ((8192 : Int) - (((List.length (Prod.fst (lineS (ls s)))) : Nat) : Int))) < (0 : Int))) then
        (.some ((.tup [(.lit (.string (.mk (List.toArray [])))), (.lit (.string (.mk (List.toArray [])))), (.lit (.int .i64 (15 : Int)))]), [(okS s)]))
      else bif (!(Prod.snd (Prod.snd (lineS (ls s))))) then
          (.some ((.tup [(.lit (.string (.mk (List.toArray [])))), (.lit (.string (.mk (List.toArray [])))), (.lit (.int .i64 (5 : Int)))]), [(okS s)]))
        else bif (!(annI (Prod.fst (lineS (ls s))))) then
            (.some ((.tup [(.lit (.string (ByteArray.extract s 0 (Int.toNat (IntKind.wrap .i64 ((IntKind.wrap .i64 ((((List.length (ls s)) : Nat) : Int) - (((List.length (ls s)) : Nat) : Int))) + (((List.length (Prod.fst (lineS (ls s)))) : Nat) : Int))))))), (.lit (.string (bs (Prod.fst (Prod.snd (lineS (ls s))))))), (.lit (.int .i64 (0 : Int)))]), [((decide ((0 : Int) ≤ (IntKind.wrap .i64 ((IntKind.wrap .i64 ((((List.length (ls s)) : Nat) : Int) - (((List.length (ls s)) : Nat) : Int))) + (((List.length (Prod.fst (lineS (ls s)))) : Nat) : Int))))) && (decide ((IntKind.wrap .i64 ((IntKind.wrap .i64 ((((List.length (ls s)) : Nat) : Int) - (((List.length (ls s)) : Nat) : Int))) + (((List.length (Prod.fst (lineS (ls s)))) : Nat) : Int))) ≤ (((List.length (ls s)) : Nat) : Int)))), (okS (bs (Prod.fst (lineS (ls s))))), (okS s)]))
          else bif (decide ((((annR (Prod.fst (lineS (ls s)))) : Nat) : Int) > (65536 : Int))) then
              (.some ((.tup [(.lit (.string (.mk (List.toArray [])))), (.lit (.string (.mk (List.toArray [])))), (.lit (.int .i64 (15 : Int)))]), [true, true, (okS (bs (Prod.fst (lineS (ls s))))), (okS s)]))
            else bif (decide ((((annR (Prod.fst (lineS (ls s)))) : Nat) : Int) > (((List.length (Prod.fst (Prod.snd (lineS (ls s))))) : Nat) : Int))) then
                (.some ((.tup [(.lit (.string (.mk (List.toArray [])))), (.lit (.string (.mk (List.toArray [])))), (.lit (.int .i64 (5 : Int)))]), [(okS (bs (Prod.fst (lineS (ls s))))), (okS s)]))
              else (.some ((.tup [(.lit (.string (bs (nrA (ls s) (nextR s (ByteArray.extract (bs (Prod.fst (Prod.snd (lineS (ls s))))) (Int.toNat (((annR (Prod.fst (lineS (ls s)))) : Nat) : Int)) (Int.toNat (((List.length (Prod.fst (Prod.snd (lineS (ls s))))) : Nat) : Int))) (IntKind.wrap .i64 ((8192 : Int) - (((List.length (Prod.fst (lineS (ls s)))) : Nat) : Int))) (1 : Int)))))), (.lit (.string (bs (nrB (nextR s (ByteArray.extract (bs (Prod.fst (Prod.snd (lineS (ls s))))) (Int.toNat (((annR (Prod.fst (lineS (ls s)))) : Nat) : Int)) (Int.toNat (((List.length (Prod.fst (Prod.snd (lineS (ls s))))) : Nat) : Int))) (IntKind.wrap .i64 ((8192 : Int) - (((List.length (Prod.fst (lineS (ls s)))) : Nat) : Int))) (1 : Int)))))), (.lit (.int .i64 (nrC (nextR s (ByteArray.extract (bs (Prod.fst (Prod.snd (lineS (ls s))))) (Int.toNat (((annR (Prod.fst (lineS (ls s)))) : Nat) : Int)) (Int.toNat (((List.length (Prod.fst (Prod.snd (lineS (ls s))))) : Nat) : Int))) (IntKind.wrap .i64 ((8192 : Int) - (((List.length (Prod.fst (lineS (ls s)))) : Nat) : Int))) (1 : Int)))))]), [((((okS s) && (Nat.ble (List.length (ls (ByteArray.extract (bs (Prod.fst (Prod.snd (lineS (ls s))))) (Int.toNat (((annR (Prod.fst (lineS (ls s)))) : Nat) : Int)) (Int.toNat (((List.length (Prod.fst (Prod.snd (lineS (ls s))))) : Nat) : Int))))) (List.length (ls s)))) && ((decide ((0 : Int) ≤ (IntKind.wrap .i64 ((8192 : Int) - (((List.length (Prod.fst (lineS (ls s)))) : Nat) : Int))))) && (decide ((IntKind.wrap .i64 ((8192 : Int) - (((List.length (Prod.fst (lineS (ls s)))) : Nat) : Int))) ≤ (8192 : Int))))) && true), (((decide ((0 : Int) ≤ (((annR (Prod.fst (lineS (ls s)))) : Nat) : Int))) && (decide ((((annR (Prod.fst (lineS (ls s)))) : Nat) : Int) ≤ (((List.length (Prod.fst (Prod.snd (lineS (ls s))))) : Nat) : Int)))) && (decide ((((List.length (Prod.fst (Prod.snd (lineS (ls s))))) : Nat) : Int) ≤ (((List.length (Prod.fst (Prod.snd (lineS (ls s))))) : Nat) : Int)))), (okS (bs (Prod.fst (lineS (ls s))))), (okS s)])) : Option (PV × List Bool)) := by
  kernel_rfl
-- from: rnext_raw [bs, okS, nrA, nrB, nrC, rnextR, ls] (m : Int) (t : TypeId) (fr : Nat × Nat) (s : ByteArray) : (fnPure Tryd.prog ((E3 (GG m t fr)).withCuts (cut1 0 (rnextCut (GG m t fr)))) 60 Tryd.f7 (GG m t fr) [str s]).run2
theorem rnext_raw (m : Int) (t : TypeId) (fr : Nat × Nat) (s : ByteArray) : (fnPure Tryd.prog ((E3 (GG m t fr)).withCuts (cut1 0 (rnextCut (GG m t fr)))) 60 Tryd.f7 (GG m t fr) [str s]).run2 =
    ((.some ((.tup [(.lit (.string (bs (nrA (ls s) (rnextR s s (0 : Int) (0 : Int)))))), (.lit (.string (bs (nrB (rnextR s s (0 : Int) (0 : Int)))))), (.lit (.int .i64 (nrC (rnextR s s (0 : Int) (0 : Int)))))]), [((((okS s) && (Nat.ble (List.length (ls s)) (List.length (ls s)))) && true) && true)])) : Option (PV × List Bool)) := by
  kernel_rfl
def nextP (s : ByteArray) : PV := .tup [str (bs (nrA (ls s) (nextF 17 0 0 (ls s)))), str (bs (nrB (nextF 17 0 0 (ls s)))), int (nrC (nextF 17 0 0 (ls s)))]
def nextG : List PV → Tr PV
  | [.lit (.string s)] => .br (okS s) (.leaf (nextP s)) .fail
  | _ => .fail
theorem next_ok : PureOK Tryd.prog (GG m t fr) 6 nextG := by
  refine PureOK.of (pure_of_ev (n := 60) (E := (E3 (GG m t fr)).withCuts (cut1 (1000000 + 0) (nextCut (GG m t fr)))) (E3_ok.withCuts _) mixed (fn := Tryd.f6) (by kernel_rfl) (CutLaws.jump (by kernel_rfl) (fun st e st' h => cutJ_ok E3_ok mixed (noCuts_ok (envOf_cuts ..) _) nextC_ok h) (fun c hc => by cases hc; kernel_rfl) _)) fun ps p hp => ?_
  unfold nextG at hp
  split at hp
  · rename_i s
    obtain ⟨hs, hp⟩ := br_run hp
    simp only [Tr.run, Option.some.injEq] at hp
    subst hp
    have hs' := okS_le hs
    have h := next_raw m t fr s
    have hl : (ls s).length ≤ s.size := by rw [ls_len]; exact Nat.le_refl _
    unfold nextP
    have ol : okS s = true := hs
    have hlen := lineS_len (ls s)
    have hab := ann_big (l := (lineS (ls s)).1)
    have w1 : IntKind.i64.wrap ((8192 : Int) - (((lineS (ls s)).1.length : Nat) : Int)) = (8192 : Int) - ((0 + (lineS (ls s)).1.length : Nat) : Int) := by
      have e : (8192 : Int) - (((lineS (ls s)).1.length : Nat) : Int) = (8192 : Int) - ((0 + (lineS (ls s)).1.length : Nat) : Int) := by omega
      rw [e]
      exact wrap_mid (by omega) (by omega)
    have d1 : decide ((8192 : Int) - ((0 + (lineS (ls s)).1.length : Nat) : Int) < 0) = decide (8192 < 0 + (lineS (ls s)).1.length) := by
      rw [decide_eq_decide]
      omega
    rw [w1, d1] at h
    have ol1 : okS (bs (lineS (ls s)).1) = true := okS_of (by rw [bs_len]; omega)
    have hn : nextF 17 0 0 (ls s) = bif decide (8192 < 0 + (lineS (ls s)).1.length) then .long
      else bif !(lineS (ls s)).2.2 then .short
      else bif !annI (lineS (ls s)).1 then .ok (ls s).length (lineS (ls s)).1.length (lineS (ls s)).2.1
      else bif decide (65536 < annR (lineS (ls s)).1) || decide (16 < 0 + 1) then .long
      else bif decide ((lineS (ls s)).2.1.length < annR (lineS (ls s)).1) then .short
      else nextF 16 (0 + 1) (0 + (lineS (ls s)).1.length) ((lineS (ls s)).2.1.drop (annR (lineS (ls s)).1)) := rfl
    rw [hn]
    cases c1 : decide (8192 < 0 + (lineS (ls s)).1.length) with
    | true =>
      rw [c1] at h
      exact ⟨_, Tr.run_of h (by simp [ol]), PLe.of_eq rfl⟩
    | false =>
    have c1' := of_decide_eq_false c1
    rw [c1] at h
    simp only [cond_false] at h ⊢
    cases c2 : (lineS (ls s)).2.2 with
    | false =>
      rw [c2] at h
      exact ⟨_, Tr.run_of h (by simp [ol]), PLe.of_eq rfl⟩
    | true =>
    rw [c2] at h
    simp only [Bool.not_true, cond_false] at h ⊢
    cases c3 : annI (lineS (ls s)).1 with
    | false =>
      rw [c3] at h
      have e1 : (((ls s).length : Nat) : Int) - (((ls s).length : Nat) : Int) = (((ls s).length - (ls s).length : Nat) : Int) := by
        rw [ls_len]
        omega
      have e2 : ((((ls s).length - (ls s).length : Nat) : Int)) + (((lineS (ls s)).1.length : Nat) : Int) = (((ls s).length - (ls s).length + (lineS (ls s)).1.length : Nat) : Int) := by omega
      have hls := ls_len s
      rw [e1, wrap_nat (by omega), e2, wrap_nat (by omega), Int.toNat_natCast, bs_ext, List.drop_zero] at h
      exact ⟨_, Tr.run_of h (by simp [ol, ol1]; omega), PLe.of_eq rfl⟩
    | true =>
    rw [c3] at h
    simp only [Bool.not_true, cond_false] at h ⊢
    have d4 : decide (((annR (lineS (ls s)).1 : Nat) : Int) > 65536) = decide (65536 < annR (lineS (ls s)).1) := by
      rw [decide_eq_decide]
      omega
    have d6 : decide (((annR (lineS (ls s)).1 : Nat) : Int) > (((lineS (ls s)).2.1.length : Nat) : Int)) = decide ((lineS (ls s)).2.1.length < annR (lineS (ls s)).1) := by
      rw [decide_eq_decide]
      omega
    rw [d4, d6] at h
    cases c4 : decide (65536 < annR (lineS (ls s)).1) with
    | true =>
      rw [c4] at h
      exact ⟨_, Tr.run_of h (by simp [ol, ol1]), PLe.of_eq rfl⟩
    | false =>
    rw [c4] at h
    simp only [Bool.false_or, cond_false] at h ⊢
    have c5 : decide (16 < 0 + 1) = false := rfl
    rw [c5]
    simp only [cond_false]
    cases c6 : decide ((lineS (ls s)).2.1.length < annR (lineS (ls s)).1) with
    | true =>
      rw [c6] at h
      exact ⟨_, Tr.run_of h (by simp [ol, ol1]), PLe.of_eq rfl⟩
    | false =>
    have c6' := of_decide_eq_false c6
    rw [c6] at h
    simp only [cond_false] at h ⊢
    have hE : (bs (lineS (ls s)).2.1).extract ((annR (lineS (ls s)).1 : Nat) : Int).toNat (((lineS (ls s)).2.1.length : Nat) : Int).toNat = bs ((lineS (ls s)).2.1.drop (annR (lineS (ls s)).1)) := by
      rw [bs_ext, ls_bs, Int.toNat_natCast, Int.toNat_natCast, List.take_length]
    rw [hE] at h
    have hR : ∀ q : List UInt8, nextR s (bs q) ((8192 : Int) - ((0 + (lineS (ls s)).1.length : Nat) : Int)) 1 = nextF 16 (0 + 1) (0 + (lineS (ls s)).1.length) q := by
      intro q
      unfold nextR
      have e : ((8192 : Int) - ((8192 : Int) - ((0 + (lineS (ls s)).1.length : Nat) : Int))).toNat = 0 + (lineS (ls s)).1.length := by omega
      rw [e, ls_bs]
      rfl
    rw [hR, ls_bs, List.length_drop] at h
    exact ⟨_, Tr.run_of h (by simp [ol, ol1]; omega), PLe.of_eq rfl⟩
  · cases hp
theorem rnext_ok : PureOK Tryd.prog (GG m t fr) 7 nextG := by
  refine PureOK.of (fn_cuts mixed E3_ok (fn := Tryd.f7) (cuts := cut1 0 (rnextCut (GG m t fr))) (by kernel_rfl) (CutLaws.one (by omega) (by kernel_rfl) fun st e st' h => cutOf_ok E3_ok mixed (noCuts_ok (envOf_cuts ..) _) rnextC_ok h)) fun ps p hp => ?_
  unfold nextG at hp
  split at hp
  · rename_i s
    obtain ⟨hs, hp⟩ := br_run hp
    simp only [Tr.run, Option.some.injEq] at hp
    subst hp
    have h := rnext_raw m t fr s
    exact ⟨_, Tr.run_of h (by simp [hs]), PLe.of_eq rfl⟩
  · cases hp
end
end Go.Proofs.YtnidaonmigjgkaaDoor.Ev
