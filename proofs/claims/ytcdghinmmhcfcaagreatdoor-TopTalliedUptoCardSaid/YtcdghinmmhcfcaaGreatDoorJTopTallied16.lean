/- JTopTallied16: several texts in one. Condition: each part's own. -/
import Derived.Test.YtcdghinmmhcfcaaGreatDoorJTopTallied15
import Derived.Test.YtcdghinmmhcfcaaGreatDoorJTopTallied07
/- lex.Tokens of a text of words. No condition. -/
namespace Go.Proofs.YtcdghinmmhcfcaaGreatDoor.Ev
open Go Go.RowKit Go.Proofs Go.Proofs.YtcdghinmmhcfcaaGreatDoor.Str
set_option linter.unusedVariables false
set_option linter.unusedSimpArgs false
def wordOK (a : List UInt8) : Bool := !decide (a = []) && a.all ltB
def tkA (a : List UInt8) : Int × ByteArray := (1, bs a)
theorem join_ge : ∀ (W : List (List UInt8)), (∀ a ∈ W, a ≠ []) → W.length ≤ (joinC 32 W).length
  | [], _ => by simp
  | [a], h => by
    have := List.length_pos_iff.2 (h a (by simp))
    simp [joinC]
    omega
  | a :: b :: r, h => by
    have ih := join_ge (b :: r) fun x hx => h x (List.mem_cons_of_mem _ hx)
    have := List.length_pos_iff.2 (h a (by simp))
    rw [joinC, List.length_append, List.length_cons]
    simp only [List.length_cons] at ih ⊢
    omega
theorem take_lt : ∀ (a r : List UInt8), a.all ltB = true → (r = [] ∨ ∃ q, r = 32 :: q) → (a ++ r).takeWhile ltB = a
  | [], r, ha, hr => by
    rcases hr with rfl | ⟨q, rfl⟩
    · rfl
    · rw [List.nil_append, List.takeWhile_cons]
      have : ltB 32 = false := by decide
      rw [this]
      rfl
  | c :: a, r, ha, hr => by
    rw [List.all_cons, Bool.and_eq_true] at ha
    rw [List.cons_append, List.takeWhile_cons, ha.1]
    simp only [if_true]
    rw [take_lt a r ha.2 hr]
theorem bl_word {c : UInt8} {r : List UInt8} (h : ltB c = true) : blS (c :: r) = c :: r := by
  unfold blS Lib.trimLeftB
  have hc : (c == 32) = false := by
    rw [beqD]
    exact decide_eq_false (lt_ne c h).2.2.2.2
  rw [List.dropWhile_cons, hc]
  rfl
theorem join_head {a : List UInt8} {r : List (List UInt8)} (h : wordOK a = true) : ∃ c q, joinC 32 (a :: r) = c :: q ∧ ltB c = true := by
  unfold wordOK at h
  simp only [Bool.and_eq_true, Bool.not_eq_true', decide_eq_false_iff_not] at h
  cases a with
  | nil => exact absurd rfl h.1
  | cons c a =>
    have hc := h.2
    rw [List.all_cons, Bool.and_eq_true] at hc
    refine ⟨c, joinC 32 (a :: r), ?_, hc.1⟩
    cases r <;> simp [joinC]
/-- the first word, and what is behind it -/
theorem first_word {a : List UInt8} {r : List (List UInt8)} (h : wordOK a = true) (hr : ∀ x ∈ r, wordOK x = true) :
    ltH (joinC 32 (a :: r)) = true ∧ tkT (joinC 32 (a :: r)) = a ∧ blS (tkR (joinC 32 (a :: r))) = joinC 32 r ∧ (decide ((joinC 32 r).length < (tkR (joinC 32 (a :: r))).length) = true ∨ r = []) ∧ (tkR (joinC 32 (a :: r))).length ≤ (joinC 32 (a :: r)).length := by
  have h' := h
  unfold wordOK at h'
  simp only [Bool.and_eq_true, Bool.not_eq_true', decide_eq_false_iff_not] at h'
  obtain ⟨c, q, e1, e2⟩ := join_head (r := r) h
  have hH : ltH (joinC 32 (a :: r)) = true := by
    unfold ltH
    rw [e1, decide_eq_false (by simp)]
    exact e2
  cases r with
  | nil =>
    have e : joinC 32 [a] = a := rfl
    have ht : lwLen a = a.length := by
      unfold lwLen
      have := take_lt a [] h'.2 (.inl rfl)
      rw [List.append_nil] at this
      rw [this]
    refine ⟨hH, ?_, ?_, .inr rfl, ?_⟩
    · rw [e]
      unfold tkT
      rw [ht, List.take_length]
    · rw [e]
      unfold tkR
      rw [ht, List.drop_length]
      rfl
    · unfold tkR
      rw [List.length_drop]
      omega
  | cons b r =>
    have e : joinC 32 (a :: b :: r) = a ++ 32 :: joinC 32 (b :: r) := rfl
    have ht : lwLen (a ++ 32 :: joinC 32 (b :: r)) = a.length := by
      unfold lwLen
      rw [take_lt a _ h'.2 (.inr ⟨_, rfl⟩)]
    have hR : tkR (joinC 32 (a :: b :: r)) = 32 :: joinC 32 (b :: r) := by
      rw [e]
      unfold tkR
      rw [ht, List.drop_left]
    obtain ⟨c2, q2, e3, e4⟩ := join_head (r := r) (hr b (by simp))
    refine ⟨hH, ?_, ?_, .inl ?_, ?_⟩
    · rw [e]
      unfold tkT
      rw [ht, List.take_left]
    · rw [hR, e3]
      have : blS (32 :: c2 :: q2) = blS (c2 :: q2) := rfl
      rw [this, bl_word e4]
    · rw [hR]
      exact decide_eq_true (by simp)
    · unfold tkR
      rw [List.length_drop]
      omega
section
variable {m : Int} {t : TypeId} {fr : Nat × Nat}
def twEnd (ts : List (Int × ByteArray)) : Kept := ([.ptr 0 0, .own 1], [.cells 89 [.junk, .junk, .junk], .row 49 2 ts.length (tRow ts)])
theorem tw_LR : ∀ (W : List (List UInt8)) (ts : List (Int × ByteArray)) (g : Bool), (∀ a ∈ W, wordOK a = true) → (W = [] ∨ ts = [] ∨ g = true) → (joinC 32 W).length ≤ 4294967280 → ts.length + W.length ≤ 4294967280 →
    LR Tryz.prog (Ely (GG m t fr)) 60 (GG m t fr) 62 twOuts .normal (theLoop 0 Tryz.f20) ([.ptr 0 0, .own 1], [.cells 89 [str (bs (joinC 32 W)), bool g, bool false], .row 49 2 ts.length (tRow ts)]) (.exit 0) (twEnd (ts ++ W.map tkA))
  | [], ts, g, hW, hg, hl, hn => by
    have h := tw_round m t fr (bs (joinC 32 [])) g ts.length ts
    have e0 : ls (ByteArray.mk (List.toArray [])) = [] := rfl
    rw [eqB, ls_bs, e0, decide_eq_true (show joinC 32 ([] : List (List UInt8)) = [] from rfl)] at h
    unfold twEnd
    rw [List.map_nil, List.append_nil]
    refine .out (.last (Tr.run_of h rfl) (by simp) (by simp)) ⟨.refl _, BLeL.cons (.cells _ (PLeL.cons (PLe.junk _) (PLeL.cons (PLe.junk _) (PLeL.cons (PLe.junk _) (.refl _))))) (.refl _)⟩
  | a :: r, ts, g, hW, hg, hl, hn => by
    have h := tw_round m t fr (bs (joinC 32 (a :: r))) g ts.length ts
    have ha := hW a (by simp)
    have hr := fun x hx => hW x (List.mem_cons_of_mem _ hx)
    obtain ⟨k1, k2, k3, k4, k5⟩ := first_word ha hr
    obtain ⟨c, q, e1, _⟩ := join_head (r := r) ha
    have e0 : ls (ByteArray.mk (List.toArray [])) = [] := rfl
    have hne : joinC 32 (a :: r) ≠ [] := by rw [e1]; simp
    have ol : okS (bs (joinC 32 (a :: r))) = true := okS_of (by rw [bs_len]; exact hl)
    simp only [List.length_cons] at hn
    have o1 : Nat.ble ((ts.length + 1) * 24) 140737488355328 = true := by rw [Nat.ble_eq]; omega
    rw [eqB, ls_bs, e0, decide_eq_false hne, k1, k2, k3, ol, o1] at h
    have hjl : (joinC 32 r).length ≤ 4294967280 := by
      have : (joinC 32 r).length ≤ (joinC 32 (a :: r)).length := by
        cases r with
        | nil => simp [joinC]
        | cons b r => simp [joinC]; omega
      omega
    have ih := tw_LR r (ts ++ [tkA a]) (decide ((joinC 32 r).length < (tkR (joinC 32 (a :: r))).length)) hr (by
      rcases k4 with k | k
      · exact .inr (.inr k)
      · exact .inl k) hjl (by simp; omega)
    rw [List.append_assoc, List.singleton_append, ← List.map_cons] at ih
    have le : KLe ([.ptr 0 0, .own 1], [.cells 89 [.lit (.string (bs (joinC 32 r))), .lit (.bool (decide ((joinC 32 r).length < (tkR (joinC 32 (a :: r))).length))), .lit (.bool false)], .row 49 2 (ts.length + 1) (rowApp ts.length (tRow ts) (rowOf [.lit (.int .u8 1), .lit (.string (bs a))] 2))])
        ([.ptr 0 0, .own 1], [.cells 89 [str (bs (joinC 32 r)), bool (decide ((joinC 32 r).length < (tkR (joinC 32 (a :: r))).length)), bool false], .row 49 2 (ts ++ [tkA a]).length (tRow (ts ++ [tkA a]))]) :=
      ⟨.refl _, BLeL.cons (.refl _) (BLeL.cons (.row _ _ (by simp) fun i hi => tRow_snoc ts _ _ i hi) .nil)⟩
    rcases hg with hg | hg | hg
    · cases hg
    · subst hg
      exact .more (Tr.run_of h (by simp)) (.le le ih)
    · subst hg
      cases hd : decide (((ts.length : Nat) : Int) > 0) with
      | true => rw [hd] at h; exact .more (Tr.run_of h (by simp)) (.le le ih)
      | false => rw [hd] at h; exact .more (Tr.run_of h (by simp)) (.le le ih)
def wordsB (l : List UInt8) : Bool := (splitC 32 l).all wordOK
def wT (l : List UInt8) : List (Int × ByteArray) := (splitC 32 l).map tkA
def twF : Kept → Tr (Exit × Kept)
  | ([.ptr 0 0, .own 1], [.cells a [.lit (.string s), .lit (.bool g), .lit (.bool false)], .row b 2 0 f]) => match Nat.beq a 89 && Nat.beq b 49 with
    | true => .br (okS s && wordsB (ls s)) (.leaf (.exit 0, twEnd (wT (ls s)))) .fail
    | false => .fail
  | _ => .fail
theorem twF_ok (x : Kept) (e : Exit) (y : Kept) (h : (twF x).run = some (e, y)) : LR Tryz.prog (Ely (GG m t fr)) 60 (GG m t fr) 62 twOuts .normal (theLoop 0 Tryz.f20) x e y := by
  unfold twF at h
  split at h
  · rename_i a s g b f
    split at h
    · rename_i ha
      simp only [Bool.and_eq_true] at ha
      obtain rfl := Nat.eq_of_beq_eq_true ha.1
      obtain rfl := Nat.eq_of_beq_eq_true ha.2
      have hb := br_run h
      clear h
      obtain ⟨hs, h⟩ := hb
      simp only [Bool.and_eq_true] at hs
      obtain ⟨hs, hw⟩ := hs
      have hs' := okS_le hs
      simp only [Tr.run, Option.some.injEq, Prod.mk.injEq] at h
      obtain ⟨rfl, rfl⟩ := h
      have hl := ls_len s
      have hc := splitC_count 32 (ls s)
      have key := tw_LR (m := m) (t := t) (fr := fr) (splitC 32 (ls s)) [] g (List.all_eq_true.1 hw) (.inr (.inl rfl)) (by rw [joinC_splitC]; omega) (by
        have h1 : (splitC 32 (ls s)).length ≤ (ls s).length := by
          have hj := joinC_splitC 32 (ls s)
          have := join_ge (splitC 32 (ls s)) (fun a ha => by
            have := List.all_eq_true.1 hw a ha
            unfold wordOK at this
            simp only [Bool.and_eq_true, Bool.not_eq_true', decide_eq_false_iff_not] at this
            exact this.1)
          rw [hj] at this
          exact this
        simp
        omega)
      rw [joinC_splitC, bs_ls, List.nil_append] at key
      have le : KLe ([.ptr 0 0, .own 1], [.cells 89 [.lit (.string s), .lit (.bool g), .lit (.bool false)], .row 49 2 0 f]) ([.ptr 0 0, .own 1], [.cells 89 [str s, bool g, bool false], .row 49 2 ([] : List (Int × ByteArray)).length (tRow [])]) :=
        ⟨.refl _, BLeL.cons (.refl _) (BLeL.cons (.row _ _ rfl fun i hi => absurd hi (Nat.not_lt_zero i)) .nil)⟩
      exact .le le key
    · cases h
  · cases h
noncomputable abbrev twCut (G : GT) := cutOf G 62 twOuts 0 twF
theorem tokw_raw (m : Int) (t : TypeId) (fr : Nat × Nat) (s : ByteArray) : (fnPure Tryz.prog ((Ely (GG m t fr)).withCuts (cut1 0 (twCut (GG m t fr)))) 60 Tryz.f20 (GG m t fr) [str s]).run2 =
 (bif (decide ((((List.length (wT (blS (ls s)))) : Nat) : Int) > (4096 : Int))) then
 (.some ((.tup [(.lit (.slice .none 0 0)), (.lit (.int .i64 (15 : Int)))]), [((okS (bs (blS (ls s)))) && (wordsB (blS (ls s))))]))
 else (.some ((.tup [(.gsl 2 (List.length (wT (blS (ls s)))) (tRow (wT (blS (ls s))))), (.lit (.int .i64 (0 : Int)))]), [((okS (bs (blS (ls s)))) && (wordsB (blS (ls s))))])) : Option (PV × List Bool)) := by
  kernel_rfl
end
end Go.Proofs.YtcdghinmmhcfcaaGreatDoor.Ev

/- NsetBack: its loop, the law. No condition. -/
namespace Go.Proofs.YtcdghinmmhcfcaaGreatDoor.Ev
open Go Go.RowKit Go.Proofs Go.Proofs.YtcdghinmmhcfcaaGreatDoor.Str
set_option linter.unusedVariables false
set_option linter.unusedSimpArgs false
section
variable {m : Int} {t : TypeId} {fr : Nat × Nat}
def isOuts : Exit → Outs
  | .normal => { ks := [1, 2, 13, 15, 68, 69, 70] }
  | .exit _ => { ks := [1, 2, 13, 15] }
  | _ => { ks := [] }
def isIn (n1 np : Nat) (f1 fp : Nat → List PV) (x : Int) (ns : List Int) (i : Nat) (b : Bool) : Kept := ([.gsl 1 n1 f1, .lit (.int .u32 x), .gsl 2 np fp, bool b, .gsl 1 ns.length (nRow ns), int ns.length, int i], [])
def isF : Kept → Tr (Exit × Kept)
  | ([.gsl 1 n1 f1, .lit (.int .u32 x), .gsl 2 np fp, .lit (.bool false), .gsl 1 n f, .lit (.int .i64 u), .lit (.int .i64 0)], []) => .br (areNums n f && decide (u = (n : Int)) && Nat.ble n 4294967280) (.leaf (.exit 0, ([.gsl 1 n1 f1, .lit (.int .u32 x), .gsl 2 np fp, bool ((numsOf n f).contains x)], []))) .fail
  | _ => .fail
noncomputable abbrev isCut (G : GT) := cutOf G 102 isOuts 0 isF
theorem cnS_sum : ∀ (l : List Sp) (c : Int), cnS l c = c + sumS l
  | [], c => by simp [cnS, sumS]
  | y :: r, c => by
    rw [cnS, cnS_sum r, sumS]
    omega
/-- a pack that is one -/
theorem pack_is {ns : List Int} (hu : ns.all u32N = true) (h : packE ns = 0) (x : Int) : okM none (packR ns) = true ∧ (∀ y ∈ packR ns, fine y) ∧ sumS (packR ns) = ns.length ∧ hasS 0 x (packR ns) = ns.contains x ∧ srtR 0 (packR ns) = packR ns ∧ srtE (packR ns) = 0 := by
  have hl := packE_len (ns := ns)
  have e : packR ns = theK (packZ ns) := by unfold packR; rw [h]; rfl
  have hk : hasK (packZ ns) = true := by
    cases c : hasK (packZ ns) with
    | true => rfl
    | false => unfold packE at h; rw [c] at h; cases h
  rw [e] at hl ⊢
  cases hq : packZ ns with
  | none => rw [hq] at hk; cases hk
  | some q =>
    have hok := packZ_ok hu hq
    rw [hq] at hl
    change q.length ≤ 1024 at hl
    show okM none q = true ∧ (∀ y ∈ q, fine y) ∧ sumS q = ns.length ∧ hasS 0 x q = ns.contains x ∧ srtR 0 q = q ∧ srtE q = 0
    refine ⟨hok.1, hok.2.1, hok.2.2.1, ?_, srtR_id hok.1 hok.2.1 hl, ?_⟩
    · unfold hasS
      have hid : q.map (bandS 0) = q := (List.map_congr_left fun y hy => bandS_id (hok.2.1 y hy).1 (.inl rfl)).trans (List.map_id _)
      rw [hid, hok.2.2.2 x]
    · unfold srtE
      have : Nat.blt 1024 q.length = false := by rw [Bool.eq_false_iff, ne_eq, Nat.blt_eq]; omega
      rw [this]
      rfl
theorem pack_not {ns : List Int} (h : packE ns ≠ 0) : packR ns = [] := by
  unfold packR
  have : (packE ns == 0) = false := by simpa using h
  rw [this]
  rfl
def backG : List PV → Tr PV
  | [.lit (.string s), .gsl 1 n f, .lit (.int .u32 x)] => .br (okS s && areNums n f && Nat.ble n 4294967280) (.leaf (bool true)) .fail
  | _ => .fail
def backSh : List ASh := [.one (.sc .str), .one (.sl [.int .u32]), .one (.sc (.int .u32))]
theorem back_args {qs : List PV} (ha : areArgs backSh qs = true) (hb : argsBulk qs ≤ 1048576) : (backG qs).run = some (bool true) := by
  obtain ⟨q0, r0, rfl, h0, hr0⟩ := args_cons ha
  obtain ⟨q1, r1, rfl, h1, hr1⟩ := args_cons hr0
  obtain ⟨q2, r2, rfl, h2, hr2⟩ := args_cons hr1
  obtain rfl := args_nil hr2
  obtain ⟨v, rfl, hv⟩ := ak_sc h0
  obtain ⟨s, rfl⟩ := sc_str hv
  obtain ⟨n, f, rfl, hf⟩ := ak_sl h1
  obtain ⟨v', rfl, hv'⟩ := ak_sc h2
  obtain ⟨x, rfl, hx⟩ := u32_given hv'
  have hb' : (s.size + 1) + ((((List.range n).map fun i => scsBulk (f i)).sum + 1) + (1 + 0)) ≤ 1048576 := hb
  obtain ⟨o1, o2⟩ := nums_given hf (by omega)
  have o3 : okS s = true := okS_of (by omega)
  have o5 : Nat.ble n 4294967280 = true := Nat.ble_eq_true_of_le (Nat.le_trans o2 (by omega))
  show (backG [.lit (.string s), .gsl 1 n f, .lit (.int .u32 x)]).run = some (bool true)
  simp [backG, Tr.run, o1, o3, o5]
end
end Go.Proofs.YtcdghinmmhcfcaaGreatDoor.Ev

/- What the law of a tally's text asks besides. No condition. -/
namespace Go.Proofs.YtcdghinmmhcfcaaGreatDoor.Ev
open Go Go.RowKit Go.Proofs Go.Proofs.YtcdghinmmhcfcaaGreatDoor.Str
set_option linter.unusedVariables false
set_option linter.unusedSimpArgs false
section
variable {m : Int} {t : TypeId} {fr : Nat × Nat}
def smOuts : Exit → Outs
  | .normal => { ks := [0, 1, 12, 13] }
  | .exit _ => { ks := [] }
  | _ => { ks := [4] }
noncomputable abbrev smRound (G : GT) := roundT Tryz.prog (E1 G) 60 G 26 smOuts .normal (theLoop 0 Tryz.f22)
theorem sm_round (m : Int) (t : TypeId) (fr : Nat × Nat) (a b : List Int) (n k : Nat) (u i : Int) : (smRound (GG m t fr) ([.gsl 1 n (nRow a), .gsl 1 k (nRow b), int u, int i], [])).run2 =
 (bif (decide (i < u)) then
 bif (bne (nu a (Int.toNat i)) (nu b (Int.toNat i))) then
 (.some ((.ret, ([(.lit (.bool false))], [])), [((decide ((0 : Int) ≤ i)) && (Nat.blt (Int.toNat i) k)), ((decide ((0 : Int) ≤ i)) && (Nat.blt (Int.toNat i) n))]))
 else (.some ((.normal, ([(.gsl 1 n (fun i => [PV.lit (Value.int IntKind.u32 (nu a i))])), (.gsl 1 k (fun i => [PV.lit (Value.int IntKind.u32 (nu b i))])), (.lit (.int .i64 u)), (.lit (.int .i64 (IntKind.wrap .i64 (i + (1 : Int)))))], [])), [((decide ((0 : Int) ≤ i)) && (Nat.blt (Int.toNat i) k)), ((decide ((0 : Int) ≤ i)) && (Nat.blt (Int.toNat i) n))]))
 else (.some (((.exit 0), ([], [])), [])) : Option ((Exit × Kept) × List Bool)) := by
  kernel_rfl
def smEnd (a b : List Int) : Exit × Kept := bif decide (a = b) then (.exit 0, ([], [])) else (.ret, ([bool false], []))
def smIn (a b : List Int) (i : Nat) : Kept := ([.gsl 1 a.length (nRow a), .gsl 1 b.length (nRow b), int a.length, int i], [])
theorem sm_LR (ts us : List Int) (hl : ts.length = us.length) (hn : ts.length ≤ 4294967280) : ∀ (a b : List Int) (i : Nat), ts.drop i = a → us.drop i = b →
    LR Tryz.prog (E1 (GG m t fr)) 60 (GG m t fr) 26 smOuts .normal (theLoop 0 Tryz.f22) (smIn ts us i) (smEnd a b).1 (smEnd a b).2
  | [], b, i, ha, hb => by
    have h := sm_round m t fr ts us ts.length us.length ts.length i
    have hi := List.drop_eq_nil_iff.1 ha
    have : b = [] := by rw [← hb]; exact List.drop_eq_nil_of_le (by omega)
    subst this
    have hd : decide ((i : Int) < (ts.length : Int)) = false := by simp; omega
    rw [hd] at h
    exact .last (Tr.run_of h rfl) (by simp [smEnd]) (by simp [smEnd])
  | x :: a, [], i, ha, hb => by
    have := (nu_drop ha).1
    have := List.drop_eq_nil_iff.1 hb
    omega
  | x :: a, y :: b, i, ha, hb => by
    have h := sm_round m t fr ts us ts.length us.length ts.length i
    obtain ⟨hi, hx, hda⟩ := nu_drop ha
    obtain ⟨hj, hy, hdb⟩ := nu_drop hb
    have hd : decide ((i : Int) < (ts.length : Int)) = true := by simp; omega
    have hw : IntKind.i64.wrap ((i : Int) + 1) = ((i + 1 : Nat) : Int) := wrap_succ (by omega)
    rw [hd, hw, Int.toNat_natCast, hx, hy] at h
    simp only [cond_true] at h
    by_cases he : x = y
    · subst he
      have hbn : bne x x = false := by simp
      rw [hbn] at h
      have ih := sm_LR ts us hl hn a b (i + 1) hda hdb
      have : smEnd (x :: a) (x :: b) = smEnd a b := by
        unfold smEnd
        have : decide (x :: a = x :: b) = decide (a = b) := by simp
        rw [this]
      rw [this]
      exact .more (Tr.run_of h (by simp; omega)) ih
    · have hbn : bne x y = true := by simpa using he
      rw [hbn] at h
      have : smEnd (x :: a) (y :: b) = (.ret, ([bool false], [])) := by
        unfold smEnd
        rw [decide_eq_false (by simp [he])]
        rfl
      rw [this]
      exact .last (Tr.run_of h (by simp; omega)) (by simp) (by simp)
def smF : Kept → Tr (Exit × Kept)
  | ([.gsl 1 n f, .gsl 1 n' f', .lit (.int .i64 u), .lit (.int .i64 0)], []) => .br (areNums n f && areNums n' f' && decide (n = n') && decide (u = (n : Int)) && Nat.ble n 4294967280) (.br (decide (numsOf n f = numsOf n' f')) (.leaf (.exit 0, ([], []))) (.leaf (.ret, ([bool false], [])))) .fail
  | _ => .fail
theorem smF_ok (x : Kept) (e : Exit) (y : Kept) (h : (smF x).run = some (e, y)) : LR Tryz.prog (E1 (GG m t fr)) 60 (GG m t fr) 26 smOuts .normal (theLoop 0 Tryz.f22) x e y := by
  unfold smF at h
  split at h
  · rename_i n f n' f' u
    have hb := br_run h
    clear h
    obtain ⟨hc, h⟩ := hb
    simp only [Bool.and_eq_true, decide_eq_true_eq, Nat.ble_eq] at hc
    obtain ⟨⟨⟨⟨hf, hf'⟩, rfl⟩, rfl⟩, hn⟩ := hc
    have hlen := nums_len n f
    have hlen' := nums_len n f'
    have key := sm_LR (m := m) (t := t) (fr := fr) (numsOf n f) (numsOf n f') (by omega) (by omega) _ _ 0 rfl rfl
    have hin : KLe ([.gsl 1 n f, .gsl 1 n f', int (n : Int), int 0], []) (smIn (numsOf n f) (numsOf n f') 0) := by
      refine ⟨PLeL.cons (PLe.gsl hlen.symm (nums_row hf)) (PLeL.cons (PLe.gsl hlen'.symm (nums_row hf')) (PLeL.cons (PLe.of_eq ?_) (.refl _))), .refl _⟩
      rw [hlen]
    rw [List.drop_zero, List.drop_zero] at key
    unfold smEnd at key
    cases hd : decide (numsOf n f = numsOf n f') with
    | true =>
      rw [hd] at key h
      simp only [Tr.run, cond_true, Option.some.injEq, Prod.mk.injEq] at h
      obtain ⟨rfl, rfl⟩ := h
      exact .le hin key
    | false =>
      rw [hd] at key h
      simp only [Tr.run, cond_false, Option.some.injEq, Prod.mk.injEq] at h
      obtain ⟨rfl, rfl⟩ := h
      exact .le hin key
  · cases h
noncomputable abbrev smCut (G : GT) := cutOf G 26 smOuts 0 smF
theorem sm_raw (m : Int) (t : TypeId) (fr : Nat × Nat) (n k : Nat) (f g : Nat → List PV) : (fnPure Tryz.prog ((E1 (GG m t fr)).withCuts (cut1 0 (smCut (GG m t fr)))) 60 Tryz.f22 (GG m t fr) [.gsl 1 n f, .gsl 1 k g]).run2 =
 (bif (bne ((n : Nat) : Int) ((k : Nat) : Int)) then
 (.some ((.lit (.bool false)), []))
 else bif (decide ((numsOf n f) = (numsOf k g))) then
 (.some ((.lit (.bool true)), [(((((areNums n f) && (areNums k g)) && (decide (n = k))) && (decide (((n : Nat) : Int) = ((n : Nat) : Int)))) && (Nat.ble n (4294967280 : Nat)))]))
 else (.some ((.lit (.bool false)), [(((((areNums n f) && (areNums k g)) && (decide (n = k))) && (decide (((n : Nat) : Int) = ((n : Nat) : Int)))) && (Nat.ble n (4294967280 : Nat)))])) : Option (PV × List Bool)) := by
  kernel_rfl
theorem sm_ok : PureOK Tryz.prog (GG m t fr) 22 s1G := by
  refine PureOK.of (fn_cuts mixed E1_ok (fn := Tryz.f22) (cuts := cut1 0 (smCut (GG m t fr))) (by kernel_rfl) (CutLaws.one (by omega) (by kernel_rfl) fun st e st' h => cutOf_ok E1_ok mixed (noCuts_ok (envOf_cuts ..) _) smF_ok h)) fun ps p hp => ?_
  unfold s1G at hp
  split at hp
  · rename_i n f n' f'
    obtain ⟨hc, hp⟩ := br_run hp
    simp only [Bool.and_eq_true, Nat.ble_eq] at hc
    obtain ⟨⟨h1, h2⟩, h3⟩ := hc
    simp only [Tr.run, Option.some.injEq] at hp
    subst hp
    have h := sm_raw m t fr n n' f f'
    by_cases hn : n = n'
    · subst hn
      have hb : bne ((n : Nat) : Int) ((n : Nat) : Int) = false := by simp
      rw [hb] at h
      cases hd : decide (numsOf n f = numsOf n f') with
      | true =>
        rw [hd] at h
        exact ⟨_, Tr.run_of h (by simp [h1, h2, h3]), PLe.of_eq rfl⟩
      | false =>
        rw [hd] at h
        exact ⟨_, Tr.run_of h (by simp [h1, h2, h3]), PLe.of_eq rfl⟩
    · have hb : bne ((n : Nat) : Int) ((n' : Nat) : Int) = true := by simp; omega
      rw [hb] at h
      refine ⟨_, Tr.run_of h (by simp), PLe.of_eq ?_⟩
      have : decide (numsOf n f = numsOf n' f') = false := decide_eq_false fun e => hn (by rw [← nums_len n f, e, nums_len])
      rw [this]
  · cases hp
theorem begins_raw (m : Int) (t : TypeId) (fr : Nat × Nat) : (fnPure Tryz.prog (E1 (GG m t fr)) 60 Tryz.f19 (GG m t fr) []).run2 =
 ((.some ((.lit (.bool true)), [true, true, true, true, true, true, true, true, true])) : Option (PV × List Bool)) := by
  kernel_rfl
end
end Go.Proofs.YtcdghinmmhcfcaaGreatDoor.Ev

/- The evaluator: functions that write places of one's own which they are handed; the rest stays as it is. No condition. -/
namespace Go.Proofs.YtcdghinmmhcfcaaGreatDoor.Ev
open Go Go.RowKit Go.Proofs
set_option linter.unusedVariables false
set_option linter.unusedSimpArgs false
mutual
/-- the places that a word tells of -/
def PV.pls : PV → List Nat
  | .agg ps => PV.plsL ps
  | .tup ps => PV.plsL ps
  | .iface _ p => PV.pls p
  | .clo _ ps => PV.plsL ps
  | .own id => [id]
  | .ptr id _ => [id]
  | .optr id _ _ _ => [id]
  | _ => []
def PV.plsL : List PV → List Nat
  | [] => []
  | p :: r => PV.pls p ++ PV.plsL r
end
def addN : List Nat → List Nat → List Nat
  | acc, [] => acc
  | acc, x :: r => match acc.any (Nat.beq x) with
    | true => addN acc r
    | false => addN (acc ++ [x]) r
def reachB (l : List (Nat × Blk)) : List Nat → List Nat → List Nat
  | [], acc => acc
  | id :: r, acc => match look l id with
    | some (.cells _ cs) => reachB l r (addN acc (PV.plsL cs))
    | _ => reachB l r acc
/-- the places that can be reached from some words -/
def Mem.reach (M : Mem) (ps : List PV) : List Nat :=
  reachB M.blks (reachB M.blks (addN [] (PV.plsL ps)) (addN [] (PV.plsL ps))) (reachB M.blks (addN [] (PV.plsL ps)) (addN [] (PV.plsL ps)))
/-- the new numbers: the first place is the first still, all others are new -/
def backN (L : List Nat) (nid : Nat) : Nat → Nat
  | 0 => match L with
    | x :: _ => x
    | [] => nid
  | i + 1 => nid + (i + 1)
def backP (L : List Nat) (nid : Nat) : PV → PV
  | .own id => .own (backN L nid id)
  | .ptr id off => .ptr (backN L nid id) off
  | .optr id sz i j => .optr (backN L nid id) sz i j
  | p => p
def backB (L : List Nat) (nid : Nat) : Blk → Blk
  | .cells ty cs => .cells ty (PV.subL (backP L nid) cs)
  | b => b
def delAll (l : List (Nat × Blk)) : List Nat → List (Nat × Blk)
  | [] => l
  | x :: r => delAll (delL l x) r
/-- a function that is handed places of one's own, and keeps the first of them in its place -/
def PinOK (P : Program) (G : GT) (f : FuncId) (g : List PV → Mem → Tr (PV × Mem)) : Prop :=
  ∀ (β : Base), β.G = G → ∀ (M : Mem) (m : Nat → Option Value) (w : World) (ps : List PV) (args : Array Value), MRel β M m w → ps.length = args.size →
    (∀ (i : Nat) (p : PV) (v : Value), ps[i]? = some p → args[i]? = some v → Rep (Cell β w M m) m p v) → ∀ (p : PV) (M' : Mem), (g ps M).run = some (p, M') →
    Calls P f args w fun
      | .returned v, w' => ∃ m', (∀ v, m 0 = some v → m' 0 = some v) ∧ MRel β M' m' w' ∧ Rep (Cell β w' M' m') m' p v
      | _, _ => False
theorem pin_of_ev {P : Program} {E : Env} {n : Nat} {G : GT} (hE : E.ok P G) (hmo : P.follows .mixedOrders = true) {f : FuncId} {fn : Func} (hf : P.funcs[f]? = some fn) (hc : ∀ c, fn.body = some c → CutsOK .pin P G E c) : PinOK P G f (fnEv P E n fn) :=
  fun β hG M m w ps args hM hlen hrep p M' hp => fnEv_wp hE hmo hf hc hG hM hlen hrep hp
theorem look_app {α : Type} : ∀ (l l' : List (Nat × α)) (i : Nat), look (l ++ l') i = match look l i with
    | some x => some x
    | none => look l' i
  | [], l', i => rfl
  | (k, x) :: r, l', i => by
    rw [List.cons_append, look_cons, look_cons, look_app r l' i]
    by_cases h : k = i <;> simp [h]
theorem look_delAll : ∀ (L : List Nat) (l : List (Nat × Blk)) (i : Nat), look (delAll l L) i = if i ∈ L then none else look l i
  | [], l, i => by simp [delAll]
  | x :: r, l, i => by
    rw [delAll, look_delAll r, look_delL]
    by_cases h : i ∈ r
    · simp [h]
    · by_cases h2 : x = i
      · subst h2; simp
      · simp [h, h2, Ne.symm h2]
theorem look_back {L : List Nat} {nid : Nat} (hL : ∀ x ∈ L, x < nid) : ∀ (l : List (Nat × Blk)) (i : Nat), look (l.map fun x => (backN L nid x.1, backB L nid x.2)) (backN L nid i) = (look l i).map (backB L nid)
  | [], i => rfl
  | (k, x) :: r, i => by
    have inj : backN L nid k = backN L nid i → k = i := by
      intro h
      match k, i, L, hL with
      | 0, 0, _, _ => rfl
      | 0, i + 1, [], _ => simp [backN] at h
      | 0, i + 1, y :: _, hL => have := hL y (by simp); simp [backN] at h; omega
      | k + 1, 0, [], _ => simp [backN] at h
      | k + 1, 0, y :: _, hL => have := hL y (by simp); simp [backN] at h; omega
      | k + 1, i + 1, _, _ => simp [backN] at h; omega
    rw [List.map_cons, look_cons, look_cons, look_back hL r i]
    by_cases h : k = i
    · subst h; simp
    · rw [if_neg h, if_neg fun e => h (inj e)]
theorem look_back_inv {L : List Nat} {nid : Nat} : ∀ {l : List (Nat × Blk)} {j : Nat} {b : Blk}, look (l.map fun x => (backN L nid x.1, backB L nid x.2)) j = some b → ∃ i, j = backN L nid i
  | [], j, b, h => by cases h
  | (k, x) :: r, j, b, h => by
    rw [List.map_cons, look_cons] at h
    by_cases hk : backN L nid k = j
    · exact ⟨k, hk.symm⟩
    · rw [if_neg hk] at h
      exact look_back_inv h
/-- a weaker telling of it -/
theorem PinOK.of {P : Program} {G : GT} {f : FuncId} {g k : List PV → Mem → Tr (PV × Mem)} (hg : PinOK P G f g) (hle : ∀ ps M p M', (k ps M).run = some (p, M') → (g ps M).run = some (p, M')) : PinOK P G f k :=
  fun β hG M m w ps args hM hlen hrep p M' hp => hg β hG M m w ps args hM hlen hrep p M' (hle ps M p M' hp)
/-- some of the places, with new numbers -/
theorem MRel.pick {β : Base} {M : Mem} {m : Nat → Option Value} {w : World} (h : MRel β M m w) {L : List Nat} {bs : List Blk} (hnd : ndup L = true) (hbs : getAll M.blks L = some bs) :
    MRel β ⟨number (bs.map (renB L)) 0, (bs.map (renB L)).length, M.glob⟩ (fun i => (L[i]?).bind m) w ∧
      ∀ p v, Rep (Cell β w M m) m p v → Rep (Cell β w ⟨number (bs.map (renB L)) 0, (bs.map (renB L)).length, M.glob⟩ (fun i => (L[i]?).bind m)) (fun i => (L[i]?).bind m) (p.sub (ren L)) v := by
  have hget : ∀ {i k : Nat}, L[i]? = some k → ∃ b, bs[i]? = some b ∧ look M.blks k = some b := fun hi => getAll_get hbs hi
  let M0 : Mem := ⟨number (bs.map (renB L)) 0, (bs.map (renB L)).length, M.glob⟩
  let m0 : Nat → Option Value := fun i => (L[i]?).bind m
  have hm0 : ∀ {i id : Nat}, L[i]? = some id → m0 i = m id := fun hi => by simp [m0, hi]
  have at0 : ∀ {i : Nat} {b : Blk}, look M0.blks i = some b → ∃ id b0, L[i]? = some id ∧ bs[i]? = some b0 ∧ look M.blks id = some b0 ∧ b = renB L b0 := by
    intro i b hb
    simp only [M0] at hb
    rw [look_number] at hb
    simp only [Nat.zero_le, if_true, Nat.sub_zero, List.getElem?_map] at hb
    cases hq2 : bs[i]? with
    | none => rw [hq2] at hb; cases hb
    | some b0 =>
      rw [hq2] at hb
      cases hb
      have hlt : i < L.length := by
        have := (List.getElem?_eq_some_iff.1 hq2).1
        rwa [getAll_len hbs] at this
      have hid : L[i]? = some L[i] := List.getElem?_eq_getElem hlt
      obtain ⟨b1, hb1, hlk⟩ := hget hid
      rw [hq2] at hb1
      cases hb1
      exact ⟨_, b0, hid, rfl, hlk, rfl⟩
  have live0 : ∀ {i : Nat}, liv M0.blks i = true → ∃ id, L[i]? = some id ∧ liv M.blks id = true := by
    intro i hs
    obtain ⟨bb, hbb, hlv⟩ := liv_some hs
    obtain ⟨id, b0, hid, _, hlk, rfl⟩ := at0 hbb
    refine ⟨_, hid, ?_⟩
    rw [liv_of hlk]
    cases b0 <;> exact hlv
  have hcell : ∀ b o v, Cell β w M m b o v → Cell β w M0 m0 b o v := by
    rintro b o v hc
    refine ⟨?_, hc.2.1, hc.2.2⟩
    rintro ⟨i, v, hs, hv, hb⟩
    obtain ⟨id, hid, hl⟩ := live0 hs
    rw [hm0 hid] at hv
    exact hc.1 ⟨id, v, hl, hv, hb⟩
  refine ⟨⟨fun id b hb => ?_, fun id hid => ?_, fun i j v v' b hi hj hv hv' hb hb' => ?_, h.bsz, h.below, fun g cs hgc => (h.glob g cs hgc).mono hcell fun _ _ h => h, h.gl, h.objs⟩, fun p v hr => hr.sub hcell fun p v ha hr => ren_rep ha hr⟩
  · obtain ⟨id', b0, hid, _, hlk, rfl⟩ := at0 hb
    have hbk := h.blk _ _ hlk
    cases hbk with
    | cells ty cs b vs hm hb0 hl h1 hr hB =>
      refine .cells ty _ b vs ((hm0 hid).trans hm) hb0 (by rw [subL_length]; exact hl) h1 (fun i p v hp hv => ?_) hB
      rw [subL_get] at hp
      cases hc : cs[i]? with
      | none => rw [hc] at hp; cases hp
      | some c =>
        rw [hc] at hp
        cases hp
        exact (hr i c v hc hv).sub hcell fun p v ha hr => ren_rep ha hr
    | row e sz n f v xs hm ho hKr h1 hl hr =>
      exact .row e sz n f v xs ((hm0 hid).trans hm) ho hKr h1 hl fun i j p hi hp =>
        let ⟨x, hx, hrr⟩ := hr i j p hi hp
        ⟨x, hx, hrr.mono hcell fun _ _ h => h⟩
    | frz sz n f v hm h1 hr hk => exact .frz sz n f v ((hm0 hid).trans hm) h1 (hr.mono hcell fun _ _ h => h) hk
  · simp only [List.length_map, getAll_len hbs] at hid
    simp [List.getElem?_eq_none hid]
  · obtain ⟨i', hi', hli⟩ := live0 hi
    obtain ⟨j', hj', hlj⟩ := live0 hj
    have e1 := hm0 hi'
    have e2 := hm0 hj'
    simp only [m0] at e1 e2
    rw [e1] at hv
    rw [e2] at hv'
    have := h.inj i' j' v v' b hli hlj hv hv' hb hb'
    subst this
    exact ndup_ok hnd hi' hj'
/-- told by the places alone, numbered from 0 on; the first one stays the first -/
def PinB (P : Program) (G : GT) (f : FuncId) (g : List PV → List Blk → Tr (PV × List Blk)) : Prop :=
  ∀ (β : Base), β.G = G → ∀ (bs : List Blk) (m : Nat → Option Value) (w : World) (ps : List PV) (args : Array Value), MRel β ⟨number bs 0, bs.length, G⟩ m w → ps.length = args.size →
    (∀ (i : Nat) (p : PV) (v : Value), ps[i]? = some p → args[i]? = some v → Rep (Cell β w ⟨number bs 0, bs.length, G⟩ m) m p v) → ∀ (p : PV) (bs' : List Blk), (g ps bs).run = some (p, bs') →
    Calls P f args w fun
      | .returned v, w' => ∃ m', (∀ v, m 0 = some v → m' 0 = some v) ∧ MRel β ⟨number bs' 0, bs'.length, G⟩ m' w' ∧ Rep (Cell β w' ⟨number bs' 0, bs'.length, G⟩ m') m' p v
      | _, _ => False
/-- .. as it is evaluated -/
def fnPin (P : Program) (E : Env) (n : Nat) (fn : Func) (G : GT) (ps : List PV) (bs : List Blk) : Tr (PV × List Blk) := (fnEv P E n fn ps ⟨number bs 0, bs.length, G⟩).bind fun r => match r.2.reach [.ptr 0 0, r.1] with
  | L => match ndup L && pinOK true L, getAll r.2.blks L with
    | true, some bs' => .leaf (r.1.sub (ren L), bs'.map (renB L))
    | _, _ => .fail
theorem pinB_of_ev {P : Program} {E : Env} {n : Nat} {G : GT} (hE : E.ok P G) (hmo : P.follows .mixedOrders = true) {f : FuncId} {fn : Func} (hf : P.funcs[f]? = some fn) (hc : ∀ c, fn.body = some c → CutsOK .pin P G E c) : PinB P G f (fnPin P E n fn G) := by
  intro β hG bs m w ps args hM hlen hrep p bs' hp
  obtain ⟨⟨q, M'⟩, hq, hp⟩ := Tr.of_bind hp
  dsimp only at hp
  generalize hL : M'.reach [.ptr 0 0, q] = L at hp
  split at hp
  · rename_i bs2 hnd hbs
    simp only [Tr.run, Option.some.injEq, Prod.mk.injEq] at hp
    obtain ⟨rfl, rfl⟩ := hp
    simp only [Bool.and_eq_true] at hnd
    refine (pin_of_ev hE hmo hf hc β hG _ m w ps args hM hlen hrep q M' hq).mono ?_
    intro e w' he
    cases e with
    | panicked _ => exact he.elim
    | outgrown => exact he.elim
    | returned v =>
      obtain ⟨m', hpin, hM', hr⟩ := he
      obtain ⟨h1, h2⟩ := hM'.pick hnd.1 hbs
      have hg : M'.glob = G := hM'.gl.trans hG
      rw [hg] at h1 h2
      refine ⟨_, fun v hv => ?_, h1, h2 q v hr⟩
      have hp0 := hnd.2
      unfold pinOK at hp0
      split at hp0
      · rename_i h0
        cases h0
      · split at hp0
        · simp only [List.getElem?_cons_zero, Option.bind_some]
          exact hpin v hv
        · cases hp0
  · cases hp
theorem PinB.of {P : Program} {G : GT} {f : FuncId} {g k : List PV → List Blk → Tr (PV × List Blk)} (hg : PinB P G f g) (hle : ∀ ps bs p bs', (k ps bs).run = some (p, bs') → (g ps bs).run = some (p, bs')) : PinB P G f k :=
  fun β hG bs m w ps args hM hlen hrep p bs' hp => hg β hG bs m w ps args hM hlen hrep p bs' (hle ps bs p bs' hp)
theorem MRel.le {β : Base} {G : GT} {bs bs' : List Blk} {m : Nat → Option Value} {w : World} (h : MRel β ⟨number bs 0, bs.length, G⟩ m w) (hl : BLeL bs bs') :
    MRel β ⟨number bs' 0, bs'.length, G⟩ m w ∧ ∀ b o v, Cell β w ⟨number bs 0, bs.length, G⟩ m b o v → Cell β w ⟨number bs' 0, bs'.length, G⟩ m b o v := by
  have r : Rel β (stOf 0 G [] ([], bs)) m { tmps := #[], defers := [] } w := ⟨rfl, rfl, fun i p hp => (by cases hp), h⟩
  have r' := stOf_le0 (G := G) (N := 0) (ks := []) (x := ([], bs)) (y := ([], bs')) ⟨.nil, hl⟩ β h.gl.symm m _ w r
  refine ⟨r'.mem, fun b o v hc => ⟨?_, hc.2.1, hc.2.2⟩⟩
  rintro ⟨id, u, hs, hu, hb⟩
  refine hc.1 ⟨id, u, ?_, hu, hb⟩
  obtain ⟨b1, hb1, hlv⟩ := liv_some hs
  rw [look_number] at hb1
  simp only [Nat.zero_le, if_true, Nat.sub_zero] at hb1
  have hlt : id < bs.length := by rw [hl.1]; exact (List.getElem?_eq_some_iff.1 hb1).1
  have hb0 : bs[id]? = some bs[id] := List.getElem?_eq_getElem hlt
  have hle := hl.2 id _ _ hb0 hb1
  have : look (number bs 0) id = some bs[id] := by
    rw [look_number]
    simp [hlt]
  rw [liv_of this, hle.liv]
  exact hlv
/-- .. where more is told than is wanted, of what is given and of what comes out -/
theorem PinB.le {P : Program} {G : GT} {f : FuncId} {g k : List PV → List Blk → Tr (PV × List Blk)} (hg : PinB P G f g)
    (hle : ∀ ps bs p bs', (k ps bs).run = some (p, bs') → ∃ qs cs q cs', PLeL ps qs ∧ BLeL bs cs ∧ (g qs cs).run = some (q, cs') ∧ PLe q p ∧ BLeL cs' bs') : PinB P G f k := by
  intro β hG bs m w ps args hM hlen hrep p bs' hp
  obtain ⟨qs, cs, q, cs', h1, h2, h3, h4, h5⟩ := hle ps bs p bs' hp
  obtain ⟨k1, k2⟩ := hM.le h2
  refine (hg β hG cs m w qs args k1 (by rw [← h1.1]; exact hlen) (fun i p v hp hv => ?_) q cs' h3).mono ?_
  · have hlt : i < ps.length := by rw [h1.1]; exact (List.getElem?_eq_some_iff.1 hp).1
    have hq : ps[i]? = some ps[i] := List.getElem?_eq_getElem hlt
    exact h1.2 i _ _ hq hp _ _ _ ((hrep i _ v hq hv).mono k2 fun _ _ h => h)
  · intro e w' he
    cases e with
    | panicked _ => exact he.elim
    | outgrown => exact he.elim
    | returned v =>
      obtain ⟨m', hpin, hM', hr⟩ := he
      obtain ⟨l1, l2⟩ := hM'.le h5
      exact ⟨m', hpin, l1, h4 _ _ _ (hr.mono l2 fun _ _ h => h)⟩
/-- .. for a caller -/
def pinG (g : List PV → List Blk → Tr (PV × List Blk)) (ps : List PV) (M : Mem) : Tr (PV × Mem) := match M.reach ps with
  | L => match ndup L, getAll M.blks L with
    | true, some bs => (g (PV.subL (ren L) ps) (bs.map (renB L))).bind fun r => .leaf (r.1.sub (backP L M.nid), ⟨((number r.2 0).map fun x => (backN L M.nid x.1, backB L M.nid x.2)) ++ delAll M.blks L, M.nid + r.2.length + 1, M.glob⟩)
    | _, _ => .fail
theorem pin_fn {P : Program} {G : GT} {f : FuncId} {g : List PV → List Blk → Tr (PV × List Blk)} (hg : PinB P G f g) : FnOK P G f (pinG g) := by
  intro β hβ M m w ps args h hlen hreps p M2 hp
  unfold pinG at hp
  generalize hLe : M.reach ps = L at hp
  dsimp only at hp
  split at hp
  · rename_i bs hnd hbs
    obtain ⟨⟨q, bs'⟩, hq, hp⟩ := Tr.of_bind hp
    simp only [Tr.run, Option.some.injEq, Prod.mk.injEq] at hp
    obtain ⟨rfl, rfl⟩ := hp
    -- the places that are handed in
    have hget : ∀ {i k : Nat}, L[i]? = some k → ∃ b, bs[i]? = some b ∧ look M.blks k = some b := fun hi => getAll_get hbs hi
    let Fr : Nat → Prop := fun k => ∃ (i : Nat) (id : Nat) (v : Value), L[i]? = some id ∧ liv M.blks id = true ∧ m id = some v ∧ blkOf v = some k
    let β' : Base := ⟨w, Cell β w M m, fun k => k < w.heap.size ∧ ¬ Fr k, G⟩
    have hgl : M.glob = G := h.gl.trans hβ
    let M' : Mem := ⟨number bs' 0, bs'.length, G⟩
    let M0 : Mem := ⟨number (bs.map (renB L)) 0, (bs.map (renB L)).length, G⟩
    let m0 : Nat → Option Value := fun i => (L[i]?).bind m
    have hKF : ∀ k, β.K k → ¬ Fr k := by
      rintro k hk ⟨i, id, v, hi, hl, hm, hb⟩
      obtain ⟨b, hb1, hlv⟩ := liv_some hl
      have hbk := h.blk id b hb1
      cases hbk with
      | cells ty cs b vs hm' _ _ _ _ hB =>
        rw [hm] at hm'
        cases hm'
        cases hb
        exact hB hk
      | row e sz n f v xs hm' _ hKr _ _ _ =>
        rw [hm] at hm'
        cases hm'
        exact hKr k hb hk
      | frz => cases hlv
    have hKK : ∀ k, β.K k → β'.K k := fun k hk => ⟨h.kLt hk, hKF k hk⟩
    have live0 : ∀ {i : Nat}, liv M0.blks i = true → ∃ id, L[i]? = some id ∧ liv M.blks id = true := by
      intro i hs
      obtain ⟨bb, hbb, hlv⟩ := liv_some hs
      simp only [M0] at hbb
      rw [look_number] at hbb
      simp only [Nat.zero_le, if_true, Nat.sub_zero, List.getElem?_map] at hbb
      cases hq2 : bs[i]? with
      | none => rw [hq2] at hbb; cases hbb
      | some b0 =>
        have hlt : i < L.length := by
          have := (List.getElem?_eq_some_iff.1 hq2).1
          rwa [getAll_len hbs] at this
        have hid : L[i]? = some L[i] := List.getElem?_eq_getElem hlt
        obtain ⟨b1, hb1, hlk⟩ := hget hid
        rw [hq2] at hb1
        cases hb1
        rw [hq2] at hbb
        simp only [Option.map_some, Option.some.injEq] at hbb
        refine ⟨_, hid, ?_⟩
        rw [liv_of hlk]
        subst hbb
        cases b0 <;> exact hlv
    have hm0 : ∀ {i id : Nat}, L[i]? = some id → m0 i = m id := fun hi => by simp [m0, hi]
    have hLive : ∀ {b : Nat}, Live M0 m0 b → Live M m b ∧ Fr b := by
      rintro b ⟨i, v, hs, hv, hb⟩
      obtain ⟨id, hid, hl⟩ := live0 hs
      rw [hm0 hid] at hv
      exact ⟨⟨id, v, hl, hv, hb⟩, i, id, v, hid, hl, hv, hb⟩
    have hcell : ∀ b o v, Cell β w M m b o v → Cell β' w M0 m0 b o v := fun b o v hc => ⟨fun hl => hc.1 (hLive hl).1, hc.2.1, fun _ => hc⟩
    have hM : MRel β' M0 m0 w := by
      refine ⟨fun id b hb => ?_, fun id hid => ?_, fun i j v v' b hi hj hv hv' hb hb' => ?_, fun k hk => hk.1, Keeps.refl _ _, fun g cs hgc => (h.glob g cs (by rw [hgl]; exact hgc)).mono hcell fun _ _ h => h, rfl, fun g o hgo => ?_⟩
      · simp only [M0] at hb
        rw [look_number] at hb
        simp only [Nat.zero_le, if_true, Nat.sub_zero, List.getElem?_map] at hb
        cases hq2 : bs[id]? with
        | none => rw [hq2] at hb; cases hb
        | some b0 =>
          rw [hq2] at hb
          cases hb
          have hlt : id < L.length := by
            have := (List.getElem?_eq_some_iff.1 hq2).1
            rwa [getAll_len hbs] at this
          have hid : L[id]? = some L[id] := List.getElem?_eq_getElem hlt
          obtain ⟨b1, hb1, hlk⟩ := hget hid
          rw [hq2] at hb1
          cases hb1
          have hbk := h.blk _ _ hlk
          have hfr : ∀ v k, b0.liv = true → m L[id] = some v → blkOf v = some k → Fr k := fun v k hlv hm hk => ⟨id, _, v, hid, by rw [liv_of hlk]; exact hlv, hm, hk⟩
          cases hbk with
          | cells ty cs b vs hm hb hl h1 hr hB =>
            refine .cells ty _ b vs (by rw [hm0 hid]; exact hm) hb (by rw [subL_length]; exact hl) h1 (fun i p v hp hv => ?_) (fun hk => hk.2 (hfr _ _ rfl hm rfl))
            rw [subL_get] at hp
            cases hc : cs[i]? with
            | none => rw [hc] at hp; cases hp
            | some c =>
              rw [hc] at hp
              cases hp
              exact (hr i c v hc hv).sub hcell fun p v ha hr => ren_rep ha hr
          | row e sz n f v xs hm ho hKr h1 hl hr =>
            exact .row e sz n f v xs (by rw [hm0 hid]; exact hm) ho (fun k hk hkk => hkk.2 (hfr _ _ rfl hm hk)) h1 hl fun i j p hi hp =>
              let ⟨x, hx, hrr⟩ := hr i j p hi hp
              ⟨x, hx, hrr.mono hcell fun _ _ h => h⟩
          | frz sz n f v hm h1 hr hk => exact .frz sz n f v (by rw [hm0 hid]; exact hm) h1 (hr.mono hcell fun _ _ h => h) hk
      · simp only [M0, List.length_map, getAll_len hbs] at hid
        simp [m0, List.getElem?_eq_none hid]
      · obtain ⟨i', hi', hli⟩ := live0 hi
        obtain ⟨j', hj', hlj⟩ := live0 hj
        rw [hm0 hi'] at hv
        rw [hm0 hj'] at hv'
        have := h.inj i' j' v v' b hli hlj hv hv' hb hb'
        subst this
        exact ndup_ok hnd hi' hj'
      · have := h.objs g o (by rw [hβ]; exact hgo)
        exact ⟨hKK g this.1, by show w.heap[g]? = _; rw [h.below.block g this.1]; exact this.2⟩
    refine Calls.mono (hg β' rfl (bs.map (renB L)) m0 w (PV.subL (ren L) ps) args hM (by rw [subL_length]; exact hlen) (fun i p v hp hv => ?_) q bs' hq) ?_
    · rw [subL_get] at hp
      cases hc : ps[i]? with
      | none => rw [hc] at hp; cases hp
      | some c =>
        rw [hc] at hp
        cases hp
        exact (hreps i c v hc hv).sub hcell fun p v ha hr => ren_rep ha hr
    · intro e w' he
      cases e with
      | panicked _ => exact he.elim
      | outgrown => exact he.elim
      | returned v =>
        obtain ⟨m', hpin, hM', hrep⟩ := he
        have hLlt : ∀ x ∈ L, x < M.nid := by
          intro x hx
          obtain ⟨i, hi⟩ := List.mem_iff_getElem?.1 hx
          obtain ⟨b, _, hlk⟩ := hget hi
          obtain ⟨v, hv, _⟩ := (h.blk x b hlk).lt
          exact h.lt hv
        let ρ := backN L M.nid
        let M2 : Mem := ⟨(M'.blks.map fun x => (backN L M.nid x.1, backB L M.nid x.2)) ++ delAll M.blks L, M.nid + M'.nid + 1, M.glob⟩
        let m2 : Nat → Option Value := fun j => if j < M.nid then m j else m' (j - M.nid)
        have hmold : ∀ {i v}, m i = some v → m2 i = some v := fun {i v} hm => by simp [m2, h.lt hm, hm]
        have hmnew : ∀ {i v}, m' i = some v → look M'.blks i ≠ none ∨ True → (i ≠ 0 ∨ ∃ x r, L = x :: r) → m2 (ρ i) = some v := by
          intro i v hm _ hi
          cases i with
          | zero =>
            rcases hi with hi | ⟨x, r, hL⟩
            · exact absurd rfl hi
            · have hx : L[0]? = some x := by rw [hL]; rfl
              obtain ⟨b, _, hlk⟩ := hget hx
              obtain ⟨u, hu, _⟩ := (h.blk x b hlk).lt
              have := hpin u (by rw [hm0 hx]; exact hu)
              rw [hm] at this
              cases this
              have e : ρ 0 = x := by simp only [ρ, backN, hL]
              rw [e]
              exact hmold hu
          | succ i =>
            have e : ρ (i + 1) = M.nid + (i + 1) := rfl
            have : ¬ M.nid + (i + 1) < M.nid := by omega
            have e2 : M.nid + (i + 1) - M.nid = i + 1 := by omega
            rw [e]
            simp only [m2, if_neg this, e2]
            exact hm
        have hmn : ∀ {i v}, m' i = some v → m2 (ρ i) = some v := by
          intro i v hm
          cases i with
          | succ i => exact hmnew hm (.inr trivial) (.inl (by simp))
          | zero =>
            cases hL : L with
            | cons x r => exact hmnew hm (.inr trivial) (.inr ⟨x, r, hL⟩)
            | nil =>
              have e : ρ 0 = M.nid := by simp only [ρ, backN, hL]
              rw [e]
              simp only [m2, Nat.lt_irrefl, if_false, Nat.sub_self]
              exact hm
        have hk' : Keeps β'.K w w' := hM'.below
        -- the rest lies elsewhere
        have hrest : ∀ {j u k}, j ∉ L → liv M.blks j = true → m j = some u → blkOf u = some k → β'.K k := by
          intro j u k hj hl hu hb
          refine ⟨h.livLt hl hu hb, ?_⟩
          rintro ⟨i, id, v, hi, hl', hm, hb'⟩
          have := h.inj j id u v k hl hl' hu hm hb hb'
          subst this
          exact hj (List.mem_of_getElem? hi)
        have hlive' : ∀ {i u k}, liv M'.blks i = true → m' i = some u → blkOf u = some k → ¬ β'.K k := by
          intro i u k hl hu hb hk
          obtain ⟨b, hb1, hlv⟩ := liv_some hl
          have hbk := hM'.blk i b hb1
          cases hbk with
          | cells ty cs b vs hm' _ _ _ _ hB =>
            rw [hu] at hm'
            cases hm'
            cases hb
            exact hB hk
          | row e sz n f v xs hm' _ hKr _ _ _ =>
            rw [hu] at hm'
            cases hm'
            exact hKr k hb hk
          | frz => cases hlv
        have hlook : ∀ {j b}, look M2.blks j = some b → (∃ i b', j = ρ i ∧ look M'.blks i = some b' ∧ b = backB L M.nid b') ∨ (j ∉ L ∧ look M.blks j = some b) := by
          intro j b hj
          simp only [M2] at hj
          rw [look_app] at hj
          cases hl : look (M'.blks.map fun x => (backN L M.nid x.1, backB L M.nid x.2)) j with
          | some b1 =>
            rw [hl] at hj
            cases hj
            obtain ⟨i, rfl⟩ := look_back_inv hl
            rw [look_back hLlt] at hl
            cases hi : look M'.blks i with
            | none => rw [hi] at hl; cases hl
            | some b' =>
              rw [hi] at hl
              cases hl
              exact .inl ⟨i, b', rfl, hi, rfl⟩
          | none =>
            rw [hl] at hj
            simp only [look_delAll] at hj
            split at hj
            · cases hj
            · rename_i hn
              exact .inr ⟨hn, hj⟩
        have hmr : ∀ {i u}, look M'.blks i ≠ none → m2 (ρ i) = some u → m' i = some u := by
          intro i u hi hu
          cases hb : look M'.blks i with
          | none => exact absurd hb hi
          | some b =>
            obtain ⟨v, hv, _⟩ := (hM'.blk i b hb).lt
            have := hmn hv
            rw [hu] at this
            cases this
            exact hv
        have hliv2 : ∀ {j u k}, liv M2.blks j = true → m2 j = some u → blkOf u = some k → (∃ i, j = ρ i ∧ liv M'.blks i = true ∧ m' i = some u) ∨ (j ∉ L ∧ liv M.blks j = true ∧ m j = some u) := by
          intro j u k hl hu hb
          obtain ⟨b, hb1, hlv⟩ := liv_some hl
          rcases hlook hb1 with ⟨i, b', rfl, hi, rfl⟩ | ⟨hj, hlk⟩
          · refine .inl ⟨i, rfl, ?_, hmr (by rw [hi]; simp) hu⟩
            rw [liv_of hi]
            cases b' <;> exact hlv
          · refine .inr ⟨hj, by rw [liv_of hlk]; exact hlv, ?_⟩
            obtain ⟨v, hv, _⟩ := (h.blk j b hlk).lt
            have := hmold hv
            rw [hu] at this
            cases this
            exact hv
        have hnl : ∀ {b : Nat}, β'.K b → ¬ Live M m b → ¬ Live M2 m2 b := by
          rintro b hk hn ⟨j, u, hl, hu, hb⟩
          rcases hliv2 hl hu hb with ⟨i, _, hl', hu'⟩ | ⟨_, hl', hu'⟩
          · exact hlive' hl' hu' hb hk
          · exact hn ⟨j, u, hl', hu', hb⟩
        have he : Ext β M m w M2 m2 w' := by
          refine ⟨fun i v hm => hmold hm, fun b o v hc => ?_, rfl⟩
          have hlt : b < w.heap.size := World.block_lt_of_cell? w ⟨b, o, none⟩ hc.2.1
          have hK' : β'.K b := ⟨hlt, fun ⟨i, id, v, hi, hl, hm, hb⟩ => hc.1 ⟨id, v, hl, hm, hb⟩⟩
          refine ⟨hnl hK' hc.1, ?_, hc.2.2⟩
          rw [World.cell?_of_block (w := w) (a := ⟨b, o, none⟩) (hk'.block b hK')]
          exact hc.2.1
        have hback : ∀ b o v, Cell β' w' M' m' b o v → Cell β w' M2 m2 b o v := by
          intro b o v hc
          refine ⟨?_, hc.2.1, fun hk => (hc.2.2 (hKK b hk)).2.2 hk⟩
          rintro ⟨j, u, hl, hu, hb⟩
          rcases hliv2 hl hu hb with ⟨i, _, hl', hu'⟩ | ⟨hj, hl', hu'⟩
          · exact hc.1 ⟨i, u, hl', hu', hb⟩
          · exact (hc.2.2 (hrest hj hl' hu' hb)).1 ⟨j, u, hl', hu', hb⟩
        have hatom : ∀ p v, Atom p → Rep (Cell β' w' M' m') m' p v → Rep (Cell β w' M2 m2) m2 (backP L M.nid p) v := by
          intro p v ha hr
          cases ha with
          | own id =>
            cases hr with
            | own m id v hm h1 => exact .own _ _ v (hmn hm) h1
          | ptr id off =>
            cases hr with
            | ptr m id off b hm => exact .ptr _ _ off b (hmn hm)
          | optr id sz i j =>
            cases hr with
            | optr m id sz i j b n cap hm => exact .optr _ _ sz i j b n cap (hmn hm)
        have hKnew : ∀ k, ¬ β'.K k → ¬ β.K k := fun k hk hkk => hk (hKK k hkk)
        refine ⟨m2, he, ⟨fun id b hb => ?_, fun id hid => ?_, fun i j v v' b hi hj hv hv' hb hb' => ?_, h.bsz, h.below.trans hk' hKK, fun g cs hgc => (h.glob g cs hgc).mono he.cell fun _ _ h => h, h.gl, h.objs⟩, hrep.sub hback hatom⟩
        · rcases hlook hb with ⟨i, b', rfl, hi, rfl⟩ | ⟨hj, hlk⟩
          · have hbk := hM'.blk i b' hi
            cases hbk with
            | cells ty cs b vs hm hb0 hl h1 hr hB =>
              refine .cells ty _ b vs (hmn hm) hb0 (by rw [subL_length]; exact hl) h1 (fun i p v hp hv => ?_) (hKnew _ hB)
              rw [subL_get] at hp
              cases hc : cs[i]? with
              | none => rw [hc] at hp; cases hp
              | some c =>
                rw [hc] at hp
                cases hp
                exact (hr i c v hc hv).sub hback hatom
            | row e sz n f v xs hm ho hKr h1 hl hr =>
              exact .row e sz n f v xs (hmn hm) ho (fun k hk => hKnew k (hKr k hk)) h1 hl fun i j p hi hp =>
                let ⟨x, hx, hrr⟩ := hr i j p hi hp
                ⟨x, hx, hrr.mono hback fun _ _ h => h⟩
            | frz sz n f v hm h1 hr hk => exact .frz sz n f v (hmn hm) h1 (hr.mono hback fun _ _ h => h) hk
          · exact (h.blk id b hlk).turn he hk'.size fun hlv u k hu hk => hk'.block k (hrest hj (by rw [liv_of hlk]; exact hlv) hu hk)
        · have hge : M.nid + M'.nid + 1 ≤ id := hid
          have h1 : ¬ id < M.nid := by omega
          simp only [m2, if_neg h1]
          exact hM'.fresh _ (by show bs'.length ≤ _; simp only [M'] at hge; omega)
        · rcases hliv2 hi hv hb with ⟨i', rfl, hl1, hu1⟩ | ⟨hj1, hl1, hu1⟩
          · rcases hliv2 hj hv' hb' with ⟨j', rfl, hl2, hu2⟩ | ⟨hj2, hl2, hu2⟩
            · rw [hM'.inj i' j' v v' b hl1 hl2 hu1 hu2 hb hb']
            · exact absurd (hrest hj2 hl2 hu2 hb') (hlive' hl1 hu1 hb)
          · rcases hliv2 hj hv' hb' with ⟨j', rfl, hl2, hu2⟩ | ⟨hj2, hl2, hu2⟩
            · exact absurd (hrest hj1 hl1 hu1 hb) (hlive' hl2 hu2 hb')
            · exact h.inj i j v v' b hl1 hl2 hu1 hu2 hb hb'
  · cases hp
end Go.Proofs.YtcdghinmmhcfcaaGreatDoor.Ev
