/- JTopSaved14: several texts in one. Condition: each part's own. -/
import Derived.Test.YtnmgdcggfjnmeaaGreatDoorJTopSaved13
import Derived.Test.YtnmgdcggfjnmeaaGreatDoorJTopSaved07
/- nset.Write. No condition. -/
namespace Go.Proofs.YtnmgdcggfjnmeaaGreatDoor.Ev
open Go Go.RowKit Go.Proofs Go.Proofs.YtnmgdcggfjnmeaaGreatDoor.Str
set_option linter.unusedVariables false
set_option linter.unusedSimpArgs false
section
variable {m : Int} {t : TypeId} {fr : Nat × Nat}
def tRw (h : Nat → ByteArray) (i : Nat) : List PV := [.lit (.string (h i))]
def oneH (l : List Sp) (i : Nat) : ByteArray := bs (oneS (sp l i))
def wrOuts : Exit → Outs
  | .normal => { ks := [4, 18, 19, 20], rs := [.slot 4] }
  | .exit _ => { ks := [4], rs := [.slot 4] }
  | _ => { ks := [] }
noncomputable abbrev wrRound (G : GT) := roundT Tryz.prog (E11 G) 60 G 49 wrOuts .normal (theLoop 0 Tryz.f5)
theorem wr_round (m : Int) (t : TypeId) (fr : Nat × Nat) (o : List Sp) (h : Nat → ByteArray) (n k : Nat) (u i : Int) : (wrRound (GG m t fr) ([.own 0, .gsl 2 n (sRow o), int u, int i], [.row 9 1 k (tRw h)])).run2 =
 (bif (decide (i < u)) then
 bif (bne (Prod.snd (sp o (Int.toNat i))) (Prod.fst (sp o (Int.toNat i)))) then
 (.some ((.normal, ([(.own 0), (.gsl 2 n (sRow o)), (.lit (.int .i64 u)), (.lit (.int .i64 (IntKind.wrap .i64 (i + (1 : Int)))))], [(.row 9 1 k (rowSet (rowSet (tRw h) (Int.toNat i) 0 [(.lit (.string (bs (wordS (Prod.fst (sp o (Int.toNat i)))))))]) (Int.toNat i) 0 [(.lit (.string ((cond (Nat.beq (Int.toNat i) (Int.toNat i)) (bs (wordS (Prod.fst (sp o (Int.toNat i))))) (h (Int.toNat i))) ++ ((.mk (List.toArray [(58 : UInt8)])) ++ (bs (wordS (Prod.snd (sp o (Int.toNat i)))))))))]))])), [(Nat.blt (Int.toNat i) k), ((decide ((0 : Int) ≤ i)) && (Nat.blt (Int.toNat i) k)), (Nat.ble ((List.length (ls (cond (Nat.beq (Int.toNat i) (Int.toNat i)) (bs (wordS (Prod.fst (sp o (Int.toNat i))))) (h (Int.toNat i))))) + (List.length (ls ((.mk (List.toArray [(58 : UInt8)])) ++ (bs (wordS (Prod.snd (sp o (Int.toNat i))))))))) (9223372036854775807 : Nat)), (Nat.ble (1 + (List.length (wordS (Prod.snd (sp o (Int.toNat i)))))) (9223372036854775807 : Nat)), ((decide ((0 : Int) ≤ (Prod.snd (sp o (Int.toNat i))))) && (decide ((Prod.snd (sp o (Int.toNat i))) < (4294967296 : Int)))), (Nat.blt (Int.toNat i) k), ((decide ((0 : Int) ≤ i)) && (Nat.blt (Int.toNat i) k)), (Nat.blt (Int.toNat i) k), ((decide ((0 : Int) ≤ i)) && (Nat.blt (Int.toNat i) k)), ((decide ((0 : Int) ≤ (Prod.fst (sp o (Int.toNat i))))) && (decide ((Prod.fst (sp o (Int.toNat i))) < (4294967296 : Int)))), ((decide ((0 : Int) ≤ i)) && (Nat.blt (Int.toNat i) n))]))
 else (.some ((.normal, ([(.own 0), (.gsl 2 n (sRow o)), (.lit (.int .i64 u)), (.lit (.int .i64 (IntKind.wrap .i64 (i + (1 : Int)))))], [(.row 9 1 k (rowSet (tRw h) (Int.toNat i) 0 [(.lit (.string (bs (wordS (Prod.fst (sp o (Int.toNat i)))))))]))])), [(Nat.blt (Int.toNat i) k), ((decide ((0 : Int) ≤ i)) && (Nat.blt (Int.toNat i) k)), ((decide ((0 : Int) ≤ (Prod.fst (sp o (Int.toNat i))))) && (decide ((Prod.fst (sp o (Int.toNat i))) < (4294967296 : Int)))), ((decide ((0 : Int) ≤ i)) && (Nat.blt (Int.toNat i) n))]))
 else (.some (((.exit 0), ([(.own 0)], [(.row 9 1 k (tRw h))])), [])) : Option ((Exit × Kept) × List Bool)) := by
  kernel_rfl
theorem ba_app (a b : List UInt8) : bs a ++ bs b = bs (a ++ b) := ls_inj (by rw [ls_app, ls_bs, ls_bs, ls_bs])
theorem dec_len : ∀ (k n : Nat), n < 10 ^ (k + 1) → (Lib.decDigits n).length ≤ k + 1
  | 0, n, h => by
    rw [Lib.decDigits.eq_1, dif_pos (by simpa using h)]
    simp
  | k + 1, n, h => by
    rw [Lib.decDigits.eq_1]
    split
    · simp
    · have := dec_len k (n / 10) (by rw [Nat.pow_succ] at h; omega)
      simp
      omega
theorem wordS_len {n : Int} (h : 0 ≤ n ∧ n < 4294967296) : (wordS n).length ≤ 10 := by
  unfold wordS
  cases n == 0 with
  | true => simp
  | false =>
    have := dec_len 9 n.toNat (by simp; omega)
    simpa using this
theorem oneS_len {x : Sp} (h : u32B x = true) : (oneS x).length ≤ 21 := by
  unfold u32B at h
  simp only [Bool.and_eq_true, decide_eq_true_eq] at h
  have h1 := wordS_len h.1
  have h2 := wordS_len h.2
  unfold oneS
  cases bne x.2 x.1 <;> simp <;> omega
def wrH (o : List Sp) (h0 : Nat → ByteArray) (i j : Nat) : ByteArray := bif Nat.blt j i then bs (oneS (sp o j)) else h0 j
def wrIn (o : List Sp) (h0 : Nat → ByteArray) (i : Nat) : Kept := ([.own 0, .gsl 2 o.length (sRow o), int o.length, int i], [.row 9 1 o.length (tRw (wrH o h0 i))])
theorem set_t (h : Nat → ByteArray) (i : Nat) (w : ByteArray) : rowSet (tRw h) i 0 [.lit (.string w)] = tRw (fun k => bif Nat.beq k i then w else h k) := rfl
theorem wrH_step (o : List Sp) (h0 : Nat → ByteArray) (i j : Nat) : (bif Nat.beq j i then bs (oneS (sp o i)) else wrH o h0 i j) = wrH o h0 (i + 1) j := by
  unfold wrH
  cases h : Nat.beq j i with
  | true =>
    have := Nat.eq_of_beq_eq_true h
    subst this
    have : Nat.blt j (j + 1) = true := by rw [Nat.blt_eq]; omega
    rw [this]
    rfl
  | false =>
    have hne : j ≠ i := fun e => by subst e; simp at h
    have : Nat.blt j (i + 1) = Nat.blt j i := by
      rw [Bool.eq_iff_iff, Nat.blt_eq, Nat.blt_eq]
      omega
    rw [this]
    rfl
theorem wr_LR (o : List Sp) (hu : o.all u32B = true) (hn : o.length ≤ 4294967280) (h0 : Nat → ByteArray) : ∀ (s : List Sp) (i : Nat), o.drop i = s → i ≤ o.length →
    LR Tryz.prog (E11 (GG m t fr)) 60 (GG m t fr) 49 wrOuts .normal (theLoop 0 Tryz.f5) (wrIn o h0 i) (.exit 0) ([.own 0], [.row 9 1 o.length (tRw (wrH o h0 o.length))])
  | [], i, hr, hi => by
    have h := wr_round m t fr o (wrH o h0 i) o.length o.length o.length i
    have hlen := List.drop_eq_nil_iff.1 hr
    have hd : decide ((i : Int) < (o.length : Int)) = false := by simp; omega
    have e : i = o.length := by omega
    rw [hd] at h
    rw [e] at h
    rw [e]
    exact .last (Tr.run_of h (by simp)) (by simp) (by simp)
  | y :: s, i, hr, hi => by
    have h := wr_round m t fr o (wrH o h0 i) o.length o.length o.length i
    obtain ⟨hlt, hx, hdr⟩ := sp_drop hr
    have hy : u32B y = true := by
      have := List.all_eq_true.1 hu o[i] (List.getElem_mem hlt)
      have e : sp o i = o[i] := by simp [sp, hlt]
      rw [← e, hx] at this
      exact this
    have hy' := hy
    unfold u32B at hy'
    simp only [Bool.and_eq_true, decide_eq_true_eq] at hy'
    have w1 := wordS_len hy'.1
    have w2 := wordS_len hy'.2
    have hd : decide ((i : Int) < (o.length : Int)) = true := by simp; omega
    have hw : IntKind.i64.wrap ((i : Int) + 1) = ((i + 1 : Nat) : Int) := wrap_succ (by omega)
    have hbq : Nat.beq i i = true := Nat.beq_refl i
    have e58 : (⟨#[58]⟩ : ByteArray) = bs [58] := rfl
    rw [hd, hw, Int.toNat_natCast, hx, hbq] at h
    simp only [cond_true] at h
    have ih := wr_LR o hu hn h0 s (i + 1) hdr (by omega)
    have go : ∀ {f : Nat → List PV} {cd : List Bool}, f = tRw (fun k => bif Nat.beq k i then bs (oneS (sp o i)) else wrH o h0 i k) →
        KLe ([.own 0, .gsl 2 o.length (sRow o), int o.length, int ((i + 1 : Nat) : Int)], [.row 9 1 o.length f]) (wrIn o h0 (i + 1)) := by
      intro f cd hf
      refine ⟨.refl _, BLeL.cons (.row _ _ rfl fun j hj => ?_) .nil⟩
      rw [hf]
      unfold tRw
      dsimp only
      rw [wrH_step]
    cases c : bne y.2 y.1 with
    | true =>
      rw [c] at h
      have hf : rowSet (rowSet (tRw (wrH o h0 i)) i 0 [.lit (.string (bs (wordS y.1)))]) i 0 [.lit (.string (bs (wordS y.1) ++ ((⟨#[58]⟩ : ByteArray) ++ bs (wordS y.2))))] = tRw (fun k => bif Nat.beq k i then bs (oneS (sp o i)) else wrH o h0 i k) := by
        rw [set_t, set_t, e58, ba_app, ba_app, hx]
        funext j
        unfold tRw oneS
        rw [c]
        dsimp only
        cases Nat.beq j i <;> rfl
      exact .more (Tr.run_of h (by simp [ls_app, ls_bs, e58]; omega)) (.le (go (cd := []) hf) ih)
    | false =>
      rw [c] at h
      have hf : rowSet (tRw (wrH o h0 i)) i 0 [.lit (.string (bs (wordS y.1)))] = tRw (fun k => bif Nat.beq k i then bs (oneS (sp o i)) else wrH o h0 i k) := by
        rw [set_t, hx]
        funext j
        unfold tRw oneS
        rw [c]
        simp
      exact .more (Tr.run_of h (by simp; omega)) (.le (go (cd := []) hf) ih)
def wrF : Kept → Tr (Exit × Kept)
  | ([.own 0, .gsl 2 n f, .lit (.int .i64 u), .lit (.int .i64 0)], [.row e 1 k g]) => match Nat.beq e 9 with
    | true => .br (areSps n f && decide (u = (n : Int)) && Nat.ble n 4294967280 && decide (k = n) && areStrs k g) (.leaf (.exit 0, ([.own 0], [.row 9 1 n (tRw (oneH (spsOf n f)))]))) .fail
    | false => .fail
  | _ => .fail
theorem wrF_ok (k : Kept) (e : Exit) (y : Kept) (h : (wrF k).run = some (e, y)) : LR Tryz.prog (E11 (GG m t fr)) 60 (GG m t fr) 49 wrOuts .normal (theLoop 0 Tryz.f5) k e y := by
  unfold wrF at h
  split at h
  · rename_i n f u e0 k g
    split at h
    · rename_i he
      obtain rfl := Nat.eq_of_beq_eq_true he
      have hb := br_run h
      clear h
      obtain ⟨hc, h⟩ := hb
      simp only [Bool.and_eq_true, decide_eq_true_eq, Nat.ble_eq] at hc
      obtain ⟨⟨⟨⟨hf, rfl⟩, hn⟩, rfl⟩, hg⟩ := hc
      simp only [Tr.run, Option.some.injEq, Prod.mk.injEq] at h
      obtain ⟨rfl, rfl⟩ := h
      have hL := sps_len k f
      have key := wr_LR (m := m) (t := t) (fr := fr) (spsOf k f) (sps_u32 hf) (by omega) (fun j => strOf (g j)) (spsOf k f) 0 rfl (Nat.zero_le _)
      have hin : KLe ([.own 0, .gsl 2 k f, int (k : Int), int 0], [.row 9 1 k g]) (wrIn (spsOf k f) (fun j => strOf (g j)) 0) := by
        refine ⟨PLeL.cons (.refl _) (PLeL.cons (PLe.gsl hL.symm (sps_row hf)) (PLeL.cons (PLe.of_eq ?_) (.refl _))), BLeL.cons (.row _ _ hL.symm fun j hj => ?_) .nil⟩
        · rw [hL]
        · exact isStr_eq (List.all_eq_true.1 hg j (List.mem_range.2 hj))
      refine .out (.le hin key) ⟨.refl _, BLeL.cons (.row _ _ hL fun j hj => ?_) .nil⟩
      unfold tRw wrH oneH
      have : Nat.blt j (spsOf k f).length = true := by rw [Nat.blt_eq]; exact hj
      rw [this]
      rfl
    · cases h
  · cases h
noncomputable abbrev wrCut (G : GT) := cutOf G 49 wrOuts 0 wrF
theorem wr_raw (m : Int) (t : TypeId) (fr : Nat × Nat) (n : Nat) (f : Nat → List PV) : (fnPure Tryz.prog ((E11 (GG m t fr)).withCuts (cut1 0 (wrCut (GG m t fr)))) 60 Tryz.f5 (GG m t fr) [.gsl 2 n f]).run2 =
 (bif (decide (((n : Nat) : Int) < (1 : Int))) then
 (.some ((.tup [(.lit (.string (.mk (List.toArray [])))), (.lit (.int .i64 (1 : Int)))]), [true, true, true]))
 else bif (decide (((n : Nat) : Int) > (1024 : Int))) then
 (.some ((.tup [(.lit (.string (.mk (List.toArray [])))), (.lit (.int .i64 (1 : Int)))]), []))
 else (.some ((.tup [(.lit (.string (bs (joinS (strsOf n (tRw (oneH (spsOf n f)))) (.mk (List.toArray [(44 : UInt8)])))))), (.lit (.int .i64 (0 : Int)))]), [(((areStrs n (tRw (oneH (spsOf n f)))) && (Nat.ble n (4294967280 : Nat))) && (Nat.ble (List.length (joinS (strsOf n (tRw (oneH (spsOf n f)))) (.mk (List.toArray [(44 : UInt8)])))) (4294967280 : Nat))), (((((areSps n f) && (decide (((n : Nat) : Int) = ((n : Nat) : Int)))) && (Nat.ble n (4294967280 : Nat))) && (decide ((Int.toNat ((n : Nat) : Int)) = n))) && (areStrs (Int.toNat ((n : Nat) : Int)) (fun x => [PV.lit (Value.string { data := #[] })]))), (((decide ((0 : Int) ≤ ((n : Nat) : Int))) && (decide (((n : Nat) : Int) = ((n : Nat) : Int)))) && (Nat.ble (16 * (Int.toNat ((n : Nat) : Int))) (140737488355328 : Nat)))])) : Option (PV × List Bool)) := by
  kernel_rfl
theorem join_inter (c : UInt8) : ∀ (L : List (List UInt8)), Lib.join L [c] = joinC c L
  | [] => rfl
  | [a] => by simp [Lib.join, List.intercalate, joinC]
  | a :: b :: r => by
    have ih := join_inter c (b :: r)
    have e : joinC c (a :: b :: r) = a ++ c :: joinC c (b :: r) := by simp [joinC]
    rw [e, ← ih]
    simp [Lib.join, List.intercalate]
theorem strs_tRw (n : Nat) (h : Nat → ByteArray) : strsOf n (tRw h) = (List.range n).map h := rfl
theorem range_sp (g : Sp → List UInt8) (l : List Sp) : (List.range l.length).map (fun i => g (sp l i)) = l.map g := by
  refine List.ext_getElem (by simp) fun i h1 h2 => ?_
  simp at h2
  simp [sp, h2]
theorem joinS_one (l : List Sp) : joinS (strsOf l.length (tRw (oneH l))) ⟨#[44]⟩ = writeS l := by
  unfold joinS writeS
  rw [strs_tRw, List.map_map]
  have e : ((fun x : ByteArray => x.data.toList) ∘ oneH l) = fun i => oneS (sp l i) := by
    funext i
    exact ls_bs (oneS (sp l i))
  rw [e, range_sp]
  exact join_inter 44 _
theorem joinC_le (c : UInt8) (k : Nat) : ∀ (L : List (List UInt8)), (∀ x ∈ L, x.length ≤ k) → (joinC c L).length ≤ (k + 1) * L.length
  | [], _ => by simp [joinC]
  | [a], h => by
    have := h a (by simp)
    simp [joinC]
    omega
  | a :: b :: r, h => by
    have e : joinC c (a :: b :: r) = a ++ c :: joinC c (b :: r) := by simp [joinC]
    have ih := joinC_le c k (b :: r) fun x hx => h x (by simp [hx])
    have := h a (by simp)
    rw [e]
    simp only [List.length_append, List.length_cons] at ih ⊢
    rw [Nat.mul_add (k + 1) (r.length + 1) 1]
    omega
theorem writeS_len {l : List Sp} (hu : l.all u32B = true) : (writeS l).length ≤ 22 * l.length := by
  have := joinC_le 44 21 (l.map oneS) fun x hx => by
    obtain ⟨y, hy, rfl⟩ := List.mem_map.1 hx
    exact oneS_len (List.all_eq_true.1 hu y hy)
  rwa [List.length_map] at this
def wrG : List PV → Tr PV
  | [.gsl 2 n f] => .br (areSps n f && Nat.ble n 4294967280) (.br (Nat.blt 0 n && Nat.ble n 1024) (.leaf (.tup [str (bs (writeS (spsOf n f))), int 0])) (.leaf (.tup [str ⟨#[]⟩, int 1]))) .fail
  | _ => .fail
theorem write_ok : PureOK Tryz.prog (GG m t fr) 5 wrG := by
  refine PureOK.of (fn_cuts mixed E11_ok (fn := Tryz.f5) (cuts := cut1 0 (wrCut (GG m t fr))) (by kernel_rfl) (CutLaws.one (by omega) (by kernel_rfl) fun st e st' h => cutOf_ok E11_ok mixed (noCuts_ok (envOf_cuts ..) _) wrF_ok h)) fun ps p hp => ?_
  unfold wrG at hp
  split at hp
  · rename_i n f
    obtain ⟨hc, hp⟩ := br_run hp
    simp only [Bool.and_eq_true] at hc
    obtain ⟨hf, hn⟩ := hc
    have h := wr_raw m t fr n f
    have hL := sps_len n f
    by_cases h1 : n < 1
    · have d1 : decide ((n : Int) < 1) = true := by simp; omega
      have d2 : (Nat.blt 0 n && Nat.ble n 1024) = false := by
        have : Nat.blt 0 n = false := by rw [Bool.eq_false_iff, ne_eq, Nat.blt_eq]; omega
        rw [this]
        rfl
      rw [d2] at hp
      simp only [Tr.run, cond_false, Option.some.injEq] at hp
      subst hp
      rw [d1] at h
      exact ⟨_, Tr.run_of h (by simp), PLe.of_eq rfl⟩
    · have d1 : decide ((n : Int) < 1) = false := by simp; omega
      rw [d1] at h
      by_cases h2 : 1024 < n
      · have d2 : decide ((n : Int) > 1024) = true := by simp; omega
        have d3 : (Nat.blt 0 n && Nat.ble n 1024) = false := by
          have : Nat.ble n 1024 = false := by rw [Bool.eq_false_iff, ne_eq, Nat.ble_eq]; omega
          rw [this, Bool.and_false]
        rw [d3] at hp
        simp only [Tr.run, cond_false, Option.some.injEq] at hp
        subst hp
        rw [d2] at h
        exact ⟨_, Tr.run_of h (by simp), PLe.of_eq rfl⟩
      · have d2 : decide ((n : Int) > 1024) = false := by simp; omega
        have d3 : (Nat.blt 0 n && Nat.ble n 1024) = true := by
          rw [Bool.and_eq_true, Nat.blt_eq, Nat.ble_eq]
          omega
        rw [d3] at hp
        simp only [Tr.run, cond_true, Option.some.injEq] at hp
        subst hp
        rw [d2] at h
        have hj : joinS (strsOf n (tRw (oneH (spsOf n f)))) ⟨#[44]⟩ = writeS (spsOf n f) := by
          have := joinS_one (spsOf n f)
          rwa [hL] at this
        have hwl := writeS_len (sps_u32 hf)
        rw [hL] at hwl
        have hsl : Nat.ble (writeS (spsOf n f)).length 4294967280 = true := Nat.ble_eq_true_of_le (by omega)
        have ha : ∀ (h : Nat → ByteArray), areStrs n (tRw h) = true := fun h => List.all_eq_true.2 fun i _ => rfl
        have ha0 : areStrs n (fun x => [PV.lit (Value.string { data := #[] })]) = true := List.all_eq_true.2 fun i _ => rfl
        rw [hj, hsl, ha, Int.toNat_natCast, ha0, hf, hn] at h
        exact ⟨_, Tr.run_of h (by simp; omega), PLe.of_eq rfl⟩
  · cases hp
def wrPure : List (Nat × (List PV → Tr PV)) := (5, wrG) :: cnPure
theorem wrPure_ok {m : Int} {t : TypeId} {fr : Nat × Nat} : TabOK Tryz.prog (GG m t fr) wrPure := (TabOK.cons write_ok (fn := Tryz.f5) (by kernel_rfl) (by kernel_rfl) cnPure_ok)
noncomputable abbrev E12 (G : GT) : Env := envOf Tryz.prog G wrPure nbFull
theorem E12_ok : (E12 (GG m t fr)).ok Tryz.prog (GG m t fr) := envOf_ok mixed wrPure_ok nbFull_ok
end
end Go.Proofs.YtnmgdcggfjnmeaaGreatDoor.Ev

/- The evaluator: functions that write places of one's own which they are handed; the rest stays as it is. No condition. -/
namespace Go.Proofs.YtnmgdcggfjnmeaaGreatDoor.Ev
open Go Go.RowKit Go.Proofs
set_option linter.unusedVariables false
set_option linter.unusedSimpArgs false
mutual
/-- the places that a word tells of -/
def PV.pls : PV → List Nat
  | .agg ps => PV.plsL ps
  | .tup ps => PV.plsL ps
  | .iface _ p => PV.pls p
  | .clo _ ps => PV.plsL ps
  | .own id => [id]
  | .ptr id _ => [id]
  | .optr id _ _ _ => [id]
  | _ => []
def PV.plsL : List PV → List Nat
  | [] => []
  | p :: r => PV.pls p ++ PV.plsL r
end
def addN : List Nat → List Nat → List Nat
  | acc, [] => acc
  | acc, x :: r => match acc.any (Nat.beq x) with
    | true => addN acc r
    | false => addN (acc ++ [x]) r
def reachB (l : List (Nat × Blk)) : List Nat → List Nat → List Nat
  | [], acc => acc
  | id :: r, acc => match look l id with
    | some (.cells _ cs) => reachB l r (addN acc (PV.plsL cs))
    | _ => reachB l r acc
/-- the places that can be reached from some words -/
def Mem.reach (M : Mem) (ps : List PV) : List Nat :=
  reachB M.blks (reachB M.blks (addN [] (PV.plsL ps)) (addN [] (PV.plsL ps))) (reachB M.blks (addN [] (PV.plsL ps)) (addN [] (PV.plsL ps)))
/-- the new numbers: the first place is the first still, all others are new -/
def backN (L : List Nat) (nid : Nat) : Nat → Nat
  | 0 => match L with
    | x :: _ => x
    | [] => nid
  | i + 1 => nid + (i + 1)
def backP (L : List Nat) (nid : Nat) : PV → PV
  | .own id => .own (backN L nid id)
  | .ptr id off => .ptr (backN L nid id) off
  | .optr id sz i j => .optr (backN L nid id) sz i j
  | p => p
def backB (L : List Nat) (nid : Nat) : Blk → Blk
  | .cells ty cs => .cells ty (PV.subL (backP L nid) cs)
  | b => b
def delAll (l : List (Nat × Blk)) : List Nat → List (Nat × Blk)
  | [] => l
  | x :: r => delAll (delL l x) r
/-- a function that is handed places of one's own, and keeps the first of them in its place -/
def PinOK (P : Program) (G : GT) (f : FuncId) (g : List PV → Mem → Tr (PV × Mem)) : Prop :=
  ∀ (β : Base), β.G = G → ∀ (M : Mem) (m : Nat → Option Value) (w : World) (ps : List PV) (args : Array Value), MRel β M m w → ps.length = args.size →
    (∀ (i : Nat) (p : PV) (v : Value), ps[i]? = some p → args[i]? = some v → Rep (Cell β w M m) m p v) → ∀ (p : PV) (M' : Mem), (g ps M).run = some (p, M') →
    Calls P f args w fun
      | .returned v, w' => ∃ m', (∀ v, m 0 = some v → m' 0 = some v) ∧ MRel β M' m' w' ∧ Rep (Cell β w' M' m') m' p v
      | _, _ => False
theorem pin_of_ev {P : Program} {E : Env} {n : Nat} {G : GT} (hE : E.ok P G) (hmo : P.follows .mixedOrders = true) {f : FuncId} {fn : Func} (hf : P.funcs[f]? = some fn) (hc : ∀ c, fn.body = some c → CutsOK .pin P G E c) : PinOK P G f (fnEv P E n fn) :=
  fun β hG M m w ps args hM hlen hrep p M' hp => fnEv_wp hE hmo hf hc hG hM hlen hrep hp
theorem look_app {α : Type} : ∀ (l l' : List (Nat × α)) (i : Nat), look (l ++ l') i = match look l i with
    | some x => some x
    | none => look l' i
  | [], l', i => rfl
  | (k, x) :: r, l', i => by
    rw [List.cons_append, look_cons, look_cons, look_app r l' i]
    by_cases h : k = i <;> simp [h]
theorem look_delAll : ∀ (L : List Nat) (l : List (Nat × Blk)) (i : Nat), look (delAll l L) i = if i ∈ L then none else look l i
  | [], l, i => by simp [delAll]
  | x :: r, l, i => by
    rw [delAll, look_delAll r, look_delL]
    by_cases h : i ∈ r
    · simp [h]
    · by_cases h2 : x = i
      · subst h2; simp
      · simp [h, h2, Ne.symm h2]
theorem look_back {L : List Nat} {nid : Nat} (hL : ∀ x ∈ L, x < nid) : ∀ (l : List (Nat × Blk)) (i : Nat), look (l.map fun x => (backN L nid x.1, backB L nid x.2)) (backN L nid i) = (look l i).map (backB L nid)
  | [], i => rfl
  | (k, x) :: r, i => by
    have inj : backN L nid k = backN L nid i → k = i := by
      intro h
      match k, i, L, hL with
      | 0, 0, _, _ => rfl
      | 0, i + 1, [], _ => simp [backN] at h
      | 0, i + 1, y :: _, hL => have := hL y (by simp); simp [backN] at h; omega
      | k + 1, 0, [], _ => simp [backN] at h
      | k + 1, 0, y :: _, hL => have := hL y (by simp); simp [backN] at h; omega
      | k + 1, i + 1, _, _ => simp [backN] at h; omega
    rw [List.map_cons, look_cons, look_cons, look_back hL r i]
    by_cases h : k = i
    · subst h; simp
    · rw [if_neg h, if_neg fun e => h (inj e)]
theorem look_back_inv {L : List Nat} {nid : Nat} : ∀ {l : List (Nat × Blk)} {j : Nat} {b : Blk}, look (l.map fun x => (backN L nid x.1, backB L nid x.2)) j = some b → ∃ i, j = backN L nid i
  | [], j, b, h => by cases h
  | (k, x) :: r, j, b, h => by
    rw [List.map_cons, look_cons] at h
    by_cases hk : backN L nid k = j
    · exact ⟨k, hk.symm⟩
    · rw [if_neg hk] at h
      exact look_back_inv h
/-- a weaker telling of it -/
theorem PinOK.of {P : Program} {G : GT} {f : FuncId} {g k : List PV → Mem → Tr (PV × Mem)} (hg : PinOK P G f g) (hle : ∀ ps M p M', (k ps M).run = some (p, M') → (g ps M).run = some (p, M')) : PinOK P G f k :=
  fun β hG M m w ps args hM hlen hrep p M' hp => hg β hG M m w ps args hM hlen hrep p M' (hle ps M p M' hp)
/-- some of the places, with new numbers -/
theorem MRel.pick {β : Base} {M : Mem} {m : Nat → Option Value} {w : World} (h : MRel β M m w) {L : List Nat} {bs : List Blk} (hnd : ndup L = true) (hbs : getAll M.blks L = some bs) :
    MRel β ⟨number (bs.map (renB L)) 0, (bs.map (renB L)).length, M.glob⟩ (fun i => (L[i]?).bind m) w ∧
      ∀ p v, Rep (Cell β w M m) m p v → Rep (Cell β w ⟨number (bs.map (renB L)) 0, (bs.map (renB L)).length, M.glob⟩ (fun i => (L[i]?).bind m)) (fun i => (L[i]?).bind m) (p.sub (ren L)) v := by
  have hget : ∀ {i k : Nat}, L[i]? = some k → ∃ b, bs[i]? = some b ∧ look M.blks k = some b := fun hi => getAll_get hbs hi
  let M0 : Mem := ⟨number (bs.map (renB L)) 0, (bs.map (renB L)).length, M.glob⟩
  let m0 : Nat → Option Value := fun i => (L[i]?).bind m
  have hm0 : ∀ {i id : Nat}, L[i]? = some id → m0 i = m id := fun hi => by simp [m0, hi]
  have at0 : ∀ {i : Nat} {b : Blk}, look M0.blks i = some b → ∃ id b0, L[i]? = some id ∧ bs[i]? = some b0 ∧ look M.blks id = some b0 ∧ b = renB L b0 := by
    intro i b hb
    simp only [M0] at hb
    rw [look_number] at hb
    simp only [Nat.zero_le, if_true, Nat.sub_zero, List.getElem?_map] at hb
    cases hq2 : bs[i]? with
    | none => rw [hq2] at hb; cases hb
    | some b0 =>
      rw [hq2] at hb
      cases hb
      have hlt : i < L.length := by
        have := (List.getElem?_eq_some_iff.1 hq2).1
        rwa [getAll_len hbs] at this
      have hid : L[i]? = some L[i] := List.getElem?_eq_getElem hlt
      obtain ⟨b1, hb1, hlk⟩ := hget hid
      rw [hq2] at hb1
      cases hb1
      exact ⟨_, b0, hid, rfl, hlk, rfl⟩
  have live0 : ∀ {i : Nat}, liv M0.blks i = true → ∃ id, L[i]? = some id ∧ liv M.blks id = true := by
    intro i hs
    obtain ⟨bb, hbb, hlv⟩ := liv_some hs
    obtain ⟨id, b0, hid, _, hlk, rfl⟩ := at0 hbb
    refine ⟨_, hid, ?_⟩
    rw [liv_of hlk]
    cases b0 <;> exact hlv
  have hcell : ∀ b o v, Cell β w M m b o v → Cell β w M0 m0 b o v := by
    rintro b o v hc
    refine ⟨?_, hc.2.1, hc.2.2⟩
    rintro ⟨i, v, hs, hv, hb⟩
    obtain ⟨id, hid, hl⟩ := live0 hs
    rw [hm0 hid] at hv
    exact hc.1 ⟨id, v, hl, hv, hb⟩
  refine ⟨⟨fun id b hb => ?_, fun id hid => ?_, fun i j v v' b hi hj hv hv' hb hb' => ?_, h.bsz, h.below, fun g cs hgc => (h.glob g cs hgc).mono hcell fun _ _ h => h, h.gl, h.objs⟩, fun p v hr => hr.sub hcell fun p v ha hr => ren_rep ha hr⟩
  · obtain ⟨id', b0, hid, _, hlk, rfl⟩ := at0 hb
    have hbk := h.blk _ _ hlk
    cases hbk with
    | cells ty cs b vs hm hb0 hl h1 hr hB =>
      refine .cells ty _ b vs ((hm0 hid).trans hm) hb0 (by rw [subL_length]; exact hl) h1 (fun i p v hp hv => ?_) hB
      rw [subL_get] at hp
      cases hc : cs[i]? with
      | none => rw [hc] at hp; cases hp
      | some c =>
        rw [hc] at hp
        cases hp
        exact (hr i c v hc hv).sub hcell fun p v ha hr => ren_rep ha hr
    | row e sz n f v xs hm ho hKr h1 hl hr =>
      exact .row e sz n f v xs ((hm0 hid).trans hm) ho hKr h1 hl fun i j p hi hp =>
        let ⟨x, hx, hrr⟩ := hr i j p hi hp
        ⟨x, hx, hrr.mono hcell fun _ _ h => h⟩
    | frz sz n f v hm h1 hr hk => exact .frz sz n f v ((hm0 hid).trans hm) h1 (hr.mono hcell fun _ _ h => h) hk
  · simp only [List.length_map, getAll_len hbs] at hid
    simp [List.getElem?_eq_none hid]
  · obtain ⟨i', hi', hli⟩ := live0 hi
    obtain ⟨j', hj', hlj⟩ := live0 hj
    have e1 := hm0 hi'
    have e2 := hm0 hj'
    simp only [m0] at e1 e2
    rw [e1] at hv
    rw [e2] at hv'
    have := h.inj i' j' v v' b hli hlj hv hv' hb hb'
    subst this
    exact ndup_ok hnd hi' hj'
/-- told by the places alone, numbered from 0 on; the first one stays the first -/
def PinB (P : Program) (G : GT) (f : FuncId) (g : List PV → List Blk → Tr (PV × List Blk)) : Prop :=
  ∀ (β : Base), β.G = G → ∀ (bs : List Blk) (m : Nat → Option Value) (w : World) (ps : List PV) (args : Array Value), MRel β ⟨number bs 0, bs.length, G⟩ m w → ps.length = args.size →
    (∀ (i : Nat) (p : PV) (v : Value), ps[i]? = some p → args[i]? = some v → Rep (Cell β w ⟨number bs 0, bs.length, G⟩ m) m p v) → ∀ (p : PV) (bs' : List Blk), (g ps bs).run = some (p, bs') →
    Calls P f args w fun
      | .returned v, w' => ∃ m', (∀ v, m 0 = some v → m' 0 = some v) ∧ MRel β ⟨number bs' 0, bs'.length, G⟩ m' w' ∧ Rep (Cell β w' ⟨number bs' 0, bs'.length, G⟩ m') m' p v
      | _, _ => False
/-- .. as it is evaluated -/
def fnPin (P : Program) (E : Env) (n : Nat) (fn : Func) (G : GT) (ps : List PV) (bs : List Blk) : Tr (PV × List Blk) := (fnEv P E n fn ps ⟨number bs 0, bs.length, G⟩).bind fun r => match r.2.reach [.ptr 0 0, r.1] with
  | L => match ndup L && pinOK true L, getAll r.2.blks L with
    | true, some bs' => .leaf (r.1.sub (ren L), bs'.map (renB L))
    | _, _ => .fail
theorem pinB_of_ev {P : Program} {E : Env} {n : Nat} {G : GT} (hE : E.ok P G) (hmo : P.follows .mixedOrders = true) {f : FuncId} {fn : Func} (hf : P.funcs[f]? = some fn) (hc : ∀ c, fn.body = some c → CutsOK .pin P G E c) : PinB P G f (fnPin P E n fn G) := by
  intro β hG bs m w ps args hM hlen hrep p bs' hp
  obtain ⟨⟨q, M'⟩, hq, hp⟩ := Tr.of_bind hp
  dsimp only at hp
  generalize hL : M'.reach [.ptr 0 0, q] = L at hp
  split at hp
  · rename_i bs2 hnd hbs
    simp only [Tr.run, Option.some.injEq, Prod.mk.injEq] at hp
    obtain ⟨rfl, rfl⟩ := hp
    simp only [Bool.and_eq_true] at hnd
    refine (pin_of_ev hE hmo hf hc β hG _ m w ps args hM hlen hrep q M' hq).mono ?_
    intro e w' he
    cases e with
    | panicked _ => exact he.elim
    | outgrown => exact he.elim
    | returned v =>
      obtain ⟨m', hpin, hM', hr⟩ := he
      obtain ⟨h1, h2⟩ := hM'.pick hnd.1 hbs
      have hg : M'.glob = G := hM'.gl.trans hG
      rw [hg] at h1 h2
      refine ⟨_, fun v hv => ?_, h1, h2 q v hr⟩
      have hp0 := hnd.2
      unfold pinOK at hp0
      split at hp0
      · rename_i h0
        cases h0
      · split at hp0
        · simp only [List.getElem?_cons_zero, Option.bind_some]
          exact hpin v hv
        · cases hp0
  · cases hp
theorem PinB.of {P : Program} {G : GT} {f : FuncId} {g k : List PV → List Blk → Tr (PV × List Blk)} (hg : PinB P G f g) (hle : ∀ ps bs p bs', (k ps bs).run = some (p, bs') → (g ps bs).run = some (p, bs')) : PinB P G f k :=
  fun β hG bs m w ps args hM hlen hrep p bs' hp => hg β hG bs m w ps args hM hlen hrep p bs' (hle ps bs p bs' hp)
theorem MRel.le {β : Base} {G : GT} {bs bs' : List Blk} {m : Nat → Option Value} {w : World} (h : MRel β ⟨number bs 0, bs.length, G⟩ m w) (hl : BLeL bs bs') :
    MRel β ⟨number bs' 0, bs'.length, G⟩ m w ∧ ∀ b o v, Cell β w ⟨number bs 0, bs.length, G⟩ m b o v → Cell β w ⟨number bs' 0, bs'.length, G⟩ m b o v := by
  have r : Rel β (stOf 0 G [] ([], bs)) m { tmps := #[], defers := [] } w := ⟨rfl, rfl, fun i p hp => (by cases hp), h⟩
  have r' := stOf_le0 (G := G) (N := 0) (ks := []) (x := ([], bs)) (y := ([], bs')) ⟨.nil, hl⟩ β h.gl.symm m _ w r
  refine ⟨r'.mem, fun b o v hc => ⟨?_, hc.2.1, hc.2.2⟩⟩
  rintro ⟨id, u, hs, hu, hb⟩
  refine hc.1 ⟨id, u, ?_, hu, hb⟩
  obtain ⟨b1, hb1, hlv⟩ := liv_some hs
  rw [look_number] at hb1
  simp only [Nat.zero_le, if_true, Nat.sub_zero] at hb1
  have hlt : id < bs.length := by rw [hl.1]; exact (List.getElem?_eq_some_iff.1 hb1).1
  have hb0 : bs[id]? = some bs[id] := List.getElem?_eq_getElem hlt
  have hle := hl.2 id _ _ hb0 hb1
  have : look (number bs 0) id = some bs[id] := by
    rw [look_number]
    simp [hlt]
  rw [liv_of this, hle.liv]
  exact hlv
/-- .. where more is told than is wanted, of what is given and of what comes out -/
theorem PinB.le {P : Program} {G : GT} {f : FuncId} {g k : List PV → List Blk → Tr (PV × List Blk)} (hg : PinB P G f g)
    (hle : ∀ ps bs p bs', (k ps bs).run = some (p, bs') → ∃ qs cs q cs', PLeL ps qs ∧ BLeL bs cs ∧ (g qs cs).run = some (q, cs') ∧ PLe q p ∧ BLeL cs' bs') : PinB P G f k := by
  intro β hG bs m w ps args hM hlen hrep p bs' hp
  obtain ⟨qs, cs, q, cs', h1, h2, h3, h4, h5⟩ := hle ps bs p bs' hp
  obtain ⟨k1, k2⟩ := hM.le h2
  refine (hg β hG cs m w qs args k1 (by rw [← h1.1]; exact hlen) (fun i p v hp hv => ?_) q cs' h3).mono ?_
  · have hlt : i < ps.length := by rw [h1.1]; exact (List.getElem?_eq_some_iff.1 hp).1
    have hq : ps[i]? = some ps[i] := List.getElem?_eq_getElem hlt
    exact h1.2 i _ _ hq hp _ _ _ ((hrep i _ v hq hv).mono k2 fun _ _ h => h)
  · intro e w' he
    cases e with
    | panicked _ => exact he.elim
    | outgrown => exact he.elim
    | returned v =>
      obtain ⟨m', hpin, hM', hr⟩ := he
      obtain ⟨l1, l2⟩ := hM'.le h5
      exact ⟨m', hpin, l1, h4 _ _ _ (hr.mono l2 fun _ _ h => h)⟩
/-- .. for a caller -/
def pinG (g : List PV → List Blk → Tr (PV × List Blk)) (ps : List PV) (M : Mem) : Tr (PV × Mem) := match M.reach ps with
  | L => match ndup L, getAll M.blks L with
    | true, some bs => (g (PV.subL (ren L) ps) (bs.map (renB L))).bind fun r => .leaf (r.1.sub (backP L M.nid), ⟨((number r.2 0).map fun x => (backN L M.nid x.1, backB L M.nid x.2)) ++ delAll M.blks L, M.nid + r.2.length + 1, M.glob⟩)
    | _, _ => .fail
theorem pin_fn {P : Program} {G : GT} {f : FuncId} {g : List PV → List Blk → Tr (PV × List Blk)} (hg : PinB P G f g) : FnOK P G f (pinG g) := by
  intro β hβ M m w ps args h hlen hreps p M2 hp
  unfold pinG at hp
  generalize hLe : M.reach ps = L at hp
  dsimp only at hp
  split at hp
  · rename_i bs hnd hbs
    obtain ⟨⟨q, bs'⟩, hq, hp⟩ := Tr.of_bind hp
    simp only [Tr.run, Option.some.injEq, Prod.mk.injEq] at hp
    obtain ⟨rfl, rfl⟩ := hp
    -- the places that are handed in
    have hget : ∀ {i k : Nat}, L[i]? = some k → ∃ b, bs[i]? = some b ∧ look M.blks k = some b := fun hi => getAll_get hbs hi
    let Fr : Nat → Prop := fun k => ∃ (i : Nat) (id : Nat) (v : Value), L[i]? = some id ∧ liv M.blks id = true ∧ m id = some v ∧ blkOf v = some k
    let β' : Base := ⟨w, Cell β w M m, fun k => k < w.heap.size ∧ ¬ Fr k, G⟩
    have hgl : M.glob = G := h.gl.trans hβ
    let M' : Mem := ⟨number bs' 0, bs'.length, G⟩
    let M0 : Mem := ⟨number (bs.map (renB L)) 0, (bs.map (renB L)).length, G⟩
    let m0 : Nat → Option Value := fun i => (L[i]?).bind m
    have hKF : ∀ k, β.K k → ¬ Fr k := by
      rintro k hk ⟨i, id, v, hi, hl, hm, hb⟩
      obtain ⟨b, hb1, hlv⟩ := liv_some hl
      have hbk := h.blk id b hb1
      cases hbk with
      | cells ty cs b vs hm' _ _ _ _ hB =>
        rw [hm] at hm'
        cases hm'
        cases hb
        exact hB hk
      | row e sz n f v xs hm' _ hKr _ _ _ =>
        rw [hm] at hm'
        cases hm'
        exact hKr k hb hk
      | frz => cases hlv
    have hKK : ∀ k, β.K k → β'.K k := fun k hk => ⟨h.kLt hk, hKF k hk⟩
    have live0 : ∀ {i : Nat}, liv M0.blks i = true → ∃ id, L[i]? = some id ∧ liv M.blks id = true := by
      intro i hs
      obtain ⟨bb, hbb, hlv⟩ := liv_some hs
      simp only [M0] at hbb
      rw [look_number] at hbb
      simp only [Nat.zero_le, if_true, Nat.sub_zero, List.getElem?_map] at hbb
      cases hq2 : bs[i]? with
      | none => rw [hq2] at hbb; cases hbb
      | some b0 =>
        have hlt : i < L.length := by
          have := (List.getElem?_eq_some_iff.1 hq2).1
          rwa [getAll_len hbs] at this
        have hid : L[i]? = some L[i] := List.getElem?_eq_getElem hlt
        obtain ⟨b1, hb1, hlk⟩ := hget hid
        rw [hq2] at hb1
        cases hb1
        rw [hq2] at hbb
        simp only [Option.map_some, Option.some.injEq] at hbb
        refine ⟨_, hid, ?_⟩
        rw [liv_of hlk]
        subst hbb
        cases b0 <;> exact hlv
    have hm0 : ∀ {i id : Nat}, L[i]? = some id → m0 i = m id := fun hi => by simp [m0, hi]
    have hLive : ∀ {b : Nat}, Live M0 m0 b → Live M m b ∧ Fr b := by
      rintro b ⟨i, v, hs, hv, hb⟩
      obtain ⟨id, hid, hl⟩ := live0 hs
      rw [hm0 hid] at hv
      exact ⟨⟨id, v, hl, hv, hb⟩, i, id, v, hid, hl, hv, hb⟩
    have hcell : ∀ b o v, Cell β w M m b o v → Cell β' w M0 m0 b o v := fun b o v hc => ⟨fun hl => hc.1 (hLive hl).1, hc.2.1, fun _ => hc⟩
    have hM : MRel β' M0 m0 w := by
      refine ⟨fun id b hb => ?_, fun id hid => ?_, fun i j v v' b hi hj hv hv' hb hb' => ?_, fun k hk => hk.1, Keeps.refl _ _, fun g cs hgc => (h.glob g cs (by rw [hgl]; exact hgc)).mono hcell fun _ _ h => h, rfl, fun g o hgo => ?_⟩
      · simp only [M0] at hb
        rw [look_number] at hb
        simp only [Nat.zero_le, if_true, Nat.sub_zero, List.getElem?_map] at hb
        cases hq2 : bs[id]? with
        | none => rw [hq2] at hb; cases hb
        | some b0 =>
          rw [hq2] at hb
          cases hb
          have hlt : id < L.length := by
            have := (List.getElem?_eq_some_iff.1 hq2).1
            rwa [getAll_len hbs] at this
          have hid : L[id]? = some L[id] := List.getElem?_eq_getElem hlt
          obtain ⟨b1, hb1, hlk⟩ := hget hid
          rw [hq2] at hb1
          cases hb1
          have hbk := h.blk _ _ hlk
          have hfr : ∀ v k, b0.liv = true → m L[id] = some v → blkOf v = some k → Fr k := fun v k hlv hm hk => ⟨id, _, v, hid, by rw [liv_of hlk]; exact hlv, hm, hk⟩
          cases hbk with
          | cells ty cs b vs hm hb hl h1 hr hB =>
            refine .cells ty _ b vs (by rw [hm0 hid]; exact hm) hb (by rw [subL_length]; exact hl) h1 (fun i p v hp hv => ?_) (fun hk => hk.2 (hfr _ _ rfl hm rfl))
            rw [subL_get] at hp
            cases hc : cs[i]? with
            | none => rw [hc] at hp; cases hp
            | some c =>
              rw [hc] at hp
              cases hp
              exact (hr i c v hc hv).sub hcell fun p v ha hr => ren_rep ha hr
          | row e sz n f v xs hm ho hKr h1 hl hr =>
            exact .row e sz n f v xs (by rw [hm0 hid]; exact hm) ho (fun k hk hkk => hkk.2 (hfr _ _ rfl hm hk)) h1 hl fun i j p hi hp =>
              let ⟨x, hx, hrr⟩ := hr i j p hi hp
              ⟨x, hx, hrr.mono hcell fun _ _ h => h⟩
          | frz sz n f v hm h1 hr hk => exact .frz sz n f v (by rw [hm0 hid]; exact hm) h1 (hr.mono hcell fun _ _ h => h) hk
      · simp only [M0, List.length_map, getAll_len hbs] at hid
        simp [m0, List.getElem?_eq_none hid]
      · obtain ⟨i', hi', hli⟩ := live0 hi
        obtain ⟨j', hj', hlj⟩ := live0 hj
        rw [hm0 hi'] at hv
        rw [hm0 hj'] at hv'
        have := h.inj i' j' v v' b hli hlj hv hv' hb hb'
        subst this
        exact ndup_ok hnd hi' hj'
      · have := h.objs g o (by rw [hβ]; exact hgo)
        exact ⟨hKK g this.1, by show w.heap[g]? = _; rw [h.below.block g this.1]; exact this.2⟩
    refine Calls.mono (hg β' rfl (bs.map (renB L)) m0 w (PV.subL (ren L) ps) args hM (by rw [subL_length]; exact hlen) (fun i p v hp hv => ?_) q bs' hq) ?_
    · rw [subL_get] at hp
      cases hc : ps[i]? with
      | none => rw [hc] at hp; cases hp
      | some c =>
        rw [hc] at hp
        cases hp
        exact (hreps i c v hc hv).sub hcell fun p v ha hr => ren_rep ha hr
    · intro e w' he
      cases e with
      | panicked _ => exact he.elim
      | outgrown => exact he.elim
      | returned v =>
        obtain ⟨m', hpin, hM', hrep⟩ := he
        have hLlt : ∀ x ∈ L, x < M.nid := by
          intro x hx
          obtain ⟨i, hi⟩ := List.mem_iff_getElem?.1 hx
          obtain ⟨b, _, hlk⟩ := hget hi
          obtain ⟨v, hv, _⟩ := (h.blk x b hlk).lt
          exact h.lt hv
        let ρ := backN L M.nid
        let M2 : Mem := ⟨(M'.blks.map fun x => (backN L M.nid x.1, backB L M.nid x.2)) ++ delAll M.blks L, M.nid + M'.nid + 1, M.glob⟩
        let m2 : Nat → Option Value := fun j => if j < M.nid then m j else m' (j - M.nid)
        have hmold : ∀ {i v}, m i = some v → m2 i = some v := fun {i v} hm => by simp [m2, h.lt hm, hm]
        have hmnew : ∀ {i v}, m' i = some v → look M'.blks i ≠ none ∨ True → (i ≠ 0 ∨ ∃ x r, L = x :: r) → m2 (ρ i) = some v := by
          intro i v hm _ hi
          cases i with
          | zero =>
            rcases hi with hi | ⟨x, r, hL⟩
            · exact absurd rfl hi
            · have hx : L[0]? = some x := by rw [hL]; rfl
              obtain ⟨b, _, hlk⟩ := hget hx
              obtain ⟨u, hu, _⟩ := (h.blk x b hlk).lt
              have := hpin u (by rw [hm0 hx]; exact hu)
              rw [hm] at this
              cases this
              have e : ρ 0 = x := by simp only [ρ, backN, hL]
              rw [e]
              exact hmold hu
          | succ i =>
            have e : ρ (i + 1) = M.nid + (i + 1) := rfl
            have : ¬ M.nid + (i + 1) < M.nid := by omega
            have e2 : M.nid + (i + 1) - M.nid = i + 1 := by omega
            rw [e]
            simp only [m2, if_neg this, e2]
            exact hm
        have hmn : ∀ {i v}, m' i = some v → m2 (ρ i) = some v := by
          intro i v hm
          cases i with
          | succ i => exact hmnew hm (.inr trivial) (.inl (by simp))
          | zero =>
            cases hL : L with
            | cons x r => exact hmnew hm (.inr trivial) (.inr ⟨x, r, hL⟩)
            | nil =>
              have e : ρ 0 = M.nid := by simp only [ρ, backN, hL]
              rw [e]
              simp only [m2, Nat.lt_irrefl, if_false, Nat.sub_self]
              exact hm
        have hk' : Keeps β'.K w w' := hM'.below
        -- the rest lies elsewhere
        have hrest : ∀ {j u k}, j ∉ L → liv M.blks j = true → m j = some u → blkOf u = some k → β'.K k := by
          intro j u k hj hl hu hb
          refine ⟨h.livLt hl hu hb, ?_⟩
          rintro ⟨i, id, v, hi, hl', hm, hb'⟩
          have := h.inj j id u v k hl hl' hu hm hb hb'
          subst this
          exact hj (List.mem_of_getElem? hi)
        have hlive' : ∀ {i u k}, liv M'.blks i = true → m' i = some u → blkOf u = some k → ¬ β'.K k := by
          intro i u k hl hu hb hk
          obtain ⟨b, hb1, hlv⟩ := liv_some hl
          have hbk := hM'.blk i b hb1
          cases hbk with
          | cells ty cs b vs hm' _ _ _ _ hB =>
            rw [hu] at hm'
            cases hm'
            cases hb
            exact hB hk
          | row e sz n f v xs hm' _ hKr _ _ _ =>
            rw [hu] at hm'
            cases hm'
            exact hKr k hb hk
          | frz => cases hlv
        have hlook : ∀ {j b}, look M2.blks j = some b → (∃ i b', j = ρ i ∧ look M'.blks i = some b' ∧ b = backB L M.nid b') ∨ (j ∉ L ∧ look M.blks j = some b) := by
          intro j b hj
          simp only [M2] at hj
          rw [look_app] at hj
          cases hl : look (M'.blks.map fun x => (backN L M.nid x.1, backB L M.nid x.2)) j with
          | some b1 =>
            rw [hl] at hj
            cases hj
            obtain ⟨i, rfl⟩ := look_back_inv hl
            rw [look_back hLlt] at hl
            cases hi : look M'.blks i with
            | none => rw [hi] at hl; cases hl
            | some b' =>
              rw [hi] at hl
              cases hl
              exact .inl ⟨i, b', rfl, hi, rfl⟩
          | none =>
            rw [hl] at hj
            simp only [look_delAll] at hj
            split at hj
            · cases hj
            · rename_i hn
              exact .inr ⟨hn, hj⟩
        have hmr : ∀ {i u}, look M'.blks i ≠ none → m2 (ρ i) = some u → m' i = some u := by
          intro i u hi hu
          cases hb : look M'.blks i with
          | none => exact absurd hb hi
          | some b =>
            obtain ⟨v, hv, _⟩ := (hM'.blk i b hb).lt
            have := hmn hv
            rw [hu] at this
            cases this
            exact hv
        have hliv2 : ∀ {j u k}, liv M2.blks j = true → m2 j = some u → blkOf u = some k → (∃ i, j = ρ i ∧ liv M'.blks i = true ∧ m' i = some u) ∨ (j ∉ L ∧ liv M.blks j = true ∧ m j = some u) := by
          intro j u k hl hu hb
          obtain ⟨b, hb1, hlv⟩ := liv_some hl
          rcases hlook hb1 with ⟨i, b', rfl, hi, rfl⟩ | ⟨hj, hlk⟩
          · refine .inl ⟨i, rfl, ?_, hmr (by rw [hi]; simp) hu⟩
            rw [liv_of hi]
            cases b' <;> exact hlv
          · refine .inr ⟨hj, by rw [liv_of hlk]; exact hlv, ?_⟩
            obtain ⟨v, hv, _⟩ := (h.blk j b hlk).lt
            have := hmold hv
            rw [hu] at this
            cases this
            exact hv
        have hnl : ∀ {b : Nat}, β'.K b → ¬ Live M m b → ¬ Live M2 m2 b := by
          rintro b hk hn ⟨j, u, hl, hu, hb⟩
          rcases hliv2 hl hu hb with ⟨i, _, hl', hu'⟩ | ⟨_, hl', hu'⟩
          · exact hlive' hl' hu' hb hk
          · exact hn ⟨j, u, hl', hu', hb⟩
        have he : Ext β M m w M2 m2 w' := by
          refine ⟨fun i v hm => hmold hm, fun b o v hc => ?_, rfl⟩
          have hlt : b < w.heap.size := World.block_lt_of_cell? w ⟨b, o, none⟩ hc.2.1
          have hK' : β'.K b := ⟨hlt, fun ⟨i, id, v, hi, hl, hm, hb⟩ => hc.1 ⟨id, v, hl, hm, hb⟩⟩
          refine ⟨hnl hK' hc.1, ?_, hc.2.2⟩
          rw [World.cell?_of_block (w := w) (a := ⟨b, o, none⟩) (hk'.block b hK')]
          exact hc.2.1
        have hback : ∀ b o v, Cell β' w' M' m' b o v → Cell β w' M2 m2 b o v := by
          intro b o v hc
          refine ⟨?_, hc.2.1, fun hk => (hc.2.2 (hKK b hk)).2.2 hk⟩
          rintro ⟨j, u, hl, hu, hb⟩
          rcases hliv2 hl hu hb with ⟨i, _, hl', hu'⟩ | ⟨hj, hl', hu'⟩
          · exact hc.1 ⟨i, u, hl', hu', hb⟩
          · exact (hc.2.2 (hrest hj hl' hu' hb)).1 ⟨j, u, hl', hu', hb⟩
        have hatom : ∀ p v, Atom p → Rep (Cell β' w' M' m') m' p v → Rep (Cell β w' M2 m2) m2 (backP L M.nid p) v := by
          intro p v ha hr
          cases ha with
          | own id =>
            cases hr with
            | own m id v hm h1 => exact .own _ _ v (hmn hm) h1
          | ptr id off =>
            cases hr with
            | ptr m id off b hm => exact .ptr _ _ off b (hmn hm)
          | optr id sz i j =>
            cases hr with
            | optr m id sz i j b n cap hm => exact .optr _ _ sz i j b n cap (hmn hm)
        have hKnew : ∀ k, ¬ β'.K k → ¬ β.K k := fun k hk hkk => hk (hKK k hkk)
        refine ⟨m2, he, ⟨fun id b hb => ?_, fun id hid => ?_, fun i j v v' b hi hj hv hv' hb hb' => ?_, h.bsz, h.below.trans hk' hKK, fun g cs hgc => (h.glob g cs hgc).mono he.cell fun _ _ h => h, h.gl, h.objs⟩, hrep.sub hback hatom⟩
        · rcases hlook hb with ⟨i, b', rfl, hi, rfl⟩ | ⟨hj, hlk⟩
          · have hbk := hM'.blk i b' hi
            cases hbk with
            | cells ty cs b vs hm hb0 hl h1 hr hB =>
              refine .cells ty _ b vs (hmn hm) hb0 (by rw [subL_length]; exact hl) h1 (fun i p v hp hv => ?_) (hKnew _ hB)
              rw [subL_get] at hp
              cases hc : cs[i]? with
              | none => rw [hc] at hp; cases hp
              | some c =>
                rw [hc] at hp
                cases hp
                exact (hr i c v hc hv).sub hback hatom
            | row e sz n f v xs hm ho hKr h1 hl hr =>
              exact .row e sz n f v xs (hmn hm) ho (fun k hk => hKnew k (hKr k hk)) h1 hl fun i j p hi hp =>
                let ⟨x, hx, hrr⟩ := hr i j p hi hp
                ⟨x, hx, hrr.mono hback fun _ _ h => h⟩
            | frz sz n f v hm h1 hr hk => exact .frz sz n f v (hmn hm) h1 (hr.mono hback fun _ _ h => h) hk
          · exact (h.blk id b hlk).turn he hk'.size fun hlv u k hu hk => hk'.block k (hrest hj (by rw [liv_of hlk]; exact hlv) hu hk)
        · have hge : M.nid + M'.nid + 1 ≤ id := hid
          have h1 : ¬ id < M.nid := by omega
          simp only [m2, if_neg h1]
          exact hM'.fresh _ (by show bs'.length ≤ _; simp only [M'] at hge; omega)
        · rcases hliv2 hi hv hb with ⟨i', rfl, hl1, hu1⟩ | ⟨hj1, hl1, hu1⟩
          · rcases hliv2 hj hv' hb' with ⟨j', rfl, hl2, hu2⟩ | ⟨hj2, hl2, hu2⟩
            · rw [hM'.inj i' j' v v' b hl1 hl2 hu1 hu2 hb hb']
            · exact absurd (hrest hj2 hl2 hu2 hb') (hlive' hl1 hu1 hb)
          · rcases hliv2 hj hv' hb' with ⟨j', rfl, hl2, hu2⟩ | ⟨hj2, hl2, hu2⟩
            · exact absurd (hrest hj1 hl1 hu1 hb) (hlive' hl2 hu2 hb')
            · exact h.inj i j v v' b hl1 hl2 hu1 hu2 hb hb'
  · cases hp
end Go.Proofs.YtnmgdcggfjnmeaaGreatDoor.Ev

/- A disk with one file: its parts, as they are known. No condition. -/
namespace Go.Proofs.YtnmgdcggfjnmeaaGreatDoor.Ev
open Go Go.RowKit Go.Proofs Go.Proofs.YtnmgdcggfjnmeaaGreatDoor.Str
set_option linter.unusedVariables false
set_option linter.unusedSimpArgs false
def sSet : ByteArray := ⟨#[115, 101, 116]⟩
/-- a disk: its files -/
def fsP (q : PV) : PV := .agg [int 1048576, q, int (-1), int (-1), bool false]
/-- one file's row -/
def fR (a b : ByteArray) (y : Int) (_ : Nat) : List PV := [str a, str b, int y]
def rd1 : PV → Option (ByteArray × ByteArray × Int)
  | .gsl 3 1 f => match f 0 with
    | [.lit (.string a), .lit (.string b), .lit (.int .i64 y)] => some (a, b, y)
    | _ => none
  | _ => none
theorem rd1_le {p : PV} {a b : ByteArray} {y : Int} (h : rd1 p = some (a, b, y)) : PLe p (.gsl 3 1 (fR a b y)) := by
  unfold rd1 at h
  split at h
  · rename_i f
    split at h
    · rename_i e
      cases h
      refine PLe.gsl rfl fun i hi => ?_
      have : i = 0 := by omega
      subst this
      exact e
    · cases h
  · cases h
def fs1 : PV → Option (ByteArray × ByteArray × Int)
  | .agg [.lit (.int .i64 r), g, .lit (.int .i64 u), .lit (.int .i64 v), .lit (.bool b)] => match r == 1048576 && u == -1 && v == -1 && !b with
    | true => rd1 g
    | false => none
  | _ => none
theorem fs1_le {p : PV} {a b : ByteArray} {y : Int} (h : fs1 p = some (a, b, y)) : PLe p (fsP (.gsl 3 1 (fR a b y))) := by
  unfold fs1 at h
  split at h
  · split at h
    · rename_i hc
      simp only [Bool.and_eq_true, beq_iff_eq, Bool.not_eq_true'] at hc
      obtain ⟨⟨⟨rfl, rfl⟩, rfl⟩, rfl⟩ := hc
      exact PLe.agg (.cons (.refl _) (.cons (rd1_le h) (.cons (.refl _) (.cons (.refl _) (.cons (.refl _) .nil)))))
    · cases h
  · cases h
def fs0 : PV → Bool
  | .agg [.lit (.int .i64 r), .lit (.slice none 0 0), .lit (.int .i64 u), .lit (.int .i64 v), .lit (.bool b)] => r == 1048576 && u == -1 && v == -1 && !b
  | _ => false
theorem fs0_eq {p : PV} (h : fs0 p = true) : p = fsP (.lit (.slice none 0 0)) := by
  unfold fs0 at h
  split at h
  · simp only [Bool.and_eq_true, beq_iff_eq, Bool.not_eq_true'] at h
    obtain ⟨⟨⟨rfl, rfl⟩, rfl⟩, rfl⟩ := h
    rfl
  · cases h
/-- a disk and what it says: its row told plainly -/
def fzT : PV → Tr PV
  | .tup [.agg [a, g, c, d, e], w] => match rd1 g with
    | some (x, y, z) => .leaf (.tup [.agg [a, .gsl 3 1 (fR x y z), c, d, e], w])
    | none => .fail
  | _ => .fail
theorem fzT_le {p q : PV} (h : (fzT p).run = some q) : PLe p q := by
  unfold fzT at h
  split at h
  · split at h
    · rename_i hr
      simp only [Tr.run, Option.some.injEq] at h
      subst h
      exact PLe.tup (.cons (.agg (.cons (.refl _) (.cons (rd1_le hr) (.cons (.refl _) (.cons (.refl _) (.cons (.refl _) .nil)))))) (.cons (.refl _) .nil))
    · cases h
  · cases h
theorem fz_ok {P : Program} {G : GT} {f : FuncId} {g : List PV → Tr PV} (h : PureOK P G f g) : PureOK P G f fun ps => (g ps).bind fzT := by
  refine PureOK.of h fun ps p hp => ?_
  obtain ⟨q, hq, hp⟩ := Tr.of_bind hp
  exact ⟨q, hq, fzT_le hp⟩
section
variable {m : Int} {t : TypeId} {fr : Nat × Nat}
theorem ins_raw_v (m : Int) (t : TypeId) (fr : Nat × Nat) (f : Nat → List PV) : ((fnPure Tryz.prog (E12 (GG m t fr)) 60 Tryz.f44 (GG m t fr) [.lit (.slice none 0 0), int 0, .gsl 3 1 f])).val =
 ((.some (.gsl 3 1 f)) : Option PV) := by
  kernel_rfl
theorem ins_raw_c (m : Int) (t : TypeId) (fr : Nat × Nat) (f : Nat → List PV) : ((fnPure Tryz.prog (E12 (GG m t fr)) 60 Tryz.f44 (GG m t fr) [.lit (.slice none 0 0), int 0, .gsl 3 1 f])).conds =
 (true : Bool) := by
  kernel_rfl
def insG : List PV → Tr PV
  | [.lit (.slice none 0 0), .lit (.int .i64 0), q] => match rd1 q with
    | some (a, b, y) => .leaf (.gsl 3 1 (fR a b y))
    | none => .fail
  | _ => .fail
theorem fi0_raw_v (m : Int) (t : TypeId) (fr : Nat × Nat) (s : ByteArray) : ((fnPure Tryz.prog (E12 (GG m t fr)) 60 Tryz.f41 (GG m t fr) [.lit (.slice none 0 0), str s])).val =
 ((.some (.tup [(.lit (.int .i64 (0 : Int))), (.lit (.bool false))])) : Option PV) := by
  kernel_rfl
theorem fi0_raw_c (m : Int) (t : TypeId) (fr : Nat × Nat) (s : ByteArray) : ((fnPure Tryz.prog (E12 (GG m t fr)) 60 Tryz.f41 (GG m t fr) [.lit (.slice none 0 0), str s])).conds =
 (true : Bool) := by
  kernel_rfl
theorem fi1_raw_v (m : Int) (t : TypeId) (fr : Nat × Nat) (x : ByteArray) (y : Int) : ((fnPure Tryz.prog (E12 (GG m t fr)) 60 Tryz.f41 (GG m t fr) [.gsl 3 1 (fR sSet x y), str sSet])).val =
 ((.some (.tup [(.lit (.int .i64 (0 : Int))), (.lit (.bool true))])) : Option PV) := by
  kernel_rfl
theorem fi1_raw_c (m : Int) (t : TypeId) (fr : Nat × Nat) (x : ByteArray) (y : Int) : ((fnPure Tryz.prog (E12 (GG m t fr)) 60 Tryz.f41 (GG m t fr) [.gsl 3 1 (fR sSet x y), str sSet])).conds =
 (true : Bool) := by
  kernel_rfl
def findG : List PV → Tr PV
  | [.lit (.slice none 0 0), .lit (.string s)] => .leaf (.tup [int 0, bool false])
  | [q, .lit (.string n)] => match rd1 q with
    | some (a, b, y) => .br (ls a == ls sSet && ls n == ls sSet) (.leaf (.tup [int 0, bool true])) .fail
    | none => .fail
  | _ => .fail
def dOk (x : ByteArray) (y : Int) : Bool := decide (x.size ≤ 1048576) && decide (0 ≤ y) && decide (y ≤ x.size)
theorem ck0_raw_v (m : Int) (t : TypeId) (fr : Nat × Nat) : ((fnPure Tryz.prog (E12 (GG m t fr)) 60 Tryz.f25 (GG m t fr) [fsP (.lit (.slice none 0 0))])).val =
 ((.some (.lit (.int .i64 (0 : Int)))) : Option PV) := by
  kernel_rfl
theorem ck0_raw_c (m : Int) (t : TypeId) (fr : Nat × Nat) : ((fnPure Tryz.prog (E12 (GG m t fr)) 60 Tryz.f25 (GG m t fr) [fsP (.lit (.slice none 0 0))])).conds =
 (true : Bool) := by
  kernel_rfl
theorem ck1_raw_v (m : Int) (t : TypeId) (fr : Nat × Nat) (x : ByteArray) (y : Int) : ((fnPure Tryz.prog (E12 (GG m t fr)) 60 Tryz.f25 (GG m t fr) [fsP (.gsl 3 1 (fR sSet x y))])).val =
 (bif (decide ((IntKind.wrap .i64 ((1048576 : Int) - (((List.length (ls x)) : Nat) : Int))) < (0 : Int))) then
 bif (decide ((IntKind.wrap .i64 ((1048576 : Int) - (((List.length (ls x)) : Nat) : Int))) < (0 : Int))) then
 (.some (.lit (.int .i64 (2 : Int))))
 else bif (decide (y < (0 : Int))) then
 (.some (.lit (.int .i64 (2 : Int))))
 else bif (decide (y > (((List.length (ls x)) : Nat) : Int))) then
 (.some (.lit (.int .i64 (2 : Int))))
 else (.some (.lit (.int .i64 (0 : Int))))
 else bif (decide ((IntKind.wrap .i64 ((1048576 : Int) - (((List.length (ls x)) : Nat) : Int))) < (0 : Int))) then
 (.some (.lit (.int .i64 (2 : Int))))
 else bif (decide (y < (0 : Int))) then
 (.some (.lit (.int .i64 (2 : Int))))
 else bif (decide (y > (((List.length (ls x)) : Nat) : Int))) then
 (.some (.lit (.int .i64 (2 : Int))))
 else (.some (.lit (.int .i64 (0 : Int)))) : Option PV) := by
  kernel_rfl
theorem ck1_raw_c (m : Int) (t : TypeId) (fr : Nat × Nat) (x : ByteArray) (y : Int) : ((fnPure Tryz.prog (E12 (GG m t fr)) 60 Tryz.f25 (GG m t fr) [fsP (.gsl 3 1 (fR sSet x y))])).conds =
 (bif (decide ((IntKind.wrap .i64 ((1048576 : Int) - (((List.length (ls x)) : Nat) : Int))) < (0 : Int))) then
 bif (decide ((IntKind.wrap .i64 ((1048576 : Int) - (((List.length (ls x)) : Nat) : Int))) < (0 : Int))) then
 true
 else bif (decide (y < (0 : Int))) then
 true
 else bif (decide (y > (((List.length (ls x)) : Nat) : Int))) then
 true
 else true
 else bif (decide ((IntKind.wrap .i64 ((1048576 : Int) - (((List.length (ls x)) : Nat) : Int))) < (0 : Int))) then
 true
 else bif (decide (y < (0 : Int))) then
 true
 else bif (decide (y > (((List.length (ls x)) : Nat) : Int))) then
 true
 else true : Bool) := by
  kernel_rfl
theorem lf_raw_v (m : Int) (t : TypeId) (fr : Nat × Nat) (x : ByteArray) (y : Int) : ((fnPure Tryz.prog (E12 (GG m t fr)) 60 Tryz.f45 (GG m t fr) [fsP (.gsl 3 1 (fR sSet x y))])).val =
 (bif (decide ((IntKind.wrap .i64 ((1048576 : Int) - (((List.length (ls x)) : Nat) : Int))) < (0 : Int))) then
 (.some (.lit (.int .i64 (IntKind.wrap .i64 ((1048576 : Int) - (((List.length (ls x)) : Nat) : Int))))))
 else (.some (.lit (.int .i64 (IntKind.wrap .i64 ((1048576 : Int) - (((List.length (ls x)) : Nat) : Int)))))) : Option PV) := by
  kernel_rfl
theorem lf_raw_c (m : Int) (t : TypeId) (fr : Nat × Nat) (x : ByteArray) (y : Int) : ((fnPure Tryz.prog (E12 (GG m t fr)) 60 Tryz.f45 (GG m t fr) [fsP (.gsl 3 1 (fR sSet x y))])).conds =
 (bif (decide ((IntKind.wrap .i64 ((1048576 : Int) - (((List.length (ls x)) : Nat) : Int))) < (0 : Int))) then
 true
 else true : Bool) := by
  kernel_rfl
theorem cl0_raw_v (m : Int) (t : TypeId) (fr : Nat × Nat) : ((fnPure Tryz.prog (E12 (GG m t fr)) 60 Tryz.f26 (GG m t fr) [.lit (.slice none 0 0)])).val =
 ((.some (.lit (.slice .none 0 0))) : Option PV) := by
  kernel_rfl
theorem cl0_raw_c (m : Int) (t : TypeId) (fr : Nat × Nat) : ((fnPure Tryz.prog (E12 (GG m t fr)) 60 Tryz.f26 (GG m t fr) [.lit (.slice none 0 0)])).conds =
 (true : Bool) := by
  kernel_rfl
theorem cl1_raw_v (m : Int) (t : TypeId) (fr : Nat × Nat) (f : Nat → List PV) : ((fnRow Tryz.prog (E12 (GG m t fr)) 60 Tryz.f26 (GG m t fr) [.gsl 3 1 f])).val =
 ((.some (59, (3, (1, (fun i =>
 match i.blt 0 with
 | true => rowOf (List.replicate (0 * 3) PV.junk) 3 i
 | false => f (i - 0)))))) : Option (TypeId × Nat × Nat × (Nat → List PV))) := by
  kernel_rfl
theorem cl1_raw_c (m : Int) (t : TypeId) (fr : Nat × Nat) (f : Nat → List PV) : ((fnRow Tryz.prog (E12 (GG m t fr)) 60 Tryz.f26 (GG m t fr) [.gsl 3 1 f])).conds =
 (true : Bool) := by
  kernel_rfl
def chkG : List PV → Tr PV
  | [p] => match fs0 p with
    | true => .leaf (int 0)
    | false => match fs1 p with
      | some (a, x, y) => .br (ls a == ls sSet && dOk x y) (.leaf (int 0)) .fail
      | none => .fail
  | _ => .fail
def leftG : List PV → Tr PV
  | [p] => match fs1 p with
    | some (a, x, y) => .br (ls a == ls sSet && dOk x y) (.leaf (int (1048576 - x.size))) .fail
    | none => .fail
  | _ => .fail
def cloN : List PV → Tr PV
  | [.lit (.slice none 0 0)] => .leaf (.lit (.slice none 0 0))
  | _ => .fail
def cloneR : List PV → Tr (TypeId × Nat × Nat × (Nat → List PV))
  | [.gsl 3 1 f] => match f 0 with
    | [.lit (.string a), .lit (.string b), .lit (.int .i64 y)] => .leaf (59, 3, 1, fR a b y)
    | _ => .fail
  | _ => .fail
theorem set_of {a : ByteArray} (h : (ls a == ls sSet) = true) : a = sSet := ls_inj (eq_of_beq h)
theorem insD_ok : PureOK Tryz.prog (GG m t fr) 44 insG := by
  intro ps p hp
  unfold insG at hp
  split at hp
  · split at hp
    · rename_i hr
      simp only [Tr.run, Option.some.injEq] at hp
      subst hp
      exact ((fn_pure mixed E12_ok (envOf_cuts ..) (fn := Tryz.f44) (by kernel_rfl)) _ _ (Tr.run_vc (ins_raw_v m t fr _) (ins_raw_c m t fr _) rfl rfl)).pre (.cons (.refl _) (.cons (.refl _) (.cons (rd1_le hr) .nil)))
    · cases hp
  · cases hp
theorem find_ok : PureOK Tryz.prog (GG m t fr) 41 findG := by
  intro ps p hp
  unfold findG at hp
  split at hp
  · simp only [Tr.run, Option.some.injEq] at hp
    subst hp
    exact (fn_pure mixed E12_ok (envOf_cuts ..) (fn := Tryz.f41) (by kernel_rfl)) _ _ (Tr.run_vc (fi0_raw_v m t fr _) (fi0_raw_c m t fr _) rfl rfl)
  · split at hp
    · rename_i hr
      obtain ⟨hc, hq⟩ := br_run hp
      clear hp
      simp only [Bool.and_eq_true] at hc
      have e1 := set_of hc.1
      have e2 := set_of hc.2
      subst e1 e2
      simp only [Tr.run, Option.some.injEq] at hq
      subst hq
      exact ((fn_pure mixed E12_ok (envOf_cuts ..) (fn := Tryz.f41) (by kernel_rfl)) _ _ (Tr.run_vc (fi1_raw_v m t fr _ _) (fi1_raw_c m t fr _ _) rfl rfl)).pre (.cons (rd1_le hr) (.cons (.refl _) .nil))
    · cases hp
  · cases hp
theorem dOk_at {x : ByteArray} {y : Int} (h : dOk x y = true) : x.size ≤ 1048576 ∧ 0 ≤ y ∧ y ≤ x.size := by
  unfold dOk at h
  simp only [Bool.and_eq_true, decide_eq_true_eq] at h
  exact ⟨h.1.1, h.1.2, h.2⟩
theorem room_wrap {x : ByteArray} (h : x.size ≤ 1048576) : IntKind.wrap .i64 ((1048576 : Int) - (((List.length (ls x)) : Nat) : Int)) = 1048576 - x.size := by
  rw [ls_len]
  exact wrap_mid (by omega) (by omega)
theorem chk_ok : PureOK Tryz.prog (GG m t fr) 25 chkG := by
  intro ps p hp
  unfold chkG at hp
  split at hp
  · split at hp
    · rename_i h0
      have := fs0_eq h0
      subst this
      simp only [Tr.run, Option.some.injEq] at hp
      subst hp
      exact (fn_pure mixed E12_ok (envOf_cuts ..) (fn := Tryz.f25) (by kernel_rfl)) _ _ (Tr.run_vc (ck0_raw_v m t fr) (ck0_raw_c m t fr) rfl rfl)
    · split at hp
      · rename_i a x y hr
        obtain ⟨hc, hq⟩ := br_run hp
        clear hp
        simp only [Bool.and_eq_true] at hc
        have e1 := set_of hc.1
        subst e1
        obtain ⟨h1, h2, h3⟩ := dOk_at hc.2
        simp only [Tr.run, Option.some.injEq] at hq
        subst hq
        have hw : decide (IntKind.wrap .i64 ((1048576 : Int) - (((List.length (ls x)) : Nat) : Int)) < 0) = false := by rw [room_wrap h1]; simp; omega
        have hy : decide (y < 0) = false := by simp; omega
        have hz : decide (y > (((List.length (ls x)) : Nat) : Int)) = false := by rw [ls_len]; simp; omega
        exact ((fn_pure mixed E12_ok (envOf_cuts ..) (fn := Tryz.f25) (by kernel_rfl)) _ _ (Tr.run_vc (ck1_raw_v m t fr x y) (ck1_raw_c m t fr x y) (by simp only [hw, hy, hz, cond_false]) (by simp only [hw, hy, hz, cond_false]))).pre (.cons (fs1_le hr) .nil)
      · cases hp
  · cases hp
theorem left_ok : PureOK Tryz.prog (GG m t fr) 45 leftG := by
  intro ps p hp
  unfold leftG at hp
  split at hp
  · split at hp
    · rename_i a x y hr
      obtain ⟨hc, hq⟩ := br_run hp
      clear hp
      simp only [Bool.and_eq_true] at hc
      have e1 := set_of hc.1
      subst e1
      obtain ⟨h1, h2, h3⟩ := dOk_at hc.2
      simp only [Tr.run, Option.some.injEq] at hq
      subst hq
      have hw : decide ((1048576 : Int) - x.size < 0) = false := by simp; omega
      exact ((fn_pure mixed E12_ok (envOf_cuts ..) (fn := Tryz.f45) (by kernel_rfl)) _ _ (Tr.run_vc (lf_raw_v m t fr x y) (lf_raw_c m t fr x y) (by simp only [room_wrap h1, hw, cond_false]) (by simp only [room_wrap h1, hw, cond_false]))).pre (.cons (fs1_le hr) .nil)
    · cases hp
  · cases hp
theorem cloN_ok : PureOK Tryz.prog (GG m t fr) 26 cloN := by
  intro ps p hp
  unfold cloN at hp
  split at hp
  · simp only [Tr.run, Option.some.injEq] at hp
    subst hp
    exact (fn_pure mixed E12_ok (envOf_cuts ..) (fn := Tryz.f26) (by kernel_rfl)) _ _ (Tr.run_vc (cl0_raw_v m t fr) (cl0_raw_c m t fr) rfl rfl)
  · cases hp
theorem clone_ok : RowOK Tryz.prog (GG m t fr) 26 cloneR := by
  refine RowOK.of (row_of_ev E12_ok mixed (fn := Tryz.f26) (n := 60) (by kernel_rfl) fun c _ => noCuts_ok (envOf_cuts ..) c) fun ps e sz n k hk => ?_
  unfold cloneR at hk
  split at hk
  · split at hk
    · rename_i e
      simp only [Tr.run, Option.some.injEq, Prod.mk.injEq] at hk
      obtain ⟨rfl, rfl, rfl, rfl⟩ := hk
      refine ⟨_, Tr.run_vc (cl1_raw_v m t fr _) (cl1_raw_c m t fr _) rfl rfl, fun i hi => ?_⟩
      have : i = 0 := by omega
      subst this
      exact e
    · cases hk
  · cases hk
def dcPure : List (Nat × (List PV → Tr PV)) := (44, insG) :: (41, findG) :: (25, chkG) :: (45, leftG) :: (26, cloN) :: wrPure
theorem dcPure_ok {m : Int} {t : TypeId} {fr : Nat × Nat} : TabOK Tryz.prog (GG m t fr) dcPure := (TabOK.cons insD_ok (fn := Tryz.f44) (by kernel_rfl) (by kernel_rfl) (TabOK.cons find_ok (fn := Tryz.f41) (by kernel_rfl) (by kernel_rfl) (TabOK.cons chk_ok (fn := Tryz.f25) (by kernel_rfl) (by kernel_rfl) (TabOK.cons left_ok (fn := Tryz.f45) (by kernel_rfl) (by kernel_rfl) (TabOK.cons cloN_ok (fn := Tryz.f26) (by kernel_rfl) (by kernel_rfl) wrPure_ok)))))
def ddPure : List (Nat × (List PV → Tr PV)) := (41, findG) :: (25, chkG) :: (45, leftG) :: wrPure
theorem ddPure_ok {m : Int} {t : TypeId} {fr : Nat × Nat} : TabOK Tryz.prog (GG m t fr) ddPure := (TabOK.cons find_ok (fn := Tryz.f41) (by kernel_rfl) (by kernel_rfl) (TabOK.cons chk_ok (fn := Tryz.f25) (by kernel_rfl) (by kernel_rfl) (TabOK.cons left_ok (fn := Tryz.f45) (by kernel_rfl) (by kernel_rfl) wrPure_ok)))
def ddFull : List (Nat × (List PV → Mem → Tr (PV × Mem))) := (26, rowFn cloneR) :: nbFull
theorem ddFull_ok {m : Int} {t : TypeId} {fr : Nat × Nat} : FullOK Tryz.prog (GG m t fr) ddFull := (FullOK.cons (row_fn clone_ok) (fn := Tryz.f26) (by kernel_rfl) (by kernel_rfl) nbFull_ok)
noncomputable abbrev EC (G : GT) : Env := envOf Tryz.prog G dcPure nbFull
theorem EC_ok : (EC (GG m t fr)).ok Tryz.prog (GG m t fr) := envOf_ok mixed dcPure_ok nbFull_ok
noncomputable abbrev ED (G : GT) : Env := envOf Tryz.prog G ddPure ddFull
theorem ED_ok : (ED (GG m t fr)).ok Tryz.prog (GG m t fr) := envOf_ok mixed ddPure_ok ddFull_ok
end
end Go.Proofs.YtnmgdcggfjnmeaaGreatDoor.Ev
