/- nset.Write. No condition. -/
import Derived.Test.YtbpmfaghjlmjmaaDoorNsY
import Derived.Test.YtbpmfaghjlmjmaaDoorNsBp
namespace Go.Proofs.YtbpmfaghjlmjmaaDoor.Ev
open Go Go.RowKit Go.Proofs Go.Proofs.YtbpmfaghjlmjmaaDoor.Str
set_option linter.unusedVariables false
set_option linter.unusedSimpArgs false
section
variable {m : Int} {t : TypeId} {fr : Nat × Nat}
def tRw (h : Nat → ByteArray) (i : Nat) : List PV := [.lit (.string (h i))]
def oneH (l : List Sp) (i : Nat) : ByteArray := bs (oneS (sp l i))
def wrOuts : Exit → Outs
  | .normal => { ks := [4, 18, 19, 20], rs := [.slot 4] }
  | .exit _ => { ks := [4], rs := [.slot 4] }
  | _ => { ks := [] }
noncomputable abbrev wrRound (G : GT) := roundT Tryd.prog (E11 G) 60 G 49 wrOuts .normal (theLoop 0 Tryd.f22)
-- from: wr_round [bs, okS, ls, sp, wordS, rowSet, sRow, tRw] (m : Int) (t : TypeId) (fr : Nat × Nat) (o : List Sp) (h : Nat → ByteArray) (n k : Nat) (u i : Int) : (wrRound (GG m t fr) ([.own 0, .gsl 2 n (sRow o), int u, int i], [.row 9 1 k (tRw h)])).run2
theorem wr_round (m : Int) (t : TypeId) (fr : Nat × Nat) (o : List Sp) (h : Nat → ByteArray) (n k : Nat) (u i : Int) : (wrRound (GG m t fr) ([.own 0, .gsl 2 n (sRow o), int u, int i], [.row 9 1 k (tRw h)])).run2 =
    (bif (decide (i < u)) then
        bif (bne (Prod.snd (sp o (Int.toNat i))) (Prod.fst (sp o (Int.toNat i)))) then
          (.some ((.normal, ([(.own 0), (.gsl 2 n (sRow o)), (.lit (.int .i64 u)), (.lit (.int .i64 (IntKind.wrap .i64 (i + (1 : Int)))))], [(.row (9 : TypeId) 1 k (rowSet (rowSet (tRw h) (Int.toNat i) 0 [(.lit (.string (bs (wordS (Prod.fst (sp o (Int.toNat i)))))))]) (Int.toNat i) 0 [(.lit (.string ((cond (Nat.beq (Int.toNat i) (Int.toNat i)) (bs (wordS (Prod.fst (sp o (Int.toNat i))))) (h (Int.toNat i))) ++ ((.mk (List.toArray [(58 : UInt8)])) ++ (bs (wordS (Prod.snd (sp o (Int.toNat i)))))))))]))])), [(Nat.blt (Int.toNat i) k), ((decide ((0 : Int) ≤ i)) && (Nat.blt (Int.toNat i) k)), (Nat.ble ((List.length (ls (cond (Nat.beq (Int.toNat i) (Int.toNat i)) (bs (wordS (Prod.fst (sp o (Int.toNat i))))) (h (Int.toNat i))))) + (List.length (ls ((.mk (List.toArray [(58 : UInt8)])) ++ (bs (wordS (Prod.snd (sp o (Int.toNat i))))))))) (9223372036854775807 : Nat)), (Nat.ble (1 + (List.length (wordS (Prod.snd (sp o (Int.toNat i)))))) (9223372036854775807 : Nat)), ((decide ((0 : Int) ≤ (Prod.snd (sp o (Int.toNat i))))) && (decide ((Prod.snd (sp o (Int.toNat i))) < (4294967296 : Int)))), (Nat.blt (Int.toNat i) k), ((decide ((0 : Int) ≤ i)) && (Nat.blt (Int.toNat i) k)), (Nat.blt (Int.toNat i) k), ((decide ((0 : Int) ≤ i)) && (Nat.blt (Int.toNat i) k)), ((decide ((0 : Int) ≤ (Prod.fst (sp o (Int.toNat i))))) && (decide ((Prod.fst (sp o (Int.toNat i))) < (4294967296 : Int)))), ((decide ((0 : Int) ≤ i)) && (Nat.blt (Int.toNat i) n))]))
        else (.some ((.normal, ([(.own 0), (.gsl 2 n (sRow o)), (.lit (.int .i64 u)), (.lit (.int .i64 (IntKind.wrap .i64 (i + (1 : Int)))))], [(.row (9 : TypeId) 1 k (rowSet (tRw h) (Int.toNat i) 0 [(.lit (.string (bs (wordS (Prod.fst (sp o (Int.toNat i)))))))]))])), [(Nat.blt (Int.toNat i) k), ((decide ((0 : Int) ≤ i)) && (Nat.blt (Int.toNat i) k)), ((decide ((0 : Int) ≤ (Prod.fst (sp o (Int.toNat i))))) && (decide ((Prod.fst (sp o (Int.toNat i))) < (4294967296 : Int)))), ((decide ((0 : Int) ≤ i)) && (Nat.blt (Int.toNat i) n))]))
      else (.some (((.exit 0), ([(.own 0)], [(.row (9 : TypeId) 1 k (tRw h))])), [])) : Option ((Exit × Kept) × List Bool)) := by
  kernel_rfl
theorem ba_app (a b : List UInt8) : bs a ++ bs b = bs (a ++ b) := ls_inj (by rw [ls_app, ls_bs, ls_bs, ls_bs])
theorem dec_len : ∀ (k n : Nat), n < 10 ^ (k + 1) → (Lib.decDigits n).length ≤ k + 1
  | 0, n, h => by
    rw [Lib.decDigits.eq_1, dif_pos (by simpa using h)]
    simp
  | k + 1, n, h => by
    rw [Lib.decDigits.eq_1]
    split
    · simp
    · have := dec_len k (n / 10) (by rw [Nat.pow_succ] at h; omega)
      simp
      omega
theorem wordS_len {n : Int} (h : 0 ≤ n ∧ n < 4294967296) : (wordS n).length ≤ 10 := by
  unfold wordS
  cases n == 0 with
  | true => simp
  | false =>
    have := dec_len 9 n.toNat (by simp; omega)
    simpa using this
theorem oneS_len {x : Sp} (h : u32B x = true) : (oneS x).length ≤ 21 := by
  unfold u32B at h
  simp only [Bool.and_eq_true, decide_eq_true_eq] at h
  have h1 := wordS_len h.1
  have h2 := wordS_len h.2
  unfold oneS
  cases bne x.2 x.1 <;> simp <;> omega
def wrH (o : List Sp) (h0 : Nat → ByteArray) (i j : Nat) : ByteArray := bif Nat.blt j i then bs (oneS (sp o j)) else h0 j
def wrIn (o : List Sp) (h0 : Nat → ByteArray) (i : Nat) : Kept := ([.own 0, .gsl 2 o.length (sRow o), int o.length, int i], [.row 9 1 o.length (tRw (wrH o h0 i))])
theorem set_t (h : Nat → ByteArray) (i : Nat) (w : ByteArray) : rowSet (tRw h) i 0 [.lit (.string w)] = tRw (fun k => bif Nat.beq k i then w else h k) := rfl
theorem wrH_step (o : List Sp) (h0 : Nat → ByteArray) (i j : Nat) : (bif Nat.beq j i then bs (oneS (sp o i)) else wrH o h0 i j) = wrH o h0 (i + 1) j := by
  unfold wrH
  cases h : Nat.beq j i with
  | true =>
    have := Nat.eq_of_beq_eq_true h
    subst this
    have : Nat.blt j (j + 1) = true := by rw [Nat.blt_eq]; omega
    rw [this]
    rfl
  | false =>
    have hne : j ≠ i := fun e => by subst e; simp at h
    have : Nat.blt j (i + 1) = Nat.blt j i := by
      rw [Bool.eq_iff_iff, Nat.blt_eq, Nat.blt_eq]
      omega
    rw [this]
    rfl
theorem wr_LR (o : List Sp) (hu : o.all u32B = true) (hn : o.length ≤ 4294967280) (h0 : Nat → ByteArray) : ∀ (s : List Sp) (i : Nat), o.drop i = s → i ≤ o.length →
    LR Tryd.prog (E11 (GG m t fr)) 60 (GG m t fr) 49 wrOuts .normal (theLoop 0 Tryd.f22) (wrIn o h0 i) (.exit 0) ([.own 0], [.row 9 1 o.length (tRw (wrH o h0 o.length))])
  | [], i, hr, hi => by
    have h := wr_round m t fr o (wrH o h0 i) o.length o.length o.length i
    have hlen := List.drop_eq_nil_iff.1 hr
    have hd : decide ((i : Int) < (o.length : Int)) = false := by simp; omega
    have e : i = o.length := by omega
    rw [hd] at h
    rw [e] at h
    rw [e]
    exact .last (Tr.run_of h (by simp)) (by simp) (by simp)
  | y :: s, i, hr, hi => by
    have h := wr_round m t fr o (wrH o h0 i) o.length o.length o.length i
    obtain ⟨hlt, hx, hdr⟩ := sp_drop hr
    have hy : u32B y = true := by
      have := List.all_eq_true.1 hu o[i] (List.getElem_mem hlt)
      have e : sp o i = o[i] := by simp [sp, hlt]
      rw [← e, hx] at this
      exact this
    have hy' := hy
    unfold u32B at hy'
    simp only [Bool.and_eq_true, decide_eq_true_eq] at hy'
    have w1 := wordS_len hy'.1
    have w2 := wordS_len hy'.2
    have hd : decide ((i : Int) < (o.length : Int)) = true := by simp; omega
    have hw : IntKind.i64.wrap ((i : Int) + 1) = ((i + 1 : Nat) : Int) := wrap_succ (by omega)
    have hbq : Nat.beq i i = true := Nat.beq_refl i
    have e58 : (⟨#[58]⟩ : ByteArray) = bs [58] := rfl
    rw [hd, hw, Int.toNat_natCast, hx, hbq] at h
    simp only [cond_true] at h
    have ih := wr_LR o hu hn h0 s (i + 1) hdr (by omega)
    have go : ∀ {f : Nat → List PV} {cd : List Bool}, f = tRw (fun k => bif Nat.beq k i then bs (oneS (sp o i)) else wrH o h0 i k) →
        KLe ([.own 0, .gsl 2 o.length (sRow o), int o.length, int ((i + 1 : Nat) : Int)], [.row 9 1 o.length f]) (wrIn o h0 (i + 1)) := by
      intro f cd hf
      refine ⟨.refl _, BLeL.cons (.row _ _ rfl fun j hj => ?_) .nil⟩
      rw [hf]
      unfold tRw
      dsimp only
      rw [wrH_step]
    cases c : bne y.2 y.1 with
    | true =>
      rw [c] at h
      have hf : rowSet (rowSet (tRw (wrH o h0 i)) i 0 [.lit (.string (bs (wordS y.1)))]) i 0 [.lit (.string (bs (wordS y.1) ++ ((⟨#[58]⟩ : ByteArray) ++ bs (wordS y.2))))] = tRw (fun k => bif Nat.beq k i then bs (oneS (sp o i)) else wrH o h0 i k) := by
        rw [set_t, set_t, e58, ba_app, ba_app, hx]
        funext j
        unfold tRw oneS
        rw [c]
        dsimp only
        cases Nat.beq j i <;> rfl
      exact .more (Tr.run_of h (by simp [ls_app, ls_bs, e58]; omega)) (.le (go (cd := []) hf) ih)
    | false =>
      rw [c] at h
      have hf : rowSet (tRw (wrH o h0 i)) i 0 [.lit (.string (bs (wordS y.1)))] = tRw (fun k => bif Nat.beq k i then bs (oneS (sp o i)) else wrH o h0 i k) := by
        rw [set_t, hx]
        funext j
        unfold tRw oneS
        rw [c]
        simp
      exact .more (Tr.run_of h (by simp; omega)) (.le (go (cd := []) hf) ih)
def wrF : Kept → Tr (Exit × Kept)
  | ([.own 0, .gsl 2 n f, .lit (.int .i64 u), .lit (.int .i64 0)], [.row e 1 k g]) => match Nat.beq e 9 with
    | true => .br (areSps n f && decide (u = (n : Int)) && Nat.ble n 4294967280 && decide (k = n) && areStrs k g) (.leaf (.exit 0, ([.own 0], [.row 9 1 n (tRw (oneH (spsOf n f)))]))) .fail
    | false => .fail
  | _ => .fail
theorem wrF_ok (k : Kept) (e : Exit) (y : Kept) (h : (wrF k).run = some (e, y)) : LR Tryd.prog (E11 (GG m t fr)) 60 (GG m t fr) 49 wrOuts .normal (theLoop 0 Tryd.f22) k e y := by
  unfold wrF at h
  split at h
  · rename_i n f u e0 k g
    split at h
    · rename_i he
      obtain rfl := Nat.eq_of_beq_eq_true he
      have hb := br_run h
      clear h
      obtain ⟨hc, h⟩ := hb
      simp only [Bool.and_eq_true, decide_eq_true_eq, Nat.ble_eq] at hc
      obtain ⟨⟨⟨⟨hf, rfl⟩, hn⟩, rfl⟩, hg⟩ := hc
      simp only [Tr.run, Option.some.injEq, Prod.mk.injEq] at h
      obtain ⟨rfl, rfl⟩ := h
      have hL := sps_len k f
      have key := wr_LR (m := m) (t := t) (fr := fr) (spsOf k f) (sps_u32 hf) (by omega) (fun j => strOf (g j)) (spsOf k f) 0 rfl (Nat.zero_le _)
      have hin : KLe ([.own 0, .gsl 2 k f, int (k : Int), int 0], [.row 9 1 k g]) (wrIn (spsOf k f) (fun j => strOf (g j)) 0) := by
        refine ⟨PLeL.cons (.refl _) (PLeL.cons (PLe.gsl hL.symm (sps_row hf)) (PLeL.cons (PLe.of_eq ?_) (.refl _))), BLeL.cons (.row _ _ hL.symm fun j hj => ?_) .nil⟩
        · rw [hL]
        · exact isStr_eq (List.all_eq_true.1 hg j (List.mem_range.2 hj))
      refine .out (.le hin key) ⟨.refl _, BLeL.cons (.row _ _ hL fun j hj => ?_) .nil⟩
      unfold tRw wrH oneH
      have : Nat.blt j (spsOf k f).length = true := by rw [Nat.blt_eq]; exact hj
      rw [this]
      rfl
    · cases h
  · cases h
noncomputable abbrev wrCut (G : GT) := cutOf G 49 wrOuts 0 wrF
-- from: wr_raw [bs, okS, ls, sp, areSps, spsOf, sRow, joinS, strsOf, areStrs, tRw, oneH] (m : Int) (t : TypeId) (fr : Nat × Nat) (n : Nat) (f : Nat → List PV) : (fnPure Tryd.prog ((E11 (GG m t fr)).withCuts (cut1 0 (wrCut (GG m t fr)))) 60 Tryd.f22 (GG m t fr) [.gsl 2 n f]).run2
theorem wr_raw (m : Int) (t : TypeId) (fr : Nat × Nat) (n : Nat) (f : Nat → List PV) : (fnPure Tryd.prog ((E11 (GG m t fr)).withCuts (cut1 0 (wrCut (GG m t fr)))) 60 Tryd.f22 (GG m t fr) [.gsl 2 n f]).run2 =
    (bif (decide (((n : Nat) : Int) < (1 : Int))) then
        (.some ((.tup [(.lit (.string (.mk (List.toArray [])))), (.lit (.int .i64 (1 : Int)))]), [true, true, true]))
      else bif (decide (((n : Nat) : Int) > (1024 : Int))) then
          (.some ((.tup [(.lit (.string (.mk (List.toArray [])))), (.lit (.int .i64 (1 : Int)))]), []))
        else (.some ((.tup [(.lit (.string (bs (joinS (strsOf n (tRw (oneH (spsOf n f)))) (.mk (List.toArray [(44 : UInt8)])))))), (.lit (.int .i64 (0 : Int)))]), [(((areStrs n (tRw (oneH (spsOf n f)))) && (Nat.ble n (4294967280 : Nat))) && (Nat.ble (List.length (joinS (strsOf n (tRw (oneH (spsOf n f)))) (.mk (List.toArray [(44 : UInt8)])))) (4294967280 : Nat))), (((((areSps n f) && (decide (((n : Nat) : Int) = ((n : Nat) : Int)))) && (Nat.ble n (4294967280 : Nat))) && (decide ((Int.toNat ((n : Nat) : Int)) = n))) && (areStrs (Int.toNat ((n : Nat) : Int)) (fun x => [PV.lit (Value.string { data := #[] })]))), (((decide ((0 : Int) ≤ ((n : Nat) : Int))) && (decide (((n : Nat) : Int) = ((n : Nat) : Int)))) && (Nat.ble (16 * (Int.toNat ((n : Nat) : Int))) (140737488355328 : Nat)))])) : Option (PV × List Bool)) := by
  kernel_rfl
theorem join_inter (c : UInt8) : ∀ (L : List (List UInt8)), Lib.join L [c] = joinC c L
  | [] => rfl
  | [a] => by simp [Lib.join, List.intercalate, joinC]
  | a :: b :: r => by
    have ih := join_inter c (b :: r)
    have e : joinC c (a :: b :: r) = a ++ c :: joinC c (b :: r) := by simp [joinC]
    rw [e, ← ih]
    simp [Lib.join, List.intercalate]
theorem strs_tRw (n : Nat) (h : Nat → ByteArray) : strsOf n (tRw h) = (List.range n).map h := rfl
theorem range_sp (g : Sp → List UInt8) (l : List Sp) : (List.range l.length).map (fun i => g (sp l i)) = l.map g := by
  refine List.ext_getElem (by simp) fun i h1 h2 => ?_
  simp at h2
  simp [sp, h2]
theorem joinS_one (l : List Sp) : joinS (strsOf l.length (tRw (oneH l))) ⟨#[44]⟩ = writeS l := by
  unfold joinS writeS
  rw [strs_tRw, List.map_map]
  have e : ((fun x : ByteArray => x.data.toList) ∘ oneH l) = fun i => oneS (sp l i) := by
    funext i
    exact ls_bs (oneS (sp l i))
  rw [e, range_sp]
  exact join_inter 44 _
theorem joinC_le (c : UInt8) (k : Nat) : ∀ (L : List (List UInt8)), (∀ x ∈ L, x.length ≤ k) → (joinC c L).length ≤ (k + 1) * L.length
  | [], _ => by simp [joinC]
  | [a], h => by
    have := h a (by simp)
    simp [joinC]
    omega
  | a :: b :: r, h => by
    have e : joinC c (a :: b :: r) = a ++ c :: joinC c (b :: r) := by simp [joinC]
    have ih := joinC_le c k (b :: r) fun x hx => h x (by simp [hx])
    have := h a (by simp)
    rw [e]
    simp only [List.length_append, List.length_cons] at ih ⊢
    rw [Nat.mul_add (k + 1) (r.length + 1) 1]
    omega
theorem writeS_len {l : List Sp} (hu : l.all u32B = true) : (writeS l).length ≤ 22 * l.length := by
  have := joinC_le 44 21 (l.map oneS) fun x hx => by
    obtain ⟨y, hy, rfl⟩ := List.mem_map.1 hx
    exact oneS_len (List.all_eq_true.1 hu y hy)
  rwa [List.length_map] at this
def wrG : List PV → Tr PV
  | [.gsl 2 n f] => .br (areSps n f && Nat.ble n 4294967280) (.br (Nat.blt 0 n && Nat.ble n 1024) (.leaf (.tup [str (bs (writeS (spsOf n f))), int 0])) (.leaf (.tup [str ⟨#[]⟩, int 1]))) .fail
  | _ => .fail
theorem write_ok : PureOK Tryd.prog (GG m t fr) 22 wrG := by
  refine PureOK.of (fn_cuts mixed E11_ok (fn := Tryd.f22) (cuts := cut1 0 (wrCut (GG m t fr))) (by kernel_rfl) (CutLaws.one (by omega) (by kernel_rfl) fun st e st' h => cutOf_ok E11_ok mixed (noCuts_ok (envOf_cuts ..) _) wrF_ok h)) fun ps p hp => ?_
  unfold wrG at hp
  split at hp
  · rename_i n f
    obtain ⟨hc, hp⟩ := br_run hp
    simp only [Bool.and_eq_true] at hc
    obtain ⟨hf, hn⟩ := hc
    have h := wr_raw m t fr n f
    have hL := sps_len n f
    by_cases h1 : n < 1
    · have d1 : decide ((n : Int) < 1) = true := by simp; omega
      have d2 : (Nat.blt 0 n && Nat.ble n 1024) = false := by
        have : Nat.blt 0 n = false := by rw [Bool.eq_false_iff, ne_eq, Nat.blt_eq]; omega
        rw [this]
        rfl
      rw [d2] at hp
      simp only [Tr.run, cond_false, Option.some.injEq] at hp
      subst hp
      rw [d1] at h
      exact ⟨_, Tr.run_of h (by simp), PLe.of_eq rfl⟩
    · have d1 : decide ((n : Int) < 1) = false := by simp; omega
      rw [d1] at h
      by_cases h2 : 1024 < n
      · have d2 : decide ((n : Int) > 1024) = true := by simp; omega
        have d3 : (Nat.blt 0 n && Nat.ble n 1024) = false := by
          have : Nat.ble n 1024 = false := by rw [Bool.eq_false_iff, ne_eq, Nat.ble_eq]; omega
          rw [this, Bool.and_false]
        rw [d3] at hp
        simp only [Tr.run, cond_false, Option.some.injEq] at hp
        subst hp
        rw [d2] at h
        exact ⟨_, Tr.run_of h (by simp), PLe.of_eq rfl⟩
      · have d2 : decide ((n : Int) > 1024) = false := by simp; omega
        have d3 : (Nat.blt 0 n && Nat.ble n 1024) = true := by
          rw [Bool.and_eq_true, Nat.blt_eq, Nat.ble_eq]
          omega
        rw [d3] at hp
        simp only [Tr.run, cond_true, Option.some.injEq] at hp
        subst hp
        rw [d2] at h
        have hj : joinS (strsOf n (tRw (oneH (spsOf n f)))) ⟨#[44]⟩ = writeS (spsOf n f) := by
          have := joinS_one (spsOf n f)
          rwa [hL] at this
        have hwl := writeS_len (sps_u32 hf)
        rw [hL] at hwl
        have hsl : Nat.ble (writeS (spsOf n f)).length 4294967280 = true := Nat.ble_eq_true_of_le (by omega)
        have ha : ∀ (h : Nat → ByteArray), areStrs n (tRw h) = true := fun h => List.all_eq_true.2 fun i _ => rfl
        have ha0 : areStrs n (fun x => [PV.lit (Value.string { data := #[] })]) = true := List.all_eq_true.2 fun i _ => rfl
        rw [hj, hsl, ha, Int.toNat_natCast, ha0, hf, hn] at h
        exact ⟨_, Tr.run_of h (by simp; omega), PLe.of_eq rfl⟩
  · cases hp
def wrPure : List (Nat × (List PV → Tr PV)) := (22, wrG) :: cnPure
theorem wrPure_ok : TabOK Tryd.prog (GG m t fr) wrPure := TabOK.cons write_ok (fn := Tryd.f22) (by kernel_rfl) (by kernel_rfl) cnPure_ok
noncomputable abbrev E12 (G : GT) : Env := envOf Tryd.prog G wrPure nbFull
theorem E12_ok : (E12 (GG m t fr)).ok Tryd.prog (GG m t fr) := envOf_ok mixed wrPure_ok nbFull_ok
end
end Go.Proofs.YtbpmfaghjlmjmaaDoor.Ev
