/- nset: Sort. No condition. -/
import Derived.Test.YtbpmfaghjlmjmaaDoorNsM
namespace Go.Proofs.YtbpmfaghjlmjmaaDoor.Ev
open Go Go.RowKit Go.Proofs Go.Proofs.YtbpmfaghjlmjmaaDoor.Str
set_option linter.unusedVariables false
set_option linter.unusedSimpArgs false
section
variable {m : Int} {t : TypeId} {fr : Nat × Nat}
def soOuts : Exit → Outs
  | .normal => { ks := [7, 19, 20, 21], rs := [.slot 7, .slot 19], nils := [(7, 44, 2)] }
  | .exit _ => { ks := [7], rs := [.slot 7], nils := [(7, 44, 2)] }
  | _ => { ks := [] }
noncomputable abbrev soRound (G : GT) := roundT Tryd.prog (E5 G) 60 G 70 soOuts .normal (theLoop 0 Tryd.f8)
-- from: so_round [bs, okS, ls, sp, rowSet, rowApp, rowOf, sRow] (m : Int) (t : TypeId) (fr : Nat × Nat) (o B : List Sp) (k n : Nat) (u i : Int) : (soRound (GG m t fr) ([.own 0, .own 1, int u, int i], [.row 44 2 k (sRow o), .row 50 2 n (sRow B)])).run2
theorem so_round (m : Int) (t : TypeId) (fr : Nat × Nat) (o B : List Sp) (k n : Nat) (u i : Int) : (soRound (GG m t fr) ([.own 0, .own 1, int u, int i], [.row 44 2 k (sRow o), .row 50 2 n (sRow B)])).run2 =
    (bif (decide (i < u)) then
        bif (decide ((IntKind.wrap .i64 (((k : Nat) : Int) - (1 : Int))) < (0 : Int))) then
          (.some ((.normal, ([(.own 0), (.own 1), (.lit (.int .i64 u)), (.lit (.int .i64 (IntKind.wrap .i64 (i + (1 : Int)))))], [(.row 44 2 (k + 1) (rowApp k (sRow o) (rowOf [(.lit (.int .u32 (Prod.fst (sp B (Int.toNat i))))), (.lit (.int .u32 (Prod.snd (sp B (Int.toNat i)))))] 2))), (.row (50 : TypeId) 2 n (sRow B))])), [(Nat.ble ((k + 1) * 8) (140737488355328 : Nat)), true, true, true, true, true, true, (Nat.blt (Int.toNat i) n), ((decide ((0 : Int) ≤ i)) && (Nat.blt (Int.toNat i) n))]))
        else bif (bne (Prod.snd (sp o (Int.toNat (IntKind.wrap .i64 (((k : Nat) : Int) - (1 : Int)))))) (4294967295 : Int)) then
            bif (decide ((Prod.fst (sp B (Int.toNat i))) > (IntKind.wrap .u32 ((Prod.snd (sp o (Int.toNat (IntKind.wrap .i64 (((k : Nat) : Int) - (1 : Int)))))) + (1 : Int))))) then
              (.some ((.normal, ([(.own 0), (.own 1), (.lit (.int .i64 u)), (.lit (.int .i64 (IntKind.wrap .i64 (i + (1 : Int)))))], [(.row 44 2 (k + 1) (rowApp k (sRow o) (rowOf [(.lit (.int .u32 (Prod.fst (sp B (Int.toNat i))))), (.lit (.int .u32 (Prod.snd (sp B (Int.toNat i)))))] 2))), (.row (50 : TypeId) 2 n (sRow B))])), [(Nat.ble ((k + 1) * 8) (140737488355328 : Nat)), (Nat.blt (Int.toNat (IntKind.wrap .i64 (((k : Nat) : Int) - (1 : Int)))) k), ((decide ((0 : Int) ≤ (IntKind.wrap .i64 (((k : Nat) : Int) - (1 : Int))))) && (Nat.blt (Int.toNat (IntKind.wrap .i64 (((k : Nat) : Int) - (1 : Int)))) k)), (Nat.blt (Int.toNat (IntKind.wrap .i64 (((k : Nat) : Int) - (1 : Int)))) k), ((decide ((0 : Int) ≤ (IntKind.wrap .i64 (((k : Nat) : Int) - (1 : Int))))) && (Nat.blt (Int.toNat (IntKind.wrap .i64 (((k : Nat) : Int) - (1 : Int)))) k)), (Nat.blt (Int.toNat i) n), ((decide ((0 : Int) ≤ i)) && (Nat.blt (Int.toNat i) n))]))
            else (.some ((.normal, ([(.own 0), (.own 1), (.lit (.int .i64 u)), (.lit (.int .i64 (IntKind.wrap .i64 (i + (1 : Int)))))], [(.row (44 : TypeId) 2 k (rowSet (sRow o) (Int.toNat (IntKind.wrap .i64 (((k : Nat) : Int) - (1 : Int)))) 1 [(.lit (.int .u32 (ite ((Prod.snd (sp B (Int.toNat i))) > (Prod.snd (sp o (Int.toNat (IntKind.wrap .i64 (((k : Nat) : Int) - (1 : Int))))))) (Prod.snd (sp B (Int.toNat i))) (Prod.snd (sp o (Int.toNat (IntKind.wrap .i64 (((k : Nat) : Int) - (1 : Int)))))))))])), (.row (50 : TypeId) 2 n (sRow B))])), [(Nat.blt (Int.toNat (IntKind.wrap .i64 (((k : Nat) : Int) - (1 : Int)))) k), ((decide ((0 : Int) ≤ (IntKind.wrap .i64 (((k : Nat) : Int) - (1 : Int))))) && (Nat.blt (Int.toNat (IntKind.wrap .i64 (((k : Nat) : Int) - (1 : Int)))) k)), (Nat.blt (Int.toNat (IntKind.wrap .i64 (((k : Nat) : Int) - (1 : Int)))) k), ((decide ((0 : Int) ≤ (IntKind.wrap .i64 (((k : Nat) : Int) - (1 : Int))))) && (Nat.blt (Int.toNat (IntKind.wrap .i64 (((k : Nat) : Int) - (1 : Int)))) k)), (Nat.blt (Int.toNat (IntKind.wrap .i64 (((k : Nat) : Int) - (1 : Int)))) k), ((decide ((0 : Int) ≤ (IntKind.wrap .i64 (((k : Nat) : Int) - (1 : Int))))) && (Nat.blt (Int.toNat (IntKind.wrap .i64 (((k : Nat) : Int) - (1 : Int)))) k)), (Nat.blt (Int.toNat (IntKind.wrap .i64 (((k : Nat) : Int) - (1 : Int)))) k), ((decide ((0 : Int) ≤ (IntKind.wrap .i64 (((k : Nat) : Int) - (1 : Int))))) && (Nat.blt (Int.toNat (IntKind.wrap .i64 (((k : Nat) : Int) - (1 : Int)))) k)), (Nat.blt (Int.toNat i) n), ((decide ((0 : Int) ≤ i)) && (Nat.blt (Int.toNat i) n))]))
          else (.some ((.normal, ([(.own 0), (.own 1), (.lit (.int .i64 u)), (.lit (.int .i64 (IntKind.wrap .i64 (i + (1 : Int)))))], [(.row (44 : TypeId) 2 k (rowSet (sRow o) (Int.toNat (IntKind.wrap .i64 (((k : Nat) : Int) - (1 : Int)))) 1 [(.lit (.int .u32 (ite ((Prod.snd (sp B (Int.toNat i))) > (Prod.snd (sp o (Int.toNat (IntKind.wrap .i64 (((k : Nat) : Int) - (1 : Int))))))) (Prod.snd (sp B (Int.toNat i))) (Prod.snd (sp o (Int.toNat (IntKind.wrap .i64 (((k : Nat) : Int) - (1 : Int)))))))))])), (.row (50 : TypeId) 2 n (sRow B))])), [(Nat.blt (Int.toNat (IntKind.wrap .i64 (((k : Nat) : Int) - (1 : Int)))) k), ((decide ((0 : Int) ≤ (IntKind.wrap .i64 (((k : Nat) : Int) - (1 : Int))))) && (Nat.blt (Int.toNat (IntKind.wrap .i64 (((k : Nat) : Int) - (1 : Int)))) k)), (Nat.blt (Int.toNat (IntKind.wrap .i64 (((k : Nat) : Int) - (1 : Int)))) k), ((decide ((0 : Int) ≤ (IntKind.wrap .i64 (((k : Nat) : Int) - (1 : Int))))) && (Nat.blt (Int.toNat (IntKind.wrap .i64 (((k : Nat) : Int) - (1 : Int)))) k)), (Nat.blt (Int.toNat (IntKind.wrap .i64 (((k : Nat) : Int) - (1 : Int)))) k), ((decide ((0 : Int) ≤ (IntKind.wrap .i64 (((k : Nat) : Int) - (1 : Int))))) && (Nat.blt (Int.toNat (IntKind.wrap .i64 (((k : Nat) : Int) - (1 : Int)))) k)), (Nat.blt (Int.toNat i) n), ((decide ((0 : Int) ≤ i)) && (Nat.blt (Int.toNat i) n))]))
      else (.some (((.exit 0), ([(.own 0)], [(.row (44 : TypeId) 2 k (sRow o))])), [])) : Option ((Exit × Kept) × List Bool)) := by
  kernel_rfl
def soIn (B : List Sp) (i : Nat) (o : List Sp) : Kept := ([.own 0, .own 1, int B.length, int i], [.row 44 2 o.length (sRow o), .row 50 2 B.length (sRow B)])
def soEnd (q : List Sp) : Exit × Kept := (.exit 0, ([.own 0], [.row 44 2 q.length (sRow q)]))
theorem so_LR (B : List Sp) (hu : B.all u32B = true) (hn : B.length ≤ 4294967280) : ∀ (r : List Sp) (i : Nat) (o : List Sp) (c : Sp), B.drop i = r → o.length < i → i ≤ B.length → u32B c = true →
    LR Tryd.prog (E5 (GG m t fr)) 60 (GG m t fr) 70 soOuts .normal (theLoop 0 Tryd.f8) (soIn B i (o ++ [c])) (soEnd (mgS r o c)).1 (soEnd (mgS r o c)).2
  | [], i, o, c, hr, ho, hi, hc => by
    have h := so_round m t fr (o ++ [c]) B (o ++ [c]).length B.length B.length i
    have hlen := List.drop_eq_nil_iff.1 hr
    have hd : decide ((i : Int) < (B.length : Int)) = false := by simp; omega
    rw [hd] at h
    exact .last (Tr.run_of h (by simp)) (by simp [soEnd]) (by simp [soEnd])
  | b :: r, i, o, c, hr, ho, hi, hc => by
    have h := so_round m t fr (o ++ [c]) B (o ++ [c]).length B.length B.length i
    obtain ⟨hlt, hx, hdr⟩ := sp_drop hr
    have hb : u32B b = true := by
      have := List.all_eq_true.1 hu B[i] (List.getElem_mem hlt)
      have e : B[i] = b := by rw [← hx]; simp [sp, hlt]
      rwa [e] at this
    have hb' := hb
    have hc' := hc
    unfold u32B at hb' hc'
    simp only [Bool.and_eq_true, decide_eq_true_eq] at hb' hc'
    have hd : decide ((i : Int) < (B.length : Int)) = true := by simp; omega
    have hw : IntKind.i64.wrap ((i : Int) + 1) = ((i + 1 : Nat) : Int) := wrap_succ (by omega)
    have hw2 : IntKind.i64.wrap (((o ++ [c]).length : Int) - 1) = (o.length : Int) := by
      have : (((o ++ [c]).length : Int) - 1) = (o.length : Int) := by simp
      rw [this]
      exact wrap_nat (by omega)
    have hlt0 : decide ((o.length : Int) < 0) = false := by simp
    have hsp : sp (o ++ [c]) o.length = c := by simp [sp]
    rw [hd, hw, hw2, hlt0, Int.toNat_natCast, Int.toNat_natCast, hx, hsp] at h
    simp only [cond_true, cond_false] at h
    have hmx : ite (b.2 > c.2) b.2 c.2 = (bif decide (c.2 < b.2) then b.2 else c.2) := by by_cases h : c.2 < b.2 <;> simp [h]
    rw [hmx] at h
    have grow : mgS (b :: r) o c = mgS r (o ++ [c]) b → LR Tryd.prog (E5 (GG m t fr)) 60 (GG m t fr) 70 soOuts .normal (theLoop 0 Tryd.f8) ([.own 0, .own 1, int B.length, int ((i + 1 : Nat) : Int)], [.row 44 2 ((o ++ [c]).length + 1) (rowApp (o ++ [c]).length (sRow (o ++ [c])) (rowOf [.lit (.int .u32 b.1), .lit (.int .u32 b.2)] 2)), .row 50 2 B.length (sRow B)]) (soEnd (mgS (b :: r) o c)).1 (soEnd (mgS (b :: r) o c)).2 := fun e => by
      have ih := so_LR B hu hn r (i + 1) (o ++ [c]) b hdr (by simp; omega) (by omega) hb
      rw [← e] at ih
      have le : KLe ([.own 0, .own 1, int B.length, int ((i + 1 : Nat) : Int)], [.row 44 2 ((o ++ [c]).length + 1) (rowApp (o ++ [c]).length (sRow (o ++ [c])) (rowOf [.lit (.int .u32 b.1), .lit (.int .u32 b.2)] 2)), .row 50 2 B.length (sRow B)]) (soIn B (i + 1) ((o ++ [c]) ++ [b])) :=
        ⟨.refl _, BLeL.cons (.row _ _ (by simp) fun j hj => s_snoc (o ++ [c]) b.1 b.2 j hj) (.refl _)⟩
      exact LR.le le ih
    have stay : mgS (b :: r) o c = mgS r o (c.1, bif decide (c.2 < b.2) then b.2 else c.2) → LR Tryd.prog (E5 (GG m t fr)) 60 (GG m t fr) 70 soOuts .normal (theLoop 0 Tryd.f8) ([.own 0, .own 1, int B.length, int ((i + 1 : Nat) : Int)], [.row 44 2 (o ++ [c]).length (rowSet (sRow (o ++ [c])) o.length 1 [.lit (.int .u32 (bif decide (c.2 < b.2) then b.2 else c.2))]), .row 50 2 B.length (sRow B)]) (soEnd (mgS (b :: r) o c)).1 (soEnd (mgS (b :: r) o c)).2 := fun e => by
      have ih := so_LR B hu hn r (i + 1) o (c.1, bif decide (c.2 < b.2) then b.2 else c.2) hdr (by omega) (by omega) (by
        unfold u32B
        cases decide (c.2 < b.2) <;> simp <;> omega)
      rw [← e] at ih
      have le : KLe ([.own 0, .own 1, int B.length, int ((i + 1 : Nat) : Int)], [.row 44 2 (o ++ [c]).length (rowSet (sRow (o ++ [c])) o.length 1 [.lit (.int .u32 (bif decide (c.2 < b.2) then b.2 else c.2))]), .row 50 2 B.length (sRow B)]) (soIn B (i + 1) (o ++ [(c.1, bif decide (c.2 < b.2) then b.2 else c.2)])) :=
        ⟨.refl _, BLeL.cons (.row _ _ (by simp) fun j hj => s_set o c _ j) (.refl _)⟩
      exact LR.le le ih
    cases c1 : bne c.2 4294967295 with
    | false =>
      rw [c1] at h
      exact .more (Tr.run_of h (by simp; omega)) (stay (by rw [mgS, c1]; rfl))
    | true =>
      have hne : c.2 ≠ 4294967295 := by simpa using c1
      have hq : decide (b.1 > IntKind.wrap .u32 (c.2 + 1)) = decide (c.2 + 1 < b.1) := by
        rw [IntKind.wrap_u32, decide_eq_decide]
        omega
      rw [c1, hq] at h
      cases c2 : decide (c.2 + 1 < b.1) with
      | true =>
        rw [c2] at h
        exact .more (Tr.run_of h (by simp; omega)) (grow (by rw [mgS, c1, c2]; rfl))
      | false =>
        rw [c2] at h
        exact .more (Tr.run_of h (by simp; omega)) (stay (by rw [mgS, c1, c2]; rfl))
theorem so_LR0 (B : List Sp) (hu : B.all u32B = true) (hn : B.length ≤ 4294967280) :
    LR Tryd.prog (E5 (GG m t fr)) 60 (GG m t fr) 70 soOuts .normal (theLoop 0 Tryd.f8) (soIn B 0 []) (soEnd (mgZ B)).1 (soEnd (mgZ B)).2 := by
  have h := so_round m t fr [] B 0 B.length B.length 0
  cases hB : B with
  | nil =>
    rw [hB] at h
    have hd : decide ((0 : Int) < (([] : List Sp).length : Int)) = false := by simp
    rw [hd] at h
    exact .last (Tr.run_of h (by simp)) (by simp [mgZ, soEnd]) (by simp [mgZ, soEnd])
  | cons b r =>
    rw [← hB]
    have hl : B.length = r.length + 1 := by rw [hB]; simp
    have hx : sp B 0 = b := by rw [hB]; rfl
    have hb : u32B b = true := by
      rw [hB] at hu
      simp only [List.all_cons, Bool.and_eq_true] at hu
      exact hu.1
    have hd : decide ((0 : Int) < (B.length : Int)) = true := by simp; omega
    have hw : IntKind.i64.wrap ((0 : Int) + 1) = ((1 : Nat) : Int) := rfl
    have hw2 : decide (IntKind.i64.wrap (((0 : Nat) : Int) - 1) < 0) = true := rfl
    rw [hd, hw, hw2, show (0 : Int).toNat = 0 from rfl, hx] at h
    simp only [cond_true] at h
    have e : mgZ B = mgS r [] b := by rw [hB]; rfl
    rw [e]
    have ih := so_LR (m := m) (t := t) (fr := fr) B hu hn r 1 [] b (by rw [hB]; rfl) (by simp) (by omega) hb
    have le : KLe ([.own 0, .own 1, int B.length, int ((1 : Nat) : Int)], [.row 44 2 (0 + 1) (rowApp 0 (sRow []) (rowOf [.lit (.int .u32 b.1), .lit (.int .u32 b.2)] 2)), .row 50 2 B.length (sRow B)]) (soIn B 1 ([] ++ [b])) :=
      ⟨.refl _, BLeL.cons (.row _ _ (by simp) fun j hj => s_snoc [] b.1 b.2 j hj) (.refl _)⟩
    exact .more (Tr.run_of h (by simp; omega)) (.le le ih)
def soF : Kept → Tr (Exit × Kept)
  | ([.own 0, .own 1, .lit (.int .i64 u), .lit (.int .i64 0)], [.row e 2 0 g, .row e' 2 n f]) => match Nat.beq e 44 && Nat.beq e' 50 with
    | true => .br (areSps n f && decide (u = (n : Int)) && Nat.ble n 4294967280) (.leaf (.exit 0, ([.own 0], [.row 44 2 (mgZ (spsOf n f)).length (sRow (mgZ (spsOf n f)))]))) .fail
    | false => .fail
  | _ => .fail
theorem soF_ok (k : Kept) (e : Exit) (y : Kept) (h : (soF k).run = some (e, y)) : LR Tryd.prog (E5 (GG m t fr)) 60 (GG m t fr) 70 soOuts .normal (theLoop 0 Tryd.f8) k e y := by
  unfold soF at h
  split at h
  · rename_i u e0 g e1 n f
    split at h
    · rename_i he
      rw [Bool.and_eq_true] at he
      obtain rfl := Nat.eq_of_beq_eq_true he.1
      obtain rfl := Nat.eq_of_beq_eq_true he.2
      have hb := br_run h
      clear h
      obtain ⟨hc, h⟩ := hb
      simp only [Bool.and_eq_true, decide_eq_true_eq, Nat.ble_eq] at hc
      obtain ⟨⟨hf, rfl⟩, hn⟩ := hc
      simp only [Tr.run, Option.some.injEq, Prod.mk.injEq] at h
      obtain ⟨rfl, rfl⟩ := h
      have hL := sps_len n f
      have key := so_LR0 (m := m) (t := t) (fr := fr) (spsOf n f) (sps_u32 hf) (by omega)
      have hin : KLe ([.own 0, .own 1, int (n : Int), int 0], [.row 44 2 0 g, .row 50 2 n f]) (soIn (spsOf n f) 0 []) := by
        refine ⟨PLeL.cons (.refl _) (PLeL.cons (.refl _) (PLeL.cons (PLe.of_eq ?_) (.refl _))), BLeL.cons (.row _ _ rfl fun j hj => absurd hj (by simp)) (BLeL.cons (.row _ _ hL.symm (sps_row hf)) .nil)⟩
        rw [hL]
      exact .le hin key
    · cases h
  · cases h
noncomputable abbrev soCut (G : GT) := cutOf G 70 soOuts 0 soF
-- from: sort_raw [bs, okS, ls, sp, areSps, spsOf, mgZ, sortS, bandS, sRow] (m : Int) (t : TypeId) (fr : Nat × Nat) (n : Nat) (f : Nat → List PV) (most : Int) : (fnPure Tryd.prog ((E5 (GG m t fr)).withCuts (cut1 0 (soCut (GG m t fr)))) 60 Tryd.f8 (GG m t fr) [.gsl 2 n f, .lit (.int .u32 most)]).run2
theorem sort_raw (m : Int) (t : TypeId) (fr : Nat × Nat) (n : Nat) (f : Nat → List PV) (most : Int) : (fnPure Tryd.prog ((E5 (GG m t fr)).withCuts (cut1 0 (soCut (GG m t fr)))) 60 Tryd.f8 (GG m t fr) [.gsl 2 n f, .lit (.int .u32 most)]).run2 =
    (bif (decide (((n : Nat) : Int) > (1024 : Int))) then
        (.some ((.tup [(.lit (.slice .none 0 0)), (.lit (.int .i64 (1 : Int)))]), []))
      else (.some ((.tup [(.gsl 2 (List.length (mgZ (spsOf (Prod.fst (Prod.snd (Prod.snd ((50 : TypeId), (2, (n, (sRow (List.map (bandS most) (spsOf n f))))))))) (sRow (sortS (spsOf (Prod.fst (Prod.snd (Prod.snd ((50 : TypeId), (2, (n, (sRow (List.map (bandS most) (spsOf n f))))))))) (Prod.snd (Prod.snd (Prod.snd ((50 : TypeId), (2, (n, (sRow (List.map (bandS most) (spsOf n f))))))))))))))) (sRow (mgZ (spsOf (Prod.fst (Prod.snd (Prod.snd ((50 : TypeId), (2, (n, (sRow (List.map (bandS most) (spsOf n f))))))))) (sRow (sortS (spsOf (Prod.fst (Prod.snd (Prod.snd ((50 : TypeId), (2, (n, (sRow (List.map (bandS most) (spsOf n f))))))))) (Prod.snd (Prod.snd (Prod.snd ((50 : TypeId), (2, (n, (sRow (List.map (bandS most) (spsOf n f)))))))))))))))), (.lit (.int .i64 (0 : Int)))]), [(((areSps (Prod.fst (Prod.snd (Prod.snd ((50 : TypeId), (2, (n, (sRow (List.map (bandS most) (spsOf n f))))))))) (sRow (sortS (spsOf (Prod.fst (Prod.snd (Prod.snd ((50 : TypeId), (2, (n, (sRow (List.map (bandS most) (spsOf n f))))))))) (Prod.snd (Prod.snd (Prod.snd ((50 : TypeId), (2, (n, (sRow (List.map (bandS most) (spsOf n f))))))))))))) && (decide ((((Prod.fst (Prod.snd (Prod.snd ((50 : TypeId), (2, (n, (sRow (List.map (bandS most) (spsOf n f))))))))) : Nat) : Int) = (((Prod.fst (Prod.snd (Prod.snd ((50 : TypeId), (2, (n, (sRow (List.map (bandS most) (spsOf n f))))))))) : Nat) : Int)))) && (Nat.ble (Prod.fst (Prod.snd (Prod.snd ((50 : TypeId), (2, (n, (sRow (List.map (bandS most) (spsOf n f))))))))) (4294967280 : Nat))), ((areSps (Prod.fst (Prod.snd (Prod.snd ((50 : TypeId), (2, (n, (sRow (List.map (bandS most) (spsOf n f))))))))) (Prod.snd (Prod.snd (Prod.snd ((50 : TypeId), (2, (n, (sRow (List.map (bandS most) (spsOf n f)))))))))) && (Nat.ble (Prod.fst (Prod.snd (Prod.snd ((50 : TypeId), (2, (n, (sRow (List.map (bandS most) (spsOf n f))))))))) (4294967280 : Nat))), ((areSps n f) && (Nat.ble n (4294967280 : Nat)))])) : Option (PV × List Bool)) := by
  kernel_rfl
end
end Go.Proofs.YtbpmfaghjlmjmaaDoor.Ev
