/- JTopTallied14: several texts in one. Condition: each part's own. -/
import Derived.Test.YtcdghinmmhcfcaaGreatDoorJTopTallied13
import Derived.Test.YtcdghinmmhcfcaaGreatDoorJTopTallied07
/- nset: Sort. No condition. -/
namespace Go.Proofs.YtcdghinmmhcfcaaGreatDoor.Ev
open Go Go.RowKit Go.Proofs Go.Proofs.YtcdghinmmhcfcaaGreatDoor.Str
set_option linter.unusedVariables false
set_option linter.unusedSimpArgs false
section
variable {m : Int} {t : TypeId} {fr : Nat × Nat}
def soOuts : Exit → Outs
  | .normal => { ks := [7, 19, 20, 21], rs := [.slot 7, .slot 19], nils := [(7, 83, 2)] }
  | .exit _ => { ks := [7], rs := [.slot 7], nils := [(7, 83, 2)] }
  | _ => { ks := [] }
noncomputable abbrev soRound (G : GT) := roundT Tryz.prog (E5 G) 60 G 70 soOuts .normal (theLoop 0 Tryz.f49)
theorem so_round (m : Int) (t : TypeId) (fr : Nat × Nat) (o B : List Sp) (k n : Nat) (u i : Int) : (soRound (GG m t fr) ([.own 0, .own 1, int u, int i], [.row 83 2 k (sRow o), .row 125 2 n (sRow B)])).run2 =
 (bif (decide (i < u)) then
 bif (decide ((IntKind.wrap .i64 (((k : Nat) : Int) - (1 : Int))) < (0 : Int))) then
 (.some ((.normal, ([(.own 0), (.own 1), (.lit (.int .i64 u)), (.lit (.int .i64 (IntKind.wrap .i64 (i + (1 : Int)))))], [(.row 83 2 (k + 1) (rowApp k (sRow o) (rowOf [(.lit (.int .u32 (Prod.fst (sp B (Int.toNat i))))), (.lit (.int .u32 (Prod.snd (sp B (Int.toNat i)))))] 2))), (.row 125 2 n (sRow B))])), [(Nat.ble ((k + 1) * 8) (140737488355328 : Nat)), true, true, true, true, true, true, (Nat.blt (Int.toNat i) n), ((decide ((0 : Int) ≤ i)) && (Nat.blt (Int.toNat i) n))]))
 else bif (bne (Prod.snd (sp o (Int.toNat (IntKind.wrap .i64 (((k : Nat) : Int) - (1 : Int)))))) (4294967295 : Int)) then
 bif (decide ((Prod.fst (sp B (Int.toNat i))) > (IntKind.wrap .u32 ((Prod.snd (sp o (Int.toNat (IntKind.wrap .i64 (((k : Nat) : Int) - (1 : Int)))))) + (1 : Int))))) then
 (.some ((.normal, ([(.own 0), (.own 1), (.lit (.int .i64 u)), (.lit (.int .i64 (IntKind.wrap .i64 (i + (1 : Int)))))], [(.row 83 2 (k + 1) (rowApp k (sRow o) (rowOf [(.lit (.int .u32 (Prod.fst (sp B (Int.toNat i))))), (.lit (.int .u32 (Prod.snd (sp B (Int.toNat i)))))] 2))), (.row 125 2 n (sRow B))])), [(Nat.ble ((k + 1) * 8) (140737488355328 : Nat)), (Nat.blt (Int.toNat (IntKind.wrap .i64 (((k : Nat) : Int) - (1 : Int)))) k), ((decide ((0 : Int) ≤ (IntKind.wrap .i64 (((k : Nat) : Int) - (1 : Int))))) && (Nat.blt (Int.toNat (IntKind.wrap .i64 (((k : Nat) : Int) - (1 : Int)))) k)), (Nat.blt (Int.toNat (IntKind.wrap .i64 (((k : Nat) : Int) - (1 : Int)))) k), ((decide ((0 : Int) ≤ (IntKind.wrap .i64 (((k : Nat) : Int) - (1 : Int))))) && (Nat.blt (Int.toNat (IntKind.wrap .i64 (((k : Nat) : Int) - (1 : Int)))) k)), (Nat.blt (Int.toNat i) n), ((decide ((0 : Int) ≤ i)) && (Nat.blt (Int.toNat i) n))]))
 else (.some ((.normal, ([(.own 0), (.own 1), (.lit (.int .i64 u)), (.lit (.int .i64 (IntKind.wrap .i64 (i + (1 : Int)))))], [(.row 83 2 k (rowSet (sRow o) (Int.toNat (IntKind.wrap .i64 (((k : Nat) : Int) - (1 : Int)))) 1 [(.lit (.int .u32 (ite ((Prod.snd (sp B (Int.toNat i))) > (Prod.snd (sp o (Int.toNat (IntKind.wrap .i64 (((k : Nat) : Int) - (1 : Int))))))) (Prod.snd (sp B (Int.toNat i))) (Prod.snd (sp o (Int.toNat (IntKind.wrap .i64 (((k : Nat) : Int) - (1 : Int)))))))))])), (.row 125 2 n (sRow B))])), [(Nat.blt (Int.toNat (IntKind.wrap .i64 (((k : Nat) : Int) - (1 : Int)))) k), ((decide ((0 : Int) ≤ (IntKind.wrap .i64 (((k : Nat) : Int) - (1 : Int))))) && (Nat.blt (Int.toNat (IntKind.wrap .i64 (((k : Nat) : Int) - (1 : Int)))) k)), (Nat.blt (Int.toNat (IntKind.wrap .i64 (((k : Nat) : Int) - (1 : Int)))) k), ((decide ((0 : Int) ≤ (IntKind.wrap .i64 (((k : Nat) : Int) - (1 : Int))))) && (Nat.blt (Int.toNat (IntKind.wrap .i64 (((k : Nat) : Int) - (1 : Int)))) k)), (Nat.blt (Int.toNat (IntKind.wrap .i64 (((k : Nat) : Int) - (1 : Int)))) k), ((decide ((0 : Int) ≤ (IntKind.wrap .i64 (((k : Nat) : Int) - (1 : Int))))) && (Nat.blt (Int.toNat (IntKind.wrap .i64 (((k : Nat) : Int) - (1 : Int)))) k)), (Nat.blt (Int.toNat (IntKind.wrap .i64 (((k : Nat) : Int) - (1 : Int)))) k), ((decide ((0 : Int) ≤ (IntKind.wrap .i64 (((k : Nat) : Int) - (1 : Int))))) && (Nat.blt (Int.toNat (IntKind.wrap .i64 (((k : Nat) : Int) - (1 : Int)))) k)), (Nat.blt (Int.toNat i) n), ((decide ((0 : Int) ≤ i)) && (Nat.blt (Int.toNat i) n))]))
 else (.some ((.normal, ([(.own 0), (.own 1), (.lit (.int .i64 u)), (.lit (.int .i64 (IntKind.wrap .i64 (i + (1 : Int)))))], [(.row 83 2 k (rowSet (sRow o) (Int.toNat (IntKind.wrap .i64 (((k : Nat) : Int) - (1 : Int)))) 1 [(.lit (.int .u32 (ite ((Prod.snd (sp B (Int.toNat i))) > (Prod.snd (sp o (Int.toNat (IntKind.wrap .i64 (((k : Nat) : Int) - (1 : Int))))))) (Prod.snd (sp B (Int.toNat i))) (Prod.snd (sp o (Int.toNat (IntKind.wrap .i64 (((k : Nat) : Int) - (1 : Int)))))))))])), (.row 125 2 n (sRow B))])), [(Nat.blt (Int.toNat (IntKind.wrap .i64 (((k : Nat) : Int) - (1 : Int)))) k), ((decide ((0 : Int) ≤ (IntKind.wrap .i64 (((k : Nat) : Int) - (1 : Int))))) && (Nat.blt (Int.toNat (IntKind.wrap .i64 (((k : Nat) : Int) - (1 : Int)))) k)), (Nat.blt (Int.toNat (IntKind.wrap .i64 (((k : Nat) : Int) - (1 : Int)))) k), ((decide ((0 : Int) ≤ (IntKind.wrap .i64 (((k : Nat) : Int) - (1 : Int))))) && (Nat.blt (Int.toNat (IntKind.wrap .i64 (((k : Nat) : Int) - (1 : Int)))) k)), (Nat.blt (Int.toNat (IntKind.wrap .i64 (((k : Nat) : Int) - (1 : Int)))) k), ((decide ((0 : Int) ≤ (IntKind.wrap .i64 (((k : Nat) : Int) - (1 : Int))))) && (Nat.blt (Int.toNat (IntKind.wrap .i64 (((k : Nat) : Int) - (1 : Int)))) k)), (Nat.blt (Int.toNat i) n), ((decide ((0 : Int) ≤ i)) && (Nat.blt (Int.toNat i) n))]))
 else (.some (((.exit 0), ([(.own 0)], [(.row 83 2 k (sRow o))])), [])) : Option ((Exit × Kept) × List Bool)) := by
  kernel_rfl
def soIn (B : List Sp) (i : Nat) (o : List Sp) : Kept := ([.own 0, .own 1, int B.length, int i], [.row 83 2 o.length (sRow o), .row 125 2 B.length (sRow B)])
def soEnd (q : List Sp) : Exit × Kept := (.exit 0, ([.own 0], [.row 83 2 q.length (sRow q)]))
theorem so_LR (B : List Sp) (hu : B.all u32B = true) (hn : B.length ≤ 4294967280) : ∀ (r : List Sp) (i : Nat) (o : List Sp) (c : Sp), B.drop i = r → o.length < i → i ≤ B.length → u32B c = true →
    LR Tryz.prog (E5 (GG m t fr)) 60 (GG m t fr) 70 soOuts .normal (theLoop 0 Tryz.f49) (soIn B i (o ++ [c])) (soEnd (mgS r o c)).1 (soEnd (mgS r o c)).2
  | [], i, o, c, hr, ho, hi, hc => by
    have h := so_round m t fr (o ++ [c]) B (o ++ [c]).length B.length B.length i
    have hlen := List.drop_eq_nil_iff.1 hr
    have hd : decide ((i : Int) < (B.length : Int)) = false := by simp; omega
    rw [hd] at h
    exact .last (Tr.run_of h (by simp)) (by simp [soEnd]) (by simp [soEnd])
  | b :: r, i, o, c, hr, ho, hi, hc => by
    have h := so_round m t fr (o ++ [c]) B (o ++ [c]).length B.length B.length i
    obtain ⟨hlt, hx, hdr⟩ := sp_drop hr
    have hb : u32B b = true := by
      have := List.all_eq_true.1 hu B[i] (List.getElem_mem hlt)
      have e : B[i] = b := by rw [← hx]; simp [sp, hlt]
      rwa [e] at this
    have hb' := hb
    have hc' := hc
    unfold u32B at hb' hc'
    simp only [Bool.and_eq_true, decide_eq_true_eq] at hb' hc'
    have hd : decide ((i : Int) < (B.length : Int)) = true := by simp; omega
    have hw : IntKind.i64.wrap ((i : Int) + 1) = ((i + 1 : Nat) : Int) := wrap_succ (by omega)
    have hw2 : IntKind.i64.wrap (((o ++ [c]).length : Int) - 1) = (o.length : Int) := by
      have : (((o ++ [c]).length : Int) - 1) = (o.length : Int) := by simp
      rw [this]
      exact wrap_nat (by omega)
    have hlt0 : decide ((o.length : Int) < 0) = false := by simp
    have hsp : sp (o ++ [c]) o.length = c := by simp [sp]
    rw [hd, hw, hw2, hlt0, Int.toNat_natCast, Int.toNat_natCast, hx, hsp] at h
    simp only [cond_true, cond_false] at h
    have hmx : ite (b.2 > c.2) b.2 c.2 = (bif decide (c.2 < b.2) then b.2 else c.2) := by by_cases h : c.2 < b.2 <;> simp [h]
    rw [hmx] at h
    have grow : mgS (b :: r) o c = mgS r (o ++ [c]) b → LR Tryz.prog (E5 (GG m t fr)) 60 (GG m t fr) 70 soOuts .normal (theLoop 0 Tryz.f49) ([.own 0, .own 1, int B.length, int ((i + 1 : Nat) : Int)], [.row 83 2 ((o ++ [c]).length + 1) (rowApp (o ++ [c]).length (sRow (o ++ [c])) (rowOf [.lit (.int .u32 b.1), .lit (.int .u32 b.2)] 2)), .row 125 2 B.length (sRow B)]) (soEnd (mgS (b :: r) o c)).1 (soEnd (mgS (b :: r) o c)).2 := fun e => by
      have ih := so_LR B hu hn r (i + 1) (o ++ [c]) b hdr (by simp; omega) (by omega) hb
      rw [← e] at ih
      have le : KLe ([.own 0, .own 1, int B.length, int ((i + 1 : Nat) : Int)], [.row 83 2 ((o ++ [c]).length + 1) (rowApp (o ++ [c]).length (sRow (o ++ [c])) (rowOf [.lit (.int .u32 b.1), .lit (.int .u32 b.2)] 2)), .row 125 2 B.length (sRow B)]) (soIn B (i + 1) ((o ++ [c]) ++ [b])) :=
        ⟨.refl _, BLeL.cons (.row _ _ (by simp) fun j hj => s_snoc (o ++ [c]) b.1 b.2 j hj) (.refl _)⟩
      exact LR.le le ih
    have stay : mgS (b :: r) o c = mgS r o (c.1, bif decide (c.2 < b.2) then b.2 else c.2) → LR Tryz.prog (E5 (GG m t fr)) 60 (GG m t fr) 70 soOuts .normal (theLoop 0 Tryz.f49) ([.own 0, .own 1, int B.length, int ((i + 1 : Nat) : Int)], [.row 83 2 (o ++ [c]).length (rowSet (sRow (o ++ [c])) o.length 1 [.lit (.int .u32 (bif decide (c.2 < b.2) then b.2 else c.2))]), .row 125 2 B.length (sRow B)]) (soEnd (mgS (b :: r) o c)).1 (soEnd (mgS (b :: r) o c)).2 := fun e => by
      have ih := so_LR B hu hn r (i + 1) o (c.1, bif decide (c.2 < b.2) then b.2 else c.2) hdr (by omega) (by omega) (by
        unfold u32B
        cases decide (c.2 < b.2) <;> simp <;> omega)
      rw [← e] at ih
      have le : KLe ([.own 0, .own 1, int B.length, int ((i + 1 : Nat) : Int)], [.row 83 2 (o ++ [c]).length (rowSet (sRow (o ++ [c])) o.length 1 [.lit (.int .u32 (bif decide (c.2 < b.2) then b.2 else c.2))]), .row 125 2 B.length (sRow B)]) (soIn B (i + 1) (o ++ [(c.1, bif decide (c.2 < b.2) then b.2 else c.2)])) :=
        ⟨.refl _, BLeL.cons (.row _ _ (by simp) fun j hj => s_set o c _ j) (.refl _)⟩
      exact LR.le le ih
    cases c1 : bne c.2 4294967295 with
    | false =>
      rw [c1] at h
      exact .more (Tr.run_of h (by simp; omega)) (stay (by rw [mgS, c1]; rfl))
    | true =>
      have hne : c.2 ≠ 4294967295 := by simpa using c1
      have hq : decide (b.1 > IntKind.wrap .u32 (c.2 + 1)) = decide (c.2 + 1 < b.1) := by
        rw [IntKind.wrap_u32, decide_eq_decide]
        omega
      rw [c1, hq] at h
      cases c2 : decide (c.2 + 1 < b.1) with
      | true =>
        rw [c2] at h
        exact .more (Tr.run_of h (by simp; omega)) (grow (by rw [mgS, c1, c2]; rfl))
      | false =>
        rw [c2] at h
        exact .more (Tr.run_of h (by simp; omega)) (stay (by rw [mgS, c1, c2]; rfl))
theorem so_LR0 (B : List Sp) (hu : B.all u32B = true) (hn : B.length ≤ 4294967280) :
    LR Tryz.prog (E5 (GG m t fr)) 60 (GG m t fr) 70 soOuts .normal (theLoop 0 Tryz.f49) (soIn B 0 []) (soEnd (mgZ B)).1 (soEnd (mgZ B)).2 := by
  have h := so_round m t fr [] B 0 B.length B.length 0
  cases hB : B with
  | nil =>
    rw [hB] at h
    have hd : decide ((0 : Int) < (([] : List Sp).length : Int)) = false := by simp
    rw [hd] at h
    exact .last (Tr.run_of h (by simp)) (by simp [mgZ, soEnd]) (by simp [mgZ, soEnd])
  | cons b r =>
    rw [← hB]
    have hl : B.length = r.length + 1 := by rw [hB]; simp
    have hx : sp B 0 = b := by rw [hB]; rfl
    have hb : u32B b = true := by
      rw [hB] at hu
      simp only [List.all_cons, Bool.and_eq_true] at hu
      exact hu.1
    have hd : decide ((0 : Int) < (B.length : Int)) = true := by simp; omega
    have hw : IntKind.i64.wrap ((0 : Int) + 1) = ((1 : Nat) : Int) := rfl
    have hw2 : decide (IntKind.i64.wrap (((0 : Nat) : Int) - 1) < 0) = true := rfl
    rw [hd, hw, hw2, show (0 : Int).toNat = 0 from rfl, hx] at h
    simp only [cond_true] at h
    have e : mgZ B = mgS r [] b := by rw [hB]; rfl
    rw [e]
    have ih := so_LR (m := m) (t := t) (fr := fr) B hu hn r 1 [] b (by rw [hB]; rfl) (by simp) (by omega) hb
    have le : KLe ([.own 0, .own 1, int B.length, int ((1 : Nat) : Int)], [.row 83 2 (0 + 1) (rowApp 0 (sRow []) (rowOf [.lit (.int .u32 b.1), .lit (.int .u32 b.2)] 2)), .row 125 2 B.length (sRow B)]) (soIn B 1 ([] ++ [b])) :=
      ⟨.refl _, BLeL.cons (.row _ _ (by simp) fun j hj => s_snoc [] b.1 b.2 j hj) (.refl _)⟩
    exact .more (Tr.run_of h (by simp; omega)) (.le le ih)
def soF : Kept → Tr (Exit × Kept)
  | ([.own 0, .own 1, .lit (.int .i64 u), .lit (.int .i64 0)], [.row e 2 0 g, .row e' 2 n f]) => match Nat.beq e 83 && Nat.beq e' 125 with
    | true => .br (areSps n f && decide (u = (n : Int)) && Nat.ble n 4294967280) (.leaf (.exit 0, ([.own 0], [.row 83 2 (mgZ (spsOf n f)).length (sRow (mgZ (spsOf n f)))]))) .fail
    | false => .fail
  | _ => .fail
theorem soF_ok (k : Kept) (e : Exit) (y : Kept) (h : (soF k).run = some (e, y)) : LR Tryz.prog (E5 (GG m t fr)) 60 (GG m t fr) 70 soOuts .normal (theLoop 0 Tryz.f49) k e y := by
  unfold soF at h
  split at h
  · rename_i u e0 g e1 n f
    split at h
    · rename_i he
      rw [Bool.and_eq_true] at he
      obtain rfl := Nat.eq_of_beq_eq_true he.1
      obtain rfl := Nat.eq_of_beq_eq_true he.2
      have hb := br_run h
      clear h
      obtain ⟨hc, h⟩ := hb
      simp only [Bool.and_eq_true, decide_eq_true_eq, Nat.ble_eq] at hc
      obtain ⟨⟨hf, rfl⟩, hn⟩ := hc
      simp only [Tr.run, Option.some.injEq, Prod.mk.injEq] at h
      obtain ⟨rfl, rfl⟩ := h
      have hL := sps_len n f
      have key := so_LR0 (m := m) (t := t) (fr := fr) (spsOf n f) (sps_u32 hf) (by omega)
      have hin : KLe ([.own 0, .own 1, int (n : Int), int 0], [.row 83 2 0 g, .row 125 2 n f]) (soIn (spsOf n f) 0 []) := by
        refine ⟨PLeL.cons (.refl _) (PLeL.cons (.refl _) (PLeL.cons (PLe.of_eq ?_) (.refl _))), BLeL.cons (.row _ _ rfl fun j hj => absurd hj (by simp)) (BLeL.cons (.row _ _ hL.symm (sps_row hf)) .nil)⟩
        rw [hL]
      exact .le hin key
    · cases h
  · cases h
noncomputable abbrev soCut (G : GT) := cutOf G 70 soOuts 0 soF
theorem sort_raw (m : Int) (t : TypeId) (fr : Nat × Nat) (n : Nat) (f : Nat → List PV) (most : Int) : (fnPure Tryz.prog ((E5 (GG m t fr)).withCuts (cut1 0 (soCut (GG m t fr)))) 60 Tryz.f49 (GG m t fr) [.gsl 2 n f, .lit (.int .u32 most)]).run2 =
 (bif (decide (((n : Nat) : Int) > (1024 : Int))) then
 (.some ((.tup [(.lit (.slice .none 0 0)), (.lit (.int .i64 (1 : Int)))]), []))
 else (.some ((.tup [(.gsl 2 (List.length (mgZ (spsOf (Prod.fst (Prod.snd (Prod.snd (125, (2, (n, (sRow (List.map (bandS most) (spsOf n f))))))))) (sRow (sortS (spsOf (Prod.fst (Prod.snd (Prod.snd (125, (2, (n, (sRow (List.map (bandS most) (spsOf n f))))))))) (Prod.snd (Prod.snd (Prod.snd (125, (2, (n, (sRow (List.map (bandS most) (spsOf n f))))))))))))))) (sRow (mgZ (spsOf (Prod.fst (Prod.snd (Prod.snd (125, (2, (n, (sRow (List.map (bandS most) (spsOf n f))))))))) (sRow (sortS (spsOf (Prod.fst (Prod.snd (Prod.snd (125, (2, (n, (sRow (List.map (bandS most) (spsOf n f))))))))) (Prod.snd (Prod.snd (Prod.snd (125, (2, (n, (sRow (List.map (bandS most) (spsOf n f)))))))))))))))), (.lit (.int .i64 (0 : Int)))]), [(((areSps (Prod.fst (Prod.snd (Prod.snd (125, (2, (n, (sRow (List.map (bandS most) (spsOf n f))))))))) (sRow (sortS (spsOf (Prod.fst (Prod.snd (Prod.snd (125, (2, (n, (sRow (List.map (bandS most) (spsOf n f))))))))) (Prod.snd (Prod.snd (Prod.snd (125, (2, (n, (sRow (List.map (bandS most) (spsOf n f))))))))))))) && (decide ((((Prod.fst (Prod.snd (Prod.snd (125, (2, (n, (sRow (List.map (bandS most) (spsOf n f))))))))) : Nat) : Int) = (((Prod.fst (Prod.snd (Prod.snd (125, (2, (n, (sRow (List.map (bandS most) (spsOf n f))))))))) : Nat) : Int)))) && (Nat.ble (Prod.fst (Prod.snd (Prod.snd (125, (2, (n, (sRow (List.map (bandS most) (spsOf n f))))))))) (4294967280 : Nat))), ((areSps (Prod.fst (Prod.snd (Prod.snd (125, (2, (n, (sRow (List.map (bandS most) (spsOf n f))))))))) (Prod.snd (Prod.snd (Prod.snd (125, (2, (n, (sRow (List.map (bandS most) (spsOf n f)))))))))) && (Nat.ble (Prod.fst (Prod.snd (Prod.snd (125, (2, (n, (sRow (List.map (bandS most) (spsOf n f))))))))) (4294967280 : Nat))), ((areSps n f) && (Nat.ble n (4294967280 : Nat)))])) : Option (PV × List Bool)) := by
  kernel_rfl
end
end Go.Proofs.YtcdghinmmhcfcaaGreatDoor.Ev

/- nset: Sort as a contract; the document's Has. No condition. -/
namespace Go.Proofs.YtcdghinmmhcfcaaGreatDoor.Ev
open Go Go.RowKit Go.Proofs Go.Proofs.YtcdghinmmhcfcaaGreatDoor.Str
set_option linter.unusedVariables false
set_option linter.unusedSimpArgs false
section
variable {m : Int} {t : TypeId} {fr : Nat × Nat}
def srtR (most : Int) (l : List Sp) : List Sp := bif Nat.blt 1024 l.length then [] else mgZ (sortS (l.map (bandS most)))
def srtE (l : List Sp) : Int := bif Nat.blt 1024 l.length then 1 else 0
def srtG : List PV → Tr PV
  | [.gsl 2 n f, .lit (.int .u32 most)] => .br (areSps n f && Nat.ble n 4294967280 && u32N most) (.leaf (.tup [.gsl 2 (srtR most (spsOf n f)).length (sRow (srtR most (spsOf n f))), int (srtE (spsOf n f))])) .fail
  | _ => .fail
theorem sortS_u32 {l : List Sp} (h : l.all u32B = true) : (sortS l).all u32B = true := by
  rw [List.all_eq_true] at h ⊢
  intro x hx
  exact h x ((sortS_perm l).subset hx)
theorem srt_ok : PureOK Tryz.prog (GG m t fr) 49 srtG := by
  refine PureOK.of (fn_cuts mixed E5_ok (fn := Tryz.f49) (cuts := cut1 0 (soCut (GG m t fr))) (by kernel_rfl) (CutLaws.one (by omega) (by kernel_rfl) fun st e st' h => cutOf_ok E5_ok mixed (noCuts_ok (envOf_cuts ..) _) soF_ok h)) fun ps p hp => ?_
  unfold srtG at hp
  split at hp
  · rename_i n f most
    obtain ⟨hc, hp⟩ := br_run hp
    simp only [Bool.and_eq_true] at hc
    obtain ⟨⟨hf, hn⟩, hm⟩ := hc
    unfold u32N at hm
    simp only [Bool.and_eq_true, decide_eq_true_eq] at hm
    simp only [Tr.run, Option.some.injEq] at hp
    subst hp
    have h := sort_raw m t fr n f most
    dsimp only at h
    have hl := sps_len n f
    have hL : ((spsOf n f).map (bandS most)).length = n := by rw [List.length_map, sps_len]
    have hu := bands_u32 hm (sps_u32 hf)
    have e1 : spsOf n (sRow ((spsOf n f).map (bandS most))) = (spsOf n f).map (bandS most) := by
      have := sps_sRow ((spsOf n f).map (bandS most))
      rwa [hL] at this
    have e2 : areSps n (sRow ((spsOf n f).map (bandS most))) = true := by
      have := are_sRow hu
      rwa [hL] at this
    have hS : (sortS ((spsOf n f).map (bandS most))).length = n := by rw [sortS_len, hL]
    have e3 : spsOf n (sRow (sortS ((spsOf n f).map (bandS most)))) = sortS ((spsOf n f).map (bandS most)) := by
      have := sps_sRow (sortS ((spsOf n f).map (bandS most)))
      rwa [hS] at this
    have e4 : areSps n (sRow (sortS ((spsOf n f).map (bandS most)))) = true := by
      have := are_sRow (sortS_u32 hu)
      rwa [hS] at this
    rw [e1, e3, e2, e4, hn, hf] at h
    unfold srtR srtE
    rw [hl]
    cases c : Nat.blt 1024 n with
    | true =>
      have hd : decide ((n : Int) > 1024) = true := by rw [Nat.blt_eq] at c; simp; omega
      rw [hd] at h
      exact ⟨_, Tr.run_of h (by simp), PLe.tup (PLeL.cons (PLe.nil _ _) (.refl _))⟩
    | false =>
      have hd : decide ((n : Int) > 1024) = false := by
        rw [Bool.eq_false_iff, ne_eq, Nat.blt_eq] at c
        simp
        omega
      rw [hd] at h
      exact ⟨_, Tr.run_of h (by simp), PLe.of_eq rfl⟩
  · cases hp
/-! ### the document's Has -/
def endsG : List PV → Tr PV
  | [.agg [.lit (.int .u32 a), .lit (.int .u32 b)], .lit (.int .u32 most)] => .leaf (.tup [.lit (.int .u32 (bandS most (a, b)).1), .lit (.int .u32 (bandS most (a, b)).2)])
  | _ => .fail
theorem eS_zero (most : Int) : eS most 0 = most := by
  unfold eS
  cases h : bne most 0 with
  | true => simp
  | false =>
    have : most = 0 := by simpa using h
    subst this
    rfl
theorem eS_pos {most a : Int} (h : a ≠ 0) : eS most a = a := by
  unfold eS
  have : bne a 0 = true := by simpa using h
  rw [this]
  rfl
def enPure : List (Nat × (List PV → Tr PV)) := (49, srtG) :: hsPure
theorem enPure_ok {m : Int} {t : TypeId} {fr : Nat × Nat} : TabOK Tryz.prog (GG m t fr) enPure := (TabOK.cons srt_ok (fn := Tryz.f49) (by kernel_rfl) (by kernel_rfl) hsPure_ok)
noncomputable abbrev E8 (G : GT) : Env := envOf Tryz.prog G enPure nbFull
theorem E8_ok : (E8 (GG m t fr)).ok Tryz.prog (GG m t fr) := envOf_ok mixed enPure_ok nbFull_ok
def rhOuts : Exit → Outs
  | .normal => { ks := [1, 2, 11, 12, 13] }
  | .exit _ => { ks := [] }
  | _ => { ks := [6] }
def nsOuts : Exit → Outs
  | .normal => { ks := [0, 1, 2, 7, 26, 27, 28] }
  | .exit _ => { ks := [0, 1, 2, 7] }
  | _ => { ks := [6] }
def rhEnd (most x : Int) (r : List Sp) : Exit × Kept := bif hasS most x r then (.ret, ([bool true], [])) else (.exit 0, ([], []))
def rhIn (l : List Sp) (most x : Int) (i : Nat) : Kept := ([.lit (.int .u32 most), .lit (.int .u32 x), .gsl 2 l.length (sRow l), int l.length, int i], [])
theorem hasS_cons (most x : Int) (b : Sp) (r : List Sp) : hasS most x (b :: r) = (withinB x (bandS most b) || hasS most x r) := rfl
def rhF : Kept → Tr (Exit × Kept)
  | ([.lit (.int .u32 most), .lit (.int .u32 x), .gsl 2 n f, .lit (.int .i64 u), .lit (.int .i64 0)], []) => .br (areSps n f && decide (u = (n : Int)) && Nat.ble n 4294967280) (.br (hasS most x (spsOf n f)) (.leaf (.ret, ([bool true], []))) (.leaf (.exit 0, ([], [])))) .fail
  | _ => .fail
noncomputable abbrev rhCut (G : GT) := cutOf G 32 rhOuts 0 rhF
/-! ### the law's own loop: spans that rise go through it -/
def nsIn (n0 : Nat) (f0 : Nat → List PV) (most x : Int) (l : List Sp) (i : Nat) : Kept := ([.gsl 2 n0 f0, .lit (.int .u32 most), .lit (.int .u32 x), .gsl 2 l.length (sRow l), .gsl 2 l.length (sRow l), int l.length, int i], [])
def nsEnd (n0 : Nat) (f0 : Nat → List PV) (most x : Int) (l : List Sp) : Kept := ([.gsl 2 n0 f0, .lit (.int .u32 most), .lit (.int .u32 x), .gsl 2 l.length (sRow l)], [])
def nsF : Kept → Tr (Exit × Kept)
  | ([.gsl 2 n0 f0, .lit (.int .u32 most), .lit (.int .u32 x), .gsl 2 n f, .gsl 2 n' f', .lit (.int .i64 u), .lit (.int .i64 0)], []) => .br (areSps n f && (areSps n' f' && decide (n = n') && decide (spsOf n f = spsOf n' f')) && decide (u = (n : Int)) && Nat.ble n 4294967280 && okM none (spsOf n f))
      (.leaf (.exit 0, ([.gsl 2 n0 f0, .lit (.int .u32 most), .lit (.int .u32 x), .gsl 2 n (sRow (spsOf n f))], []))) .fail
  | _ => .fail
noncomputable abbrev nsCut (G : GT) := cutOf G 112 nsOuts 0 nsF
end
end Go.Proofs.YtcdghinmmhcfcaaGreatDoor.Ev

/- NsetSame, a law. No condition. -/
namespace Go.Proofs.YtcdghinmmhcfcaaGreatDoor.Ev
open Go Go.RowKit Go.Proofs Go.Proofs.YtcdghinmmhcfcaaGreatDoor.Str
set_option linter.unusedVariables false
set_option linter.unusedSimpArgs false
section
variable {m : Int} {t : TypeId} {fr : Nat × Nat}
def rhasG : List PV → Tr PV
  | [.gsl 2 n f, .lit (.int .u32 most), .lit (.int .u32 x)] => .br (areSps n f && Nat.ble n 4294967280) (.leaf (bool (hasS most x (spsOf n f)))) .fail
  | _ => .fail
def rsPure : List (Nat × (List PV → Tr PV)) := enPure
theorem rsPure_ok {m : Int} {t : TypeId} {fr : Nat × Nat} : TabOK Tryz.prog (GG m t fr) rsPure := enPure_ok
noncomputable abbrev E9 (G : GT) : Env := envOf Tryz.prog G rsPure nbFull
theorem E9_ok : (E9 (GG m t fr)).ok Tryz.prog (GG m t fr) := envOf_ok mixed rsPure_ok nbFull_ok
end
end Go.Proofs.YtcdghinmmhcfcaaGreatDoor.Ev

/- NsetSame as a contract. No condition. -/
namespace Go.Proofs.YtcdghinmmhcfcaaGreatDoor.Ev
open Go Go.RowKit Go.Proofs Go.Proofs.YtcdghinmmhcfcaaGreatDoor.Str
set_option linter.unusedVariables false
set_option linter.unusedSimpArgs false
def lowB (a : Int) (y : Sp) : Prop := a ≤ y.1 ∧ fine y
theorem mgS_all (a : Int) : ∀ (r o : List Sp) (c : Sp), (∀ y ∈ r, lowB a y) → lowB a c → (∀ y ∈ o, lowB a y) → ∀ y ∈ mgS r o c, lowB a y
  | [], o, c, _, hc, ho, y, hy => by
    rw [mgS, List.mem_append] at hy
    rcases hy with h | h
    · exact ho y h
    · have : y = c := by simpa using h
      rw [this]
      exact hc
  | b :: r, o, c, hr, hc, ho, y, hy => by
    have hb := hr b (by simp)
    have hr' : ∀ y ∈ r, lowB a y := fun y hy => hr y (by simp [hy])
    rw [mgS] at hy
    cases ht : bne c.2 4294967295 && decide (c.2 + 1 < b.1) with
    | true =>
      rw [ht] at hy
      refine mgS_all a r (o ++ [c]) b hr' hb (fun z hz => ?_) y hy
      rw [List.mem_append] at hz
      rcases hz with h | h
      · exact ho z h
      · have : z = c := by simpa using h
        rw [this]
        exact hc
    | false =>
      rw [ht] at hy
      refine mgS_all a r o _ hr' ?_ ho y hy
      unfold lowB fine at *
      cases hd : decide (c.2 < b.2) with
      | true =>
        have := of_decide_eq_true hd
        simp only [cond_true]
        omega
      | false =>
        simp only [cond_false]
        exact hc
theorem mgS_head : ∀ (r o : List Sp) (c : Sp), (sp (mgS r o c) 0).1 = (sp (o ++ [c]) 0).1
  | [], o, c => rfl
  | b :: r, o, c => by
    rw [mgS]
    cases ht : bne c.2 4294967295 && decide (c.2 + 1 < b.1) with
    | true =>
      rw [cond_true, mgS_head r (o ++ [c]) b]
      cases o <;> rfl
    | false =>
      rw [cond_false, mgS_head r o]
      cases o <;> rfl
theorem mgS_ne : ∀ (r o : List Sp) (c : Sp), mgS r o c ≠ []
  | [], o, c => by simp [mgS]
  | b :: r, o, c => by
    rw [mgS]
    cases ht : bne c.2 4294967295 && decide (c.2 + 1 < b.1) with
    | true => exact mgS_ne r _ _
    | false => exact mgS_ne r _ _
theorem sp_mem {l : List Sp} (h : 0 < l.length) : sp l 0 ∈ l := by
  cases l with
  | nil => exact absurd h (Nat.lt_irrefl 0)
  | cons a r => exact List.mem_cons_self ..
theorem fine_u32 {y : Sp} (h : fine y) : u32B y = true := by
  unfold fine at h
  unfold u32B
  simp
  omega
section
variable {most : Int} {l : List Sp}
theorem band_mem (hm : 0 ≤ most ∧ most < 4294967296) (hu : l.all u32B = true) : ∀ y ∈ sortS (l.map (bandS most)), fine y ∧ (y.1 = 0 → most = 0) := by
  intro y hy
  have h1 := (sortS_perm (l.map (bandS most))).subset hy
  obtain ⟨x, hx, rfl⟩ := List.mem_map.1 h1
  have hx' := List.all_eq_true.1 hu x hx
  exact ⟨bandS_fine hm hx', bandS_zero hm.1 hx'⟩
theorem sort_any (x : Int) (L : List Sp) : (sortS L).any (withinB x) = L.any (withinB x) := by
  rw [Bool.eq_iff_iff, List.any_eq_true, List.any_eq_true]
  exact ⟨fun ⟨y, hy, h⟩ => ⟨y, (sortS_perm L).subset hy, h⟩, fun ⟨y, hy, h⟩ => ⟨y, (sortS_perm L).symm.subset hy, h⟩⟩
theorem srtR_eq (hl : l.length ≤ 1024) : srtR most l = mgZ (sortS (l.map (bandS most))) := by
  unfold srtR
  have : Nat.blt 1024 l.length = false := by rw [Bool.eq_false_iff, ne_eq, Nat.blt_eq]; omega
  rw [this]
  rfl
theorem srtR_len : (srtR most l).length ≤ 1024 := by
  unfold srtR
  cases h : Nat.blt 1024 l.length with
  | true => exact Nat.zero_le _
  | false =>
    rw [Bool.eq_false_iff, ne_eq, Nat.blt_eq] at h
    have h1 := mgZ_len (sortS (l.map (bandS most)))
    rw [sortS_len, List.length_map] at h1
    simp only [cond_false]
    omega
theorem srt_sorted : ∀ (i j : Nat), i < j → j < (sortS (l.map (bandS most))).length → (sp (sortS (l.map (bandS most))) i).1 ≤ (sp (sortS (l.map (bandS most))) j).1 := by
  intro i j hij hj
  rw [sortS_len] at hj
  exact sortS_sorted _ i j hij hj
theorem srtR_okM (hm : 0 ≤ most ∧ most < 4294967296) (hu : l.all u32B = true) : okM none (srtR most l) = true := by
  rcases Nat.lt_or_ge 1024 l.length with h | h
  · unfold srtR
    have : Nat.blt 1024 l.length = true := by rw [Nat.blt_eq]; exact h
    rw [this]
    rfl
  · rw [srtR_eq h]
    exact (mgZ_ok (fun b hb => (band_mem hm hu b hb).1) srt_sorted).1
theorem mgZ_low {S : List Sp} (hf : ∀ b ∈ S, fine b) (hs : ∀ (i j : Nat), i < j → j < S.length → (sp S i).1 ≤ (sp S j).1) : (∀ y ∈ mgZ S, lowB (sp S 0).1 y) ∧ (sp (mgZ S) 0).1 = (sp S 0).1 ∧ (mgZ S = [] → S = []) := by
  cases S with
  | nil => exact ⟨fun y hy => (by cases hy), rfl, fun _ => rfl⟩
  | cons b r =>
    refine ⟨mgS_all _ r [] b (fun y hy => ⟨?_, hf y (by simp [hy])⟩) ⟨Int.le_refl _, hf b (by simp)⟩ (fun y hy => by cases hy), ?_, fun h => absurd h (mgS_ne r [] b)⟩
    · obtain ⟨j, hj, hjb⟩ := List.getElem_of_mem hy
      have := hs 0 (j + 1) (by omega) (by simp; omega)
      have e1 : sp (b :: r) (j + 1) = y := by simp [sp, hj, hjb]
      rw [e1] at this
      exact this
    · show (sp (mgS r [] b) 0).1 = _
      rw [mgS_head]
      rfl
theorem srtR_all (hm : 0 ≤ most ∧ most < 4294967296) (hu : l.all u32B = true) : ∀ y ∈ srtR most l, lowB (sp (srtR most l) 0).1 y := by
  rcases Nat.lt_or_ge 1024 l.length with h | h
  · unfold srtR
    have : Nat.blt 1024 l.length = true := by rw [Nat.blt_eq]; exact h
    rw [this]
    intro y hy
    cases hy
  · rw [srtR_eq h]
    have := mgZ_low (fun b hb => (band_mem (most := most) (l := l) hm hu b hb).1) srt_sorted
    rw [this.2.1]
    exact this.1
theorem srtR_u32 (hm : 0 ≤ most ∧ most < 4294967296) (hu : l.all u32B = true) : (srtR most l).all u32B = true :=
  List.all_eq_true.2 fun y hy => fine_u32 (srtR_all hm hu y hy).2
/-- the first one from 0: there is no last one -/
theorem srtR_zero (hm : 0 ≤ most ∧ most < 4294967296) (hu : l.all u32B = true) (hp : 0 < (srtR most l).length) (h0 : (sp (srtR most l) 0).1 = 0) : most = 0 := by
  rcases Nat.lt_or_ge 1024 l.length with h | h
  · unfold srtR at hp
    have : Nat.blt 1024 l.length = true := by rw [Nat.blt_eq]; exact h
    rw [this] at hp
    exact absurd hp (Nat.lt_irrefl 0)
  · rw [srtR_eq h] at h0 hp
    have hz := mgZ_low (fun b hb => (band_mem (most := most) (l := l) hm hu b hb).1) srt_sorted
    rw [hz.2.1] at h0
    have hS : 0 < (sortS (l.map (bandS most))).length := by
      have := mgZ_len (sortS (l.map (bandS most)))
      omega
    exact (band_mem hm hu _ (sp_mem hS)).2 h0
theorem srtR_has (hm : 0 ≤ most ∧ most < 4294967296) (hu : l.all u32B = true) (hl : l.length ≤ 1024) (h0 : most = 0 ∨ srtR most l = [] ∨ (sp (srtR most l) 0).1 ≠ 0) (x : Int) :
    srtR most (srtR most l) = srtR most l ∧ hasS most x (srtR most l) = hasS most x l := by
  have hall := srtR_all hm hu
  have hok := srtR_okM hm hu
  have hid : (srtR most l).map (bandS most) = srtR most l := by
    have : ∀ y ∈ srtR most l, bandS most y = y := by
      intro y hy
      obtain ⟨h1, h2⟩ := hall y hy
      refine bandS_id h2.1 ?_
      rcases h0 with h | h | h
      · exact .inl h
      · rw [h] at hy
        cases hy
      · have h3 : fine (sp (srtR most l) 0) := (hall _ (sp_mem (by
          cases hh : srtR most l with
          | nil => rw [hh] at hy; cases hy
          | cons a r => exact Nat.zero_lt_succ _))).2
        unfold fine at h2 h3
        right
        omega
    exact (List.map_congr_left this).trans (List.map_id _)
  have hperm : sortS (srtR most l) = srtR most l := by
    refine perm_st (srtR most l) _ (fun b r h => ?_) (sortS_perm _) fun i j hij hj => ?_
    · rw [h, okM_cons] at hok
      simp only [Bool.and_eq_true, decide_eq_true_eq] at hok
      exact okM_st b r hok.2 hok.1.1
    · rw [sortS_len] at hj
      exact sortS_sorted _ i j hij hj
  refine ⟨?_, ?_⟩
  · have e : srtR most (srtR most l) = mgZ (sortS ((srtR most l).map (bandS most))) := srtR_eq srtR_len
    rw [e, hid, hperm]
    exact mgZ_id hok fun b hb => (hall b hb).2
  · unfold hasS
    rw [hid, srtR_eq hl, (mgZ_ok (fun b hb => (band_mem hm hu b hb).1) srt_sorted).2 x, sort_any]
theorem srtE_zero : srtE (srtR most l) = 0 := by
  unfold srtE
  have : Nat.blt 1024 (srtR most l).length = false := by
    have := @srtR_len most l
    rw [Bool.eq_false_iff, ne_eq, Nat.blt_eq]
    omega
  rw [this]
  rfl
end
section
variable {m : Int} {t : TypeId} {fr : Nat × Nat}
def sameG : List PV → Tr PV
  | [.gsl 2 n f, .lit (.int .u32 most), .lit (.int .u32 x)] => .br (areSps n f && Nat.ble n 4294967280 && u32N most) (.leaf (bool true)) .fail
  | _ => .fail
def sameSh : List ASh := [.one (.sl [.int .u32, .int .u32]), .one (.sc (.int .u32)), .one (.sc (.int .u32))]
theorem same_args {qs : List PV} (ha : areArgs sameSh qs = true) (hb : argsBulk qs ≤ 1048576) : (sameG qs).run = some (bool true) := by
  obtain ⟨q0, r0, rfl, h0, hr0⟩ := args_cons ha
  obtain ⟨q2, r2, rfl, h2, hr2⟩ := args_cons hr0
  obtain ⟨q3, r3, rfl, h3, hr3⟩ := args_cons hr2
  obtain rfl := args_nil hr3
  obtain ⟨n, f, rfl, hf⟩ := ak_sl h0
  obtain ⟨v, rfl, hv⟩ := ak_sc h2
  obtain ⟨most, rfl, hm⟩ := u32_given hv
  obtain ⟨v', rfl, hv'⟩ := ak_sc h3
  obtain ⟨x, rfl, hx⟩ := u32_given hv'
  have hb' : (((List.range n).map fun i => scsBulk (f i)).sum + 1) + (1 + (1 + 0)) ≤ 1048576 := hb
  obtain ⟨o1, o2⟩ := sps_given hf (by omega)
  have o5 : Nat.ble n 4294967280 = true := Nat.ble_eq_true_of_le (Nat.le_trans o2 (by omega))
  show (sameG [.gsl 2 n f, .lit (.int .u32 most), .lit (.int .u32 x)]).run = some (bool true)
  simp [sameG, Tr.run, o1, o5, hm]
end
end Go.Proofs.YtcdghinmmhcfcaaGreatDoor.Ev

/- nset: the document's own sorting, put together; two lists of spans that do not touch and hold the same are the same. No condition, and no program in it. -/
namespace Go.Proofs.YtcdghinmmhcfcaaGreatDoor.Ev
open Go Go.RowKit Go.Proofs Go.Proofs.YtcdghinmmhcfcaaGreatDoor.Str
set_option linter.unusedVariables false
set_option linter.unusedSimpArgs false
/-- the spans that one does not touch; that one, with those that it touches -/
def riS : List Sp → Int → Int → List Sp → (Int × Int) × List Sp
  | [], a, b, r => ((a, b), r)
  | y :: s, a, b, r => bif (decide (y.2 + 1 < a) || decide (b + 1 < y.1)) then riS s a b (r ++ [y]) else riS s (bif decide (y.1 < a) then y.1 else a) (bif decide (y.2 > b) then y.2 else b) r
/-- how many begin before it -/
def rjS (a : Int) : List Sp → Nat
  | [] => 0
  | y :: r => bif decide (y.1 < a) then rjS a r + 1 else 0
def roS (o : List Sp) (c : Sp) : List Sp :=
  let z := riS o c.1 c.2 []
  z.2.take (rjS z.1.1 z.2) ++ (z.1 :: z.2.drop (rjS z.1.1 z.2))
def rsS (most : Int) (l : List Sp) : List Sp := l.foldl (fun o x => roS o (bandS most x)) []
/-- apart, and each one right -/
def gapP (x y : Sp) : Prop := x.2 + 2 ≤ y.1
def okP (l : List Sp) : Prop := l.Pairwise gapP ∧ ∀ x ∈ l, fine x
def sepB (a b : Int) (z : Sp) : Prop := z.2 + 1 < a ∨ b + 1 < z.1
theorem riS_ok (x : Int) : ∀ (s : List Sp) (a b : Int) (r : List Sp), okP (r ++ s) → (∀ z ∈ r, sepB a b z) → fine (a, b) →
    okP (riS s a b r).2 ∧ (∀ z ∈ (riS s a b r).2, sepB (riS s a b r).1.1 (riS s a b r).1.2 z) ∧ fine (riS s a b r).1 ∧
    (withinB x (riS s a b r).1 || (riS s a b r).2.any (withinB x)) = (withinB x (a, b) || (r ++ s).any (withinB x))
  | [], a, b, r, h, hz, hf => by
    rw [List.append_nil] at h ⊢
    exact ⟨h, hz, hf, rfl⟩
  | y :: s, a, b, r, h, hz, hf => by
    have hy : fine y := h.2 y (by simp)
    have hry : ∀ z ∈ r, gapP z y := fun z hz => (List.pairwise_append.1 h.1).2.2 z hz y (by simp)
    have hfr : ∀ z ∈ r, fine z := fun z hz => h.2 z (by simp [hz])
    rw [riS]
    cases ht : (decide (y.2 + 1 < a) || decide (b + 1 < y.1)) with
    | true =>
      simp only [Bool.or_eq_true, decide_eq_true_eq] at ht
      have e : r ++ y :: s = (r ++ [y]) ++ s := by simp
      rw [cond_true, e]
      rw [e] at h
      exact riS_ok x s a b (r ++ [y]) h (fun z hz' => by
        rcases List.mem_append.1 hz' with h' | h'
        · exact hz z h'
        · have : z = y := by simpa using h'
          rw [this]
          exact ht) hf
    | false =>
      rw [Bool.or_eq_false_iff] at ht
      have t1 := of_decide_eq_false ht.1
      have t2 := of_decide_eq_false ht.2
      have h' : okP (r ++ s) := by
        refine ⟨?_, fun z hz => h.2 z ?_⟩
        · exact h.1.sublist (List.Sublist.append_left (List.sublist_cons_self y s) r)
        · rcases List.mem_append.1 hz with h | h
          · simp [h]
          · simp [h]
      have hf' : fine ((bif decide (y.1 < a) then y.1 else a), (bif decide (y.2 > b) then y.2 else b)) := by
        unfold fine at *
        cases d1 : decide (y.1 < a) <;> cases d2 : decide (y.2 > b) <;> simp at d1 d2 ⊢ <;> omega
      have hz' : ∀ z ∈ r, sepB (bif decide (y.1 < a) then y.1 else a) (bif decide (y.2 > b) then y.2 else b) z := by
        intro z hz0
        have g := hry z hz0
        have s0 := hz z hz0
        have fz := hfr z hz0
        unfold sepB gapP fine at *
        left
        cases d1 : decide (y.1 < a) <;> simp at d1 ⊢ <;> omega
      have key := riS_ok x s _ _ r h' hz' hf'
      rw [cond_false]
      refine ⟨key.1, key.2.1, key.2.2.1, ?_⟩
      rw [key.2.2.2]
      have e : withinB x ((bif decide (y.1 < a) then y.1 else a), (bif decide (y.2 > b) then y.2 else b)) = (withinB x (a, b) || withinB x y) := by
        unfold fine at hf hy
        rw [Bool.eq_iff_iff]
        cases d1 : decide (y.1 < a) <;> cases d2 : decide (y.2 > b) <;> simp [withinB] at d1 d2 ⊢ <;> omega
      rw [e]
      simp only [List.any_append, List.any_cons]
      cases withinB x (a, b) <;> cases withinB x y <;> cases r.any (withinB x) <;> rfl
theorem rjS_le (a : Int) : ∀ (l : List Sp), rjS a l ≤ l.length
  | [] => Nat.le_refl _
  | y :: r => by
    rw [rjS]
    have := rjS_le a r
    cases decide (y.1 < a) <;> simp <;> omega
theorem ins_ok (x : Int) (c : Sp) (hc : fine c) : ∀ (l : List Sp), okP l → (∀ z ∈ l, sepB c.1 c.2 z) →
    okP (l.take (rjS c.1 l) ++ (c :: l.drop (rjS c.1 l))) ∧ (l.take (rjS c.1 l) ++ (c :: l.drop (rjS c.1 l))).any (withinB x) = (withinB x c || l.any (withinB x))
  | [], h, hz => by
    refine ⟨⟨by simp [rjS], fun z hz => ?_⟩, by simp [rjS]⟩
    have : z = c := by simpa [rjS] using hz
    rw [this]
    exact hc
  | y :: r, h, hz => by
    have hy := h.2 y (by simp)
    have hzy := hz y (by simp)
    have hp := List.pairwise_cons.1 h.1
    have hr : okP r := ⟨hp.2, fun z hz => h.2 z (by simp [hz])⟩
    rw [rjS]
    cases d : decide (y.1 < c.1) with
    | true =>
      have hlt := of_decide_eq_true d
      have ih := ins_ok x c hc r hr fun z hz' => hz z (by simp [hz'])
      simp only [cond_true, List.take_succ_cons, List.drop_succ_cons, List.cons_append]
      refine ⟨⟨List.pairwise_cons.2 ⟨fun z hz' => ?_, ih.1.1⟩, fun z hz' => ?_⟩, ?_⟩
      · rcases List.mem_append.1 hz' with h' | h'
        · exact hp.1 z (List.mem_of_mem_take h')
        · rcases List.mem_cons.1 h' with rfl | h'
          · unfold sepB gapP fine at *
            omega
          · exact hp.1 z (List.mem_of_mem_drop h')
      · rcases List.mem_cons.1 hz' with rfl | h'
        · exact hy
        · exact ih.1.2 z h'
      · rw [List.any_cons, ih.2, List.any_cons]
        cases withinB x y <;> cases withinB x c <;> rfl
    | false =>
      have hge := of_decide_eq_false d
      simp only [cond_false, List.take_zero, List.drop_zero, List.nil_append]
      have hb : c.2 + 2 ≤ y.1 := by
        unfold sepB fine at *
        omega
      refine ⟨⟨List.pairwise_cons.2 ⟨fun z hz' => ?_, h.1⟩, fun z hz' => ?_⟩, rfl⟩
      · rcases List.mem_cons.1 hz' with rfl | h'
        · exact hb
        · have := hp.1 z h'
          unfold gapP fine at *
          omega
      · rcases List.mem_cons.1 hz' with rfl | h'
        · exact hc
        · exact h.2 z h'
theorem roS_ok (x : Int) {o : List Sp} {c : Sp} (ho : okP o) (hc : fine c) : okP (roS o c) ∧ (roS o c).any (withinB x) = (o.any (withinB x) || withinB x c) := by
  have h1 := riS_ok x o c.1 c.2 [] ho (fun z hz => by cases hz) hc
  have h2 := ins_ok x (riS o c.1 c.2 []).1 h1.2.2.1 (riS o c.1 c.2 []).2 h1.1 h1.2.1
  refine ⟨h2.1, ?_⟩
  show List.any (_ ++ _ :: _) _ = _
  rw [h2.2, h1.2.2.2, Bool.or_comm]
  rfl
theorem fold_ok (x most : Int) (hm : 0 ≤ most ∧ most < 4294967296) : ∀ (l o : List Sp), okP o → l.all u32B = true →
    okP (l.foldl (fun o x => roS o (bandS most x)) o) ∧ (l.foldl (fun o x => roS o (bandS most x)) o).any (withinB x) = (o.any (withinB x) || hasS most x l)
  | [], o, ho, _ => ⟨ho, by simp [hasS]⟩
  | y :: r, o, ho, hl => by
    have hy := List.all_eq_true.1 hl y (by simp)
    have h1 := roS_ok x ho (bandS_fine hm hy)
    have ih := fold_ok x most hm r (roS o (bandS most y)) h1.1 (List.all_eq_true.2 fun z hz => List.all_eq_true.1 hl z (by simp [hz]))
    refine ⟨ih.1, ?_⟩
    show List.any (List.foldl _ (roS o (bandS most y)) r) _ = _
    rw [ih.2, h1.2, hasS_cons, Bool.or_assoc]
theorem same_any : ∀ (L M : List Sp), okP L → okP M → (∀ x, L.any (withinB x) = M.any (withinB x)) → L = M
  | [], [], _, _, _ => rfl
  | [], y :: s, _, hM, h => by
    have := h y.1
    have hy := hM.2 y (by simp)
    unfold fine at hy
    simp [withinB] at this
    omega
  | x :: r, [], hL, _, h => by
    have := h x.1
    have hx := hL.2 x (by simp)
    unfold fine at hx
    simp [withinB] at this
    omega
  | x :: r, y :: s, hL, hM, h => by
    have px := List.pairwise_cons.1 hL.1
    have py := List.pairwise_cons.1 hM.1
    have fx := hL.2 x (by simp)
    have fy := hM.2 y (by simp)
    have lowL : ∀ v, r.any (withinB v) = true → x.2 + 2 ≤ v := by
      intro v hv
      obtain ⟨z, hz, hzv⟩ := List.any_eq_true.1 hv
      have := px.1 z hz
      unfold gapP at this
      simp [withinB] at hzv
      omega
    have lowM : ∀ v, s.any (withinB v) = true → y.2 + 2 ≤ v := by
      intro v hv
      obtain ⟨z, hz, hzv⟩ := List.any_eq_true.1 hv
      have := py.1 z hz
      unfold gapP at this
      simp [withinB] at hzv
      omega
    have inx : ∀ v, withinB v x = true ↔ x.1 ≤ v ∧ v ≤ x.2 := by intro v; simp [withinB]
    have iny : ∀ v, withinB v y = true ↔ y.1 ≤ v ∧ v ≤ y.2 := by intro v; simp [withinB]
    have hv : ∀ v, (withinB v x = true ∨ r.any (withinB v) = true) ↔ (withinB v y = true ∨ s.any (withinB v) = true) := by
      intro v
      have := h v
      rw [List.any_cons, List.any_cons] at this
      rw [← Bool.or_eq_true, ← Bool.or_eq_true, this]
    unfold fine at fx fy
    have e1 : x.1 = y.1 := by
      have a1 := (hv x.1).1 (.inl ((inx _).2 ⟨Int.le_refl _, fx.1⟩))
      have a2 := (hv y.1).2 (.inl ((iny _).2 ⟨Int.le_refl _, fy.1⟩))
      rcases a1 with a1 | a1
      · rcases a2 with a2 | a2
        · have := (iny _).1 a1
          have := (inx _).1 a2
          omega
        · have := lowL _ a2
          have := (iny _).1 a1
          omega
      · have := lowM _ a1
        rcases a2 with a2 | a2
        · have := (inx _).1 a2
          omega
        · have := lowL _ a2
          omega
    have e2 : x.2 = y.2 := by
      rcases Int.lt_trichotomy x.2 y.2 with hlt | heq | hgt
      · have a := (hv (x.2 + 1)).2 (.inl ((iny _).2 ⟨by omega, by omega⟩))
        rcases a with a | a
        · have := (inx _).1 a
          omega
        · have := lowL _ a
          omega
      · exact heq
      · have a := (hv (y.2 + 1)).1 (.inl ((inx _).2 ⟨by omega, by omega⟩))
        rcases a with a | a
        · have := (iny _).1 a
          omega
        · have := lowM _ a
          omega
    have exy : x = y := Prod.ext e1 e2
    subst exy
    rw [same_any r s ⟨px.2, fun z hz => hL.2 z (by simp [hz])⟩ ⟨py.2, fun z hz => hM.2 z (by simp [hz])⟩ fun v => ?_]
    have h0 := hv v
    rw [Bool.eq_iff_iff]
    constructor
    · intro hr
      rcases h0.1 (.inr hr) with h' | h'
      · have := lowL _ hr
        have := (inx _).1 h'
        omega
      · exact h'
    · intro hs
      rcases h0.2 (.inr hs) with h' | h'
      · have := lowM _ hs
        have := (iny _).1 h'
        omega
      · exact h'
theorem okP_of : ∀ {l : List Sp} (p : Option Sp), okM p l = true → (∀ x ∈ l, fine x) → okP l ∧ ∀ q, p = some q → ∀ x ∈ l, gapP q x
  | [], p, _, _ => ⟨⟨List.Pairwise.nil, fun x hx => by cases hx⟩, fun q _ x hx => by cases hx⟩
  | y :: r, p, h, hf => by
    rw [okM_cons] at h
    simp only [Bool.and_eq_true, decide_eq_true_eq] at h
    have ih := okP_of (some y) h.2 fun x hx => hf x (by simp [hx])
    refine ⟨⟨List.pairwise_cons.2 ⟨ih.2 y rfl, ih.1.1⟩, hf⟩, fun q hq x hx => ?_⟩
    subst hq
    have g : gapP q y := by
      have := h.1.2
      simpa [gapM, gapP] using this
    rcases List.mem_cons.1 hx with rfl | hx
    · exact g
    · have := ih.2 y rfl x hx
      unfold gapP at *
      omega
/-- the document's list is the program's -/
theorem rsS_eq {most : Int} {l : List Sp} (hm : 0 ≤ most ∧ most < 4294967296) (hu : l.all u32B = true) (hl : l.length ≤ 1024) : rsS most l = srtR most l := by
  have hok := fun x => fold_ok x most hm l [] ⟨List.Pairwise.nil, fun x hx => by cases hx⟩ hu
  refine same_any _ _ (hok 0).1 (okP_of none (srtR_okM hm hu) fun b hb => (srtR_all hm hu b hb).2).1 fun x => ?_
  show List.any (List.foldl _ [] l) _ = _
  rw [(hok x).2, srtR_eq hl, (mgZ_ok (fun b hb => (band_mem hm hu b hb).1) srt_sorted).2 x, sort_any]
  rfl
end Go.Proofs.YtcdghinmmhcfcaaGreatDoor.Ev

/- nset: the document's Sort, its loops. No condition. -/
namespace Go.Proofs.YtcdghinmmhcfcaaGreatDoor.Ev
open Go Go.RowKit Go.Proofs Go.Proofs.YtcdghinmmhcfcaaGreatDoor.Str
set_option linter.unusedVariables false
set_option linter.unusedSimpArgs false
section
variable {m : Int} {t : TypeId} {fr : Nat × Nat}
def riOuts : Exit → Outs
  | .normal => { ks := [1, 9, 10, 11, 18, 19, 20, 30, 31, 32], rs := [.slot 11], nils := [(11, 83, 2)] }
  | .exit _ => { ks := [1, 9, 10, 11, 18, 19, 20], rs := [.slot 11], nils := [(11, 83, 2)] }
  | _ => { ks := [] }
def rjOuts : Exit → Outs
  | .normal => { ks := [1, 9, 10, 11, 14, 18, 19, 20], frz := [11] }
  | .exit _ => { ks := [1, 9, 10, 11, 14, 18, 19, 20] }
  | _ => { ks := [] }
theorem w64 {a : Int} (h0 : 0 ≤ a) (h1 : a ≤ 8589934592) : IntKind.wrap .u64 a = a := by
  rw [IntKind.wrap_u64]
  omega
def riIn (most u0 i0 : Int) (n0 : Nat) (f0 : Nat → List PV) (o : List Sp) (i : Nat) (a b : Int) (r : List Sp) : Kept :=
  ([.lit (.int .u32 most), .lit (.int .u32 a), .lit (.int .u32 b), .own 0, .gsl 2 n0 f0, int u0, int i0, .gsl 2 o.length (sRow o), int o.length, int i], [.row 83 2 r.length (sRow r)])
def riEnd (most u0 i0 : Int) (n0 : Nat) (f0 : Nat → List PV) (z : (Int × Int) × List Sp) : Kept :=
  ([.lit (.int .u32 most), .lit (.int .u32 z.1.1), .lit (.int .u32 z.1.2), .own 0, .gsl 2 n0 f0, int u0, int i0], [.row 83 2 z.2.length (sRow z.2)])
def riA (s : List Sp) (a b : Int) : Int := (riS s a b []).1.1
def riB (s : List Sp) (a b : Int) : Int := (riS s a b []).1.2
def riR (s : List Sp) (a b : Int) : List Sp := (riS s a b []).2
def riF : Kept → Tr (Exit × Kept)
  | ([.lit (.int .u32 most), .lit (.int .u32 a), .lit (.int .u32 b), .own 0, .gsl 2 n0 f0, .lit (.int .i64 u0), .lit (.int .i64 i0), .gsl 2 n f, .lit (.int .i64 u), .lit (.int .i64 0)], [.row e 2 0 g]) => match Nat.beq e 83 with
    | true => .br (areSps n f && decide (u = (n : Int)) && Nat.ble n 4294967280 && u32N a && u32N b)
        (.leaf (.exit 2, ([.lit (.int .u32 most), .lit (.int .u32 (riA (spsOf n f) a b)), .lit (.int .u32 (riB (spsOf n f) a b)), .own 0, .gsl 2 n0 f0, int u0, int i0], [.row 83 2 (riR (spsOf n f) a b).length (sRow (riR (spsOf n f) a b))]))) .fail
    | false => .fail
  | _ => .fail
noncomputable abbrev riCut (G : GT) := cutOf G 100 riOuts 2 riF
/-! ### the place -/
def rjIn (most a b u0 i0 : Int) (n0 : Nat) (f0 : Nat → List PV) (r : List Sp) (j : Nat) : Kept := ([.lit (.int .u32 most), .lit (.int .u32 a), .lit (.int .u32 b), .gsl 2 r.length (sRow r), int j, .gsl 2 n0 f0, int u0, int i0], [])
def rjF : Kept → Tr (Exit × Kept)
  | ([.lit (.int .u32 most), .lit (.int .u32 a), .lit (.int .u32 b), .gsl 2 n f, .lit (.int .i64 0), .gsl 2 n0 f0, .lit (.int .i64 u0), .lit (.int .i64 i0)], []) => .br (areSps n f && Nat.ble n 4294967280)
      (.leaf (.exit 4, ([.lit (.int .u32 most), .lit (.int .u32 a), .lit (.int .u32 b), .gsl 2 n (sRow (spsOf n f)), int (rjS a (spsOf n f) : Nat), .gsl 2 n0 f0, int u0, int i0], []))) .fail
  | _ => .fail
noncomputable abbrev rjCut (G : GT) := cutOf G 100 rjOuts 4 rjF
end
end Go.Proofs.YtcdghinmmhcfcaaGreatDoor.Ev

/- A loop within a loop: the cuts of a function's body are those of its loop's. No condition. -/
namespace Go.Proofs.YtcdghinmmhcfcaaGreatDoor.Ev
open Go Go.RowKit
set_option linter.unusedVariables false
theorem blocks_sub {id j : Nat} {b d : Code} : ∀ (c : Code), b ∈ blocksOf id c → d ∈ blocksOf j b → d ∈ blocksOf j c := by
  intro c
  induction c <;> intro h hd
  case seq x y hx hy =>
    simp only [blocksOf, List.mem_append] at h ⊢
    exact h.imp (hx · hd) (hy · hd)
  case cond p x y hx hy =>
    simp only [blocksOf, List.mem_append] at h ⊢
    exact h.imp (hx · hd) (hy · hd)
  case block i c hc =>
    have key : d ∈ blocksOf j c := by
      simp only [blocksOf] at h
      split at h
      · rcases List.mem_cons.1 h with rfl | h
        · exact hd
        · exact hc h hd
      · exact hc h hd
    simp only [blocksOf]
    split
    · exact List.mem_cons_of_mem _ key
    · exact key
  case loop c hc => exact hc h hd
  case scope c hc => exact hc h hd
  all_goals exact absurd h (by simp [blocksOf])
theorem scopes_sub {id l : Nat} {b d : Code} : ∀ (c : Code), b ∈ blocksOf id c → d ∈ scopesOf l b → d ∈ scopesOf l c := by
  intro c
  induction c <;> intro h hd
  case seq x y hx hy =>
    simp only [blocksOf, scopesOf, List.mem_append] at h ⊢
    exact h.imp (hx · hd) (hy · hd)
  case cond p x y hx hy =>
    simp only [blocksOf, scopesOf, List.mem_append] at h ⊢
    exact h.imp (hx · hd) (hy · hd)
  case block i c hc =>
    simp only [blocksOf] at h
    split at h
    · rcases List.mem_cons.1 h with rfl | h
      · exact hd
      · exact hc h hd
    · exact hc h hd
  case loop c hc => exact hc h hd
  case scope c hc =>
    have key := hc h hd
    simp only [scopesOf]
    split
    · exact List.mem_cons_of_mem _ key
    · exact key
  all_goals exact absurd h (by simp [blocksOf])
theorem hasLoop_mem {id : Nat} {fn : Func} (h : hasLoop id fn = true) {c : Code} (hc : fn.body = some c) : .loop (theLoop id fn) ∈ blocksOf id c := by
  unfold hasLoop at h
  unfold theLoop
  rw [hc] at h ⊢
  dsimp only at h ⊢
  split at h
  · rename_i x hx
    rw [hx]
    exact List.mem_singleton.2 rfl
  · cases h
theorem CutsOK.inner {x : Mode} {P : Program} {G : GT} {E : Env} {fn : Func} {id : Nat} (h1 : hasLoop id fn = true) (h : ∀ c, fn.body = some c → CutsOK x P G E c) : CutsOK x P G E (theLoop id fn) := by
  cases hc : fn.body with
  | none =>
    unfold hasLoop at h1
    rw [hc] at h1
    cases h1
  | some c =>
    have hm := hasLoop_mem h1 hc
    exact ⟨fun j g hg b hb => (h c hc).blk j g hg b (blocks_sub c hm hb), fun l g hg b hb => (h c hc).lab l g hg b (scopes_sub c hm hb)⟩
theorem CutLaws.inner {x : Mode} {P : Program} {G : GT} {fn : Func} {E : Env} {id : Nat} (h1 : hasLoop id fn = true) (h : CutLaws x P G fn E.cuts) : CutsOK x P G E (theLoop id fn) := CutsOK.inner h1 (CutLaws.ok h)
end Go.Proofs.YtcdghinmmhcfcaaGreatDoor.Ev

/- nset: the document's Sort as a contract. No condition. -/
namespace Go.Proofs.YtcdghinmmhcfcaaGreatDoor.Ev
open Go Go.RowKit Go.Proofs Go.Proofs.YtcdghinmmhcfcaaGreatDoor.Str
set_option linter.unusedVariables false
set_option linter.unusedSimpArgs false
section
variable {m : Int} {t : TypeId} {fr : Nat × Nat}
noncomputable abbrev rsCuts (G : GT) : Nat → Option (St → Tr (Exit × St)) := cutAlso 2 (riCut G) (cut1 4 (rjCut G))
noncomputable abbrev E9s (G : GT) : Env := (E9 G).withCuts (rsCuts G)
def rzOuts : Exit → Outs
  | .normal => { ks := [1, 6, 18, 19, 20], frz := [6] }
  | .exit _ => { ks := [6] }
  | _ => { ks := [] }
theorem ins_row (R : List Sp) (J : Nat) (hJ : J ≤ R.length) (a b : Int) (i : Nat) (hi : i < J + 1 + (R.length - J)) :
    rowApp (J + 1) (rowApp J (fun i => sRow R (Int.toNat 0 + i)) (rowOf [.lit (.int .u32 a), .lit (.int .u32 b)] 2)) (fun i => sRow R (J + i)) i = sRow (R.take J ++ (a, b) :: R.drop J) i := by
  have hl : (R.take J).length = J := by simp; omega
  rcases Nat.lt_trichotomy i J with h | h | h
  · rw [app_lo _ _ (by omega), app_lo _ _ h]
    show sRow R (0 + i) = _
    rw [Nat.zero_add]
    unfold sRow
    have : sp (R.take J ++ (a, b) :: R.drop J) i = sp R i := by
      unfold sp
      rw [List.getD_eq_getElem?_getD, List.getD_eq_getElem?_getD, List.getElem?_append_left (by omega), List.getElem?_take_of_lt h]
    rw [this]
  · subst h
    have e := app_hi i 0 (fun i => sRow R (Int.toNat 0 + i)) (rowOf [.lit (.int .u32 a), .lit (.int .u32 b)] 2)
    rw [app_lo _ _ (by omega)]
    rw [Nat.add_zero] at e
    rw [e]
    unfold sRow
    have : sp (R.take i ++ (a, b) :: R.drop i) i = (a, b) := by
      unfold sp
      rw [List.getD_eq_getElem?_getD, List.getElem?_append_right (by omega), hl, Nat.sub_self]
      rfl
    rw [this]
    rfl
  · obtain ⟨d, rfl⟩ : ∃ d, i = J + 1 + d := ⟨i - (J + 1), by omega⟩
    rw [app_hi]
    unfold sRow
    have : sp (R.take J ++ (a, b) :: R.drop J) (J + 1 + d) = sp R (J + d) := by
      unfold sp
      rw [List.getD_eq_getElem?_getD, List.getD_eq_getElem?_getD, List.getElem?_append_right (by omega), hl, show J + 1 + d - J = d + 1 by omega, List.getElem?_cons_succ, List.getElem?_drop]
    rw [this]
theorem riS_len : ∀ (s : List Sp) (a b : Int) (r : List Sp), (riS s a b r).2.length ≤ s.length + r.length
  | [], a, b, r => by simp [riS]
  | y :: s, a, b, r => by
    rw [riS]
    cases (decide (y.2 + 1 < a) || decide (b + 1 < y.1)) with
    | true =>
      have := riS_len s a b (r ++ [y])
      simp at this ⊢
      omega
    | false =>
      have := riS_len s (bif decide (y.1 < a) then y.1 else a) (bif decide (y.2 > b) then y.2 else b) r
      simp at this ⊢
      omega
theorem okP_u32 {l : List Sp} (h : okP l) : l.all u32B = true := List.all_eq_true.2 fun y hy => fine_u32 (h.2 y hy)
def rzIn (most : Int) (l : List Sp) (i : Nat) (o : List Sp) : Kept := ([.lit (.int .u32 most), .gsl 2 o.length (sRow o), .gsl 2 l.length (sRow l), int l.length, int i], [])
def rzF : Kept → Tr (Exit × Kept)
  | ([.lit (.int .u32 most), .lit (.slice none 0 0), .gsl 2 n f, .lit (.int .i64 u), .lit (.int .i64 0)], []) => .br (areSps n f && decide (u = (n : Int)) && Nat.ble n 1024 && u32N most) (.leaf (.exit 0, ([.gsl 2 (rsS most (spsOf n f)).length (sRow (rsS most (spsOf n f)))], []))) .fail
  | _ => .fail
noncomputable abbrev rzCut (G : GT) := cutOf G 100 rzOuts 0 rzF
end
end Go.Proofs.YtcdghinmmhcfcaaGreatDoor.Ev

/- nset: numbers counted, numbers picked, numbers compared: loops. No condition. -/
namespace Go.Proofs.YtcdghinmmhcfcaaGreatDoor.Ev
open Go Go.RowKit Go.Proofs Go.Proofs.YtcdghinmmhcfcaaGreatDoor.Str
set_option linter.unusedVariables false
set_option linter.unusedSimpArgs false
section
variable {m : Int} {t : TypeId} {fr : Nat × Nat}
def cnOuts : Exit → Outs
  | .normal => { ks := [7, 8, 17, 18, 19] }
  | .exit _ => { ks := [7, 8] }
  | _ => { ks := [] }
noncomputable abbrev cnRound (G : GT) := roundT Tryz.prog (E9 G) 60 G 35 cnOuts .normal (theLoop 0 Tryz.f18)
theorem cn_round (m : Int) (t : TypeId) (fr : Nat × Nat) (o : List Sp) (n : Nat) (w c u i : Int) : (cnRound (GG m t fr) ([int w, .lit (.int .u64 c), .gsl 2 n (sRow o), int u, int i], [])).run2 =
 (bif (decide (i < u)) then
 (.some ((.normal, ([(.lit (.int .i64 w)), (.lit (.int .u64 (IntKind.wrap .u64 (c + (IntKind.wrap .u64 ((IntKind.wrap .u64 (IntKind.wrap .u32 ((Prod.snd (sp o (Int.toNat i))) - (Prod.fst (sp o (Int.toNat i)))))) + (1 : Int))))))), (.gsl 2 n (fun i => [PV.lit (Value.int IntKind.u32 (sp o i).fst), PV.lit (Value.int IntKind.u32 (sp o i).snd)])), (.lit (.int .i64 u)), (.lit (.int .i64 (IntKind.wrap .i64 (i + (1 : Int)))))], [])), [((decide ((0 : Int) ≤ i)) && (Nat.blt (Int.toNat i) n))]))
 else (.some (((.exit 0), ([(.lit (.int .i64 w)), (.lit (.int .u64 c))], [])), [])) : Option ((Exit × Kept) × List Bool)) := by
  kernel_rfl
def onOuts : Exit → Outs
  | .normal => { ks := [0, 1, 7, 10, 11, 12], rs := [.slot 7], nils := [(7, 24, 1)] }
  | .exit _ => { ks := [7], rs := [.slot 7], nils := [(7, 24, 1)] }
  | _ => { ks := [] }
noncomputable abbrev onRound (G : GT) := roundT Tryz.prog (E9 G) 60 G 26 onOuts .normal (theLoop 0 Tryz.f23)
theorem on_round (m : Int) (t : TypeId) (fr : Nat × Nat) (ns r : List Int) (n k n0 : Nat) (f0 : Nat → List PV) (most u i : Int) : (onRound (GG m t fr) ([.gsl 2 n0 f0, .lit (.int .u32 most), .own 0, .gsl 1 n (nRow ns), int u, int i], [.row 24 1 k (nRow r)])).run2 =
 (bif (decide (i < u)) then
 bif (hasS most (nu ns (Int.toNat i)) (spsOf n0 f0)) then
 (.some ((.normal, ([(.gsl 2 n0 f0), (.lit (.int .u32 most)), (.own 0), (.gsl 1 n (nRow ns)), (.lit (.int .i64 u)), (.lit (.int .i64 (IntKind.wrap .i64 (i + (1 : Int)))))], [(.row 24 1 (k + 1) (rowApp k (nRow r) (rowOf [(.lit (.int .u32 (nu ns (Int.toNat i))))] 1)))])), [(Nat.ble ((k + 1) * 4) (140737488355328 : Nat)), (((areSps n0 f0) && (Nat.ble n0 (4294967280 : Nat))) && (u32N most)), ((decide ((0 : Int) ≤ i)) && (Nat.blt (Int.toNat i) n))]))
 else (.some ((.normal, ([(.gsl 2 n0 f0), (.lit (.int .u32 most)), (.own 0), (.gsl 1 n (nRow ns)), (.lit (.int .i64 u)), (.lit (.int .i64 (IntKind.wrap .i64 (i + (1 : Int)))))], [(.row 24 1 k (nRow r))])), [(((areSps n0 f0) && (Nat.ble n0 (4294967280 : Nat))) && (u32N most)), ((decide ((0 : Int) ≤ i)) && (Nat.blt (Int.toNat i) n))]))
 else (.some (((.exit 0), ([(.own 0)], [(.row 24 1 k (nRow r))])), [])) : Option ((Exit × Kept) × List Bool)) := by
  kernel_rfl
def s1Outs : Exit → Outs
  | .normal => { ks := [0, 1, 12, 13] }
  | .exit _ => { ks := [] }
  | _ => { ks := [4] }
theorem okM_le : ∀ {p : Option Sp} {l : List Sp}, okM p l = true → ∀ y ∈ l, y.1 ≤ y.2
  | p, [], _, y, hy => by cases hy
  | p, x :: r, h, y, hy => by
    rw [okM_cons] at h
    simp only [Bool.and_eq_true, decide_eq_true_eq] at h
    rcases List.mem_cons.1 hy with rfl | hy
    · exact h.1.1
    · exact okM_le h.2 y hy
/-- how many numbers -/
def cnS : List Sp → Int → Int
  | [], c => c
  | y :: r, c => cnS r (c + (y.2 - y.1 + 1))
def cnIn (w : Int) (o : List Sp) (i : Nat) (c : Int) : Kept := ([int w, .lit (.int .u64 c), .gsl 2 o.length (sRow o), int o.length, int i], [])
def cnF : Kept → Tr (Exit × Kept)
  | ([.lit (.int .i64 w), .lit (.int .u64 0), .gsl 2 n f, .lit (.int .i64 u), .lit (.int .i64 0)], []) => .br (areSps n f && decide (u = (n : Int)) && Nat.ble n 1024 && okM none (spsOf n f)) (.leaf (.exit 0, ([int w, .lit (.int .u64 (cnS (spsOf n f) 0))], []))) .fail
  | _ => .fail

theorem cn_LR (w : Int) (o : List Sp) (hu : o.all u32B = true) (hf : ∀ y ∈ o, y.1 ≤ y.2) (hn : o.length ≤ 1024) : ∀ (s : List Sp) (i : Nat) (c : Int), o.drop i = s → 0 ≤ c ∧ c ≤ i * 4294967296 →
    LR Tryz.prog (E9 (GG m t fr)) 60 (GG m t fr) 35 cnOuts .normal (theLoop 0 Tryz.f18) (cnIn w o i c) (.exit 0) ([int w, .lit (.int .u64 (cnS s c))], [])
  | [], i, c, hr, hc => by
    have h := cn_round m t fr o o.length w c o.length i
    have hlen := List.drop_eq_nil_iff.1 hr
    have hd : decide ((i : Int) < (o.length : Int)) = false := by simp; omega
    rw [hd] at h
    exact .last (Tr.run_of h (by simp)) (by simp) (by simp [cnS])
  | y :: s, i, c, hr, hc => by
    have h := cn_round m t fr o o.length w c o.length i
    obtain ⟨hlt, hx, hdr⟩ := sp_drop hr
    have hmem : y ∈ o := by
      have e : sp o i = o[i] := by simp [sp, hlt]
      rw [← hx, e]
      exact List.getElem_mem hlt
    have hy := List.all_eq_true.1 hu y hmem
    have hle := hf y hmem
    unfold u32B at hy
    simp only [Bool.and_eq_true, decide_eq_true_eq] at hy
    have hd : decide ((i : Int) < (o.length : Int)) = true := by simp; omega
    have hw : IntKind.i64.wrap ((i : Int) + 1) = ((i + 1 : Nat) : Int) := wrap_succ (by omega)
    have hv : IntKind.wrap .u64 (c + IntKind.wrap .u64 (IntKind.wrap .u64 (IntKind.wrap .u32 (y.2 - y.1)) + 1)) = c + (y.2 - y.1 + 1) := by
      simp only [IntKind.wrap_u64, IntKind.wrap_u32]
      omega
    rw [hd, hw, Int.toNat_natCast, hx, hv] at h
    have ih := cn_LR w o hu hf hn s (i + 1) (c + (y.2 - y.1 + 1)) hdr (by omega)
    exact .more (Tr.run_of h (by simp; omega)) ih
theorem cnF_ok (k : Kept) (e : Exit) (y : Kept) (h : (cnF k).run = some (e, y)) : LR Tryz.prog (E9 (GG m t fr)) 60 (GG m t fr) 35 cnOuts .normal (theLoop 0 Tryz.f18) k e y := by
  unfold cnF at h
  split at h
  · rename_i w n f u
    have hb := br_run h
    clear h
    obtain ⟨hc, h⟩ := hb
    simp only [Bool.and_eq_true, decide_eq_true_eq, Nat.ble_eq] at hc
    obtain ⟨⟨⟨hf, rfl⟩, hn⟩, ho⟩ := hc
    simp only [Tr.run, Option.some.injEq, Prod.mk.injEq] at h
    obtain ⟨rfl, rfl⟩ := h
    have hL := sps_len n f
    have key := cn_LR (m := m) (t := t) (fr := fr) w (spsOf n f) (sps_u32 hf) (okM_le ho) (by omega) (spsOf n f) 0 0 rfl (by omega)
    have hin : KLe ([int w, .lit (.int .u64 0), .gsl 2 n f, int (n : Int), int 0], []) (cnIn w (spsOf n f) 0 0) := by
      refine ⟨PLeL.cons (.refl _) (PLeL.cons (.refl _) (PLeL.cons (PLe.gsl hL.symm (sps_row hf)) (PLeL.cons (PLe.of_eq ?_) (.refl _)))), .refl _⟩
      rw [hL]
    exact .le hin key
  · cases h
noncomputable abbrev cnCut (G : GT) := cutOf G 35 cnOuts 0 cnF

noncomputable abbrev rcCut (G : GT) := cutOf G 36 cnOuts 0 cnF

/-! ### Only -/
def onS (most : Int) (l : List Sp) : List Int → List Int → List Int
  | [], r => r
  | x :: s, r => bif hasS most x l then onS most l s (r ++ [x]) else onS most l s r
theorem n_snoc (o : List Int) (a : Int) (i : Nat) (hi : i < o.length + 1) : rowApp o.length (nRow o) (rowOf [.lit (.int .u32 a)] 1) i = nRow (o ++ [a]) i := by
  rcases Nat.lt_or_ge i o.length with h | h
  · rw [app_lo _ _ h]
    unfold nRow
    have : nu (o ++ [a]) i = nu o i := by simp [nu, List.getElem?_append_left h]
    rw [this]
  · have : i = o.length + 0 := by omega
    rw [this, app_hi]
    unfold nRow
    have : nu (o ++ [a]) (o.length + 0) = a := by simp [nu]
    rw [this]
    rfl
def onIn (most : Int) (n0 : Nat) (f0 : Nat → List PV) (ns : List Int) (i : Nat) (r : List Int) : Kept := ([.gsl 2 n0 f0, .lit (.int .u32 most), .own 0, .gsl 1 ns.length (nRow ns), int ns.length, int i], [.row 24 1 r.length (nRow r)])
def onEnd (q : List Int) : Kept := ([.own 0], [.row 24 1 q.length (nRow q)])
def onF : Kept → Tr (Exit × Kept)
  | ([.gsl 2 n0 f0, .lit (.int .u32 most), .own 0, .gsl 1 n f, .lit (.int .i64 u), .lit (.int .i64 0)], [.row e 1 0 g]) => match Nat.beq e 24 with
    | true => .br (areNums n f && decide (u = (n : Int)) && Nat.ble n 4294967280 && areSps n0 f0 && Nat.ble n0 4294967280 && u32N most)
        (.leaf (.exit 0, ([.own 0], [.row 24 1 (onS most (spsOf n0 f0) (numsOf n f) []).length (nRow (onS most (spsOf n0 f0) (numsOf n f) []))]))) .fail
    | false => .fail
  | _ => .fail

theorem on_LR (most : Int) (n0 : Nat) (f0 : Nat → List PV) (hf0 : areSps n0 f0 = true) (hn0 : Nat.ble n0 4294967280 = true) (hm : u32N most = true) (ns : List Int) (hn : ns.length ≤ 4294967280) : ∀ (s : List Int) (i : Nat) (r : List Int), ns.drop i = s → r.length ≤ i →
    LR Tryz.prog (E9 (GG m t fr)) 60 (GG m t fr) 26 onOuts .normal (theLoop 0 Tryz.f23) (onIn most n0 f0 ns i r) (.exit 0) (onEnd (onS most (spsOf n0 f0) s r))
  | [], i, r, hr, hi => by
    have h := on_round m t fr ns r ns.length r.length n0 f0 most ns.length i
    have hlen := List.drop_eq_nil_iff.1 hr
    have hd : decide ((i : Int) < (ns.length : Int)) = false := by simp; omega
    rw [hd] at h
    exact .last (Tr.run_of h (by simp)) (by simp) (by simp [onS, onEnd])
  | x :: s, i, r, hr, hi => by
    have h := on_round m t fr ns r ns.length r.length n0 f0 most ns.length i
    obtain ⟨hlt, hx, hdr⟩ := nu_drop hr
    have hd : decide ((i : Int) < (ns.length : Int)) = true := by simp; omega
    have hw : IntKind.i64.wrap ((i : Int) + 1) = ((i + 1 : Nat) : Int) := wrap_succ (by omega)
    rw [hd, hw, Int.toNat_natCast, hx, hf0, hn0, hm] at h
    cases c : hasS most x (spsOf n0 f0) with
    | true =>
      rw [c] at h
      have e : onS most (spsOf n0 f0) (x :: s) r = onS most (spsOf n0 f0) s (r ++ [x]) := by rw [onS, c]; rfl
      rw [e]
      have ih := on_LR most n0 f0 hf0 hn0 hm ns hn s (i + 1) (r ++ [x]) hdr (by simp; omega)
      have le : KLe ([.gsl 2 n0 f0, .lit (.int .u32 most), .own 0, .gsl 1 ns.length (nRow ns), int ns.length, int ((i + 1 : Nat) : Int)], [.row 24 1 (r.length + 1) (rowApp r.length (nRow r) (rowOf [.lit (.int .u32 x)] 1))]) (onIn most n0 f0 ns (i + 1) (r ++ [x])) :=
        ⟨.refl _, BLeL.cons (.row _ _ (by simp) fun j hj => n_snoc r x j hj) .nil⟩
      exact .more (Tr.run_of h (by simp; omega)) (.le le ih)
    | false =>
      rw [c] at h
      have e : onS most (spsOf n0 f0) (x :: s) r = onS most (spsOf n0 f0) s r := by rw [onS, c]; rfl
      rw [e]
      exact .more (Tr.run_of h (by simp; omega)) (on_LR most n0 f0 hf0 hn0 hm ns hn s (i + 1) r hdr (by omega))
theorem onF_ok (k : Kept) (e : Exit) (y : Kept) (h : (onF k).run = some (e, y)) : LR Tryz.prog (E9 (GG m t fr)) 60 (GG m t fr) 26 onOuts .normal (theLoop 0 Tryz.f23) k e y := by
  unfold onF at h
  split at h
  · rename_i n0 f0 most n f u e0 g
    split at h
    · rename_i he
      obtain rfl := Nat.eq_of_beq_eq_true he
      have hb := br_run h
      clear h
      obtain ⟨hc, h⟩ := hb
      simp only [Bool.and_eq_true, decide_eq_true_eq] at hc
      obtain ⟨⟨⟨⟨⟨hf, rfl⟩, hn⟩, hf0⟩, hn0⟩, hm⟩ := hc
      simp only [Tr.run, Option.some.injEq, Prod.mk.injEq] at h
      obtain ⟨rfl, rfl⟩ := h
      have hL := nums_len n f
      rw [Nat.ble_eq] at hn
      have key := on_LR (m := m) (t := t) (fr := fr) most n0 f0 hf0 hn0 hm (numsOf n f) (by omega) (numsOf n f) 0 [] rfl (Nat.le_refl _)
      have hin : KLe ([.gsl 2 n0 f0, .lit (.int .u32 most), .own 0, .gsl 1 n f, int (n : Int), int 0], [.row 24 1 0 g]) (onIn most n0 f0 (numsOf n f) 0 []) := by
        refine ⟨PLeL.cons (.refl _) (PLeL.cons (.refl _) (PLeL.cons (.refl _) (PLeL.cons (PLe.gsl hL.symm (nums_row hf)) (PLeL.cons (PLe.of_eq ?_) (.refl _))))), BLeL.cons (.row _ _ rfl fun j hj => absurd hj (by simp)) .nil⟩
        rw [hL]
      exact .le hin key
    · cases h
  · cases h
noncomputable abbrev onCut (G : GT) := cutOf G 26 onOuts 0 onF

noncomputable abbrev roCut (G : GT) := cutOf G 26 onOuts 0 onF

/-! ### numbers compared -/
def s1End (a b : List Int) : Exit × Kept := bif decide (a = b) then (.exit 0, ([], [])) else (.ret, ([bool false], []))
def s1In (a b : List Int) (i : Nat) : Kept := ([.gsl 1 a.length (nRow a), .gsl 1 b.length (nRow b), int a.length, int i], [])
def s1F : Kept → Tr (Exit × Kept)
  | ([.gsl 1 n f, .gsl 1 n' f', .lit (.int .i64 u), .lit (.int .i64 0)], []) => .br (areNums n f && areNums n' f' && decide (n = n') && decide (u = (n : Int)) && Nat.ble n 4294967280) (.br (decide (numsOf n f = numsOf n' f')) (.leaf (.exit 0, ([], []))) (.leaf (.ret, ([bool false], [])))) .fail
  | _ => .fail
noncomputable abbrev s1Cut (G : GT) := cutOf G 26 s1Outs 0 s1F
end
end Go.Proofs.YtcdghinmmhcfcaaGreatDoor.Ev
