/- lex: what is written. No condition. -/
import Derived.Test.YtnidaonmigjgkaaDoorLxT
import Derived.Lib.ItoaLen
namespace Go.Proofs.YtnidaonmigjgkaaDoor.Ev
open Go Go.RowKit Go.Proofs Go.Proofs.YtnidaonmigjgkaaDoor.Str
set_option linter.unusedVariables false
set_option linter.unusedSimpArgs false
section
variable {m : Int} {t : TypeId} {fr : Nat × Nat}
def lenS (l : List UInt8) : List UInt8 := Lib.itoa ((l.length : Nat) : Int)
def litS (l : List UInt8) : List UInt8 := 123 :: lenS l ++ [125, 13, 10] ++ l
def textS (k : Int) (l : List UInt8) : List UInt8 := bif k == 3 then [40] else bif k == 4 then [41] else bif k == 1 then l else bif k == 2 then (bif l.all plB then quoteS l else litS l) else []
def textB (k : Int) (l : List UInt8) : Bool := bif k == 3 then decide (l = [40]) else bif k == 4 then decide (l = [41]) else bif k == 1 then atomB l else bif k == 2 then (l.all plB || decide ((lenS l).length ≤ 9)) else false
def textG : List PV → Tr PV
  | [.agg [.lit (.int .u8 k), .lit (.string s)]] => .br (smallS s) (.leaf (.tup [str (bs (textS k (ls s))), bool (textB k (ls s))])) .fail
  | _ => .fail
theorem text_ok : PureOK Tryd.prog (GG m t fr) 22 textG := by
  refine PureOK.of (fn_pure mixed E7_ok (envOf_cuts ..) (fn := Tryd.f22) (by kernel_rfl)) fun ps p hp => ?_
  unfold textG at hp
  split at hp
  · rename_i k s
    obtain ⟨hs, hp⟩ := br_run hp
    simp only [Tr.run, Option.some.injEq] at hp
    subst hp
    have hs' := smallS_le hs
    have os : okS s = true := okS_of (by omega)
    have h := text_raw m t fr k s
    have e40 : ls (ByteArray.mk (List.toArray [(40 : UInt8)])) = [40] := rfl
    have e41 : ls (ByteArray.mk (List.toArray [(41 : UInt8)])) = [41] := rfl
    have e123 : ls (ByteArray.mk (List.toArray [(123 : UInt8)])) = [123] := rfl
    have e3 : ls (ByteArray.mk (List.toArray [(125 : UInt8), (13 : UInt8), (10 : UInt8)])) = [125, 13, 10] := rfl
    have hL : Lib.itoa (((ls s).length : Nat) : Int) = lenS (ls s) := rfl
    have hLl : (lenS (ls s)).length ≤ 21 := Lib.itoa_length_le _ (by omega) (by rw [ls_len]; omega)
    simp only [eqB, e40, e41, ls_app, ls_bs, e123, e3, hL] at h
    unfold textS textB
    cases c3 : (k == 3) with
    | true =>
      rw [c3] at h
      exact ⟨_, Tr.run_of h (by simp), PLe.of_eq rfl⟩
    | false =>
    rw [c3] at h
    simp only [cond_false] at h
    cases c4 : (k == 4) with
    | true =>
      rw [c4] at h
      exact ⟨_, Tr.run_of h (by simp), PLe.of_eq rfl⟩
    | false =>
    rw [c4] at h
    simp only [cond_false] at h
    cases c1 : (k == 1) with
    | true =>
      rw [c1] at h
      exact ⟨_, Tr.run_of h (by simp [os]), PLe.of_eq (by simp [bs_ls])⟩
    | false =>
    rw [c1] at h
    simp only [cond_false] at h
    cases c2 : (k == 2) with
    | false =>
      rw [c2] at h
      exact ⟨_, Tr.run_of h (by simp), PLe.of_eq rfl⟩
    | true =>
    rw [c2] at h
    simp only [cond_true] at h
    cases ca : (ls s).all plB with
    | true =>
      rw [ca] at h
      exact ⟨_, Tr.run_of h (by simp [os]), PLe.of_eq (by simp)⟩
    | false =>
      rw [ca] at h
      have e : ByteArray.mk (List.toArray [(123 : UInt8)]) ++ bs (lenS (ls s)) ++ ByteArray.mk (List.toArray [(125 : UInt8), (13 : UInt8), (10 : UInt8)]) ++ s = bs (litS (ls s)) := ls_inj (by rw [ls_app, ls_app, ls_app, ls_bs, ls_bs, e123, e3]; rfl)
      rw [e] at h
      refine ⟨_, Tr.run_of h (by simp [os, ls_len]; omega), PLe.of_eq ?_⟩
      simp
      omega
  · cases hp
/-- tokens, as they lie in a row -/
def tok (ts : List (Int × ByteArray)) (i : Nat) : Int × ByteArray := ts.getD i (0, .empty)
def tRow (ts : List (Int × ByteArray)) (i : Nat) : List PV := [.lit (.int .u8 (tok ts i).1), .lit (.string (tok ts i).2)]
def wrPure : List (Nat × (List PV → Tr PV)) := (22, textG) :: txPure
theorem wrPure_ok : TabOK Tryd.prog (GG m t fr) wrPure :=
  TabOK.cons text_ok (fn := Tryd.f22) (by kernel_rfl) (by kernel_rfl) txPure_ok
noncomputable abbrev E8 (G : GT) : Env := envOf Tryd.prog G wrPure libFull
theorem E8_ok : (E8 (GG m t fr)).ok Tryd.prog (GG m t fr) := envOf_ok mixed wrPure_ok libFull_ok
def wrOuts : Exit → Outs
  | .normal => { ks := [0, 9, 10, 11, 4], rs := [.slot 4, .cell 0 1], nilc := [(4, 1, 5, 1)] }
  | .exit _ => { ks := [0, 4], rs := [.slot 4, .cell 0 1], nilc := [(4, 1, 5, 1)] }
  | .ret => { ks := [2, 3] }
  | _ => { ks := [] }
noncomputable abbrev wrRound (G : GT) := roundT Tryd.prog (E8 G) 60 G 47 wrOuts .normal (theLoop 0 Tryd.f11)
-- from: wr_round [bs, okS, ls, rowApp, rowOf, tok, textS, textB, strRow, smallS] (m : Int) (t : TypeId) (fr : Nat × Nat) (ts : List (Int × ByteArray)) (n : Nat) (u i : Int) (k : Nat) (f : Nat → List PV) : (wrRound (GG m t fr) ([.gsl 2 n (tRow ts), .gsl 2 n (tRow ts), int u, int i, .ptr 0 0], [.cells 51 [.ptr 0 0, .own 1], .row 5 1 k f])).run2
theorem wr_round (m : Int) (t : TypeId) (fr : Nat × Nat) (ts : List (Int × ByteArray)) (n : Nat) (u i : Int) (k : Nat) (f : Nat → List PV) : (wrRound (GG m t fr) ([.gsl 2 n (tRow ts), .gsl 2 n (tRow ts), int u, int i, .ptr 0 0], [.cells 51 [.ptr 0 0, .own 1], .row 5 1 k f])).run2 =
    (bif (decide (i < u)) then
        bif (!(textB (Prod.fst (tok ts (Int.toNat i))) (ls (Prod.snd (tok ts (Int.toNat i)))))) then
          (.some ((.ret, ([(.lit (.string (.mk (List.toArray [])))), (.lit (.int .i64 (2 : Int)))], [])), [(smallS (Prod.snd (tok ts (Int.toNat i)))), ((decide ((0 : Int) ≤ i)) && (Nat.blt (Int.toNat i) n))]))
        else bif (decide (i > (0 : Int))) then
            bif (bne (Prod.fst (tok ts (Int.toNat (IntKind.wrap .i64 (i - (1 : Int)))))) (3 : Int)) then
              bif (bne (Prod.fst (tok ts (Int.toNat i))) (4 : Int)) then
                (.some ((.normal, ([(.gsl 2 n (fun i => [PV.lit (Value.int IntKind.u8 (tok ts i).fst), PV.lit (Value.string (tok ts i).snd)])), (.gsl 2 n (fun i => [PV.lit (Value.int IntKind.u8 (tok ts i).fst), PV.lit (Value.string (tok ts i).snd)])), (.lit (.int .i64 u)), (.lit (.int .i64 (IntKind.wrap .i64 (i + (1 : Int))))), (.ptr 0 0)], [(.cells (51 : TypeId) [(.ptr 0 0), (.own 1)]), (.row 5 1 ((k + 1) + (List.length (textS (Prod.fst (tok ts (Int.toNat i))) (ls (Prod.snd (tok ts (Int.toNat i))))))) (rowApp (k + 1) (rowApp k f (rowOf [(.lit (.int .u8 (32 : Int)))] 1)) (strRow (bs (textS (Prod.fst (tok ts (Int.toNat i))) (ls (Prod.snd (tok ts (Int.toNat i)))))))))])), [(Nat.ble ((k + 1) + (List.length (textS (Prod.fst (tok ts (Int.toNat i))) (ls (Prod.snd (tok ts (Int.toNat i))))))) (140737488355328 : Nat)), (Nat.ble ((k + 1) * 1) (140737488355328 : Nat)), ((decide ((0 : Int) ≤ (IntKind.wrap .i64 (i - (1 : Int))))) && (Nat.blt (Int.toNat (IntKind.wrap .i64 (i - (1 : Int)))) n)), (smallS (Prod.snd (tok ts (Int.toNat i)))), ((decide ((0 : Int) ≤ i)) && (Nat.blt (Int.toNat i) n))]))
              else (.some ((.normal, ([(.gsl 2 n (fun i => [PV.lit (Value.int IntKind.u8 (tok ts i).fst), PV.lit (Value.string (tok ts i).snd)])), (.gsl 2 n (fun i => [PV.lit (Value.int IntKind.u8 (tok ts i).fst), PV.lit (Value.string (tok ts i).snd)])), (.lit (.int .i64 u)), (.lit (.int .i64 (IntKind.wrap .i64 (i + (1 : Int))))), (.ptr 0 0)], [(.cells (51 : TypeId) [(.ptr 0 0), (.own 1)]), (.row 5 1 (k + (List.length (textS (Prod.fst (tok ts (Int.toNat i))) (ls (Prod.snd (tok ts (Int.toNat i))))))) (rowApp k f (strRow (bs (textS (Prod.fst (tok ts (Int.toNat i))) (ls (Prod.snd (tok ts (Int.toNat i)))))))))])), [(Nat.ble (k + (List.length (textS (Prod.fst (tok ts (Int.toNat i))) (ls (Prod.snd (tok ts (Int.toNat i))))))) (140737488355328 : Nat)), ((decide ((0 : Int) ≤ (IntKind.wrap .i64 (i - (1 : Int))))) && (Nat.blt (Int.toNat (IntKind.wrap .i64 (i - (1 : Int)))) n)), (smallS (Prod.snd (tok ts (Int.toNat i)))), ((decide ((0 : Int) ≤ i)) && (Nat.blt (Int.toNat i) n))]))
            else (.some ((.normal, ([(.gsl 2 n (fun i => [PV.lit (Value.int IntKind.u8 (tok ts i).fst), PV.lit (Value.string (tok ts i).snd)])), (.gsl 2 n (fun i => [PV.lit (Value.int IntKind.u8 (tok ts i).fst), PV.lit (Value.string (tok ts i).snd)])), (.lit (.int .i64 u)), (.lit (.int .i64 (IntKind.wrap .i64 (i + (1 : Int))))), (.ptr 0 0)], [(.cells (51 : TypeId) [(.ptr 0 0), (.own 1)]), (.row 5 1 (k + (List.length (textS (Prod.fst (tok ts (Int.toNat i))) (ls (Prod.snd (tok ts (Int.toNat i))))))) (rowApp k f (strRow (bs (textS (Prod.fst (tok ts (Int.toNat i))) (ls (Prod.snd (tok ts (Int.toNat i)))))))))])), [(Nat.ble (k + (List.length (textS (Prod.fst (tok ts (Int.toNat i))) (ls (Prod.snd (tok ts (Int.toNat i))))))) (140737488355328 : Nat)), ((decide ((0 : Int) ≤ (IntKind.wrap .i64 (i - (1 : Int))))) && (Nat.blt (Int.toNat (IntKind.wrap .i64 (i - (1 : Int)))) n)), (smallS (Prod.snd (tok ts (Int.toNat i)))), ((decide ((0 : Int) ≤ i)) && (Nat.blt (Int.toNat i) n))]))
          else (.some ((.normal, ([(.gsl 2 n (fun i => [PV.lit (Value.int IntKind.u8 (tok ts i).fst), PV.lit (Value.string (tok ts i).snd)])), (.gsl 2 n (fun i => [PV.lit (Value.int IntKind.u8 (tok ts i).fst), PV.lit (Value.string (tok ts i).snd)])), (.lit (.int .i64 u)), (.lit (.int .i64 (IntKind.wrap .i64 (i + (1 : Int))))), (.ptr 0 0)], [(.cells (51 : TypeId) [(.ptr 0 0), (.own 1)]), (.row 5 1 (k + (List.length (textS (Prod.fst (tok ts (Int.toNat i))) (ls (Prod.snd (tok ts (Int.toNat i))))))) (rowApp k f (strRow (bs (textS (Prod.fst (tok ts (Int.toNat i))) (ls (Prod.snd (tok ts (Int.toNat i)))))))))])), [(Nat.ble (k + (List.length (textS (Prod.fst (tok ts (Int.toNat i))) (ls (Prod.snd (tok ts (Int.toNat i))))))) (140737488355328 : Nat)), (smallS (Prod.snd (tok ts (Int.toNat i)))), ((decide ((0 : Int) ≤ i)) && (Nat.blt (Int.toNat i) n))]))
      else (.some (((.exit 0), ([(.gsl 2 n (fun i => [PV.lit (Value.int IntKind.u8 (tok ts i).fst), PV.lit (Value.string (tok ts i).snd)])), (.ptr 0 0)], [(.cells (51 : TypeId) [(.ptr 0 0), (.own 1)]), (.row (5 : TypeId) 1 k f)])), [])) : Option ((Exit × Kept) × List Bool)) := by
  kernel_rfl
/-! ### rows of tokens -/
def tokOf : List PV → Int × ByteArray
  | [.lit (.int .u8 k), .lit (.string s)] => (k, s)
  | _ => (0, .empty)
def isTok : List PV → Bool
  | [.lit (.int .u8 _), .lit (.string _)] => true
  | _ => false
def toksOf (n : Nat) (f : Nat → List PV) : List (Int × ByteArray) := (List.range n).map fun i => tokOf (f i)
def areToks (n : Nat) (f : Nat → List PV) : Bool := (List.range n).all fun i => isTok (f i)
theorem toks_len (n : Nat) (f : Nat → List PV) : (toksOf n f).length = n := by simp [toksOf]
theorem tok_isTok {l : List PV} (h : isTok l = true) : l = [.lit (.int .u8 (tokOf l).1), .lit (.string (tokOf l).2)] := by
  unfold isTok at h
  split at h
  · rfl
  · cases h
theorem toks_row {n : Nat} {f : Nat → List PV} (h : areToks n f = true) (i : Nat) (hi : i < n) : f i = tRow (toksOf n f) i := by
  have h1 := List.all_eq_true.1 h i (List.mem_range.2 hi)
  have h2 : tok (toksOf n f) i = tokOf (f i) := by simp [tok, toksOf, hi]
  unfold tRow
  rw [h2]
  exact tok_isTok h1
theorem toks_tRow (ts : List (Int × ByteArray)) : toksOf ts.length (tRow ts) = ts := by
  unfold toksOf
  refine List.ext_getElem (by simp) fun i h1 h2 => ?_
  simp [tRow, tokOf, tok, h2]
theorem are_tRow (n : Nat) (ts : List (Int × ByteArray)) : areToks n (tRow ts) = true := by
  unfold areToks
  rw [List.all_eq_true]
  intro i _
  rfl
theorem tok_drop {ts : List (Int × ByteArray)} {i : Nat} {x : Int × ByteArray} {r : List (Int × ByteArray)} (h : ts.drop i = x :: r) : i < ts.length ∧ tok ts i = x ∧ ts.drop (i + 1) = r := by
  have hlt : i < ts.length := by
    rcases Nat.lt_or_ge i ts.length with h' | h'
    · exact h'
    · rw [List.drop_eq_nil_of_le h'] at h
      cases h
  rw [List.drop_eq_getElem_cons hlt] at h
  simp only [List.cons.injEq] at h
  refine ⟨hlt, ?_, h.2⟩
  rw [← h.1]
  simp [tok, hlt]
/-! ### what is written -/
def sepS (p : Option Int) (k : Int) : List UInt8 := match p with
  | none => []
  | some p => bif !(p == 3) then (bif !(k == 4) then [32] else []) else []
def wrS : Option Int → List (Int × ByteArray) → Option (List UInt8)
  | _, [] => some []
  | p, x :: r => bif textB x.1 (ls x.2) then (wrS (some x.1) r).map (fun q => (sepS p x.1 ++ textS x.1 (ls x.2)) ++ q) else none
def tokW : List (Int × ByteArray) → Nat
  | [] => 0
  | x :: r => 2 * x.2.size + 40 + tokW r
theorem textS_len (k : Int) (l : List UInt8) (h : l.length ≤ 2000000) : (textS k l).length ≤ 2 * l.length + 30 := by
  have hLl : (lenS l).length ≤ 21 := Lib.itoa_length_le _ (by omega) (by omega)
  have hq : (quoteS l).length ≤ 2 * l.length + 2 := by
    have := esc_len l
    simp [quoteS]
    omega
  unfold textS litS
  cases k == 3 <;> cases k == 4 <;> cases k == 1 <;> cases k == 2 <;> cases l.all plB <;> simp <;> omega
def prevS (ts : List (Int × ByteArray)) (i : Nat) : Option Int := match i with
  | 0 => none
  | j + 1 => some (tok ts j).1
def wrIn (ts : List (Int × ByteArray)) (i k : Nat) (f : Nat → List PV) : Kept := ([.gsl 2 ts.length (tRow ts), .gsl 2 ts.length (tRow ts), int ts.length, int i, .ptr 0 0], [.cells 51 [.ptr 0 0, .own 1], .row 5 1 k f])
def wrEnd (ts : List (Int × ByteArray)) (k : Nat) (f : Nat → List PV) : Option (List UInt8) → Exit × Kept
  | some q => (.exit 0, ([.gsl 2 ts.length (tRow ts), .ptr 0 0], [.cells 51 [.ptr 0 0, .own 1], .row 5 1 (k + q.length) (rowApp k f (bRow q))]))
  | none => (.ret, ([str (.mk (List.toArray [])), int 2], []))
theorem app_assoc (k : Nat) (f : Nat → List PV) (a b : List UInt8) (i : Nat) : rowApp (k + a.length) (rowApp k f (bRow a)) (bRow b) i = rowApp k f (bRow (a ++ b)) i := by
  rcases Nat.lt_or_ge i k with h | h
  · rw [app_lo _ _ (show i < k + a.length by omega), app_lo _ _ h, app_lo _ _ h]
  · obtain ⟨j, rfl⟩ : ∃ j, i = k + j := ⟨i - k, by omega⟩
    rw [app_hi]
    rcases Nat.lt_or_ge j a.length with h2 | h2
    · rw [app_lo _ _ (show k + j < k + a.length by omega), app_hi]
      simp [bRow, List.getElem?_append_left h2]
    · obtain ⟨e, rfl⟩ : ∃ e, j = a.length + e := ⟨j - a.length, by omega⟩
      have : k + (a.length + e) = k + a.length + e := by omega
      rw [this, app_hi]
      simp [bRow, List.getElem?_append_right]
theorem wrEnd_1 (ts : List (Int × ByteArray)) (k k' : Nat) (f f' : Nat → List PV) (o : Option (List UInt8)) (a : List UInt8) : (wrEnd ts k' f' o).1 = (wrEnd ts k f (o.map fun q => a ++ q)).1 := by cases o <;> rfl
theorem wrEnd_2 (ts : List (Int × ByteArray)) (k : Nat) (f : Nat → List PV) (o : Option (List UInt8)) (a : List UInt8) : KLe (wrEnd ts (k + a.length) (rowApp k f (bRow a)) o).2 (wrEnd ts k f (o.map fun q => a ++ q)).2 := by
  cases o with
  | none => exact ⟨.refl _, .refl _⟩
  | some q => exact ⟨.refl _, BLeL.cons (.refl _) (BLeL.cons (.row _ _ (by simp; omega) fun i _ => app_assoc k f a q i) .nil)⟩
theorem strRow_bs (l : List UInt8) : strRow (bs l) = bRow l := by
  funext i
  unfold strRow bRow
  rw [getD_ls, ls_bs]
theorem wr_LR (ts : List (Int × ByteArray)) (hsm : ts.all (fun x => smallS x.2) = true) (hts : ts.length ≤ 4294967280) : ∀ (r : List (Int × ByteArray)) (i k : Nat) (f : Nat → List PV), ts.drop i = r → i ≤ ts.length → k + tokW r ≤ 140737488355328 →
    LR Tryd.prog (E8 (GG m t fr)) 60 (GG m t fr) 47 wrOuts .normal (theLoop 0 Tryd.f11) (wrIn ts i k f) (wrEnd ts k f (wrS (prevS ts i) r)).1 (wrEnd ts k f (wrS (prevS ts i) r)).2
  | [], i, k, f, hr, hi, hk => by
    have h := wr_round m t fr ts ts.length ts.length i k f
    have hlen : ts.length ≤ i := List.drop_eq_nil_iff.1 hr
    have hd : decide ((i : Int) < (ts.length : Int)) = false := by simp; omega
    rw [hd] at h
    exact .out (.last (Tr.run_of h rfl) (by simp [wrEnd, wrS]) (by simp [wrEnd, wrS])) ⟨.refl _, BLeL.cons (.refl _) (BLeL.cons (.row _ _ rfl fun j hj => app_nil k f j hj _) .nil)⟩
  | x :: r, i, k, f, hr, hi, hk => by
    have h := wr_round m t fr ts ts.length ts.length i k f
    obtain ⟨hlt, hget, hdrop⟩ := tok_drop hr
    have hd : decide ((i : Int) < (ts.length : Int)) = true := by simp; omega
    have hw : IntKind.i64.wrap ((i : Int) + 1) = ((i + 1 : Nat) : Int) := wrap_succ (by omega)
    have hb : Nat.blt i ts.length = true := by rw [Nat.blt_eq]; exact hlt
    have hx : x ∈ ts := by
      have : x ∈ ts.drop i := by rw [hr]; exact List.mem_cons_self ..
      exact List.mem_of_mem_drop this
    have hsx : smallS x.2 = true := List.all_eq_true.1 hsm x hx
    have hsx' := smallS_le hsx
    have hTl := textS_len x.1 (ls x.2) (by rw [ls_len]; exact hsx')
    rw [ls_len] at hTl
    simp only [tokW] at hk
    simp only [bne] at h
    rw [hd, hw, Int.toNat_natCast, hget, strRow_bs, hb, hsx] at h
    simp only [cond_true] at h
    have hS : wrS (prevS ts i) (x :: r) = bif textB x.1 (ls x.2) then (wrS (some x.1) r).map (fun q => (sepS (prevS ts i) x.1 ++ textS x.1 (ls x.2)) ++ q) else none := rfl
    rw [hS]
    have hp : prevS ts (i + 1) = some x.1 := by
      show some (tok ts i).1 = some x.1
      rw [hget]
    have o1 : Nat.ble (k + (textS x.1 (ls x.2)).length) 140737488355328 = true := by rw [Nat.ble_eq]; omega
    have o2 : Nat.ble (k + 1 + (textS x.1 (ls x.2)).length) 140737488355328 = true := by rw [Nat.ble_eq]; omega
    have o3 : Nat.ble ((k + 1) * 1) 140737488355328 = true := by rw [Nat.ble_eq]; omega
    rw [o1, o2, o3] at h
    cases hB : textB x.1 (ls x.2) with
    | false =>
      rw [hB] at h
      exact .last (Tr.run_of h (by simp)) (by simp [wrEnd]) (by simp [wrEnd])
    | true =>
    rw [hB] at h
    simp only [Bool.not_true, cond_false, cond_true] at h ⊢
    have go : ∀ (a : List UInt8), a.length ≤ 1 + (textS x.1 (ls x.2)).length → LR Tryd.prog (E8 (GG m t fr)) 60 (GG m t fr) 47 wrOuts .normal (theLoop 0 Tryd.f11) (wrIn ts (i + 1) (k + a.length) (rowApp k f (bRow a))) (wrEnd ts k f ((wrS (some x.1) r).map fun q => a ++ q)).1 (wrEnd ts k f ((wrS (some x.1) r).map fun q => a ++ q)).2 := by
      intro a ha
      have ih := wr_LR ts hsm hts r (i + 1) (k + a.length) (rowApp k f (bRow a)) hdrop (by omega) (by omega)
      rw [hp, wrEnd_1 ts k _ f _ _ a] at ih
      exact .out ih (wrEnd_2 ts k f _ a)
    have plain := go (textS x.1 (ls x.2)) (by omega)
    have spaced := go (32 :: textS x.1 (ls x.2)) (by simp; omega)
    match i, hr, hi, hlt, hget, hdrop, h, hp, plain, spaced with
    | 0, hr, hi, hlt, hget, hdrop, h, hp, plain, spaced =>
      have e : decide (((0 : Nat) : Int) > 0) = false := rfl
      rw [e] at h
      exact .more (Tr.run_of h (by simp)) plain
    | j + 1, hr, hi, hlt, hget, hdrop, h, hp, plain, spaced =>
      have e : decide (((j + 1 : Nat) : Int) > 0) = true := by simp
      have hwj : IntKind.i64.wrap (((j + 1 : Nat) : Int) - 1) = (j : Int) := wrap_pred' (by omega)
      have hbj : Nat.blt j ts.length = true := by rw [Nat.blt_eq]; omega
      rw [e, hwj, Int.toNat_natCast, hbj] at h
      simp only [cond_true] at h
      have hsp : sepS (prevS ts (j + 1)) x.1 = bif !((tok ts j).1 == 3) then (bif !(x.1 == 4) then [32] else []) else [] := rfl
      rw [hsp]
      cases c3 : (tok ts j).1 == 3 with
      | true =>
        rw [c3] at h
        exact .more (Tr.run_of h (by simp; omega)) plain
      | false =>
      rw [c3] at h
      cases c4 : x.1 == 4 with
      | true =>
        rw [c4] at h
        exact .more (Tr.run_of h (by simp; omega)) plain
      | false =>
        rw [c4] at h
        have le : KLe (wrIn ts (j + 1 + 1) (k + 1 + (textS x.1 (ls x.2)).length) (rowApp (k + 1) (rowApp k f (rowOf [.lit (.int .u8 32)] 1)) (bRow (textS x.1 (ls x.2))))) (wrIn ts (j + 1 + 1) (k + (32 :: textS x.1 (ls x.2)).length) (rowApp k f (bRow (32 :: textS x.1 (ls x.2))))) :=
          ⟨.refl _, BLeL.cons (.refl _) (BLeL.cons (.row _ _ (by simp; omega) fun i _ => app_push k f 32 _ i) .nil)⟩
        exact .more (Tr.run_of h (by simp; omega)) (.le le spaced)
-- from: wr_round0 [bs, okS, ls, rowApp, rowOf, tok, textS, textB, strRow, smallS] (m : Int) (t : TypeId) (fr : Nat × Nat) (ts : List (Int × ByteArray)) (n : Nat) (u : Int) (k : Nat) (f : Nat → List PV) : (wrRound (GG m t fr) ([.gsl 2 n (tRow ts), .gsl 2 n (tRow ts), int u, int 0, .ptr 0 0], [.cells 51 [.lit (.pointer none), .own 1], .row 5 1 k f])).run2
theorem wr_round0 (m : Int) (t : TypeId) (fr : Nat × Nat) (ts : List (Int × ByteArray)) (n : Nat) (u : Int) (k : Nat) (f : Nat → List PV) : (wrRound (GG m t fr) ([.gsl 2 n (tRow ts), .gsl 2 n (tRow ts), int u, int 0, .ptr 0 0], [.cells 51 [.lit (.pointer none), .own 1], .row 5 1 k f])).run2 =
    (bif (decide ((0 : Int) < u)) then
        bif (!(textB (Prod.fst (tok ts 0)) (ls (Prod.snd (tok ts 0))))) then
          (.some ((.ret, ([(.lit (.string (.mk (List.toArray [])))), (.lit (.int .i64 (2 : Int)))], [])), [(smallS (Prod.snd (tok ts 0))), (Nat.blt 0 n)]))
        else (.some ((.normal, ([(.gsl 2 n (fun i => [PV.lit (Value.int IntKind.u8 (tok ts i).fst), PV.lit (Value.string (tok ts i).snd)])), (.gsl 2 n (fun i => [PV.lit (Value.int IntKind.u8 (tok ts i).fst), PV.lit (Value.string (tok ts i).snd)])), (.lit (.int .i64 u)), (.lit (.int .i64 (1 : Int))), (.ptr 0 0)], [(.cells (51 : TypeId) [(.ptr 0 0), (.own 1)]), (.row 5 1 (k + (List.length (textS (Prod.fst (tok ts 0)) (ls (Prod.snd (tok ts 0)))))) (rowApp k f (strRow (bs (textS (Prod.fst (tok ts 0)) (ls (Prod.snd (tok ts 0))))))))])), [(Nat.ble (k + (List.length (textS (Prod.fst (tok ts 0)) (ls (Prod.snd (tok ts 0)))))) (140737488355328 : Nat)), (smallS (Prod.snd (tok ts 0))), (Nat.blt 0 n)]))
      else (.some (((.exit 0), ([(.gsl 2 n (fun i => [PV.lit (Value.int IntKind.u8 (tok ts i).fst), PV.lit (Value.string (tok ts i).snd)])), (.ptr 0 0)], [(.cells (51 : TypeId) [(.lit (.pointer .none)), (.own 1)]), (.row (5 : TypeId) 1 k f)])), [])) : Option ((Exit × Kept) × List Bool)) := by
  kernel_rfl
def wrIn0 (ts : List (Int × ByteArray)) (k : Nat) (f : Nat → List PV) : Kept := ([.gsl 2 ts.length (tRow ts), .gsl 2 ts.length (tRow ts), int ts.length, int 0, .ptr 0 0], [.cells 51 [.lit (.pointer none), .own 1], .row 5 1 k f])
def wrEnd0 (ts : List (Int × ByteArray)) (k : Nat) (f : Nat → List PV) : Option (List UInt8) → Exit × Kept
  | some q => (.exit 0, ([.gsl 2 ts.length (tRow ts), .ptr 0 0], [.cells 51 [.junk, .own 1], .row 5 1 (k + q.length) (rowApp k f (bRow q))]))
  | none => (.ret, ([str (.mk (List.toArray [])), int 2], []))
theorem wrEnd0_1 (ts : List (Int × ByteArray)) (k : Nat) (f : Nat → List PV) (o : Option (List UInt8)) : (wrEnd ts k f o).1 = (wrEnd0 ts k f o).1 := by cases o <;> rfl
theorem wrEnd0_2 (ts : List (Int × ByteArray)) (k : Nat) (f : Nat → List PV) (o : Option (List UInt8)) : KLe (wrEnd ts k f o).2 (wrEnd0 ts k f o).2 := by
  cases o with
  | none => exact ⟨.refl _, .refl _⟩
  | some q => exact ⟨.refl _, BLeL.cons (.cells _ (PLeL.cons (PLe.junk _) (.refl _))) (.refl _)⟩
theorem wr_LR0 (ts : List (Int × ByteArray)) (hsm : ts.all (fun x => smallS x.2) = true) (hts : ts.length ≤ 4294967280) (k : Nat) (f : Nat → List PV) (hk : k + tokW ts ≤ 140737488355328) :
    LR Tryd.prog (E8 (GG m t fr)) 60 (GG m t fr) 47 wrOuts .normal (theLoop 0 Tryd.f11) (wrIn0 ts k f) (wrEnd0 ts k f (wrS none ts)).1 (wrEnd0 ts k f (wrS none ts)).2 := by
  have h := wr_round0 m t fr ts ts.length ts.length k f
  cases hts' : ts with
  | nil =>
    rw [hts'] at h
    have hd : decide ((0 : Int) < ((([] : List (Int × ByteArray)).length : Nat) : Int)) = false := rfl
    rw [hd] at h
    exact .out (.last (Tr.run_of h rfl) (by simp [wrEnd0, wrS]) (by simp [wrEnd0, wrS])) ⟨.refl _, BLeL.cons (.cells _ (PLeL.cons (PLe.junk _) (.refl _))) (BLeL.cons (.row _ _ rfl fun j hj => app_nil k f j hj _) .nil)⟩
  | cons x r =>
    have hr : ts.drop 0 = x :: r := by rw [List.drop_zero, hts']
    rw [← hts']
    obtain ⟨hlt, hget, hdrop⟩ := tok_drop hr
    have hd : decide ((0 : Int) < (ts.length : Int)) = true := by simp; omega
    have hb : Nat.blt 0 ts.length = true := by rw [Nat.blt_eq]; exact hlt
    have hx : x ∈ ts := by rw [hts']; exact List.mem_cons_self ..
    have hsx : smallS x.2 = true := List.all_eq_true.1 hsm x hx
    have hsx' := smallS_le hsx
    have hTl := textS_len x.1 (ls x.2) (by rw [ls_len]; exact hsx')
    rw [ls_len] at hTl
    have hk' : k + (2 * x.2.size + 40 + tokW r) ≤ 140737488355328 := by
      rw [hts'] at hk
      exact hk
    rw [hd, hget, strRow_bs, hb, hsx] at h
    simp only [cond_true] at h
    have hS : wrS none ts = bif textB x.1 (ls x.2) then (wrS (some x.1) r).map (fun q => (sepS none x.1 ++ textS x.1 (ls x.2)) ++ q) else none := by
      rw [hts']
      rfl
    rw [hS]
    have hp : prevS ts (0 + 1) = some x.1 := by
      show some (tok ts 0).1 = some x.1
      rw [hget]
    have o1 : Nat.ble (k + (textS x.1 (ls x.2)).length) 140737488355328 = true := by rw [Nat.ble_eq]; omega
    rw [o1] at h
    cases hB : textB x.1 (ls x.2) with
    | false =>
      rw [hB] at h
      exact .last (Tr.run_of h (by simp)) (by simp [wrEnd0]) (by simp [wrEnd0])
    | true =>
    rw [hB] at h
    simp only [Bool.not_true, cond_false, cond_true] at h ⊢
    have ih := wr_LR (m := m) (t := t) (fr := fr) ts hsm hts r (0 + 1) (k + (textS x.1 (ls x.2)).length) (rowApp k f (bRow (textS x.1 (ls x.2)))) hdrop (by omega) (by omega)
    rw [hp, wrEnd_1 ts k _ f _ _ (textS x.1 (ls x.2)), wrEnd0_1] at ih
    exact .more (Tr.run_of h (by simp)) (.out (.out ih (wrEnd_2 ts k f _ _)) (wrEnd0_2 ..))
def hasW (o : Option (List UInt8)) : Bool := o.isSome
def theW (o : Option (List UInt8)) : List UInt8 := o.getD []
def wrG (n : Nat) (f : Nat → List PV) : Option (List UInt8) := wrS none (toksOf n f)
def wrOK (n : Nat) (f : Nat → List PV) : Bool := areToks n f && (toksOf n f).all (fun x => smallS x.2) && Nat.ble n 4294967280 && Nat.ble (tokW (toksOf n f)) 100000000000
theorem tokW_drop (ts : List (Int × ByteArray)) : ∀ i, tokW (ts.drop i) ≤ tokW ts := by
  induction ts with
  | nil => intro i; simp
  | cons x r ih =>
    intro i
    cases i with
    | zero => simp
    | succ i =>
      have := ih i
      simp only [List.drop_succ_cons, tokW]
      omega
def wrF : Kept → Tr (Exit × Kept)
  | ([.gsl 2 n f, .gsl 2 n' f', .lit (.int .i64 u), .lit (.int .i64 0), .ptr 0 0], [.cells a [.lit (.pointer none), .own 1], .row b 1 k g]) => match Nat.beq a 51 && Nat.beq b 5 with
    | true => .br (wrOK n f && (areToks n' f' && decide (n = n') && decide (toksOf n f = toksOf n' f')) && decide (u = (n : Int)) && Nat.ble k 100000) (.br (hasW (wrG n f)) (.leaf (.exit 0, ([.gsl 2 n f, .ptr 0 0], [.cells 51 [.junk, .own 1], .row 5 1 (k + (theW (wrG n f)).length) (rowApp k g (bRow (theW (wrG n f))))])))
      (.leaf (.ret, ([str (.mk (List.toArray [])), int 2], [])))) .fail
    | false => .fail
  | _ => .fail
theorem wrF_ok (x : Kept) (e : Exit) (y : Kept) (h : (wrF x).run = some (e, y)) : LR Tryd.prog (E8 (GG m t fr)) 60 (GG m t fr) 47 wrOuts .normal (theLoop 0 Tryd.f11) x e y := by
  unfold wrF at h
  split at h
  · rename_i n f n' f' u a b k g
    split at h
    · rename_i hab
      rw [Bool.and_eq_true] at hab
      obtain rfl := Nat.eq_of_beq_eq_true hab.1
      obtain rfl := Nat.eq_of_beq_eq_true hab.2
      have hb := br_run h
      clear h
      obtain ⟨hc, h⟩ := hb
      simp only [wrOK, Bool.and_eq_true, decide_eq_true_eq, Nat.ble_eq] at hc
      obtain ⟨⟨⟨⟨⟨⟨hf, hsm⟩, hn⟩, hW⟩, ⟨hf', rfl⟩, hff⟩, rfl⟩, hk⟩ := hc
      have hlen := toks_len n f
      have key := wr_LR0 (m := m) (t := t) (fr := fr) (toksOf n f) hsm (by omega) k g (by omega)
      have hin : KLe ([.gsl 2 n f, .gsl 2 n f', int (n : Int), int 0, .ptr 0 0], [.cells 51 [.lit (.pointer none), .own 1], .row 5 1 k g]) (wrIn0 (toksOf n f) k g) := by
        refine ⟨PLeL.cons (PLe.gsl hlen.symm (toks_row hf)) (PLeL.cons (PLe.gsl hlen.symm fun i hi => ?_) (PLeL.cons (PLe.of_eq ?_) (.refl _))), .refl _⟩
        · rw [hff]
          exact toks_row hf' i hi
        · rw [hlen]
      have hG : wrS none (toksOf n f) = wrG n f := rfl
      rw [hG] at key
      cases ho : wrG n f with
      | none =>
        rw [ho] at key h
        simp only [Tr.run, hasW, Option.isSome_none, cond_false, Option.some.injEq, Prod.mk.injEq] at h
        obtain ⟨rfl, rfl⟩ := h
        exact .le hin key
      | some q =>
        rw [ho] at key h
        simp only [Tr.run, hasW, theW, Option.isSome_some, Option.getD_some, cond_true, Option.some.injEq, Prod.mk.injEq] at h
        obtain ⟨rfl, rfl⟩ := h
        exact .out (.le hin key) ⟨PLeL.cons (PLe.gsl hlen fun i hi => (toks_row hf i (by omega)).symm) (.refl _), .refl _⟩
    · cases h
  · cases h
noncomputable abbrev wrCut (G : GT) := cutOf G 47 wrOuts 0 wrF
-- from: write_raw [bs, okS, bytesOf, areBytes, rowApp, rowOf, bRow, hasW, theW, wrG, wrOK, areToks, toksOf, ls] (m : Int) (t : TypeId) (fr : Nat × Nat) (n : Nat) (f : Nat → List PV) : (fnPure Tryd.prog ((E8 (GG m t fr)).withCuts (cut1 0 (wrCut (GG m t fr)))) 60 Tryd.f11 (GG m t fr) [.gsl 2 n f]).run2
theorem write_raw (m : Int) (t : TypeId) (fr : Nat × Nat) (n : Nat) (f : Nat → List PV) : (fnPure Tryd.prog ((E8 (GG m t fr)).withCuts (cut1 0 (wrCut (GG m t fr)))) 60 Tryd.f11 (GG m t fr) [.gsl 2 n f]).run2 =
    (bif (hasW (wrG n f)) then
        bif (decide (((n : Nat) : Int) > (4096 : Int))) then
          (.some ((.tup [(.lit (.string (.mk (List.toArray [])))), (.lit (.int .i64 (2 : Int)))]), [((((wrOK n f) && (((areToks n f) && (decide (n = n))) && (decide ((toksOf n f) = (toksOf n f))))) && (decide (((n : Nat) : Int) = ((n : Nat) : Int)))) && true)]))
        else (.some ((.tup [(.lit (.string (.mk (List.toArray (bytesOf (0 + (List.length (theW (wrG n f)))) (rowApp 0 (fun x => []) (bRow (theW (wrG n f))))))))), (.lit (.int .i64 (0 : Int)))]), [(areBytes (0 + (List.length (theW (wrG n f)))) (rowApp 0 (fun x => []) (bRow (theW (wrG n f))))), ((((wrOK n f) && (((areToks n f) && (decide (n = n))) && (decide ((toksOf n f) = (toksOf n f))))) && (decide (((n : Nat) : Int) = ((n : Nat) : Int)))) && true)]))
      else (.some ((.tup [(.lit (.string (.mk (List.toArray [])))), (.lit (.int .i64 (2 : Int)))]), [((((wrOK n f) && (((areToks n f) && (decide (n = n))) && (decide ((toksOf n f) = (toksOf n f))))) && (decide (((n : Nat) : Int) = ((n : Nat) : Int)))) && true)])) : Option (PV × List Bool)) := by
  kernel_rfl
def writeG : List PV → Tr PV
  | [.gsl 2 n f] => .br (wrOK n f) (.br (hasW (wrG n f) && Nat.ble n 4096) (.leaf (.tup [str (bs (theW (wrG n f))), int 0])) (.leaf (.tup [str (bs []), int 2]))) .fail
  | _ => .fail
theorem write_ok : PureOK Tryd.prog (GG m t fr) 11 writeG := by
  refine PureOK.of (fn_cuts mixed E8_ok (fn := Tryd.f11) (cuts := cut1 0 (wrCut (GG m t fr))) (by kernel_rfl) (CutLaws.one (by omega) (by kernel_rfl) fun st e st' h => cutOf_ok E8_ok mixed (noCuts_ok (envOf_cuts ..) _) wrF_ok h)) fun ps p hp => ?_
  unfold writeG at hp
  split at hp
  · rename_i n f
    obtain ⟨ho, hp⟩ := br_run hp
    have ha : areToks n f = true := by
      unfold wrOK at ho
      simp only [Bool.and_eq_true] at ho
      exact ho.1.1.1
    have h := write_raw m t fr n f
    rw [bytes_app, are_app, are_bRow, bytes_bRow, ho, ha] at h
    have hd : decide (((n : Nat) : Int) > 4096) = !Nat.ble n 4096 := by
      rcases Nat.lt_or_ge 4096 n with hn | hn
      · have : Nat.ble n 4096 = false := by rw [Bool.eq_false_iff, ne_eq, Nat.ble_eq]; omega
        rw [this]
        simp
        omega
      · have : Nat.ble n 4096 = true := by rw [Nat.ble_eq]; exact hn
        rw [this]
        simp
        omega
    rw [hd] at h
    cases hW : hasW (wrG n f) with
    | false =>
      rw [hW] at h hp
      simp only [Tr.run, Bool.false_and, cond_false, Option.some.injEq] at hp
      subst hp
      exact ⟨_, Tr.run_of h (by simp), PLe.of_eq rfl⟩
    | true =>
      rw [hW] at h hp
      cases hB : Nat.ble n 4096 with
      | false =>
        rw [hB] at h hp
        simp only [Tr.run, Bool.and_false, cond_false, Option.some.injEq] at hp
        subst hp
        exact ⟨_, Tr.run_of h (by simp), PLe.of_eq rfl⟩
      | true =>
        rw [hB] at h hp
        simp only [Tr.run, Bool.and_true, cond_true, Option.some.injEq] at hp
        subst hp
        exact ⟨_, Tr.run_of h (by simp [areBytes]), PLe.of_eq rfl⟩
  · cases hp
end
end Go.Proofs.YtnidaonmigjgkaaDoor.Ev
