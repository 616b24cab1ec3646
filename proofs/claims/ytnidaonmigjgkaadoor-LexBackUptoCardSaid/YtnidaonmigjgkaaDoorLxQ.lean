/- lex: what is quoted. No condition. -/
import Derived.Test.YtnidaonmigjgkaaDoorLxP
namespace Go.Proofs.YtnidaonmigjgkaaDoor.Ev
open Go Go.RowKit Go.Proofs Go.Proofs.YtnidaonmigjgkaaDoor.Str
set_option linter.unusedVariables false
set_option linter.unusedSimpArgs false
section
variable {m : Int} {t : TypeId} {fr : Nat × Nat}
def plOuts : Exit → Outs
  | .normal => { ks := [0, 5, 6] }
  | .exit _ => { ks := [] }
  | .ret => { ks := [2] }
  | _ => { ks := [] }
noncomputable abbrev plRound (G : GT) := roundT Tryd.prog (E1 G) 60 G 26 plOuts .normal (theLoop 0 Tryd.f29)
-- from: pl_round [bs, okS, ls] (m : Int) (t : TypeId) (fr : Nat × Nat) (s : ByteArray) (n i : Int) : (plRound (GG m t fr) ([str s, int n, int i], [])).run2
theorem pl_round (m : Int) (t : TypeId) (fr : Nat × Nat) (s : ByteArray) (n i : Int) : (plRound (GG m t fr) ([str s, int n, int i], [])).run2 =
    (bif (decide (i < n)) then
        bif (decide ((((UInt8.toNat (Array.getD (ByteArray.data s) (Int.toNat i) (0 : UInt8))) : Nat) : Int) > (126 : Int))) then
          (.some ((.ret, ([(.lit (.bool false))], [])), [true, true, true, true, ((decide ((0 : Int) ≤ i)) && (Nat.blt (Int.toNat i) (List.length (ls s))))]))
        else bif (decide ((((UInt8.toNat (Array.getD (ByteArray.data s) (Int.toNat i) (0 : UInt8))) : Nat) : Int) < (32 : Int))) then
            bif (bne (((UInt8.toNat (Array.getD (ByteArray.data s) (Int.toNat i) (0 : UInt8))) : Nat) : Int) (9 : Int)) then
              (.some ((.ret, ([(.lit (.bool false))], [])), [((decide ((0 : Int) ≤ i)) && (Nat.blt (Int.toNat i) (List.length (ls s)))), ((decide ((0 : Int) ≤ i)) && (Nat.blt (Int.toNat i) (List.length (ls s)))), ((decide ((0 : Int) ≤ i)) && (Nat.blt (Int.toNat i) (List.length (ls s))))]))
            else (.some ((.normal, ([(.lit (.string s)), (.lit (.int .i64 n)), (.lit (.int .i64 (IntKind.wrap .i64 (i + (1 : Int)))))], [])), [((decide ((0 : Int) ≤ i)) && (Nat.blt (Int.toNat i) (List.length (ls s)))), ((decide ((0 : Int) ≤ i)) && (Nat.blt (Int.toNat i) (List.length (ls s)))), ((decide ((0 : Int) ≤ i)) && (Nat.blt (Int.toNat i) (List.length (ls s))))]))
          else (.some ((.normal, ([(.lit (.string s)), (.lit (.int .i64 n)), (.lit (.int .i64 (IntKind.wrap .i64 (i + (1 : Int)))))], [])), [((decide ((0 : Int) ≤ i)) && (Nat.blt (Int.toNat i) (List.length (ls s)))), ((decide ((0 : Int) ≤ i)) && (Nat.blt (Int.toNat i) (List.length (ls s))))]))
      else (.some (((.exit 0), ([], [])), [])) : Option ((Exit × Kept) × List Bool)) := by
  kernel_rfl
def quOuts : Exit → Outs
  | .normal => { ks := [0, 11, 12, 4], rs := [.slot 4, .cell 0 1] }
  | .exit _ => { ks := [4], rs := [.slot 4, .cell 0 1] }
  | _ => { ks := [] }
noncomputable abbrev quRound (G : GT) := roundT Tryd.prog (E1 G) 60 G 33 quOuts .normal (theLoop 0 Tryd.f14)
-- from: qu_round [bs, okS, ls, rowApp, rowOf] (m : Int) (t : TypeId) (fr : Nat × Nat) (s : ByteArray) (n i : Int) (k : Nat) (f : Nat → List PV) : (quRound (GG m t fr) ([str s, int n, int i, .ptr 0 0], [.cells 51 [.ptr 0 0, .own 1], .row 5 1 k f])).run2
theorem qu_round (m : Int) (t : TypeId) (fr : Nat × Nat) (s : ByteArray) (n i : Int) (k : Nat) (f : Nat → List PV) : (quRound (GG m t fr) ([str s, int n, int i, .ptr 0 0], [.cells 51 [.ptr 0 0, .own 1], .row 5 1 k f])).run2 =
    (bif (decide (i < n)) then
        bif ((((UInt8.toNat (Array.getD (ByteArray.data s) (Int.toNat i) (0 : UInt8))) : Nat) : Int) == (34 : Int)) then
          (.some ((.normal, ([(.lit (.string s)), (.lit (.int .i64 n)), (.lit (.int .i64 (IntKind.wrap .i64 (i + (1 : Int))))), (.ptr 0 0)], [(.cells (51 : TypeId) [(.ptr 0 0), (.own 1)]), (.row 5 1 ((k + 1) + 1) (rowApp (k + 1) (rowApp k f (rowOf [(.lit (.int .u8 (92 : Int)))] 1)) (rowOf [(.lit (.int .u8 (((UInt8.toNat (Array.getD (ByteArray.data s) (Int.toNat i) (0 : UInt8))) : Nat) : Int)))] 1)))])), [(Nat.ble (((k + 1) + 1) * 1) (140737488355328 : Nat)), ((decide ((0 : Int) ≤ i)) && (Nat.blt (Int.toNat i) (List.length (ls s)))), (Nat.ble ((k + 1) * 1) (140737488355328 : Nat)), true, true, true, ((decide ((0 : Int) ≤ i)) && (Nat.blt (Int.toNat i) (List.length (ls s))))]))
        else bif ((((UInt8.toNat (Array.getD (ByteArray.data s) (Int.toNat i) (0 : UInt8))) : Nat) : Int) == (92 : Int)) then
            (.some ((.normal, ([(.lit (.string s)), (.lit (.int .i64 n)), (.lit (.int .i64 (IntKind.wrap .i64 (i + (1 : Int))))), (.ptr 0 0)], [(.cells (51 : TypeId) [(.ptr 0 0), (.own 1)]), (.row 5 1 ((k + 1) + 1) (rowApp (k + 1) (rowApp k f (rowOf [(.lit (.int .u8 (92 : Int)))] 1)) (rowOf [(.lit (.int .u8 (((UInt8.toNat (Array.getD (ByteArray.data s) (Int.toNat i) (0 : UInt8))) : Nat) : Int)))] 1)))])), [(Nat.ble (((k + 1) + 1) * 1) (140737488355328 : Nat)), ((decide ((0 : Int) ≤ i)) && (Nat.blt (Int.toNat i) (List.length (ls s)))), (Nat.ble ((k + 1) * 1) (140737488355328 : Nat)), ((decide ((0 : Int) ≤ i)) && (Nat.blt (Int.toNat i) (List.length (ls s)))), ((decide ((0 : Int) ≤ i)) && (Nat.blt (Int.toNat i) (List.length (ls s))))]))
          else (.some ((.normal, ([(.lit (.string s)), (.lit (.int .i64 n)), (.lit (.int .i64 (IntKind.wrap .i64 (i + (1 : Int))))), (.ptr 0 0)], [(.cells (51 : TypeId) [(.ptr 0 0), (.own 1)]), (.row 5 1 (k + 1) (rowApp k f (rowOf [(.lit (.int .u8 (((UInt8.toNat (Array.getD (ByteArray.data s) (Int.toNat i) (0 : UInt8))) : Nat) : Int)))] 1)))])), [(Nat.ble ((k + 1) * 1) (140737488355328 : Nat)), ((decide ((0 : Int) ≤ i)) && (Nat.blt (Int.toNat i) (List.length (ls s)))), ((decide ((0 : Int) ≤ i)) && (Nat.blt (Int.toNat i) (List.length (ls s)))), ((decide ((0 : Int) ≤ i)) && (Nat.blt (Int.toNat i) (List.length (ls s))))]))
      else (.some (((.exit 0), ([(.ptr 0 0)], [(.cells (51 : TypeId) [(.ptr 0 0), (.own 1)]), (.row (5 : TypeId) 1 k f)])), [])) : Option ((Exit × Kept) × List Bool)) := by
  kernel_rfl
/-- a byte that may be quoted -/
def plB (c : UInt8) : Bool := !(decide (126 < c.toNat) || (decide (c.toNat < 32) && !decide (c = 9)))
def plF : Kept → Tr (Exit × Kept)
  | ([.lit (.string s), .lit (.int .i64 n), .lit (.int .i64 i)], []) => .br (okS s && decide (n = (s.size : Int)) && decide (0 ≤ i) && decide (i ≤ n)) (.br (((ls s).drop i.toNat).all plB) (.leaf (.exit 0, ([], []))) (.leaf (.ret, ([bool false], [])))) .fail
  | _ => .fail
def plEnd (r : List UInt8) : Exit × Kept := bif r.all plB then (.exit 0, ([], [])) else (.ret, ([bool false], []))
theorem byte_lt (c : UInt8) (d : Nat) : decide (((c.toNat : Nat) : Int) < (d : Int)) = decide (c.toNat < d) := by
  rw [decide_eq_decide]
  omega
theorem byte_gt (c : UInt8) (d : Nat) : decide (((c.toNat : Nat) : Int) > (d : Int)) = decide (d < c.toNat) := by
  rw [decide_eq_decide]
  omega
theorem pl_LR (s : ByteArray) (hs : s.size ≤ 4294967280) : ∀ (r : List UInt8) (i : Nat), (ls s).drop i = r → i ≤ s.size →
    LR Tryd.prog (E1 (GG m t fr)) 60 (GG m t fr) 26 plOuts .normal (theLoop 0 Tryd.f29) ([str s, int s.size, int i], []) (plEnd r).1 (plEnd r).2
  | [], i, hr, hi => by
    have h := pl_round m t fr s s.size i
    have hlen : s.size ≤ i := by
      have := List.drop_eq_nil_iff.1 hr
      rwa [ls_len] at this
    have hd : decide ((i : Int) < (s.size : Int)) = false := by simp; omega
    rw [hd] at h
    exact .last (Tr.run_of h rfl) (by simp [plEnd]) (by simp [plEnd])
  | c :: r, i, hr, hi => by
    have h := pl_round m t fr s s.size i
    obtain ⟨hlt, hget, hdrop⟩ := get_drop hr
    have hd : decide ((i : Int) < (s.size : Int)) = true := by simp; omega
    have hw : IntKind.i64.wrap ((i : Int) + 1) = ((i + 1 : Nat) : Int) := wrap_succ (by omega)
    have hb : Nat.blt i (ls s).length = true := by rw [Nat.blt_eq, ls_len]; exact hlt
    have e9 : (9 : Int) = (((9 : UInt8).toNat : Nat) : Int) := rfl
    have d1 : decide (((c.toNat : Nat) : Int) > 126) = decide (126 < c.toNat) := byte_gt c 126
    have d2 : decide (((c.toNat : Nat) : Int) < 32) = decide (c.toNat < 32) := byte_lt c 32
    simp only [bne] at h
    rw [hd, hw, Int.toNat_natCast, hget, d1, d2, e9, byte_eq, hb] at h
    simp only [cond_true] at h
    cases c1 : decide (126 < c.toNat) with
    | true =>
      rw [c1] at h
      have hp : plB c = false := by unfold plB; rw [c1]; rfl
      have he : plEnd (c :: r) = (.ret, ([bool false], [])) := by unfold plEnd; rw [List.all_cons, hp]; rfl
      rw [he]
      exact .last (Tr.run_of h (by simp)) (by simp) (by simp)
    | false =>
    rw [c1] at h
    have ih := pl_LR s hs r (i + 1) hdrop (by omega)
    cases c2 : decide (c.toNat < 32) with
    | false =>
      rw [c2] at h
      have hp : plB c = true := by unfold plB; rw [c1, c2]; rfl
      have he : plEnd (c :: r) = plEnd r := by unfold plEnd; rw [List.all_cons, hp]; rfl
      rw [he]
      exact .more (Tr.run_of h (by simp)) ih
    | true =>
    rw [c2] at h
    cases c3 : decide (c = 9) with
    | true =>
      rw [c3] at h
      have hp : plB c = true := by unfold plB; rw [c1, c2, c3]; rfl
      have he : plEnd (c :: r) = plEnd r := by unfold plEnd; rw [List.all_cons, hp]; rfl
      rw [he]
      exact .more (Tr.run_of h (by simp)) ih
    | false =>
      rw [c3] at h
      have hp : plB c = false := by unfold plB; rw [c1, c2, c3]; rfl
      have he : plEnd (c :: r) = (.ret, ([bool false], [])) := by unfold plEnd; rw [List.all_cons, hp]; rfl
      rw [he]
      exact .last (Tr.run_of h (by simp)) (by simp) (by simp)
theorem plF_ok (x : Kept) (e : Exit) (y : Kept) (h : (plF x).run = some (e, y)) : LR Tryd.prog (E1 (GG m t fr)) 60 (GG m t fr) 26 plOuts .normal (theLoop 0 Tryd.f29) x e y := by
  unfold plF at h
  split at h
  · rename_i s n i
    have hb := br_run h
    clear h
    obtain ⟨hc, h⟩ := hb
    simp only [Bool.and_eq_true, decide_eq_true_eq] at hc
    obtain ⟨⟨⟨hs, rfl⟩, h1⟩, h2⟩ := hc
    obtain ⟨i, rfl⟩ : ∃ k : Nat, i = k := ⟨i.toNat, by omega⟩
    have := pl_LR (m := m) (t := t) (fr := fr) s (okS_le hs) ((ls s).drop i) i rfl (by omega)
    rw [Int.toNat_natCast] at h
    unfold plEnd at this
    cases hd : ((ls s).drop i).all plB with
    | true =>
      rw [hd] at this h
      simp only [Tr.run, cond_true, Option.some.injEq, Prod.mk.injEq] at h
      obtain ⟨rfl, rfl⟩ := h
      exact this
    | false =>
      rw [hd] at this h
      simp only [Tr.run, cond_false, Option.some.injEq, Prod.mk.injEq] at h
      obtain ⟨rfl, rfl⟩ := h
      exact this
  · cases h
noncomputable abbrev plCut (G : GT) := cutOf G 26 plOuts 0 plF
-- from: pl_raw [bs, okS, plB, ls] (m : Int) (t : TypeId) (fr : Nat × Nat) (s : ByteArray) : (fnPure Tryd.prog ((E1 (GG m t fr)).withCuts (cut1 0 (plCut (GG m t fr)))) 60 Tryd.f29 (GG m t fr) [str s]).run2
theorem pl_raw (m : Int) (t : TypeId) (fr : Nat × Nat) (s : ByteArray) : (fnPure Tryd.prog ((E1 (GG m t fr)).withCuts (cut1 0 (plCut (GG m t fr)))) 60 Tryd.f29 (GG m t fr) [str s]).run2 =
    (bif (List.all (List.drop 0 (ls s)) (plB)) then
        (.some ((.lit (.bool true)), [((((okS s) && (decide ((((List.length (ls s)) : Nat) : Int) = (((List.length (ls s)) : Nat) : Int)))) && true) && (decide ((0 : Int) ≤ (((List.length (ls s)) : Nat) : Int))))]))
      else (.some ((.lit (.bool false)), [((((okS s) && (decide ((((List.length (ls s)) : Nat) : Int) = (((List.length (ls s)) : Nat) : Int)))) && true) && (decide ((0 : Int) ≤ (((List.length (ls s)) : Nat) : Int))))])) : Option (PV × List Bool)) := by
  kernel_rfl
def plainG : List PV → Tr PV
  | [.lit (.string s)] => .br (okS s) (.leaf (bool ((ls s).all plB))) .fail
  | _ => .fail
theorem plain_ok : PureOK Tryd.prog (GG m t fr) 29 plainG := by
  refine PureOK.of (fn_cuts mixed E1_ok (fn := Tryd.f29) (cuts := cut1 0 (plCut (GG m t fr))) (by kernel_rfl) (CutLaws.one (by omega) (by kernel_rfl) fun st e st' h => cutOf_ok E1_ok mixed (noCuts_ok (envOf_cuts ..) _) plF_ok h)) fun ps p hp => ?_
  unfold plainG at hp
  split at hp
  · rename_i s
    obtain ⟨hs, hp⟩ := br_run hp
    simp only [Tr.run, Option.some.injEq] at hp
    subst hp
    have h := pl_raw m t fr s
    rw [List.drop_zero] at h
    cases ha : (ls s).all plB with
    | true =>
      rw [ha] at h
      exact ⟨_, Tr.run_of h (by simp [hs, ls_len]), PLe.of_eq rfl⟩
    | false =>
      rw [ha] at h
      exact ⟨_, Tr.run_of h (by simp [hs, ls_len]), PLe.of_eq rfl⟩
  · cases hp
/-! ### rows of bytes -/
def bRow (l : List UInt8) (i : Nat) : List PV := [.lit (.int .u8 (((l.getD i 0).toNat : Nat) : Int))]
theorem app_push (k : Nat) (f : Nat → List PV) (c : UInt8) (l : List UInt8) (i : Nat) : rowApp (k + 1) (rowApp k f (rowOf [.lit (.int .u8 ((c.toNat : Nat) : Int))] 1)) (bRow l) i = rowApp k f (bRow (c :: l)) i := by
  unfold rowApp
  rcases Nat.lt_trichotomy i k with h | h | h
  · have h1 : Nat.blt i k = true := by rw [Nat.blt_eq]; exact h
    have h2 : Nat.blt i (k + 1) = true := by rw [Nat.blt_eq]; omega
    rw [h1, h2]
  · subst h
    have h1 : Nat.blt i i = false := by rw [Bool.eq_false_iff, ne_eq, Nat.blt_eq]; omega
    have h2 : Nat.blt i (i + 1) = true := by rw [Nat.blt_eq]; omega
    rw [h1, h2, Nat.sub_self]
    rfl
  · have h1 : Nat.blt i k = false := by rw [Bool.eq_false_iff, ne_eq, Nat.blt_eq]; omega
    have h2 : Nat.blt i (k + 1) = false := by rw [Bool.eq_false_iff, ne_eq, Nat.blt_eq]; omega
    rw [h1, h2]
    obtain ⟨j, rfl⟩ : ∃ j, i = k + 1 + j := ⟨i - (k + 1), by omega⟩
    have e1 : k + 1 + j - (k + 1) = j := by omega
    have e2 : k + 1 + j - k = j + 1 := by omega
    rw [e1, e2]
    rfl
theorem app_nil (k : Nat) (f : Nat → List PV) (i : Nat) (h : i < k + 0) (g : Nat → List PV) : f i = rowApp k f g i := by
  unfold rowApp
  have h1 : Nat.blt i k = true := by rw [Nat.blt_eq]; omega
  rw [h1]
theorem bytes_app (n k : Nat) (f g : Nat → List PV) : bytesOf (n + k) (rowApp n f g) = bytesOf n f ++ bytesOf k g := by
  unfold bytesOf
  rw [List.range_add, List.map_append, List.map_map]
  congr 1
  · refine List.map_congr_left fun i hi => ?_
    have : Nat.blt i n = true := by rw [Nat.blt_eq]; exact List.mem_range.1 hi
    unfold rowApp
    rw [this]
  · refine List.map_congr_left fun i hi => ?_
    have : Nat.blt (n + i) n = false := by rw [Bool.eq_false_iff, ne_eq, Nat.blt_eq]; omega
    show byteOf (rowApp n f g (n + i)) = _
    unfold rowApp
    rw [this, Nat.add_sub_cancel_left]
theorem app_lo {n i : Nat} (f g : Nat → List PV) (h : i < n) : rowApp n f g i = f i := by
  have : Nat.blt i n = true := by rw [Nat.blt_eq]; exact h
  unfold rowApp
  rw [this]
theorem app_hi (n i : Nat) (f g : Nat → List PV) : rowApp n f g (n + i) = g i := by
  have h1 : Nat.blt (n + i) n = false := by rw [Bool.eq_false_iff, ne_eq, Nat.blt_eq]; omega
  unfold rowApp
  rw [h1, Nat.add_sub_cancel_left]
theorem are_app (n k : Nat) (f g : Nat → List PV) : areBytes (n + k) (rowApp n f g) = (areBytes n f && areBytes k g) := by
  unfold areBytes
  rw [List.range_add, List.all_append, List.all_map]
  congr 1
  · rw [Bool.eq_iff_iff, List.all_eq_true, List.all_eq_true]
    refine forall_congr' fun i => ⟨fun h hi => ?_, fun h hi => ?_⟩
    · have := h hi
      rwa [app_lo f g (List.mem_range.1 hi)] at this
    · rw [app_lo f g (List.mem_range.1 hi)]
      exact h hi
  · rw [Bool.eq_iff_iff, List.all_eq_true, List.all_eq_true]
    refine forall_congr' fun i => ⟨fun h hi => ?_, fun h hi => ?_⟩
    · have := h hi
      simp only [Function.comp_apply] at this
      rwa [app_hi] at this
    · simp only [Function.comp_apply]
      rw [app_hi]
      exact h hi
theorem bytes_bRow (l : List UInt8) : bytesOf l.length (bRow l) = l := by
  unfold bytesOf
  refine List.ext_getElem (by simp) fun i h1 h2 => ?_
  have h3 : i < l.length := h2
  simp [bRow, byteOf, h3]
theorem are_bRow (n : Nat) (l : List UInt8) : areBytes n (bRow l) = true := by
  unfold areBytes
  rw [List.all_eq_true]
  intro i _
  have := (l.getD i 0).toNat_lt
  simp only [bRow, isByte, Bool.and_eq_true, decide_eq_true_eq]
  omega
/-! ### what is quoted -/
def escS : List UInt8 → List UInt8
  | [] => []
  | c :: r => bif decide (c = 34) || decide (c = 92) then 92 :: c :: escS r else c :: escS r
theorem esc_cons (c : UInt8) (r : List UInt8) : escS (c :: r) = bif decide (c = 34) || decide (c = 92) then 92 :: c :: escS r else c :: escS r := rfl
theorem esc_len : ∀ l : List UInt8, (escS l).length ≤ 2 * l.length
  | [] => by simp [escS]
  | c :: r => by
    have := esc_len r
    unfold escS
    cases (decide (c = 34) || decide (c = 92)) <;> simp <;> omega
def quIn (s : ByteArray) (i : Int) (k : Nat) (f : Nat → List PV) : Kept := ([str s, int s.size, int i, .ptr 0 0], [.cells 51 [.ptr 0 0, .own 1], .row 5 1 k f])
def quOut (k : Nat) (f : Nat → List PV) (l : List UInt8) : Kept := ([.ptr 0 0], [.cells 51 [.ptr 0 0, .own 1], .row 5 1 (k + l.length) (rowApp k f (bRow l))])
theorem quOut_push (k : Nat) (f : Nat → List PV) (c : UInt8) (l : List UInt8) : KLe (quOut (k + 1) (rowApp k f (rowOf [.lit (.int .u8 ((c.toNat : Nat) : Int))] 1)) l) (quOut k f (c :: l)) :=
  ⟨.refl _, BLeL.cons (.refl _) (BLeL.cons (.row _ _ (by simp; omega) fun i _ => app_push k f c l i) .nil)⟩
theorem qu_LR (s : ByteArray) (hs : s.size ≤ 4294967280) : ∀ (r : List UInt8) (i k : Nat) (f : Nat → List PV), (ls s).drop i = r → i ≤ s.size → k + 2 * r.length ≤ 140737488355328 →
    LR Tryd.prog (E1 (GG m t fr)) 60 (GG m t fr) 33 quOuts .normal (theLoop 0 Tryd.f14) (quIn s i k f) (.exit 0) (quOut k f (escS r))
  | [], i, k, f, hr, hi, hk => by
    have h := qu_round m t fr s s.size i k f
    have hlen : s.size ≤ i := by
      have := List.drop_eq_nil_iff.1 hr
      rwa [ls_len] at this
    have hd : decide ((i : Int) < (s.size : Int)) = false := by simp; omega
    rw [hd] at h
    exact .out (.last (Tr.run_of h rfl) (by simp) (by simp)) ⟨.refl _, BLeL.cons (.refl _) (BLeL.cons (.row _ _ rfl fun j hj => app_nil k f j hj _) .nil)⟩
  | c :: r, i, k, f, hr, hi, hk => by
    have h := qu_round m t fr s s.size i k f
    obtain ⟨hlt, hget, hdrop⟩ := get_drop hr
    have hd : decide ((i : Int) < (s.size : Int)) = true := by simp; omega
    have hw : IntKind.i64.wrap ((i : Int) + 1) = ((i + 1 : Nat) : Int) := wrap_succ (by omega)
    have hb : Nat.blt i (ls s).length = true := by rw [Nat.blt_eq, ls_len]; exact hlt
    have e34 : (34 : Int) = (((34 : UInt8).toNat : Nat) : Int) := rfl
    have e92 : (92 : Int) = (((92 : UInt8).toNat : Nat) : Int) := rfl
    simp only [List.length_cons] at hk
    rw [hd, hw, Int.toNat_natCast, hget, e34, byte_eq, e92, byte_eq, hb] at h
    simp only [cond_true] at h
    have o1 : Nat.ble ((k + 1) * 1) 140737488355328 = true := by rw [Nat.ble_eq]; omega
    have o2 : Nat.ble ((k + 1 + 1) * 1) 140737488355328 = true := by rw [Nat.ble_eq]; omega
    rw [o1, o2] at h
    have two := fun x => LR.out (qu_LR s hs r (i + 1) (k + 1 + 1) (rowApp (k + 1) (rowApp k f (rowOf [.lit (.int .u8 (((92 : UInt8).toNat : Nat) : Int))] 1)) (rowOf [.lit (.int .u8 ((c.toNat : Nat) : Int))] 1)) hdrop (by omega) (by omega)) (z := x)
    have one := qu_LR s hs r (i + 1) (k + 1) (rowApp k f (rowOf [.lit (.int .u8 ((c.toNat : Nat) : Int))] 1)) hdrop (by omega) (by omega)
    cases c1 : decide (c = 34) with
    | true =>
      rw [c1] at h
      have he : escS (c :: r) = 92 :: c :: escS r := by rw [esc_cons, c1]; rfl
      rw [he]
      exact .more (Tr.run_of h (by simp)) (.out (two _ (quOut_push ..)) (quOut_push ..))
    | false =>
    rw [c1] at h
    cases c2 : decide (c = 92) with
    | true =>
      rw [c2] at h
      have he : escS (c :: r) = 92 :: c :: escS r := by rw [esc_cons, c1, c2]; rfl
      rw [he]
      exact .more (Tr.run_of h (by simp)) (.out (two _ (quOut_push ..)) (quOut_push ..))
    | false =>
      rw [c2] at h
      have he : escS (c :: r) = c :: escS r := by rw [esc_cons, c1, c2]; rfl
      rw [he]
      exact .more (Tr.run_of h (by simp)) (.out one (quOut_push ..))
def quF : Kept → Tr (Exit × Kept)
  | ([.lit (.string s), .lit (.int .i64 n), .lit (.int .i64 i), .ptr 0 0], [.cells a [.ptr 0 0, .own 1], .row b 1 k f]) => match Nat.beq a 51 && Nat.beq b 5 with
    | true => .br (okS s && Nat.ble k 4294967296 && decide (n = (s.size : Int)) && decide (0 ≤ i) && decide (i ≤ n)) (.leaf (.exit 0, ([.ptr 0 0], [.cells 51 [.ptr 0 0, .own 1], .row 5 1 (k + (escS ((ls s).drop i.toNat)).length) (rowApp k f (bRow (escS ((ls s).drop i.toNat))))]))) .fail
    | false => .fail
  | _ => .fail
theorem quF_ok (x : Kept) (e : Exit) (y : Kept) (h : (quF x).run = some (e, y)) : LR Tryd.prog (E1 (GG m t fr)) 60 (GG m t fr) 33 quOuts .normal (theLoop 0 Tryd.f14) x e y := by
  unfold quF at h
  split at h
  · rename_i s n i a b k f
    split at h
    · rename_i hab
      rw [Bool.and_eq_true] at hab
      obtain rfl := Nat.eq_of_beq_eq_true hab.1
      obtain rfl := Nat.eq_of_beq_eq_true hab.2
      have hb := br_run h
      clear h
      obtain ⟨hc, h⟩ := hb
      simp only [Bool.and_eq_true, decide_eq_true_eq, Nat.ble_eq] at hc
      obtain ⟨⟨⟨⟨hs, hk⟩, rfl⟩, h1⟩, h2⟩ := hc
      obtain ⟨i, rfl⟩ : ∃ k : Nat, i = k := ⟨i.toNat, by omega⟩
      have hl : ((ls s).drop i).length ≤ s.size := by rw [List.length_drop, ls_len]; omega
      have hs' := okS_le hs
      have := qu_LR (m := m) (t := t) (fr := fr) s hs' ((ls s).drop i) i k f rfl (by omega) (by omega)
      rw [Int.toNat_natCast] at h
      simp only [Tr.run, Option.some.injEq, Prod.mk.injEq] at h
      obtain ⟨rfl, rfl⟩ := h
      exact this
    · cases h
  · cases h
noncomputable abbrev quCut (G : GT) := cutOf G 33 quOuts 0 quF
def plPure : List (Nat × (List PV → Tr PV)) := (29, plainG) :: numPure
theorem plPure_ok : TabOK Tryd.prog (GG m t fr) plPure :=
  TabOK.cons plain_ok (fn := Tryd.f29) (by kernel_rfl) (by kernel_rfl) numPure_ok
noncomputable abbrev E5 (G : GT) : Env := envOf Tryd.prog G plPure libFull
theorem E5_ok : (E5 (GG m t fr)).ok Tryd.prog (GG m t fr) := envOf_ok mixed plPure_ok libFull_ok
-- from: quote_raw [bs, okS, plB, ls, bytesOf, areBytes, rowApp, rowOf, bRow, escS] (m : Int) (t : TypeId) (fr : Nat × Nat) (s : ByteArray) : (fnPure Tryd.prog ((E5 (GG m t fr)).withCuts (cut1 0 (quCut (GG m t fr)))) 60 Tryd.f14 (GG m t fr) [str s]).run2
theorem quote_raw (m : Int) (t : TypeId) (fr : Nat × Nat) (s : ByteArray) : (fnPure Tryd.prog ((E5 (GG m t fr)).withCuts (cut1 0 (quCut (GG m t fr)))) 60 Tryd.f14 (GG m t fr) [str s]).run2 =
    (bif (!(List.all (ls s) (plB))) then
        (.some ((.tup [(.lit (.string (.mk (List.toArray [])))), (.lit (.int .i64 (7 : Int)))]), [(okS s)]))
      else (.some ((.tup [(.lit (.string (.mk (List.toArray (bytesOf ((1 + (List.length (escS (List.drop 0 (ls s))))) + 1) (rowApp (1 + (List.length (escS (List.drop 0 (ls s))))) (rowApp 1 (rowOf [(.lit (.int .u8 (34 : Int)))] 1) (bRow (escS (List.drop 0 (ls s))))) (rowOf [(.lit (.int .u8 (34 : Int)))] 1))))))), (.lit (.int .i64 (0 : Int)))]), [(areBytes ((1 + (List.length (escS (List.drop 0 (ls s))))) + 1) (rowApp (1 + (List.length (escS (List.drop 0 (ls s))))) (rowApp 1 (rowOf [(.lit (.int .u8 (34 : Int)))] 1) (bRow (escS (List.drop 0 (ls s))))) (rowOf [(.lit (.int .u8 (34 : Int)))] 1))), (Nat.ble (((1 + (List.length (escS (List.drop 0 (ls s))))) + 1) * 1) (140737488355328 : Nat)), (((((okS s) && true) && (decide ((((List.length (ls s)) : Nat) : Int) = (((List.length (ls s)) : Nat) : Int)))) && true) && (decide ((0 : Int) ≤ (((List.length (ls s)) : Nat) : Int)))), true, (okS s)])) : Option (PV × List Bool)) := by
  kernel_rfl
def quoteS (l : List UInt8) : List UInt8 := 34 :: escS l ++ [34]
def quoteG : List PV → Tr PV
  | [.lit (.string s)] => .br (okS s) (.br ((ls s).all plB) (.leaf (.tup [str (bs (quoteS (ls s))), int 0])) (.leaf (.tup [str (bs []), int 7]))) .fail
  | _ => .fail
theorem one_bytes (c : UInt8) : bytesOf 1 (rowOf [.lit (.int .u8 ((c.toNat : Nat) : Int))] 1) = [c] := by
  show [UInt8.ofNat (((c.toNat : Nat) : Int)).toNat] = [c]
  simp
theorem one_are (c : UInt8) : areBytes 1 (rowOf [.lit (.int .u8 ((c.toNat : Nat) : Int))] 1) = true := by
  show ((decide ((0 : Int) ≤ ((c.toNat : Nat) : Int)) && decide (((c.toNat : Nat) : Int) < 256)) && true) = true
  have := c.toNat_lt
  simp
  omega
theorem quote_ok : PureOK Tryd.prog (GG m t fr) 14 quoteG := by
  refine PureOK.of (fn_cuts mixed E5_ok (fn := Tryd.f14) (cuts := cut1 0 (quCut (GG m t fr))) (by kernel_rfl) (CutLaws.one (by omega) (by kernel_rfl) fun st e st' h => cutOf_ok E1_ok mixed (noCuts_ok (envOf_cuts ..) _) quF_ok h)) fun ps p hp => ?_
  unfold quoteG at hp
  split at hp
  · rename_i s
    obtain ⟨hs, hp⟩ := br_run hp
    have h := quote_raw m t fr s
    have e34 : (34 : Int) = (((34 : UInt8).toNat : Nat) : Int) := rfl
    rw [List.drop_zero, e34, bytes_app, bytes_app, one_bytes, bytes_bRow, are_app, are_app, one_are, are_bRow] at h
    have hl := esc_len (ls s)
    have hs' := okS_le hs
    rw [ls_len] at hl
    cases ha : (ls s).all plB with
    | true =>
      rw [ha] at h hp
      simp only [Tr.run, cond_true, Option.some.injEq] at hp
      subst hp
      exact ⟨_, Tr.run_of h (by simp [hs, ls_len]; omega), PLe.of_eq rfl⟩
    | false =>
      rw [ha] at h hp
      simp only [Tr.run, cond_false, Option.some.injEq] at hp
      subst hp
      exact ⟨_, Tr.run_of h (by simp [hs]), PLe.of_eq rfl⟩
  · cases hp
end
end Go.Proofs.YtnidaonmigjgkaaDoor.Ev
