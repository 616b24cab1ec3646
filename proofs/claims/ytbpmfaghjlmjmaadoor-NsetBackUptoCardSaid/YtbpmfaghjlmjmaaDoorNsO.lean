/- nset: slices.SortFunc at bands, as a contract that writes one's own row. No condition. -/
import Derived.Test.YtbpmfaghjlmjmaaDoorNsQ
import Derived.Test.YtbpmfaghjlmjmaaDoorEvSpot
import Derived.Shelf.SlSortCmp.WholeK
import Derived.Shelf.SlSortCmp.NoneTotal
namespace Go.Proofs.YtbpmfaghjlmjmaaDoor.Ev
open Go Go.RowKit Go.Proofs Go.Proofs.YtbpmfaghjlmjmaaDoor.Str Go.Shelf Go.Lib Go.Sort
set_option linter.unusedVariables false
set_option linter.unusedSimpArgs false
def encS (x : Sp) : List Value := [.int .u32 x.1, .int .u32 x.2]
def cfS (x y : Sp) : Int := bif decide (x.1 < y.1) then -1 else bif decide (y.1 < x.1) then 1 else 0
theorem lt_cfS (x y : Sp) : ltOf cfS x y = decide (x.1 < y.1) := by
  unfold ltOf cfS
  by_cases h1 : x.1 < y.1
  · simp [h1]
  · by_cases h2 : y.1 < x.1 <;> simp [h1, h2]
theorem swoS : SWO (ltOf cfS) where
  irrefl x := by rw [lt_cfS]; simp
  trans x y z h1 h2 := by rw [lt_cfS] at *; simp at *; omega
  ntrans x y z h1 h2 := by rw [lt_cfS] at *; simp at *; omega
theorem nan_calls (x : Int) (w : World) : Calls Tryd.prog 39 #[.int .u32 x] w fun e w' => e = .returned (.bool false) ∧ w' = w := by
  go_enter Tryd.func39, Tryd.ntmps39
  go_wp2
  go_ret
  exact ⟨rfl, rfl⟩
theorem compare_calls (x y : Int) (w : World) : Calls Tryd.prog 26 #[.int .u32 x, .int .u32 y] w fun e w' => e = .returned (.int .i64 (cfS (x, 0) (y, 0))) ∧ w' = w := by
  unfold cfS
  dsimp only
  by_cases h1 : x < y
  · rw [decide_eq_true h1]
    go_enter Tryd.func26, Tryd.ntmps26
    go_wp2_with (go_at_call 39; refine (nan_calls _ _).mono ?_; rintro e w' ⟨rfl, rfl⟩)
    go_ret
    exact ⟨rfl, rfl⟩
  · rw [decide_eq_false h1]
    by_cases h2 : y < x
    · rw [decide_eq_true h2]
      go_enter Tryd.func26, Tryd.ntmps26
      go_wp2_with (go_at_call 39; refine (nan_calls _ _).mono ?_; rintro e w' ⟨rfl, rfl⟩)
      go_ret
      exact ⟨rfl, rfl⟩
    · rw [decide_eq_false h2]
      go_enter Tryd.func26, Tryd.ntmps26
      go_wp2_with (go_at_call 39; refine (nan_calls _ _).mono ?_; rintro e w' ⟨rfl, rfl⟩)
      go_ret
      exact ⟨rfl, rfl⟩
theorem closure_calls (x y : Sp) (W : World) : Calls Tryd.prog 25 #[.agg #[.int .u32 x.1, .int .u32 x.2], .agg #[.int .u32 y.1, .int .u32 y.2]] W fun e w' => e = .returned (.int .i64 (cfS x y)) ∧ ∃ q os', w' = grow (W.drewN q) os' := by
  have hcon := fun W' => compare_calls x.1 y.1 W'
  have e : cfS (x.1, 0) (y.1, 0) = cfS x y := rfl
  rw [e] at hcon
  clear e
  generalize cfS x y = r at hcon ⊢
  go_enter Tryd.func25, Tryd.ntmps25
  go_wp2_with (go_at_call 26; refine (hcon _).mono ?_; rintro e w' ⟨rfl, rfl⟩)
  go_ret
  exact ⟨rfl, 0, _, by rw [alloc_eq_grow, alloc_eq_grow, grow_grow]; rfl⟩
theorem cmpLaysS (blk off size : Nat) (w : World) : CmpLays Tryd.prog 25 #[] encS 2 cfS blk off size w :=
  fun _ _ _ _ x y => closure_calls x y _
/-! ### the sorted list -/
def insO (b : Nat) : Nat → Nat → Array Sp → Array Sp
  | 0, _, d => d
  | n + 1, i, d => bif Nat.blt i b then insO b n (i + 1) (insInner (fun x y => decide (x.1 < y.1)) 0 i d) else d
theorem insO_eq (b : Nat) : ∀ (n i : Nat) (d : Array Sp), b - i ≤ n → insOuter (ltOf cfS) 0 b i d = insO b n i d := by
  have e : ltOf cfS = fun x y => decide (x.1 < y.1) := by
    funext x y
    exact lt_cfS x y
  intro n
  induction n with
  | zero =>
    intro i d h
    rw [insOuter, if_neg (by omega)]
    rfl
  | succ n ih =>
    intro i d h
    rw [insOuter, insO]
    rcases Nat.lt_or_ge i b with hb | hb
    · rw [if_pos hb, show Nat.blt i b = true from by rw [Nat.blt_eq]; exact hb, cond_true, ih _ _ (by omega), e]
    · have : Nat.blt i b = false := by rw [Bool.eq_false_iff, ne_eq, Nat.blt_eq]; omega
      rw [if_neg (by omega), this, cond_false]
def sortA (l : List Sp) : Array Sp := pdq (ltOf cfS) l.toArray 0 l.toArray.size (Lib.bitLen l.toArray.size) true true
def sortS (l : List Sp) : List Sp := bif Nat.ble l.length 12 then (insO l.length l.length 1 l.toArray).toList else (sortA l).toList
theorem sortS_eq (l : List Sp) : sortS l = (sortA l).toList := by
  unfold sortS
  rcases Nat.lt_or_ge 12 l.length with h | h
  · have : Nat.ble l.length 12 = false := by rw [Bool.eq_false_iff, ne_eq, Nat.ble_eq]; omega
    rw [this, cond_false]
  · rw [Nat.ble_eq_true_of_le h, cond_true]
    unfold sortA
    rw [pdq, if_pos (by simpa using h)]
    unfold insertionSort
    rw [insO_eq _ l.length _ _ (by simp)]
    simp
theorem sortA_ok (l : List Sp) : PermIn 0 l.toArray.size l.toArray (sortA l) ∧ SortedIn (ltOf cfS) 0 l.toArray.size (sortA l) := by
  have h := pdq_sorts (ltOf cfS) swoS l.toArray 0 l.toArray.size (Lib.bitLen l.toArray.size) true true (Nat.zero_le _) (Nat.le_refl _) (Or.inl rfl)
  exact ⟨h.1, h.2⟩
theorem sortS_perm (l : List Sp) : (sortS l).Perm l := by
  have h := (sortA_ok l).1
  have hs := h.1
  have h := h.2.2
  rw [sortS_eq]
  have e : (sortA l).toList.take l.length = (sortA l).toList := List.take_of_length_le (by simpa using Nat.le_of_eq hs)
  have h : ((sortA l).toList.take l.length).Perm l := by simpa using h
  rwa [e] at h
theorem sortS_len (l : List Sp) : (sortS l).length = l.length := (sortS_perm l).length_eq
theorem sortS_sorted (l : List Sp) : ∀ (i j : Nat), i < j → j < l.length → (sp (sortS l) i).1 ≤ (sp (sortS l) j).1 := by
  intro i j hij hj
  have h := (sortA_ok l).2 i j (Nat.zero_le _) hij (by simpa using hj)
  have hl : (sortA l).size = l.length := by
    have := sortS_len l
    rw [sortS_eq] at this
    simpa using this
  rw [lt_cfS, decide_eq_false_iff_not] at h
  have e : ∀ k, k < l.length → sp (sortS l) k = (sortA l)[k]! := by
    intro k hk
    rw [sortS_eq]
    unfold sp
    rw [getElem!_pos (sortA l) k (by omega)]
    simp [List.getD, show k < (sortA l).size by omega]
  rw [e i (by omega), e j hj]
  omega
/-! ### the row that is sorted -/
theorem flat_encS : ∀ l : List Sp, (l.flatMap encS) = cellsSp l := fun _ => rfl
theorem isAggB : ∀ w, (isAgg 50).run Tryd.prog w = .ok true w := run_aggT (by kernel_rfl)
theorem sizeOfB : ∀ w, (Go.sizeOf 50).run Tryd.prog w = .ok 2 w := run_sizeT (by kernel_rfl)
theorem enterB : ∀ args w, (callFunc 25 args).run Tryd.prog w = .ok (.enter 25 args) w := enters_of (fn := Tryd.f25) (by kernel_rfl) (by kernel_rfl)
theorem sort_calls (blk cap : Nat) (l : List Sp) (w : World) (hH : HoldsK encS 2 w blk 0 l.toArray) (hblk : blk < w.heap.size) (hsz : l.length < 4611686018427387904) :
    Calls Tryd.prog 24 #[.slice (some ⟨blk, 0, none⟩) l.length cap, .func (.func 25) #[] #[]] w fun e w' =>
      e = .returned (.tuple #[]) ∧ ∃ n os, w' = sortWorldK encS 2 w blk 0 n (sortS l).toArray os := by
  have h := AnyQ.slices_SortFunc_eq Tryd.sortB 2 isAggB sizeOfB encS (fun _ => rfl) (fun x v hv => by simp [encS] at hv; rcases hv with rfl | rfl <;> rfl) cfS swoS 25 #[] blk 0 cap l.toArray w enterB (cmpLaysS blk 0 l.toArray.size w) hH hblk (by simpa using hsz)
  change Calls Tryd.prog 24 _ _ _ at h
  rw [sortS_eq]
  simpa [sortA] using h
theorem flatK_len (l : List Sp) : (flatK encS 2 l.toArray).size = l.length * 2 := by simp
theorem flatK_at (l : List Sp) (k : Nat) (h : k < l.length * 2) : (cellsSp l)[k]? = some (flatK encS 2 l.toArray)[k]! := by
  rw [get_flatK _ _ _ _ (by simpa using h)]
  have hk : k / 2 * 2 + k % 2 = k := by omega
  have hd : k / 2 < l.length := by omega
  have := cellsSp_at l (k / 2) (k % 2) hd (by omega)
  rw [hk] at this
  rw [this]
  have he : l.toArray[k / 2]! = sp l (k / 2) := by
    rw [getElem!_pos l.toArray (k / 2) (by simpa using hd)]
    simp [sp, hd]
  rw [he]
  have : k % 2 = 0 ∨ k % 2 = 1 := by omega
  rcases this with h0 | h0 <;> rw [h0] <;> rfl
theorem cellsSp_len : ∀ l : List Sp, (cellsSp l).length = l.length * 2
  | [] => rfl
  | x :: l => by
    have := cellsSp_len l
    show (cellsSp l).length + 1 + 1 = _
    simp
    omega
theorem row_holds {w : World} {B : Nat} {e : TypeId} {b cap : Nat} {l : List Sp} (h : w.ownsRow B e 2 (.slice (some ⟨b, 0, none⟩) l.length cap) l.length (cellsSp l)) : HoldsK encS 2 w b 0 l.toArray := by
  intro j hj
  rw [flatK_len] at hj
  refine ⟨?_, ?_⟩
  · rw [Nat.zero_add, h.cellAt j hj]
    exact flatK_at l j hj
  · rw [Nat.zero_add]
    exact h.frozenAt j
theorem row_put {w : World} {B : Nat} {e : TypeId} {b cap : Nat} {l l' : List Sp} (hl : l'.length = l.length) (h : w.ownsRow B e 2 (.slice (some ⟨b, 0, none⟩) l.length cap) l.length (cellsSp l)) :
    (putRowK encS 2 w b 0 l'.toArray).ownsRow B e 2 (.slice (some ⟨b, 0, none⟩) l.length cap) l.length (cellsSp l') := by
  rcases h.2 with ⟨h', _⟩ | ⟨g, cap', cur, h', hbg, hg, hnc, hcm, hcs, htake⟩
  · cases h'
  · cases h'
    obtain ⟨hlt, hgg⟩ := Array.getElem?_eq_some_iff.1 hg
    refine ⟨by rw [cellsSp_len, hl], .inr ⟨b, cap, putCells id 0 (flatK encS 2 l'.toArray) cur, rfl, hbg, ?_, hnc, hcm, by simp [putCells, hcs], ?_⟩⟩
    · show ((w.heap.modify b (onCells (putCells id 0 (flatK encS 2 l'.toArray))))[b]?) = _
      rw [Array.getElem?_eq_getElem (by rw [Array.size_modify]; exact hlt), Array.getElem_modify_self, hgg]
      rfl
    · refine List.ext_getElem? fun k => ?_
      rw [List.getElem?_take]
      split
      · rename_i hk
        have hk' : k < l'.length * 2 := by omega
        have hcur : k < cur.size := by rw [hcs]; have := Nat.mul_le_mul_right 2 hnc; omega
        rw [flatK_at l' k hk']
        simp [putCells, hcur]
        intro hge
        omega
      · rename_i hk
        rw [List.getElem?_eq_none (by rw [cellsSp_len, hl]; omega)]
theorem putRowK_other (w : World) (b : Nat) (d : Array Sp) (k : Nat) (h : k ≠ b) : (putRowK encS 2 w b 0 d).heap[k]? = w.heap[k]? := by
  show ((w.heap.modify b _)[k]?) = _
  rw [Array.getElem?_modify, if_neg (fun e => h e.symm)]
theorem putRowK_size (w : World) (b : Nat) (d : Array Sp) : (putRowK encS 2 w b 0 d).heap.size = w.heap.size := by
  show (w.heap.modify b _).size = _
  rw [Array.size_modify]
/-- a row of one's own, sorted by its first column -/
def sortG (ps : List PV) (M : Mem) : Tr (PV × Mem) := match ps with
  | [.own id, .clo g []] => match Nat.beq g 25, look M.blks id with
    | true, some (.row e 2 n f) => .br (areSps n f && Nat.ble n 4294967280) (.leaf (.lit (.tuple #[]), ⟨setL M.blks id (.row e 2 n (sRow (sortS (spsOf n f)))), M.nid, M.glob⟩)) .fail
    | _, _ => .fail
  | _ => .fail
theorem sort_ok (G : GT) : FnOK Tryd.prog G 24 sortG := by
  intro β hG M m w ps args hM hlen hrep p M' hp
  unfold sortG at hp
  split at hp
  · rename_i id g
    obtain ⟨a0, a1, rfl⟩ : ∃ a0 a1, args = #[a0, a1] := by
      have : args.size = 2 := by simpa using hlen.symm
      exact ⟨args[0], args[1], by apply Array.ext <;> simp_all; intro i hi _; match i, hi with | 0, _ => rfl | 1, _ => rfl⟩
    have h0 := hrep 0 _ a0 rfl rfl
    have h1 := hrep 1 _ a1 rfl rfl
    split at hp
    · rename_i e n f hg hlk
      obtain rfl := Nat.eq_of_beq_eq_true hg
      obtain ⟨hs, hp⟩ := br_run hp
      simp only [Bool.and_eq_true, Nat.ble_eq] at hs
      obtain ⟨hs, hnn⟩ := hs
      simp only [Tr.run, Option.some.injEq, Prod.mk.injEq] at hp
      obtain ⟨rfl, rfl⟩ := hp
      cases h0 with
      | own _ _ _ hv hv1 =>
        cases h1 with
        | clo _ _ _ vs hvl _ =>
          obtain rfl : vs = #[] := by
            have : vs.size = 0 := by simpa using hvl.symm
            exact Array.eq_empty_of_size_eq_zero this
          have hbk := hM.blk id _ hlk
          cases hbk with
          | row _ _ _ _ v xs hm ho h1x hl1 hr1 =>
            rw [hv] at hm
            cases hm
            have hL := sps_len n f
            have hS : (sortS (spsOf n f)).length = n := by rw [sortS_len, hL]
            have hxs : xs = cellsSp (spsOf n f) := by
              refine List.ext_getElem? fun k => ?_
              rcases Nat.lt_or_ge k (n * 2) with hk | hk
              · have hc := cellsSp_at (spsOf n f) (k / 2) (k % 2) (by omega) (by omega)
                have hf := sps_row hs (k / 2) (by omega)
                have hk2 : k / 2 * 2 + k % 2 = k := by omega
                rw [hk2] at hc
                rw [hc]
                have : k % 2 = 0 ∨ k % 2 = 1 := by omega
                rcases this with h2 | h2
                · obtain ⟨x, hx, hr⟩ := hr1 (k / 2) (k % 2) (.lit (.int .u32 (sp (spsOf n f) (k / 2)).1)) (by omega) (by rw [hf, h2]; rfl)
                  rw [hk2] at hx
                  rw [hx, h2]
                  cases hr
                  rfl
                · obtain ⟨x, hx, hr⟩ := hr1 (k / 2) (k % 2) (.lit (.int .u32 (sp (spsOf n f) (k / 2)).2)) (by omega) (by rw [hf, h2]; rfl)
                  rw [hk2] at hx
                  rw [hx, h2]
                  cases hr
                  rfl
              · rw [List.getElem?_eq_none (by have := ho.1; omega), List.getElem?_eq_none (by rw [cellsSp_len]; omega)]
            subst hxs
            have key : ∀ w1 : World, Keeps β.K w w1 → (∀ k, blkOf a0 ≠ some k → w1.heap[k]? = w.heap[k]?) → w1.ownsRow β.w0.heap.size e 2 a0 n (cellsSp (sortS (spsOf n f))) →
                MRel β ⟨setL M.blks id (.row e 2 n (sRow (sortS (spsOf n f)))), M.nid, M.glob⟩ m w1 ∧ Ext β M m w ⟨setL M.blks id (.row e 2 n (sRow (sortS (spsOf n f)))), M.nid, M.glob⟩ m w1 := by
              intro w1 hk hw ho1
              refine hM.write id _ _ hlk rfl rfl a0 hv hk hw fun _ => .row e 2 n _ a0 _ hv ho1 (fun x hx => ?_) (fun i _ => rfl) (fun i j p hi hp => ?_)
              · simp only [cellsSp, List.mem_flatMap] at hx
                obtain ⟨y, _, hy⟩ := hx
                simp at hy
                rcases hy with rfl | rfl <;> rfl
              · match j with
                | 0 =>
                  simp [sRow] at hp
                  subst hp
                  exact ⟨_, cellsSp_at _ i 0 (by omega) (by omega), .lit _ _⟩
                | 1 =>
                  simp [sRow] at hp
                  subst hp
                  exact ⟨_, cellsSp_at _ i 1 (by omega) (by omega), .lit _ _⟩
                | j + 2 => simp [sRow] at hp
            rcases ho.2 with ⟨rfl, hn0⟩ | ⟨b, cap, cur, rfl, hbg, hgb, hnc, hcm, hcs, htake⟩
            · subst hn0
              have h := AnyF.slices_SortFunc_none Tryd.sortB none 0 (.func (.func 25) #[] #[]) w
              change Calls Tryd.prog 24 _ _ _ at h
              refine h.mono ?_
              rintro e' w' ⟨rfl, rfl⟩
              have e0 : sortS (spsOf 0 f) = spsOf 0 f := rfl
              obtain ⟨k1, k2⟩ := key w' (Keeps.refl _ _) (fun _ _ => rfl) (by rw [e0]; exact ho)
              exact ⟨m, k2, k1, .lit _ _⟩
            · obtain ⟨hblt, _⟩ := Array.getElem?_eq_some_iff.1 hgb
              have hn62 : n < 4611686018427387904 := by omega
              have ho2 : w.ownsRow β.w0.heap.size e 2 (.slice (some ⟨b, 0, none⟩) (spsOf n f).length cap) (spsOf n f).length (cellsSp (spsOf n f)) := by rw [hL]; exact ho
              have h := sort_calls b cap (spsOf n f) w (row_holds ho2) hblt (by omega)
              rw [hL] at h
              refine h.mono ?_
              rintro e' w' ⟨rfl, q, os, rfl⟩
              have hp := row_put (l' := sortS (spsOf n f)) (by rw [hS, hL]) ho2
              rw [hL] at hp
              obtain ⟨k1, k2⟩ := key (putRowK encS 2 w b 0 (sortS (spsOf n f)).toArray) ⟨rfl, rfl, rfl, Nat.le_of_eq (putRowK_size _ _ _).symm, fun k hk => putRowK_other _ _ _ _ (by have := hM.bsz k hk; omega)⟩ (fun k hk => putRowK_other _ _ _ _ (fun e => hk (by rw [e]; rfl))) hp
              obtain ⟨g1, g2⟩ := k1.keep (w' := sortWorldK encS 2 w b 0 q (sortS (spsOf n f)).toArray os) ⟨rfl, rfl, rfl, by show _ ≤ (_ ++ os).size; rw [Array.size_append]; exact Nat.le_add_right _ _, fun k hk => by
                show ((putRowK encS 2 w b 0 (sortS (spsOf n f)).toArray).heap ++ os)[k]? = _
                rw [Array.getElem?_append_left hk]⟩
              exact ⟨m, k2.trans g2, g1, .lit _ _⟩
    · cases hp
  · cases hp
def nsFull : List (Nat × (List PV → Mem → Tr (PV × Mem))) := (24, sortG) :: libFull
theorem nsFull_ok {G : GT} : FullOK Tryd.prog G nsFull := FullOK.cons (sort_ok G) (fn := Tryd.f24) (by kernel_rfl) (by kernel_rfl) libFull_ok
section
variable {m : Int} {t : TypeId} {fr : Nat × Nat}
noncomputable abbrev E3 (G : GT) : Env := envOf Tryd.prog G nsPure nsFull
theorem E3_ok : (E3 (GG m t fr)).ok Tryd.prog (GG m t fr) := envOf_ok mixed nsPure_ok nsFull_ok
end
end Go.Proofs.YtbpmfaghjlmjmaaDoor.Ev
