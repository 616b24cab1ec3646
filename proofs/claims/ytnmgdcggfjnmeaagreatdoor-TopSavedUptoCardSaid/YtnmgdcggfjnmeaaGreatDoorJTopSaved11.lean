/- JTopSaved11: several texts in one. Condition: each part's own. -/
import Derived.Test.YtnmgdcggfjnmeaaGreatDoorJTopSaved07
import Derived.Test.YtnmgdcggfjnmeaaGreatDoorJTopSaved10
import Derived.Shelf.SlSortCmp.WholeK
import Derived.Shelf.SlSortCmp.NoneTotal
import Derived.Test.YtnmgdcggfjnmeaaGreatDoorCards
import Derived.Test.YtnmgdcggfjnmeaaGreatDoorTie
import Derived.WalkKit
import Derived.ProofKit
import Derived.OpenShut
import Derived.ShutString
import Derived.Below
import Derived.SizedLaws
import Derived.Lib.SmallJoins
import Derived.Deep.DeepHandedRow
import Derived.Lib.LaidTab
import Derived.Lib.LaidU8
import Derived.MakeChecks
import Derived.Lay
import Derived.Shelf.Vars
import Derived.Test.YtnmgdcggfjnmeaaGreatDoorJTopSaved08
import Derived.Stop.LaidErr
/- The evaluator: functions that write one's own block of plain cells, which they are pointed to. -/
namespace Go.Proofs.YtnmgdcggfjnmeaaGreatDoor.Ev
open Go Go.RowKit Go.Proofs
set_option linter.unusedVariables false
/-- plain values: what they tell needs no memory -/
def RepF (p : PV) (v : Value) : Prop := Rep (fun _ _ _ => False) (fun _ => none) p v
/-- a function whose first argument points to a block of plain cells: what it gives back, and what the block holds then -/
def SpotAt (P : Program) (G : GT) (f : FuncId) (ty : TypeId) (cs ps : List PV) (p : PV) (cs' : List PV) : Prop :=
  ∀ (w : World) (C : Nat → Nat → Value → Prop), Known C w → Globs G C → Objs G w → ∀ (b : Nat) (vs args : Array Value), (∀ o v, ¬ C b o v) → (∀ g o, G.obj g = some o → g ≠ b) →
    w.heap[b]? = some (.cells vs ty (0, 0)) → cs.length = vs.size → (∀ v ∈ vs, v.oneCell' = true) → (∀ (i : Nat) (q : PV) (v : Value), cs[i]? = some q → vs[i]? = some v → RepF q v) →
    args.size = ps.length + 1 → args[0]? = some (.pointer (some ⟨b, 0, none⟩)) → (∀ (i : Nat) (q : PV) (v : Value), ps[i]? = some q → args[i + 1]? = some v → RepF q v) →
    Calls P f args w fun
      | .returned v, w' => Keeps (fun k => k < w.heap.size ∧ k ≠ b) w w' ∧ RepF p v ∧ ∃ vs', w'.heap[b]? = some (.cells vs' ty (0, 0)) ∧ cs'.length = vs'.size ∧ (∀ v ∈ vs', v.oneCell' = true) ∧
          ∀ (i : Nat) (q : PV) (v : Value), cs'[i]? = some q → vs'[i]? = some v → RepF q v
      | _, _ => False
def SpotOK (P : Program) (G : GT) (f : FuncId) (ty : TypeId) (g : List PV → List PV → Tr (PV × List PV)) : Prop := ∀ cs ps p cs', (g cs ps).run = some (p, cs') → SpotAt P G f ty cs ps p cs'
/-- a function's end, told by that one block -/
def fnSpot (P : Program) (E : Env) (n : Nat) (fn : Func) (G : GT) (ty : TypeId) (cs ps : List PV) : Tr (PV × List PV) := match PV.flatL cs && PV.flatL ps with
  | true => (fnEv P E n fn (.ptr 0 0 :: ps) ⟨[(0, .cells ty cs)], 1, G⟩).bind fun r => match look r.2.blks 0 with
    | some (.cells ty' cs') => match Nat.beq ty' ty && r.1.flat && PV.flatL cs' with
      | true => .leaf (r.1, cs')
      | false => .fail
    | _ => .fail
  | false => .fail
theorem spot_of_ev {P : Program} {E : Env} {n : Nat} {G : GT} (hE : E.ok P G) (hmo : P.follows .mixedOrders = true) {f : FuncId} {fn : Func} (hf : P.funcs[f]? = some fn) (hc : ∀ c, fn.body = some c → CutsOK .pin P G E c) (ty : TypeId) : SpotOK P G f ty (fnSpot P E n fn G ty) := by
  intro cs ps p cs' hp w C hK hG hO b vs args hCb hGb hb hlen h1 hcs hsz ha0 hargs
  unfold fnSpot at hp
  split at hp
  · rename_i hflat
    simp only [Bool.and_eq_true] at hflat
    obtain ⟨⟨q, M'⟩, hq, hp2⟩ := Tr.of_bind hp
    clear hp
    split at hp2
    · rename_i ty' cs2 hl2
      split at hp2
      · rename_i hchk
        simp only [Bool.and_eq_true] at hchk
        obtain ⟨⟨hty, hqf⟩, hcf⟩ := hchk
        obtain rfl := Nat.eq_of_beq_eq_true hty
        simp only [Tr.run, Option.some.injEq, Prod.mk.injEq] at hp2
        obtain ⟨rfl, rfl⟩ := hp2
        let β : Base := ⟨w, C, fun k => k < w.heap.size ∧ k ≠ b, G⟩
        let M0 : Mem := ⟨[(0, .cells ty' cs)], 1, G⟩
        let m0 : Nat → Option Value := fun i => match i with
          | 0 => some (.pointer (some ⟨b, 0, none⟩))
          | _ + 1 => none
        have hm1 : ∀ {i : Nat} {u : Value}, m0 i = some u → i = 0 ∧ u = .pointer (some ⟨b, 0, none⟩) := by
          intro i u h
          cases i with
          | zero => cases h; exact ⟨rfl, rfl⟩
          | succ i => cases h
        have hcell : ∀ b' o v, C b' o v → Cell β w M0 m0 b' o v := by
          intro b' o v h
          refine ⟨?_, hK b' o v h, fun _ => h⟩
          rintro ⟨id, u, hs, hu, hbu⟩
          obtain ⟨rfl, rfl⟩ := hm1 hu
          cases hbu
          exact hCb o v h
        have hM : MRel β M0 m0 w := by
          refine ⟨fun id bb hbb => ?_, fun id hid => ?_, fun i j v v' b' hi hj hv hv' _ _ => ?_, fun k hk => hk.1, Keeps.refl _ _, fun g cs hg => (hG g cs hg).mono hcell fun _ _ h => h, rfl, fun g o hg => ⟨⟨(Array.getElem?_eq_some_iff.1 (hO g o hg)).1, hGb g o hg⟩, hO g o hg⟩⟩
          · cases id with
            | zero =>
              cases hbb
              exact .cells ty' cs b vs rfl hb hlen h1 (fun i p v hp hv => (hcs i p v hp hv).mono (fun _ _ _ h => h.elim) fun _ _ h => by cases h) fun hx => hx.2 rfl
            | succ id => cases hbb
          · cases id with
            | zero => exact absurd hid (Nat.not_succ_le_zero 0)
            | succ id => rfl
          · rw [(hm1 hv).1, (hm1 hv').1]
        refine Calls.mono (fnEv_wp hE hmo hf hc (β := β) rfl hM (by simp [hsz]) (fun i p v hp hv => ?_) hq) ?_
        · cases i with
          | zero =>
            simp only [List.getElem?_cons_zero, Option.some.injEq] at hp
            subst hp
            rw [ha0] at hv
            cases hv
            exact .ptr _ 0 0 b rfl
          | succ i =>
            simp only [List.getElem?_cons_succ] at hp
            exact (hargs i p v hp hv).mono (fun _ _ _ h => h.elim) fun _ _ h => by cases h
        · intro e w' he
          cases e with
          | panicked _ => exact he.elim
          | outgrown => exact he.elim
          | returned v =>
            obtain ⟨m', hE', hM', hrep⟩ := he
            have hm' := hE' _ rfl
            refine ⟨hM'.below, hrep.flat hqf, ?_⟩
            have hbr := hM'.blk 0 _ hl2
            cases hbr with
            | cells _ _ b2 vs2 hm2 hb2 hl2 h12 hr2 hB2 =>
              rw [hm'] at hm2
              cases hm2
              exact ⟨vs2, hb2, hl2, h12, fun i p v hp hv => (hr2 i p v hp hv).flat (flatL_get hcf hp)⟩
      · cases hp2
    · cases hp2
  · cases hp
/-- such a function, in one's own memory -/
def spotG (ty : TypeId) (g : List PV → List PV → Tr (PV × List PV)) (ps : List PV) (M : Mem) : Tr (PV × Mem) := match ps with
  | .ptr id 0 :: qs => match look M.blks id with
    | some (.cells ty' cs) => match Nat.beq ty' ty && PV.flatL cs && PV.flatL qs with
      | true => (g cs qs).bind fun r => match PV.flat r.1 && PV.flatL r.2 with
        | true => .leaf (r.1, ⟨setL M.blks id (.cells ty r.2), M.nid, M.glob⟩)
        | false => .fail
      | false => .fail
    | _ => .fail
  | _ => .fail
theorem spot_fn {P : Program} {G : GT} {f : FuncId} {ty : TypeId} {g : List PV → List PV → Tr (PV × List PV)} (hg : SpotOK P G f ty g) : FnOK P G f (spotG ty g) := by
  intro β hβ M m w ps args h hlen hreps p M' hp
  unfold spotG at hp
  split at hp
  · rename_i id qs
    split at hp
    · rename_i ty' cs hl
      split at hp
      · rename_i hchk
        simp only [Bool.and_eq_true] at hchk
        obtain ⟨⟨hty, hcf⟩, hqf⟩ := hchk
        obtain rfl := Nat.eq_of_beq_eq_true hty
        obtain ⟨⟨q, cs'⟩, hq, hp⟩ := Tr.of_bind hp
        dsimp only at hp
        split at hp
        · rename_i hchk2
          simp only [Bool.and_eq_true] at hchk2
          simp only [Tr.run, Option.some.injEq, Prod.mk.injEq] at hp
          obtain ⟨rfl, rfl⟩ := hp
          have hbr := h.blk id _ hl
          cases hbr with
          | cells _ _ b vs hm hb hl1 h1 hr hB =>
            have hlive : Live M m b := ⟨id, _, by rw [liv_of hl]; rfl, hm, rfl⟩
            have hsz : 0 < args.size := by rw [← hlen]; simp
            have ha0 : args[0]? = some (.pointer (some ⟨b, 0, none⟩)) := by
              have hx : args[0]? = some args[0] := Array.getElem?_eq_getElem hsz
              have hr0 := hreps 0 _ _ rfl hx
              generalize args[0] = v0 at hr0 hx
              cases hr0 with
              | ptr _ _ _ b2 hm2 =>
                rw [hm] at hm2
                cases hm2
                exact hx
            have hc := hg cs qs q cs' hq w (fun b' o v => w.cell? ⟨b', o, none⟩ = some v ∧ b' ≠ b) (fun _ _ _ h => h.1)
              (fun g cs hgc => (h.glob g cs (by rw [h.gl, hβ]; exact hgc)).mono (fun b' o v hx => ⟨hx.2.1, fun e => hx.1 (e ▸ hlive)⟩) fun _ _ h => h)
              (by rw [← hβ]; exact h.objs') b vs args (fun o v h => h.2 rfl) (fun g o hgo e => hB (e ▸ (h.objs g o (by rw [hβ]; exact hgo)).1)) hb hl1 h1
              (fun i p v hp hv => (hr i p v hp hv).flat (flatL_get hcf hp)) (by rw [← hlen]; rfl) ha0
              (fun i p v hp hv => (hreps (i + 1) p v (by simpa using hp) hv).flat (flatL_get hqf hp))
            refine Calls.mono hc ?_
            intro e w' he
            cases e with
            | panicked _ => exact he.elim
            | outgrown => exact he.elim
            | returned v =>
              obtain ⟨hk, hv, vs', hb', hl', h1', hr'⟩ := he
              have hblt : b < w.heap.size := (Array.getElem?_eq_some_iff.1 hb).1
              have hblt' : b < w'.heap.size := (Array.getElem?_eq_some_iff.1 hb').1
              let w1 : World := { w' with heap := w'.heap.setIfInBounds b (.cells vs ty' (0, 0)) }
              have hget : ∀ k, k ≠ b → w1.heap[k]? = w'.heap[k]? := fun k hkb => Array.getElem?_setIfInBounds_ne (fun e => hkb e.symm)
              have hgb : w1.heap[b]? = some (.cells vs ty' (0, 0)) := by
                show (w'.heap.setIfInBounds b _)[b]? = _
                rw [Array.getElem?_setIfInBounds_self_of_lt hblt']
              have hk1 : Keeps (· < w.heap.size) w w1 := by
                refine ⟨hk.os, hk.tape, hk.output, ?_, fun k hkk => ?_⟩
                · show w.heap.size ≤ (w'.heap.setIfInBounds b _).size
                  rw [Array.size_setIfInBounds]
                  exact hk.size
                · by_cases e : k = b
                  · subst e
                    rw [hgb, hb]
                  · rw [hget k e]
                    exact hk.block k ⟨hkk, e⟩
              obtain ⟨hM1, hE1⟩ := h.keep hk1
              have hsz1 : w1.heap.size = w'.heap.size := Array.size_setIfInBounds ..
              obtain ⟨hM2, hE2⟩ := hM1.write id (.cells ty' cs) (.cells ty' cs') hl rfl rfl _ hm (w' := w')
                ⟨rfl, rfl, rfl, by rw [hsz1]; exact Nat.le_refl _, fun k hkk => (hget k fun e => hB (e ▸ hkk)).symm⟩
                (fun k hkb => (hget k fun e => hkb (by rw [e]; rfl)).symm)
                (fun _ => .cells ty' cs' b vs' hm hb' hl' h1' (fun i p v hp hv => (hr' i p v hp hv).mono (fun _ _ _ h => h.elim) fun _ _ h => by cases h) hB)
              exact ⟨m, hE1.trans hE2, hM2, hv.mono (fun _ _ _ h => h.elim) fun _ _ h => by cases h⟩
        · cases hp
      · cases hp
    · cases hp
  · cases hp
/-- a weaker telling of it -/
theorem SpotOK.of {P : Program} {G : GT} {f : FuncId} {ty : TypeId} {g h : List PV → List PV → Tr (PV × List PV)} (hg : SpotOK P G f ty g) (hle : ∀ cs ps p cs', (h cs ps).run = some (p, cs') → (g cs ps).run = some (p, cs')) : SpotOK P G f ty h :=
  fun cs ps p cs' hp => hg cs ps p cs' (hle cs ps p cs' hp)
theorem FullOK.cons {P : Program} {G : GT} {l : List (Nat × (List PV → Mem → Tr (PV × Mem)))} {f : Nat} {g : List PV → Mem → Tr (PV × Mem)} {fn : Func} (h : FnOK P G f g) (hf : P.funcs[f]? = some fn) (hc : canEnter fn = true) (hl : FullOK P G l) : FullOK P G ((f, g) :: l) := fun f' g' hm => by
  rcases List.mem_cons.1 hm with e | hm
  · cases e
    exact ⟨h, enters_of hf hc⟩
  · exact hl f' g' hm
end Go.Proofs.YtnmgdcggfjnmeaaGreatDoor.Ev

/- nset: slices.SortFunc at bands, as a contract that writes one's own row. No condition. -/
namespace Go.Proofs.YtnmgdcggfjnmeaaGreatDoor.Ev
open Go Go.RowKit Go.Proofs Go.Proofs.YtnmgdcggfjnmeaaGreatDoor.Str Go.Shelf Go.Lib Go.Sort
set_option linter.unusedVariables false
set_option linter.unusedSimpArgs false
def encS (x : Sp) : List Value := [.int .u32 x.1, .int .u32 x.2]
def cfS (x y : Sp) : Int := bif decide (x.1 < y.1) then -1 else bif decide (y.1 < x.1) then 1 else 0
theorem lt_cfS (x y : Sp) : ltOf cfS x y = decide (x.1 < y.1) := by
  unfold ltOf cfS
  by_cases h1 : x.1 < y.1
  · simp [h1]
  · by_cases h2 : y.1 < x.1 <;> simp [h1, h2]
theorem swoS : SWO (ltOf cfS) where
  irrefl x := by rw [lt_cfS]; simp
  trans x y z h1 h2 := by rw [lt_cfS] at *; simp at *; omega
  ntrans x y z h1 h2 := by rw [lt_cfS] at *; simp at *; omega
/-! ### the sorted list -/
def insO (b : Nat) : Nat → Nat → Array Sp → Array Sp
  | 0, _, d => d
  | n + 1, i, d => bif Nat.blt i b then insO b n (i + 1) (insInner (fun x y => decide (x.1 < y.1)) 0 i d) else d
theorem insO_eq (b : Nat) : ∀ (n i : Nat) (d : Array Sp), b - i ≤ n → insOuter (ltOf cfS) 0 b i d = insO b n i d := by
  have e : ltOf cfS = fun x y => decide (x.1 < y.1) := by
    funext x y
    exact lt_cfS x y
  intro n
  induction n with
  | zero =>
    intro i d h
    rw [insOuter, if_neg (by omega)]
    rfl
  | succ n ih =>
    intro i d h
    rw [insOuter, insO]
    rcases Nat.lt_or_ge i b with hb | hb
    · rw [if_pos hb, show Nat.blt i b = true from by rw [Nat.blt_eq]; exact hb, cond_true, ih _ _ (by omega), e]
    · have : Nat.blt i b = false := by rw [Bool.eq_false_iff, ne_eq, Nat.blt_eq]; omega
      rw [if_neg (by omega), this, cond_false]
def sortA (l : List Sp) : Array Sp := pdq (ltOf cfS) l.toArray 0 l.toArray.size (Lib.bitLen l.toArray.size) true true
def sortS (l : List Sp) : List Sp := bif Nat.ble l.length 12 then (insO l.length l.length 1 l.toArray).toList else (sortA l).toList
theorem sortS_eq (l : List Sp) : sortS l = (sortA l).toList := by
  unfold sortS
  rcases Nat.lt_or_ge 12 l.length with h | h
  · have : Nat.ble l.length 12 = false := by rw [Bool.eq_false_iff, ne_eq, Nat.ble_eq]; omega
    rw [this, cond_false]
  · rw [Nat.ble_eq_true_of_le h, cond_true]
    unfold sortA
    rw [pdq, if_pos (by simpa using h)]
    unfold insertionSort
    rw [insO_eq _ l.length _ _ (by simp)]
    simp
theorem sortA_ok (l : List Sp) : PermIn 0 l.toArray.size l.toArray (sortA l) ∧ SortedIn (ltOf cfS) 0 l.toArray.size (sortA l) := by
  have h := pdq_sorts (ltOf cfS) swoS l.toArray 0 l.toArray.size (Lib.bitLen l.toArray.size) true true (Nat.zero_le _) (Nat.le_refl _) (Or.inl rfl)
  exact ⟨h.1, h.2⟩
theorem sortS_perm (l : List Sp) : (sortS l).Perm l := by
  have h := (sortA_ok l).1
  have hs := h.1
  have h := h.2.2
  rw [sortS_eq]
  have e : (sortA l).toList.take l.length = (sortA l).toList := List.take_of_length_le (by simpa using Nat.le_of_eq hs)
  have h : ((sortA l).toList.take l.length).Perm l := by simpa using h
  rwa [e] at h
theorem sortS_len (l : List Sp) : (sortS l).length = l.length := (sortS_perm l).length_eq
theorem sortS_sorted (l : List Sp) : ∀ (i j : Nat), i < j → j < l.length → (sp (sortS l) i).1 ≤ (sp (sortS l) j).1 := by
  intro i j hij hj
  have h := (sortA_ok l).2 i j (Nat.zero_le _) hij (by simpa using hj)
  have hl : (sortA l).size = l.length := by
    have := sortS_len l
    rw [sortS_eq] at this
    simpa using this
  rw [lt_cfS, decide_eq_false_iff_not] at h
  have e : ∀ k, k < l.length → sp (sortS l) k = (sortA l)[k]! := by
    intro k hk
    rw [sortS_eq]
    unfold sp
    rw [getElem!_pos (sortA l) k (by omega)]
    simp [List.getD, show k < (sortA l).size by omega]
  rw [e i (by omega), e j hj]
  omega
/-! ### the row that is sorted -/
theorem flat_encS : ∀ l : List Sp, (l.flatMap encS) = cellsSp l := fun _ => rfl
theorem isAggB : ∀ w, (isAgg 74).run Tryz.prog w = .ok true w := run_aggT (by kernel_rfl)
theorem sizeOfB : ∀ w, (Go.sizeOf 74).run Tryz.prog w = .ok 2 w := run_sizeT (by kernel_rfl)
theorem flatK_len (l : List Sp) : (flatK encS 2 l.toArray).size = l.length * 2 := by simp
theorem flatK_at (l : List Sp) (k : Nat) (h : k < l.length * 2) : (cellsSp l)[k]? = some (flatK encS 2 l.toArray)[k]! := by
  rw [get_flatK _ _ _ _ (by simpa using h)]
  have hk : k / 2 * 2 + k % 2 = k := by omega
  have hd : k / 2 < l.length := by omega
  have := cellsSp_at l (k / 2) (k % 2) hd (by omega)
  rw [hk] at this
  rw [this]
  have he : l.toArray[k / 2]! = sp l (k / 2) := by
    rw [getElem!_pos l.toArray (k / 2) (by simpa using hd)]
    simp [sp, hd]
  rw [he]
  have : k % 2 = 0 ∨ k % 2 = 1 := by omega
  rcases this with h0 | h0 <;> rw [h0] <;> rfl
theorem cellsSp_len : ∀ l : List Sp, (cellsSp l).length = l.length * 2
  | [] => rfl
  | x :: l => by
    have := cellsSp_len l
    show (cellsSp l).length + 1 + 1 = _
    simp
    omega
theorem row_holds {w : World} {B : Nat} {e : TypeId} {b cap : Nat} {l : List Sp} (h : w.ownsRow B e 2 (.slice (some ⟨b, 0, none⟩) l.length cap) l.length (cellsSp l)) : HoldsK encS 2 w b 0 l.toArray := by
  intro j hj
  rw [flatK_len] at hj
  refine ⟨?_, ?_⟩
  · rw [Nat.zero_add, h.cellAt j hj]
    exact flatK_at l j hj
  · rw [Nat.zero_add]
    exact h.frozenAt j
theorem row_put {w : World} {B : Nat} {e : TypeId} {b cap : Nat} {l l' : List Sp} (hl : l'.length = l.length) (h : w.ownsRow B e 2 (.slice (some ⟨b, 0, none⟩) l.length cap) l.length (cellsSp l)) :
    (putRowK encS 2 w b 0 l'.toArray).ownsRow B e 2 (.slice (some ⟨b, 0, none⟩) l.length cap) l.length (cellsSp l') := by
  rcases h.2 with ⟨h', _⟩ | ⟨g, cap', cur, h', hbg, hg, hnc, hcm, hcs, htake⟩
  · cases h'
  · cases h'
    obtain ⟨hlt, hgg⟩ := Array.getElem?_eq_some_iff.1 hg
    refine ⟨by rw [cellsSp_len, hl], .inr ⟨b, cap, putCells id 0 (flatK encS 2 l'.toArray) cur, rfl, hbg, ?_, hnc, hcm, by simp [putCells, hcs], ?_⟩⟩
    · show ((w.heap.modify b (onCells (putCells id 0 (flatK encS 2 l'.toArray))))[b]?) = _
      rw [Array.getElem?_eq_getElem (by rw [Array.size_modify]; exact hlt), Array.getElem_modify_self, hgg]
      rfl
    · refine List.ext_getElem? fun k => ?_
      rw [List.getElem?_take]
      split
      · rename_i hk
        have hk' : k < l'.length * 2 := by omega
        have hcur : k < cur.size := by rw [hcs]; have := Nat.mul_le_mul_right 2 hnc; omega
        rw [flatK_at l' k hk']
        simp [putCells, hcur]
        intro hge
        omega
      · rename_i hk
        rw [List.getElem?_eq_none (by rw [cellsSp_len, hl]; omega)]
theorem putRowK_other (w : World) (b : Nat) (d : Array Sp) (k : Nat) (h : k ≠ b) : (putRowK encS 2 w b 0 d).heap[k]? = w.heap[k]? := by
  show ((w.heap.modify b _)[k]?) = _
  rw [Array.getElem?_modify, if_neg (fun e => h e.symm)]
theorem putRowK_size (w : World) (b : Nat) (d : Array Sp) : (putRowK encS 2 w b 0 d).heap.size = w.heap.size := by
  show (w.heap.modify b _).size = _
  rw [Array.size_modify]
def nsFull : List (Nat × (List PV → Mem → Tr (PV × Mem))) := libFull
theorem nsFull_ok {m : Int} {t : TypeId} {fr : Nat × Nat} : FullOK Tryz.prog (GG m t fr) nsFull := libFull_ok
section
variable {m : Int} {t : TypeId} {fr : Nat × Nat}
noncomputable abbrev E3 (G : GT) : Env := envOf Tryz.prog G nsPure nsFull
theorem E3_ok : (E3 (GG m t fr)).ok Tryz.prog (GG m t fr) := envOf_ok mixed nsPure_ok nsFull_ok
end
end Go.Proofs.YtnmgdcggfjnmeaaGreatDoor.Ev

/- Functions that give back a new row, that their caller may write. No condition. -/
namespace Go.Proofs.YtnmgdcggfjnmeaaGreatDoor.Ev
open Go Go.RowKit
set_option linter.unusedVariables false
set_option linter.unusedSimpArgs false
/-- a function that writes nothing that was there, and gives back a row of its own make -/
def RowAt (P : Program) (G : GT) (f : FuncId) (ps : List PV) (e : TypeId) (sz n : Nat) (h : Nat → List PV) : Prop :=
  ∀ (w : World) (C : Nat → Nat → Value → Prop), Known C w → Globs G C → Objs G w → ∀ (args : Array Value), RepL C ps args →
    Calls P f args w fun
      | .returned v, w' => Keeps (· < w.heap.size) w w' ∧ ∃ xs, w'.ownsRow w.heap.size e sz v n xs ∧ (∀ x ∈ xs, x.oneCell' = true) ∧ (∀ i, i < n → (h i).length = sz) ∧
          ∀ (i j : Nat) (p : PV), i < n → (h i)[j]? = some p → ∃ x, xs[i * sz + j]? = some x ∧ Rep (fun b o y => Grown C w w' b o y ∧ blkOf v ≠ some b) (fun _ => none) p x
      | _, _ => False
def RowOK (P : Program) (G : GT) (f : FuncId) (g : List PV → Tr (TypeId × Nat × Nat × (Nat → List PV))) : Prop := ∀ ps e sz n h, (g ps).run = some (e, sz, n, h) → RowAt P G f ps e sz n h
theorem RowOK.of {P : Program} {G : GT} {f : FuncId} {g g' : List PV → Tr (TypeId × Nat × Nat × (Nat → List PV))} (h : RowOK P G f g) (hg : ∀ ps e sz n k, (g' ps).run = some (e, sz, n, k) → ∃ k', (g ps).run = some (e, sz, n, k') ∧ ∀ i, i < n → k' i = k i) : RowOK P G f g' := by
  intro ps e sz n k hk w C hK hG hO args hr
  obtain ⟨k', h1, h2⟩ := hg ps e sz n k hk
  refine (h ps e sz n k' h1 w C hK hG hO args hr).mono ?_
  rintro (v | _) w' hq
  · obtain ⟨q1, xs, q2, q3, q4, q5⟩ := hq
    refine ⟨q1, xs, q2, q3, fun i hi => by rw [← h2 i hi]; exact q4 i hi, fun i j p hi hp => q5 i j p hi (by rw [h2 i hi]; exact hp)⟩
  all_goals exact hq.elim
/-- .. as it is evaluated -/
def fnRow (P : Program) (E : Env) (n : Nat) (fn : Func) (G : GT) (ps : List PV) : Tr (TypeId × Nat × Nat × (Nat → List PV)) := (fnEv P E n fn ps ⟨[], 0, G⟩).bind fun r => match r.1 with
  | .own i => match look r.2.blks i with
    | some (.row e sz k h) => .leaf (e, sz, k, h)
    | _ => .fail
  | _ => .fail
theorem row_of_ev {P : Program} {E : Env} {n : Nat} {G : GT} (hE : E.ok P G) (hmo : P.follows .mixedOrders = true) {f : FuncId} {fn : Func} (hf : P.funcs[f]? = some fn) (hc : ∀ c, fn.body = some c → CutsOK .none P G E c) : RowOK P G f (fnRow P E n fn G) := by
  intro ps e sz k h hp w C hK hG hO args hr
  obtain ⟨⟨q, M'⟩, hq, hp⟩ := Tr.of_bind hp
  dsimp only at hp
  split at hp
  · rename_i i
    split at hp
    · rename_i e1 sz1 k1 h1 hlk
      simp only [Tr.run, Option.some.injEq, Prod.mk.injEq] at hp
      obtain ⟨rfl, rfl, rfl, rfl⟩ := hp
      have hcell : ∀ b o v, C b o v → Cell ⟨w, C, (· < w.heap.size), G⟩ w ⟨[], 0, G⟩ (fun _ => none) b o v := fun b o v h => ⟨fun ⟨id, u, hs, _⟩ => (by cases hs), hK b o v h, fun _ => h⟩
      have hM : MRel ⟨w, C, (· < w.heap.size), G⟩ ⟨[], 0, G⟩ (fun _ => none) w :=
        ⟨fun id b hb => (by cases hb), fun _ _ => rfl, fun i j v v' b hi => (by cases hi), fun k hk => hk, Keeps.refl _ _, fun g cs hg => (hG g cs hg).mono hcell fun _ _ h => h, rfl, fun g o hg => ⟨(Array.getElem?_eq_some_iff.1 (hO g o hg)).1, hO g o hg⟩⟩
      refine Calls.mono (fnEv_wp hE hmo hf hc (β := ⟨w, C, (· < w.heap.size), G⟩) rfl hM hr.1 (fun i p v hp hv => (hr.2 i p v hp hv).mono hcell fun _ _ h => h) hq) ?_
      intro e' w' he
      cases e' with
      | panicked _ => exact he.elim
      | outgrown => exact he.elim
      | returned v =>
        obtain ⟨m', -, hM', hrep⟩ := he
        refine ⟨hM'.below, ?_⟩
        cases hrep with
        | own _ _ _ hv _ =>
          have hb := hM'.blk i _ hlk
          cases hb with
          | row _ _ _ _ v' xs hm ho hKr h1 hl hr1 =>
            rw [hv] at hm
            cases hm
            refine ⟨xs, ⟨ho.1, ho.2.imp id fun ⟨g, cap, cur, e1, e2, r⟩ => ⟨g, cap, cur, e1, Nat.le_of_not_lt (hKr g (by rw [e1]; rfl)), r⟩⟩, h1, hl, fun i' j p hi hj => ?_⟩
            obtain ⟨x, hx, hxr⟩ := hr1 i' j p hi hj
            refine ⟨x, hx, hxr.mono (fun b o y hy => ⟨?_, fun hbv => hy.1 ⟨i, _, liv_of hlk, hv, hbv⟩⟩) fun _ _ h => h⟩
            rcases Nat.lt_or_ge b w.heap.size with h | h
            · exact .inl (hy.2.2 h)
            · exact .inr ⟨h, hy.2.1⟩
    · cases hp
  · cases hp
/-- .. for a caller that has memory of its own: one row more -/
def rowFn (g : List PV → Tr (TypeId × Nat × Nat × (Nat → List PV))) (ps : List PV) (M : Mem) : Tr (PV × Mem) := match PV.closL ps with
  | true => (g ps).bind fun r => .leaf (.own M.nid, M.new (.row r.1 r.2.1 r.2.2.1 r.2.2.2))
  | false => .fail
theorem row_fn {P : Program} {G : GT} {f : FuncId} {g : List PV → Tr (TypeId × Nat × Nat × (Nat → List PV))} (hg : RowOK P G f g) : FnOK P G f (rowFn g) := by
  intro β hG M m w ps args hM hlen hrep p M' hp
  unfold rowFn at hp
  split at hp
  · rename_i hcl
    obtain ⟨⟨e, sz, n, h⟩, h1, hp⟩ := Tr.of_bind hp
    simp only [Tr.run, Option.some.injEq, Prod.mk.injEq] at hp
    obtain ⟨rfl, rfl⟩ := hp
    refine (hg ps e sz n h h1 w (Cell β w M m) (fun b o v h => h.2.1) (fun g cs hgc => hM.glob g cs (by rw [hM.gl, hG]; exact hgc)) (by rw [← hG]; exact hM.objs') args ⟨hlen, fun i p v hp hv => (hrep i p v hp hv).clos (closL_get hcl hp)⟩).mono ?_
    rintro (v | _) w' hq
    · obtain ⟨hk, xs, ho, h1x, hl, hr⟩ := hq
      have hbv : ∀ k, blkOf v = some k → w.heap.size ≤ k := by
        intro k hk'
        rcases ho.2 with ⟨rfl, _⟩ | ⟨b, cap, cur, rfl, hb, _⟩
        · cases hk'
        · cases hk'
          exact hb
      have hone : v.oneCell' = true := by
        rcases ho.2 with ⟨rfl, _⟩ | ⟨b, cap, cur, rfl, _⟩ <;> rfl
      obtain ⟨k1, k2⟩ := hM.grow (.row e sz n h) v (w' := w') ⟨hk.os, hk.tape, hk.output, hk.size, fun k hk' => hk.block k (hM.kLt hk')⟩ hk.block hbv fun he =>
        .row e sz n h v xs (upd_same ..) ⟨ho.1, ho.2.imp id fun ⟨g, cap, cur, e1, e2, r⟩ => ⟨g, cap, cur, e1, Nat.zero_le _, r⟩⟩ (fun j hj hjk => Nat.lt_irrefl _ (Nat.lt_of_lt_of_le (hM.kLt hjk) (hbv j hj))) h1x hl fun i j p hi hj => by
          obtain ⟨x, hx, hxr⟩ := hr i j p hi hj
          refine ⟨x, hx, hxr.mono (fun b o y hy => ?_) fun _ _ h => h⟩
          obtain ⟨hy | ⟨hyb, hyc⟩, hyn⟩ := hy
          · exact he.cell b o y hy
          · refine ⟨fun ⟨id, u, hs, hm, hbu⟩ => ?_, hyc, fun hlt => absurd (hM.kLt hlt) (by omega)⟩
            by_cases hid : id = M.nid
            · subst hid
              rw [upd_same] at hm
              cases hm
              exact hyn hbu
            · rw [upd_other _ _ _ _ hid] at hm
              simp only [Mem.new, liv_cons, if_neg (Ne.symm hid)] at hs
              have := hM.livLt hs hm hbu
              omega
      exact ⟨_, k2, k1, .own _ _ _ (upd_same ..) hone⟩
    all_goals exact hq.elim
  · cases hp
end Go.Proofs.YtnmgdcggfjnmeaaGreatDoor.Ev

/- nset.bands: spans at work. No condition. -/
namespace Go.Proofs.YtnmgdcggfjnmeaaGreatDoor.Ev
open Go Go.RowKit Go.Proofs Go.Proofs.YtnmgdcggfjnmeaaGreatDoor.Str
set_option linter.unusedVariables false
set_option linter.unusedSimpArgs false
section
variable {m : Int} {t : TypeId} {fr : Nat × Nat}
def bnOuts : Exit → Outs := fun e => match e with
  | .normal => { ks := [1, 5, 11, 12, 13], rs := [.slot 5] }
  | _ => { ks := [5], rs := [.slot 5] }
noncomputable abbrev bnRound (G : GT) := roundT Tryz.prog (E2 G) 60 G 47 bnOuts .normal (theLoop 0 Tryz.f33)
theorem bn_round (m : Int) (t : TypeId) (fr : Nat × Nat) (l : List Sp) (n k : Nat) (most u i : Int) (f : Nat → List PV) : (bnRound (GG m t fr) ([.lit (.int .u32 most), .own 0, .gsl 2 n (sRow l), int u, int i], [.row 74 2 k f])).run2 =
 (bif (decide (i < u)) then
 bif (bne (Prod.fst (sp l (Int.toNat i))) (0 : Int)) then
 bif (bne (Prod.snd (sp l (Int.toNat i))) (0 : Int)) then
 (.some ((.normal, ([(.lit (.int .u32 most)), (.own 0), (.gsl 2 n (fun i => [PV.lit (Value.int IntKind.u32 (sp l i).fst), PV.lit (Value.int IntKind.u32 (sp l i).snd)])), (.lit (.int .i64 u)), (.lit (.int .i64 (IntKind.wrap .i64 (i + (1 : Int)))))], [(.row 74 2 k (rowSet f (Int.toNat i) 0 [(.lit (.int .u32 (ite ((Prod.snd (sp l (Int.toNat i))) < (Prod.fst (sp l (Int.toNat i)))) (Prod.snd (sp l (Int.toNat i))) (Prod.fst (sp l (Int.toNat i)))))), (.lit (.int .u32 (ite ((Prod.snd (sp l (Int.toNat i))) > (Prod.fst (sp l (Int.toNat i)))) (Prod.snd (sp l (Int.toNat i))) (Prod.fst (sp l (Int.toNat i))))))]))])), [(Nat.blt (Int.toNat i) k), ((decide ((0 : Int) ≤ i)) && (Nat.blt (Int.toNat i) k)), true, true, ((decide ((0 : Int) ≤ i)) && (Nat.blt (Int.toNat i) n))]))
 else bif (bne most (0 : Int)) then
 (.some ((.normal, ([(.lit (.int .u32 most)), (.own 0), (.gsl 2 n (fun i => [PV.lit (Value.int IntKind.u32 (sp l i).fst), PV.lit (Value.int IntKind.u32 (sp l i).snd)])), (.lit (.int .i64 u)), (.lit (.int .i64 (IntKind.wrap .i64 (i + (1 : Int)))))], [(.row 74 2 k (rowSet f (Int.toNat i) 0 [(.lit (.int .u32 (ite (most < (Prod.fst (sp l (Int.toNat i)))) most (Prod.fst (sp l (Int.toNat i)))))), (.lit (.int .u32 (ite (most > (Prod.fst (sp l (Int.toNat i)))) most (Prod.fst (sp l (Int.toNat i))))))]))])), [(Nat.blt (Int.toNat i) k), ((decide ((0 : Int) ≤ i)) && (Nat.blt (Int.toNat i) k)), true, true, true, ((decide ((0 : Int) ≤ i)) && (Nat.blt (Int.toNat i) n))]))
 else (.some ((.normal, ([(.lit (.int .u32 most)), (.own 0), (.gsl 2 n (fun i => [PV.lit (Value.int IntKind.u32 (sp l i).fst), PV.lit (Value.int IntKind.u32 (sp l i).snd)])), (.lit (.int .i64 u)), (.lit (.int .i64 (IntKind.wrap .i64 (i + (1 : Int)))))], [(.row 74 2 k (rowSet f (Int.toNat i) 0 [(.lit (.int .u32 (ite ((0 : Int) < (Prod.fst (sp l (Int.toNat i)))) (0 : Int) (Prod.fst (sp l (Int.toNat i)))))), (.lit (.int .u32 (ite ((0 : Int) > (Prod.fst (sp l (Int.toNat i)))) (0 : Int) (Prod.fst (sp l (Int.toNat i))))))]))])), [(Nat.blt (Int.toNat i) k), ((decide ((0 : Int) ≤ i)) && (Nat.blt (Int.toNat i) k)), true, true, true, ((decide ((0 : Int) ≤ i)) && (Nat.blt (Int.toNat i) n))]))
 else bif (bne most (0 : Int)) then
 bif (bne (Prod.snd (sp l (Int.toNat i))) (0 : Int)) then
 (.some ((.normal, ([(.lit (.int .u32 most)), (.own 0), (.gsl 2 n (fun i => [PV.lit (Value.int IntKind.u32 (sp l i).fst), PV.lit (Value.int IntKind.u32 (sp l i).snd)])), (.lit (.int .i64 u)), (.lit (.int .i64 (IntKind.wrap .i64 (i + (1 : Int)))))], [(.row 74 2 k (rowSet f (Int.toNat i) 0 [(.lit (.int .u32 (ite ((Prod.snd (sp l (Int.toNat i))) < most) (Prod.snd (sp l (Int.toNat i))) most))), (.lit (.int .u32 (ite ((Prod.snd (sp l (Int.toNat i))) > most) (Prod.snd (sp l (Int.toNat i))) most)))]))])), [(Nat.blt (Int.toNat i) k), ((decide ((0 : Int) ≤ i)) && (Nat.blt (Int.toNat i) k)), true, true, true, ((decide ((0 : Int) ≤ i)) && (Nat.blt (Int.toNat i) n))]))
 else bif (bne most (0 : Int)) then
 (.some ((.normal, ([(.lit (.int .u32 most)), (.own 0), (.gsl 2 n (fun i => [PV.lit (Value.int IntKind.u32 (sp l i).fst), PV.lit (Value.int IntKind.u32 (sp l i).snd)])), (.lit (.int .i64 u)), (.lit (.int .i64 (IntKind.wrap .i64 (i + (1 : Int)))))], [(.row 74 2 k (rowSet f (Int.toNat i) 0 [(.lit (.int .u32 (ite (most < most) most most))), (.lit (.int .u32 (ite (most > most) most most)))]))])), [(Nat.blt (Int.toNat i) k), ((decide ((0 : Int) ≤ i)) && (Nat.blt (Int.toNat i) k)), true, true, true, true, ((decide ((0 : Int) ≤ i)) && (Nat.blt (Int.toNat i) n))]))
 else (.some ((.normal, ([(.lit (.int .u32 most)), (.own 0), (.gsl 2 n (fun i => [PV.lit (Value.int IntKind.u32 (sp l i).fst), PV.lit (Value.int IntKind.u32 (sp l i).snd)])), (.lit (.int .i64 u)), (.lit (.int .i64 (IntKind.wrap .i64 (i + (1 : Int)))))], [(.row 74 2 k (rowSet f (Int.toNat i) 0 [(.lit (.int .u32 (ite ((0 : Int) < most) (0 : Int) most))), (.lit (.int .u32 (ite ((0 : Int) > most) (0 : Int) most)))]))])), [(Nat.blt (Int.toNat i) k), ((decide ((0 : Int) ≤ i)) && (Nat.blt (Int.toNat i) k)), true, true, true, true, ((decide ((0 : Int) ≤ i)) && (Nat.blt (Int.toNat i) n))]))
 else bif (bne (Prod.snd (sp l (Int.toNat i))) (0 : Int)) then
 (.some ((.normal, ([(.lit (.int .u32 most)), (.own 0), (.gsl 2 n (fun i => [PV.lit (Value.int IntKind.u32 (sp l i).fst), PV.lit (Value.int IntKind.u32 (sp l i).snd)])), (.lit (.int .i64 u)), (.lit (.int .i64 (IntKind.wrap .i64 (i + (1 : Int)))))], [(.row 74 2 k (rowSet f (Int.toNat i) 0 [(.lit (.int .u32 (ite ((Prod.snd (sp l (Int.toNat i))) < (0 : Int)) (Prod.snd (sp l (Int.toNat i))) (0 : Int)))), (.lit (.int .u32 (ite ((Prod.snd (sp l (Int.toNat i))) > (0 : Int)) (Prod.snd (sp l (Int.toNat i))) (0 : Int))))]))])), [(Nat.blt (Int.toNat i) k), ((decide ((0 : Int) ≤ i)) && (Nat.blt (Int.toNat i) k)), true, true, true, ((decide ((0 : Int) ≤ i)) && (Nat.blt (Int.toNat i) n))]))
 else bif (bne most (0 : Int)) then
 (.some ((.normal, ([(.lit (.int .u32 most)), (.own 0), (.gsl 2 n (fun i => [PV.lit (Value.int IntKind.u32 (sp l i).fst), PV.lit (Value.int IntKind.u32 (sp l i).snd)])), (.lit (.int .i64 u)), (.lit (.int .i64 (IntKind.wrap .i64 (i + (1 : Int)))))], [(.row 74 2 k (rowSet f (Int.toNat i) 0 [(.lit (.int .u32 (ite (most < (0 : Int)) most (0 : Int)))), (.lit (.int .u32 (ite (most > (0 : Int)) most (0 : Int))))]))])), [(Nat.blt (Int.toNat i) k), ((decide ((0 : Int) ≤ i)) && (Nat.blt (Int.toNat i) k)), true, true, true, true, ((decide ((0 : Int) ≤ i)) && (Nat.blt (Int.toNat i) n))]))
 else (.some ((.normal, ([(.lit (.int .u32 most)), (.own 0), (.gsl 2 n (fun i => [PV.lit (Value.int IntKind.u32 (sp l i).fst), PV.lit (Value.int IntKind.u32 (sp l i).snd)])), (.lit (.int .i64 u)), (.lit (.int .i64 (IntKind.wrap .i64 (i + (1 : Int)))))], [(.row 74 2 k (rowSet f (Int.toNat i) 0 [(.lit (.int .u32 (0 : Int))), (.lit (.int .u32 (0 : Int)))]))])), [(Nat.blt (Int.toNat i) k), ((decide ((0 : Int) ≤ i)) && (Nat.blt (Int.toNat i) k)), true, true, true, true, ((decide ((0 : Int) ≤ i)) && (Nat.blt (Int.toNat i) n))]))
 else (.some (((.exit 0), ([(.own 0)], [(.row 74 2 k f)])), [])) : Option ((Exit × Kept) × List Bool)) := by
  kernel_rfl
/-- a span at work -/
def eS (most a : Int) : Int := bif bne a 0 then a else bif bne most 0 then most else 0
def bandS (most : Int) (x : Sp) : Sp := (bif decide (eS most x.2 < eS most x.1) then eS most x.2 else eS most x.1, bif decide (eS most x.2 < eS most x.1) then eS most x.1 else eS most x.2)
theorem mn (a b : Int) : ite (b < a) b a = (bif decide (b < a) then b else a) := by by_cases h : b < a <;> simp [h]
theorem mx (a b : Int) : ite (b > a) b a = (bif decide (b < a) then a else b) := by
  by_cases h : b < a
  · simp [h, Int.not_lt.2 (Int.le_of_lt h)]
  · by_cases h2 : a < b
    · simp [h, h2]
    · have : a = b := by omega
      subst this
      simp
/-- the row, so far -/
def bnF (B : List Sp) (f : Nat → List PV) (i j : Nat) : List PV := bif Nat.blt j i then sRow B j else f j
theorem bnF_step (B : List Sp) (f : Nat → List PV) (i : Nat) (hf : (f i).drop 2 = []) : rowSet (bnF B f i) i 0 [.lit (.int .u32 (sp B i).1), .lit (.int .u32 (sp B i).2)] = bnF B f (i + 1) := by
  funext k
  rw [rowSet_eq]
  unfold rowSetO
  cases h : Nat.beq k i with
  | true =>
    obtain rfl := Nat.eq_of_beq_eq_true h
    have h1 : Nat.blt k k = false := by rw [Bool.eq_false_iff, ne_eq, Nat.blt_eq]; omega
    have h2 : Nat.blt k (k + 1) = true := by rw [Nat.blt_eq]; omega
    simp [bnF, h1, h2, hf, sRow]
  | false =>
    have hne : k ≠ i := fun e => by subst e; simp at h
    unfold bnF
    have : Nat.blt k i = Nat.blt k (i + 1) := by
      rw [Bool.eq_iff_iff, Nat.blt_eq, Nat.blt_eq]
      omega
    rw [this]
theorem bn_step (m : Int) (t : TypeId) (fr : Nat × Nat) (l : List Sp) (n k : Nat) (most : Int) (i : Nat) (f : Nat → List PV) (hi : i < n) (hk : i < k) (hn : n ≤ 4294967280) :
    (bnRound (GG m t fr) ([.lit (.int .u32 most), .own 0, .gsl 2 n (sRow l), int n, int i], [.row 74 2 k f])).run =
      some (.normal, ([.lit (.int .u32 most), .own 0, .gsl 2 n (sRow l), int n, int ((i + 1 : Nat) : Int)], [.row 74 2 k (rowSet f i 0 [.lit (.int .u32 (bandS most (sp l i)).1), .lit (.int .u32 (bandS most (sp l i)).2)])])) := by
  have h := bn_round m t fr l n k most n i f
  have hd : decide ((i : Int) < (n : Int)) = true := by simp; omega
  have hw : IntKind.i64.wrap ((i : Int) + 1) = ((i + 1 : Nat) : Int) := wrap_succ (by omega)
  have b1 : Nat.blt i k = true := by rw [Nat.blt_eq]; exact hk
  have b2 : Nat.blt i n = true := by rw [Nat.blt_eq]; exact hi
  have b3 : decide ((0 : Int) ≤ (i : Int)) = true := by simp
  rw [hd, hw, Int.toNat_natCast, b1, b2, b3] at h
  simp only [cond_true, mn, mx] at h
  have key : ∀ x y : Int, x = eS most (sp l i).1 → y = eS most (sp l i).2 → (bif decide (y < x) then y else x) = (bandS most (sp l i)).1 ∧ (bif decide (y < x) then x else y) = (bandS most (sp l i)).2 := by
    rintro x y rfl rfl
    exact ⟨rfl, rfl⟩
  cases c1 : bne (sp l i).1 0 with
  | true =>
    have e1 : (sp l i).1 = eS most (sp l i).1 := by unfold eS; rw [c1]; rfl
    rw [c1] at h
    cases c2 : bne (sp l i).2 0 with
    | true =>
      have e2 : (sp l i).2 = eS most (sp l i).2 := by unfold eS; rw [c2]; rfl
      rw [c2] at h
      obtain ⟨k1, k2⟩ := key _ _ e1 e2
      simp only [cond_true, k1, k2] at h
      exact Tr.run_of h (by simp)
    | false =>
      rw [c2] at h
      cases c3 : bne most 0 with
      | true =>
        have e2 : most = eS most (sp l i).2 := by unfold eS; rw [c2, c3]; rfl
        rw [c3] at h
        obtain ⟨k1, k2⟩ := key _ _ e1 e2
        simp only [cond_true, cond_false, k1, k2] at h
        exact Tr.run_of h (by simp)
      | false =>
        have e2 : 0 = eS most (sp l i).2 := by unfold eS; rw [c2, c3]; rfl
        rw [c3] at h
        obtain ⟨k1, k2⟩ := key _ _ e1 e2
        simp only [cond_false, k1, k2] at h
        exact Tr.run_of h (by simp)
  | false =>
    rw [c1] at h
    cases c3 : bne most 0 with
    | true =>
      have e1 : most = eS most (sp l i).1 := by unfold eS; rw [c1, c3]; rfl
      rw [c3] at h
      cases c2 : bne (sp l i).2 0 with
      | true =>
        have e2 : (sp l i).2 = eS most (sp l i).2 := by unfold eS; rw [c2]; rfl
        rw [c2] at h
        obtain ⟨k1, k2⟩ := key _ _ e1 e2
        simp only [cond_true, cond_false, k1, k2] at h
        exact Tr.run_of h (by simp)
      | false =>
        have e2 : most = eS most (sp l i).2 := by unfold eS; rw [c2, c3]; rfl
        rw [c2] at h
        obtain ⟨k1, k2⟩ := key _ _ e1 e2
        have k3 : (bandS most (sp l i)).1 = (bandS most (sp l i)).2 := by rw [← k1, ← k2]
        simp only [cond_true, cond_false, k1] at h
        rw [← k3]
        exact Tr.run_of h (by simp)
    | false =>
      have e1 : 0 = eS most (sp l i).1 := by unfold eS; rw [c1, c3]; rfl
      rw [c3] at h
      cases c2 : bne (sp l i).2 0 with
      | true =>
        have e2 : (sp l i).2 = eS most (sp l i).2 := by unfold eS; rw [c2]; rfl
        rw [c2] at h
        obtain ⟨k1, k2⟩ := key _ _ e1 e2
        simp only [cond_true, cond_false, k1, k2] at h
        exact Tr.run_of h (by simp)
      | false =>
        have e2 : 0 = eS most (sp l i).2 := by unfold eS; rw [c2, c3]; rfl
        rw [c2] at h
        obtain ⟨k1, k2⟩ := key _ _ e1 e2
        have k1 : 0 = (bandS most (sp l i)).1 := by rw [← k1]; rfl
        have k2 : 0 = (bandS most (sp l i)).2 := by rw [← k2]; rfl
        rw [← k1, ← k2]
        simp only [cond_false] at h
        exact Tr.run_of h (by simp)
def bnIn (l : List Sp) (most : Int) (k i : Nat) (f : Nat → List PV) : Kept := ([.lit (.int .u32 most), .own 0, .gsl 2 l.length (sRow l), int l.length, int i], [.row 74 2 k f])
theorem bn_LR (l : List Sp) (most : Int) (k : Nat) (f : Nat → List PV) (hn : l.length ≤ 4294967280) (hk : l.length ≤ k) (hf : ∀ i, i < l.length → (f i).drop 2 = []) : ∀ (d i : Nat), i + d = l.length →
    LR Tryz.prog (E2 (GG m t fr)) 60 (GG m t fr) 47 bnOuts .normal (theLoop 0 Tryz.f33) (bnIn l most k i (bnF (l.map (bandS most)) f i)) (.exit 0) ([.own 0], [.row 74 2 k (bnF (l.map (bandS most)) f l.length)])
  | 0, i, hi => by
    have h := bn_round m t fr l l.length k most l.length i (bnF (l.map (bandS most)) f i)
    have hd : decide ((i : Int) < (l.length : Int)) = false := by simp; omega
    rw [hd] at h
    have e : i = l.length := by omega
    have h := Tr.run_of h (by simp)
    rw [e] at h
    rw [e]
    exact .last h (by simp) (by simp)
  | d + 1, i, hi => by
    have h := bn_step m t fr l l.length k most i (bnF (l.map (bandS most)) f i) (by omega) (by omega) hn
    have hb : sp (l.map (bandS most)) i = bandS most (sp l i) := by
      simp [sp, show i < l.length by omega]
    rw [← hb, bnF_step _ _ _ (hf i (by omega))] at h
    exact .more h (bn_LR l most k f hn hk hf d (i + 1) (by omega))
def bnK : Kept → Tr (Exit × Kept)
  | ([.lit (.int .u32 most), .own 0, .gsl 2 n f', .lit (.int .i64 u), .lit (.int .i64 0)], [.row e 2 k f]) => match Nat.beq e 74 with
    | true => .br (areSps n f' && decide (u = (n : Int)) && Nat.ble n k && Nat.ble n 4294967280 && (List.range n).all fun i => Nat.ble (f i).length 2)
        (.leaf (.exit 0, ([.own 0], [.row 74 2 k (bnF ((spsOf n f').map (bandS most)) f n)]))) .fail
    | false => .fail
  | _ => .fail
theorem bnK_ok (x : Kept) (e : Exit) (y : Kept) (h : (bnK x).run = some (e, y)) : LR Tryz.prog (E2 (GG m t fr)) 60 (GG m t fr) 47 bnOuts .normal (theLoop 0 Tryz.f33) x e y := by
  unfold bnK at h
  split at h
  · rename_i most n f' u e0 k f
    split at h
    · rename_i he
      obtain rfl := Nat.eq_of_beq_eq_true he
      have hb := br_run h
      clear h
      obtain ⟨hc, h⟩ := hb
      simp only [Bool.and_eq_true, decide_eq_true_eq, Nat.ble_eq, List.all_eq_true, List.mem_range] at hc
      obtain ⟨⟨⟨⟨hf', rfl⟩, hnk⟩, hn⟩, hf⟩ := hc
      simp only [Tr.run, Option.some.injEq, Prod.mk.injEq] at h
      obtain ⟨rfl, rfl⟩ := h
      have hL := sps_len n f'
      have key := bn_LR (m := m) (t := t) (fr := fr) (spsOf n f') most k f (by omega) (by omega) (fun i hi => List.drop_eq_nil_of_le (hf i (by omega))) n 0 (by omega)
      have hin : KLe ([.lit (.int .u32 most), .own 0, .gsl 2 n f', int (n : Int), int 0], [.row 74 2 k f]) (bnIn (spsOf n f') most k 0 (bnF ((spsOf n f').map (bandS most)) f 0)) := by
        have e0 : bnF ((spsOf n f').map (bandS most)) f 0 = f := by
          funext j
          unfold bnF
          have : Nat.blt j 0 = false := by rw [Bool.eq_false_iff, ne_eq, Nat.blt_eq]; omega
          rw [this, cond_false]
        rw [e0]
        refine ⟨PLeL.cons (.refl _) (PLeL.cons (.refl _) (PLeL.cons (PLe.gsl hL.symm (sps_row hf')) (PLeL.cons (PLe.of_eq ?_) (.refl _)))), .refl _⟩
        rw [hL]
      rw [hL] at key
      exact .le hin key
    · cases h
  · cases h
noncomputable abbrev bnCut (G : GT) := cutOf G 47 bnOuts 0 bnK
theorem bands_raw (m : Int) (t : TypeId) (fr : Nat × Nat) (n : Nat) (f : Nat → List PV) (most : Int) : (fnRow Tryz.prog ((E2 (GG m t fr)).withCuts (cut1 0 (bnCut (GG m t fr)))) 60 Tryz.f33 (GG m t fr) [.gsl 2 n f, .lit (.int .u32 most)]).run2 =
 ((.some ((74, (2, ((Int.toNat ((n : Nat) : Int)), (bnF (List.map (bandS most) (spsOf n f)) (fun x => List.map PV.lit #[Value.int IntKind.u32 0, Value.int IntKind.u32 0].toList) n)))), [(((((areSps n f) && (decide (((n : Nat) : Int) = ((n : Nat) : Int)))) && (Nat.ble n (Int.toNat ((n : Nat) : Int)))) && (Nat.ble n (4294967280 : Nat))) && (List.all (List.range n) (fun i => ((fun x => List.map PV.lit #[Value.int IntKind.u32 0, Value.int IntKind.u32 0].toList) i).length.ble 2))), (((decide ((0 : Int) ≤ ((n : Nat) : Int))) && (decide (((n : Nat) : Int) = ((n : Nat) : Int)))) && (Nat.ble (8 * (Int.toNat ((n : Nat) : Int))) (140737488355328 : Nat)))])) : Option ((TypeId × Nat × Nat × (Nat → List PV)) × List Bool)) := by
  kernel_rfl
def bandsG : List PV → Tr (TypeId × Nat × Nat × (Nat → List PV))
  | [.gsl 2 n f, .lit (.int .u32 most)] => .br (areSps n f && Nat.ble n 4294967280) (.leaf (74, 2, n, sRow ((spsOf n f).map (bandS most)))) .fail
  | _ => .fail
theorem bands_ok : RowOK Tryz.prog (GG m t fr) 33 bandsG := by
  refine RowOK.of (row_of_ev (E2_ok.withCuts (cut1 0 (bnCut (GG m t fr)))) mixed (fn := Tryz.f33) (n := 60) (by kernel_rfl) (CutLaws.ok (E := (E2 (GG m t fr)).withCuts (cut1 0 (bnCut (GG m t fr)))) (CutLaws.one (by omega) (by kernel_rfl) fun st e st' h => cutOf_ok E2_ok mixed (noCuts_ok (envOf_cuts ..) _) bnK_ok h))) fun ps e sz n k hk => ?_
  unfold bandsG at hk
  split at hk
  · rename_i n' f most
    obtain ⟨hc, hk⟩ := br_run hk
    simp only [Bool.and_eq_true, Nat.ble_eq] at hc
    simp only [Tr.run, Option.some.injEq, Prod.mk.injEq] at hk
    obtain ⟨rfl, rfl, rfl, rfl⟩ := hk
    have h := bands_raw m t fr n' f most
    rw [Int.toNat_natCast] at h
    refine ⟨_, Tr.run_of h (by simp [hc.1]; omega), fun i hi => ?_⟩
    unfold bnF
    have : Nat.blt i n' = true := by rw [Nat.blt_eq]; exact hi
    rw [this, cond_true]
  · cases hk
def nbFull : List (Nat × (List PV → Mem → Tr (PV × Mem))) := (33, rowFn bandsG) :: nsFull
theorem nbFull_ok {m : Int} {t : TypeId} {fr : Nat × Nat} : FullOK Tryz.prog (GG m t fr) nbFull := (FullOK.cons (row_fn bands_ok) (fn := Tryz.f33) (by kernel_rfl) (by kernel_rfl) nsFull_ok)
noncomputable abbrev E4 (G : GT) : Env := envOf Tryz.prog G nsPure nbFull
theorem E4_ok : (E4 (GG m t fr)).ok Tryz.prog (GG m t fr) := envOf_ok mixed nsPure_ok nbFull_ok
end
end Go.Proofs.YtnmgdcggfjnmeaaGreatDoor.Ev

/- nset: what the laws ask of the program at fixed numbers. No condition. -/
namespace Go.Proofs.YtnmgdcggfjnmeaaGreatDoor.Ev
open Go Go.RowKit Go.Proofs Go.Proofs.YtnmgdcggfjnmeaaGreatDoor.Str
set_option linter.unusedVariables false
section
variable {m : Int} {t : TypeId} {fr : Nat × Nat}
def livesG : List PV → Tr PV
  | [] => .leaf (bool true)
  | _ => .fail
end
end Go.Proofs.YtnmgdcggfjnmeaaGreatDoor.Ev

/- nset: numbers packed; the document's; lists compared. No condition. -/
namespace Go.Proofs.YtnmgdcggfjnmeaaGreatDoor.Ev
open Go Go.RowKit Go.Proofs Go.Proofs.YtnmgdcggfjnmeaaGreatDoor.Str
set_option linter.unusedVariables false
set_option linter.unusedSimpArgs false
section
variable {m : Int} {t : TypeId} {fr : Nat × Nat}
/-! ### rows of numbers -/
def nu (l : List Int) (i : Nat) : Int := l.getD i 0
def nRow (l : List Int) (i : Nat) : List PV := [.lit (.int .u32 (nu l i))]
def numOf : List PV → Int
  | [.lit (.int .u32 a)] => a
  | _ => 0
def isNum : List PV → Bool
  | [.lit (.int .u32 a)] => decide (0 ≤ a) && decide (a < 4294967296)
  | _ => false
def numsOf (n : Nat) (f : Nat → List PV) : List Int := (List.range n).map fun i => numOf (f i)
def areNums (n : Nat) (f : Nat → List PV) : Bool := (List.range n).all fun i => isNum (f i)
def u32N (a : Int) : Bool := decide (0 ≤ a) && decide (a < 4294967296)
theorem nums_len (n : Nat) (f : Nat → List PV) : (numsOf n f).length = n := by simp [numsOf]
theorem isNum_eq {l : List PV} (h : isNum l = true) : l = [.lit (.int .u32 (numOf l))] ∧ u32N (numOf l) = true := by
  unfold isNum at h
  split at h
  · exact ⟨rfl, h⟩
  · cases h
theorem nums_row {n : Nat} {f : Nat → List PV} (h : areNums n f = true) (i : Nat) (hi : i < n) : f i = nRow (numsOf n f) i := by
  have h1 := List.all_eq_true.1 h i (List.mem_range.2 hi)
  have h2 : nu (numsOf n f) i = numOf (f i) := by simp [nu, numsOf, hi]
  unfold nRow
  rw [h2]
  exact (isNum_eq h1).1
theorem nums_u32 {n : Nat} {f : Nat → List PV} (h : areNums n f = true) : (numsOf n f).all u32N = true := by
  rw [List.all_eq_true]
  intro x hx
  simp only [numsOf, List.mem_map, List.mem_range] at hx
  obtain ⟨i, hi, rfl⟩ := hx
  exact (isNum_eq (List.all_eq_true.1 h i (List.mem_range.2 hi))).2
theorem nums_nRow (l : List Int) : numsOf l.length (nRow l) = l := by
  unfold numsOf
  refine List.ext_getElem (by simp) fun i h1 h2 => ?_
  simp [nRow, numOf, nu, h2]
theorem are_nRow {l : List Int} (h : l.all u32N = true) : areNums l.length (nRow l) = true := by
  unfold areNums
  rw [List.all_eq_true]
  intro i hi
  have hi := List.mem_range.1 hi
  have : nu l i = l[i] := by simp [nu, hi]
  have hu := List.all_eq_true.1 h l[i] (List.getElem_mem _)
  unfold nRow isNum
  rw [this]
  exact hu
theorem nu_drop {l : List Int} {i : Nat} {x : Int} {r : List Int} (h : l.drop i = x :: r) : i < l.length ∧ nu l i = x ∧ l.drop (i + 1) = r := by
  have hlt : i < l.length := by
    rcases Nat.lt_or_ge i l.length with h' | h'
    · exact h'
    · rw [List.drop_eq_nil_of_le h'] at h
      cases h
  rw [List.drop_eq_getElem_cons hlt] at h
  simp only [List.cons.injEq] at h
  refine ⟨hlt, ?_, h.2⟩
  rw [← h.1]
  simp [nu, hlt]
/-! ### Pack -/
def pkOuts : Exit → Outs
  | .normal => { ks := [0, 4, 8, 9, 10], rs := [.slot 4], nils := [(4, 48, 2)] }
  | .exit _ => { ks := [0, 4], rs := [.slot 4], nils := [(4, 48, 2)] }
  | _ => { ks := [2, 3] }
def rpOuts : Exit → Outs
  | .normal => { ks := [0, 4, 7, 8, 9], rs := [.slot 4], nils := [(4, 48, 2)] }
  | .exit _ => { ks := [0, 4], rs := [.slot 4], nils := [(4, 48, 2)] }
  | _ => { ks := [2, 3] }
/-- numbers packed: what is done, the last span -/
def pkS : List Int → List Sp → Sp → Option (List Sp)
  | [], o, c => some (o ++ [c])
  | n :: r, o, c => bif decide (n ≤ c.2) then none else bif decide (n = c.2 + 1) then pkS r o (c.1, n) else pkS r (o ++ [c]) (n, n)
def packZ : List Int → Option (List Sp)
  | [] => some []
  | n :: r => pkS r [] (n, n)
def hasK (z : Option (List Sp)) : Bool := z.isSome
def theK (z : Option (List Sp)) : List Sp := z.getD []
theorem s_snoc (o : List Sp) (a b : Int) (i : Nat) (hi : i < o.length + 1) : rowApp o.length (sRow o) (rowOf [.lit (.int .u32 a), .lit (.int .u32 b)] 2) i = sRow (o ++ [(a, b)]) i := by
  rcases Nat.lt_or_ge i o.length with h | h
  · rw [app_lo _ _ h]
    unfold sRow
    have : sp (o ++ [(a, b)]) i = sp o i := by simp [sp, List.getElem?_append_left h]
    rw [this]
  · have : i = o.length + 0 := by omega
    rw [this, app_hi]
    unfold sRow
    have : sp (o ++ [(a, b)]) (o.length + 0) = (a, b) := by simp [sp]
    rw [this]
    rfl
theorem s_set (o : List Sp) (c : Sp) (n : Int) (i : Nat) : rowSet (sRow (o ++ [c])) o.length 1 [.lit (.int .u32 n)] i = sRow (o ++ [(c.1, n)]) i := by
  rw [rowSet_eq]
  unfold rowSetO
  cases h : Nat.beq i o.length with
  | true =>
    obtain rfl := Nat.eq_of_beq_eq_true h
    simp [sRow, sp]
  | false =>
    have hne : i ≠ o.length := fun e => by subst e; simp at h
    unfold sRow
    have : sp (o ++ [(c.1, n)]) i = sp (o ++ [c]) i := by
      rcases Nat.lt_or_ge i o.length with hi | hi
      · simp [sp, List.getElem?_append_left hi]
      · simp [sp, List.getElem?_append_right hi, List.getElem?_cons, show i - o.length ≠ 0 by omega]
    rw [this]
def pkIn (ns : List Int) (i : Nat) (o : List Sp) : Kept := ([.gsl 1 ns.length (nRow ns), .own 0, .gsl 1 ns.length (nRow ns), int ns.length, int i], [.row 48 2 o.length (sRow o)])
def pkEnd (ns : List Int) : Option (List Sp) → Exit × Kept
  | some q => (.exit 0, ([.gsl 1 ns.length (nRow ns), .own 0], [.row 48 2 q.length (sRow q)]))
  | none => (.ret, ([.lit (.slice none 0 0), int 12], []))
theorem nu_u32 {ns : List Int} (h : ns.all u32N = true) (i : Nat) : 0 ≤ nu ns i ∧ nu ns i < 4294967296 := by
  rcases Nat.lt_or_ge i ns.length with hi | hi
  · have e : nu ns i = ns[i] := by simp [nu, hi]
    have := List.all_eq_true.1 h ns[i] (List.getElem_mem _)
    unfold u32N at this
    simp only [Bool.and_eq_true, decide_eq_true_eq] at this
    rw [e]
    exact this
  · have e : nu ns i = 0 := by simp [nu, hi]
    rw [e]
    omega
def pkF : Kept → Tr (Exit × Kept)
  | ([.gsl 1 n f, .own 0, .gsl 1 n' f', .lit (.int .i64 u), .lit (.int .i64 0)], [.row e 2 0 g]) => match Nat.beq e 48 with
    | true => .br (areNums n f && (areNums n' f' && decide (n = n') && decide (numsOf n f = numsOf n' f')) && decide (u = (n : Int)) && Nat.ble n 4294967280) (.br (hasK (packZ (numsOf n f))) (.leaf (.exit 0, ([.gsl 1 n (nRow (numsOf n f)), .own 0], [.row 48 2 (theK (packZ (numsOf n f))).length (sRow (theK (packZ (numsOf n f))))])))
        (.leaf (.ret, ([.lit (.slice none 0 0), int 12], [])))) .fail
    | false => .fail
  | _ => .fail
noncomputable abbrev pkCut (G : GT) := cutOf G 70 pkOuts 0 pkF
def rpF : Kept → Tr (Exit × Kept)
  | ([.gsl 1 n f, .own 0, .gsl 1 n' f', .lit (.int .i64 u), .lit (.int .i64 0)], [.row e 2 0 g]) => match Nat.beq e 48 with
    | true => .br (areNums n f && (areNums n' f' && decide (n = n') && decide (numsOf n f = numsOf n' f')) && decide (u = (n : Int)) && Nat.ble n 4294967280) (.br (hasK (packZ (numsOf n f))) (.leaf (.exit 0, ([.gsl 1 n (nRow (numsOf n f)), .own 0], [.row 48 2 (theK (packZ (numsOf n f))).length (sRow (theK (packZ (numsOf n f))))])))
        (.leaf (.ret, ([.lit (.slice none 0 0), int 12], [])))) .fail
    | false => .fail
  | _ => .fail
noncomputable abbrev rpCut (G : GT) := cutOf G 66 rpOuts 0 rpF
/-! ### lists compared -/
def s3Outs : Exit → Outs
  | .normal => { ks := [0, 1, 12, 13] }
  | .exit _ => { ks := [] }
  | _ => { ks := [4] }
theorem sp_beq (x y : Sp) : (x.1 == y.1 && (x.2 == y.2 && true)) = decide (x = y) := by
  rw [Bool.and_true, beqD, beqD, ← Bool.decide_and, decide_eq_decide]
  exact ⟨fun h => Prod.ext h.1 h.2, fun h => by rw [h]; exact ⟨rfl, rfl⟩⟩
def s3End (a b : List (Sp)) : Exit × Kept := bif decide (a = b) then (.exit 0, ([], [])) else (.ret, ([bool false], []))
def s3In (ts us : List (Sp)) (i : Nat) : Kept := ([.gsl 2 ts.length (sRow ts), .gsl 2 us.length (sRow us), int ts.length, int i], [])
def s3F : Kept → Tr (Exit × Kept)
  | ([.gsl 2 n f, .gsl 2 n' f', .lit (.int .i64 u), .lit (.int .i64 0)], []) => .br (areSps n f && areSps n' f' && decide (n = n') && decide (u = (n : Int)) && Nat.ble n 4294967280) (.br (decide (spsOf n f = spsOf n' f')) (.leaf (.exit 0, ([], []))) (.leaf (.ret, ([bool false], [])))) .fail
  | _ => .fail
noncomputable abbrev s3Cut (G : GT) := cutOf G 26 s3Outs 0 s3F
end
end Go.Proofs.YtnmgdcggfjnmeaaGreatDoor.Ev

/- nset: Pack, the document's Pack, Same as contracts; NsetPacks, a law. No condition. -/
namespace Go.Proofs.YtnmgdcggfjnmeaaGreatDoor.Ev
open Go Go.RowKit Go.Proofs Go.Proofs.YtnmgdcggfjnmeaaGreatDoor.Str
set_option linter.unusedVariables false
set_option linter.unusedSimpArgs false
def packE (ns : List Int) : Int := bif hasK (packZ ns) then (bif decide ((((theK (packZ ns)).length : Nat) : Int) < 1) then 1 else bif decide ((((theK (packZ ns)).length : Nat) : Int) > 1024) then 1 else bif nu ns 0 == 0 then 1 else 0) else 12
def packR (ns : List Int) : List Sp := bif packE ns == 0 then theK (packZ ns) else []
def packG : List PV → Tr PV
  | [.gsl 1 n f] => .br (areNums n f && Nat.ble n 4294967280) (.leaf (.tup [.gsl 2 (packR (numsOf n f)).length (sRow (packR (numsOf n f))), int (packE (numsOf n f))])) .fail
  | _ => .fail
theorem packE_len {ns : List Int} : (packR ns).length ≤ 1024 := by
  unfold packR packE
  cases hasK (packZ ns) with
  | false => simp
  | true =>
    simp only [cond_true]
    by_cases h1 : (((theK (packZ ns)).length : Nat) : Int) < 1
    · simp [h1]
    · by_cases h2 : (((theK (packZ ns)).length : Nat) : Int) > 1024
      · simp [h1, h2]
      · cases nu ns 0 == 0 <;> simp [h1, h2] <;> omega
theorem pkS_u32 : ∀ (r : List Int) (o : List Sp) (c : Sp), r.all u32N = true → o.all u32B = true → u32B c = true → ∀ q, pkS r o c = some q → q.all u32B = true
  | [], o, c, _, ho, hc, q, h => by
    simp only [pkS, Option.some.injEq] at h
    subst h
    simp [List.all_append, ho, hc]
  | n :: r, o, c, hr, ho, hc, q, h => by
    simp only [List.all_cons, Bool.and_eq_true] at hr
    rw [pkS] at h
    have hn := hr.1
    have hc' := hc
    unfold u32N at hn
    unfold u32B at hc'
    simp only [Bool.and_eq_true, decide_eq_true_eq] at hn hc'
    cases c1 : decide (n ≤ c.2) with
    | true => rw [c1] at h; cases h
    | false =>
      rw [c1] at h
      cases c2 : decide (n = c.2 + 1) with
      | true =>
        rw [c2] at h
        exact pkS_u32 r o (c.1, n) hr.2 ho (by unfold u32B; simp; omega) q h
      | false =>
        rw [c2] at h
        exact pkS_u32 r (o ++ [c]) (n, n) hr.2 (by simp [List.all_append, ho, hc]) (by unfold u32B; simp; omega) q h
theorem packR_u32 {ns : List Int} (h : ns.all u32N = true) : (packR ns).all u32B = true := by
  unfold packR
  cases packE ns == 0 with
  | false => rfl
  | true =>
    simp only [cond_true]
    cases hz : packZ ns with
    | none => rfl
    | some q =>
      show q.all u32B = true
      cases ns with
      | nil =>
        simp only [packZ, Option.some.injEq] at hz
        subst hz
        rfl
      | cons n r =>
        simp only [List.all_cons, Bool.and_eq_true] at h
        have hn := h.1
        unfold u32N at hn
        simp only [Bool.and_eq_true, decide_eq_true_eq] at hn
        exact pkS_u32 r [] (n, n) h.2 rfl (by unfold u32B; simp; omega) q hz
section
variable {m : Int} {t : TypeId} {fr : Nat × Nat}
theorem pack_raw {raw : Option (PV × List Bool)} {n : Nat} {f : Nat → List PV} (hf : areNums n f = true) (hn : Nat.ble n 4294967280 = true) {bsA bsB bsC bsD bsE : List Bool}
    (h : raw = bif hasK (packZ (numsOf n f)) then (bif decide ((((theK (packZ (numsOf n f))).length : Nat) : Int) < 1) then some (.tup [.lit (.slice none 0 0), int 1], bsA) else bif decide ((((theK (packZ (numsOf n f))).length : Nat) : Int) > 1024) then some (.tup [.lit (.slice none 0 0), int 1], bsB)
      else bif nu (numsOf n f) 0 == 0 then some (.tup [.lit (.slice none 0 0), int 1], Nat.blt 0 n :: bsC) else some (.tup [.gsl 2 (theK (packZ (numsOf n f))).length (sRow (theK (packZ (numsOf n f)))), int 0], Nat.blt 0 n :: bsD)) else some (.tup [.lit (.slice none 0 0), int 12], bsE))
    (hA : bsA.all id = true) (hB : bsB.all id = true) (hC : bsC.all id = true) (hD : bsD.all id = true) (hE : bsE.all id = true) :
    ∃ q bs, raw = some (q, bs) ∧ bs.all id = true ∧ PLe q (.tup [.gsl 2 (packR (numsOf n f)).length (sRow (packR (numsOf n f))), int (packE (numsOf n f))]) := by
  have hnil : ∀ e : Int, (packE (numsOf n f) = e) → e ≠ 0 → PLe (.tup [.lit (.slice none 0 0), int e]) (.tup [.gsl 2 (packR (numsOf n f)).length (sRow (packR (numsOf n f))), int (packE (numsOf n f))]) := by
    intro e he h0
    have : packR (numsOf n f) = [] := by
      unfold packR
      rw [he, beq_false_of_ne h0]
      rfl
    rw [this, he]
    exact PLe.tup (PLeL.cons (PLe.nil _ _) (.refl _))
  unfold packE at hnil
  cases c0 : hasK (packZ (numsOf n f)) with
  | false =>
    rw [c0] at h hnil
    exact ⟨_, _, h, hE, by unfold packE; rw [c0]; exact hnil 12 rfl (by decide)⟩
  | true =>
    rw [c0] at h hnil
    simp only [cond_true] at h hnil
    cases c1 : decide ((((theK (packZ (numsOf n f))).length : Nat) : Int) < 1) with
    | true =>
      rw [c1] at h hnil
      exact ⟨_, _, h, hA, by unfold packE; rw [c0, c1]; exact hnil 1 rfl (by decide)⟩
    | false =>
      rw [c1] at h hnil
      simp only [cond_false] at h hnil
      cases c2 : decide ((((theK (packZ (numsOf n f))).length : Nat) : Int) > 1024) with
      | true =>
        rw [c2] at h hnil
        exact ⟨_, _, h, hB, by unfold packE; rw [c0, c1, c2]; exact hnil 1 rfl (by decide)⟩
      | false =>
        have hpos : Nat.blt 0 n = true := by
          rw [Nat.blt_eq]
          rcases Nat.eq_zero_or_pos n with h0 | h0
          · subst h0
            exact absurd (show decide ((((theK (packZ (numsOf 0 f))).length : Nat) : Int) < 1) = true from rfl) (by rw [c1]; decide)
          · exact h0
        rw [c2] at h hnil
        simp only [cond_false] at h hnil
        rw [hpos] at h
        cases c3 : nu (numsOf n f) 0 == 0 with
        | true =>
          rw [c3] at h hnil
          exact ⟨_, _, h, by simpa using hC, by unfold packE; rw [c0, c1, c2, c3]; exact hnil 1 rfl (by decide)⟩
        | false =>
          rw [c3] at h
          refine ⟨_, _, h, by simpa using hD, PLe.of_eq ?_⟩
          have e : packE (numsOf n f) = 0 := by unfold packE; rw [c0, c1, c2, c3]; rfl
          unfold packR
          rw [e]
          rfl
def same3G : List PV → Tr PV
  | [.gsl 2 n f, .gsl 2 n' f'] => .br (areSps n f && areSps n' f' && Nat.ble n 4294967280) (.leaf (bool (decide (spsOf n f = spsOf n' f')))) .fail
  | _ => .fail
def npPure : List (Nat × (List PV → Tr PV)) := nsPure
theorem npPure_ok {m : Int} {t : TypeId} {fr : Nat × Nat} : TabOK Tryz.prog (GG m t fr) npPure := nsPure_ok
noncomputable abbrev E5 (G : GT) : Env := envOf Tryz.prog G npPure nbFull
theorem E5_ok : (E5 (GG m t fr)).ok Tryz.prog (GG m t fr) := envOf_ok mixed npPure_ok nbFull_ok
end
end Go.Proofs.YtnmgdcggfjnmeaaGreatDoor.Ev

/- What every row of this seat shares: a world that fits, the listed table's cells, the bulk of a text. No condition. -/
namespace Go.Proofs.YtnmgdcggfjnmeaaGreatDoor
open Go.ChangeShapes Go.WideShapes Go.ChangeAt Go.RowKit
theorem own : ownKnob Tryz.prog.godebug = none := by kernel_rfl
/-- There is an input that fits, in a world into which the listed variables are laid. -/
theorem witness_laid {H : Type} {enc : TypeId × Value → H} {os : Os} {f : FuncId} {fn : Func} {s : OpenSpec} {conds : List PathCond} {apart : Bool} {laid : List (String × DataW Unit)} (args : Array Value)
    (hsh : ((World.laidAll Tryz.prog os laid).forCall (fun _ _ => 0) ⟨#[], args, []⟩).Shaped Tryz.prog)
    (hok : Input.okWideB Tryz.prog ((World.laidAll Tryz.prog os laid).forCall (fun _ _ => 0) ⟨#[], args, []⟩) f ⟨#[], args, []⟩ = true)
    (hrow : s.preRow enc Tryz.prog fn conds apart laid ((World.laidAll Tryz.prog os laid).forCall (fun _ _ => 0) ⟨#[], args, []⟩).memory args) :
    ∃ (w : World) (tape : Tape) (i : Input), w.os = os ∧ (w.forCall tape i).Shaped Tryz.checked.prog ∧ i.vars = [] ∧ Input.okWide Tryz.checked.prog (w.forCall tape i) .any w.heap.size f i ∧
      s.preRow enc Tryz.checked.prog fn conds apart laid (w.forCall tape i).memory i.args ∧ ({} : Assume).holds Tryz.checked.prog (lone (Frame.enter Tryz.checked.prog f i.args .normal) [] (w.forCall tape i)) :=
  ⟨World.laidAll Tryz.prog os laid, fun _ _ => 0, ⟨#[], args, []⟩, World.laidAll_os _ _ _, hsh, (Input.okWide_of_okWideB (base := 0) hok).1, (Input.okWide_of_okWideB hok).2, hrow, by
    simp only [Assume.holds]
    exact ⟨by simp, by simp, by simp, by simp, by simp⟩⟩
/-- A listed table's cells, wherever it stands on the list. -/
theorem tab_of_reads {P : Program} {W : World} {name : String} {k : IntKind} {zs : List Int} {g : Nat} {t e : TypeId} {n : Nat}
    (hg : P.globalNamed name = some g) (hty : (P.globals[g]?).map (·.type) = some t) (ht : P.underlying t = some (.array n e)) (he : P.underlying e = some (.int k)) (hce : P.cellsOf e = 1) (hct : P.cellsOf t = n)
    (h : Lib.VarReads P W name (Lib.tabData k zs)) : Lib.TabIs P W name k zs := by
  obtain ⟨g', t', cs, fuel, p, hg', ht', hvar, hd⟩ := h
  obtain rfl := Option.some.inj (hg.symm.trans hg')
  obtain rfl := Option.some.inj (hty.symm.trans ht')
  unfold Lib.TabIs
  rw [hvar, ← Lib.cells_of_tab ht he hce hct hd]
theorem laid_plain {l : List (String × DataW Unit)} {W : World} (hp : (l.all fun x => x.2.handleName?.isNone) = true) (h : laidMetH Tryz.prog l W) : laidMet Tryz.prog l W := by
  rw [MakeChecks.laidMetH_plain _ _ _ hp] at h
  exact h
/-! ### what is small -/
theorem bulk_part {H : Type} {d : DataW H} {l : List (DataW H)} (h : d ∈ l) : Rows.uptoBulk d ≤ Rows.uptoBulkAll l := by
  induction l with
  | nil => cases h
  | cons x r ih =>
    simp only [Rows.uptoBulkAll]
    cases List.mem_cons.1 h with
    | inl e => subst e; omega
    | inr e => have := ih e; omega
theorem bulk_string {H : Type} (bytes : List UInt8) : Rows.uptoBulk (DataW.lit (H := H) (.string bytes)) = bytes.length + 1 := by
  simp [Rows.uptoBulk]
theorem bulk_bound {H : Type} {l : List (DataW H)} (hk : Rows.uptoSmall H l = true) : Rows.uptoBulkAll l ≤ 1048576 := of_decide_eq_true hk
end Go.Proofs.YtnmgdcggfjnmeaaGreatDoor

/- What is known of a world; a law that answers true, called in it. No condition. -/
namespace Go.Proofs.YtnmgdcggfjnmeaaGreatDoor.Ev
open Go Go.RowKit Go.Proofs Go.ChangeShapes Go.WideShapes Go.ChangeAt
/-- what is known of a world: all that it holds -/
def Held (W : World) (b o : Nat) (v : Value) : Prop := W.cell? ⟨b, o, none⟩ = some v
theorem gptr1 {C : Nat → Nat → Value → Prop} {m : Nat → Option Value} {g : Nat} {p : PV} {v : Value} (hc : C g 0 v) (h1 : v.oneCell' = true) (h : Rep C (fun _ => none) p v) : Rep C m (.gptr [p]) (.pointer (some ⟨g, 0, none⟩)) := by
  refine .gptr m [p] g 0 (fun _ => v) (fun j hj => ?_) (fun j q hq => ?_)
  · have : j = 0 := by simp at hj; exact hj
    subst this
    exact ⟨hc, h1⟩
  · cases j with
    | zero =>
      simp only [List.getElem?_cons_zero, Option.some.injEq] at hq
      subst hq
      exact h
    | succ j => simp at hq
theorem RepL.ofLits {C : Nat → Nat → Value → Prop} (vs : List Value) : RepL C (vs.map PV.lit) vs.toArray := by
  refine ⟨by simp, fun i p v hp hv => ?_⟩
  rw [List.getElem?_map] at hp
  have hv' : vs[i]? = some v := by simpa using hv
  rw [hv'] at hp
  simp only [Option.map_some, Option.some.injEq] at hp
  subst hp
  exact .lit _ _
/-- a function that answers true at these arguments, called in a world that fits -/
theorem walkTrue {G : GT} {W : World} (hG : Globs G (Held W)) (hO : Objs G W) {f : FuncId} {g : List PV → Tr PV} (h : PureOK Tryz.prog G f g) {ps : List PV} {args : Array Value} (hg : (g ps).run = some (bool true)) (hr : RepL (Held W) ps args) :
    Calls Tryz.prog f args W fun e w' => e = .returned (.bool true) ∧ Below W.heap.size W w' := by
  refine (h ps _ hg W (Held W) (fun b o v h => h) hG hO args hr).mono ?_
  rintro (v | e) w' hq
  · obtain ⟨hk, hp⟩ := hq
    cases hp
    exact ⟨rfl, hk.os, hk.tape, hk.output, hk.size, hk.block⟩
  all_goals exact hq.elim
end Go.Proofs.YtnmgdcggfjnmeaaGreatDoor.Ev
