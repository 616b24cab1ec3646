/- JTopTallied11: several texts in one. Condition: each part's own. -/
import Derived.Test.YtcdghinmmhcfcaaGreatDoorJTopTallied07
import Derived.Test.YtcdghinmmhcfcaaGreatDoorJTopTallied10
import Derived.Shelf.SlSortCmp.WholeK
import Derived.Shelf.SlSortCmp.NoneTotal
/- The evaluator: functions that write one's own block of plain cells, which they are pointed to. -/
namespace Go.Proofs.YtcdghinmmhcfcaaGreatDoor.Ev
open Go Go.RowKit Go.Proofs
set_option linter.unusedVariables false
/-- plain values: what they tell needs no memory -/
def RepF (p : PV) (v : Value) : Prop := Rep (fun _ _ _ => False) (fun _ => none) p v
/-- a function whose first argument points to a block of plain cells: what it gives back, and what the block holds then -/
def SpotAt (P : Program) (G : GT) (f : FuncId) (ty : TypeId) (cs ps : List PV) (p : PV) (cs' : List PV) : Prop :=
  ∀ (w : World) (C : Nat → Nat → Value → Prop), Known C w → Globs G C → Objs G w → ∀ (b : Nat) (vs args : Array Value), (∀ o v, ¬ C b o v) → (∀ g o, G.obj g = some o → g ≠ b) →
    w.heap[b]? = some (.cells vs ty (0, 0)) → cs.length = vs.size → (∀ v ∈ vs, v.oneCell' = true) → (∀ (i : Nat) (q : PV) (v : Value), cs[i]? = some q → vs[i]? = some v → RepF q v) →
    args.size = ps.length + 1 → args[0]? = some (.pointer (some ⟨b, 0, none⟩)) → (∀ (i : Nat) (q : PV) (v : Value), ps[i]? = some q → args[i + 1]? = some v → RepF q v) →
    Calls P f args w fun
      | .returned v, w' => Keeps (fun k => k < w.heap.size ∧ k ≠ b) w w' ∧ RepF p v ∧ ∃ vs', w'.heap[b]? = some (.cells vs' ty (0, 0)) ∧ cs'.length = vs'.size ∧ (∀ v ∈ vs', v.oneCell' = true) ∧
          ∀ (i : Nat) (q : PV) (v : Value), cs'[i]? = some q → vs'[i]? = some v → RepF q v
      | _, _ => False
def SpotOK (P : Program) (G : GT) (f : FuncId) (ty : TypeId) (g : List PV → List PV → Tr (PV × List PV)) : Prop := ∀ cs ps p cs', (g cs ps).run = some (p, cs') → SpotAt P G f ty cs ps p cs'
/-- a function's end, told by that one block -/
def fnSpot (P : Program) (E : Env) (n : Nat) (fn : Func) (G : GT) (ty : TypeId) (cs ps : List PV) : Tr (PV × List PV) := match PV.flatL cs && PV.flatL ps with
  | true => (fnEv P E n fn (.ptr 0 0 :: ps) ⟨[(0, .cells ty cs)], 1, G⟩).bind fun r => match look r.2.blks 0 with
    | some (.cells ty' cs') => match Nat.beq ty' ty && r.1.flat && PV.flatL cs' with
      | true => .leaf (r.1, cs')
      | false => .fail
    | _ => .fail
  | false => .fail
theorem spot_of_ev {P : Program} {E : Env} {n : Nat} {G : GT} (hE : E.ok P G) (hmo : P.follows .mixedOrders = true) {f : FuncId} {fn : Func} (hf : P.funcs[f]? = some fn) (hc : ∀ c, fn.body = some c → CutsOK .pin P G E c) (ty : TypeId) : SpotOK P G f ty (fnSpot P E n fn G ty) := by
  intro cs ps p cs' hp w C hK hG hO b vs args hCb hGb hb hlen h1 hcs hsz ha0 hargs
  unfold fnSpot at hp
  split at hp
  · rename_i hflat
    simp only [Bool.and_eq_true] at hflat
    obtain ⟨⟨q, M'⟩, hq, hp2⟩ := Tr.of_bind hp
    clear hp
    split at hp2
    · rename_i ty' cs2 hl2
      split at hp2
      · rename_i hchk
        simp only [Bool.and_eq_true] at hchk
        obtain ⟨⟨hty, hqf⟩, hcf⟩ := hchk
        obtain rfl := Nat.eq_of_beq_eq_true hty
        simp only [Tr.run, Option.some.injEq, Prod.mk.injEq] at hp2
        obtain ⟨rfl, rfl⟩ := hp2
        let β : Base := ⟨w, C, fun k => k < w.heap.size ∧ k ≠ b, G⟩
        let M0 : Mem := ⟨[(0, .cells ty' cs)], 1, G⟩
        let m0 : Nat → Option Value := fun i => match i with
          | 0 => some (.pointer (some ⟨b, 0, none⟩))
          | _ + 1 => none
        have hm1 : ∀ {i : Nat} {u : Value}, m0 i = some u → i = 0 ∧ u = .pointer (some ⟨b, 0, none⟩) := by
          intro i u h
          cases i with
          | zero => cases h; exact ⟨rfl, rfl⟩
          | succ i => cases h
        have hcell : ∀ b' o v, C b' o v → Cell β w M0 m0 b' o v := by
          intro b' o v h
          refine ⟨?_, hK b' o v h, fun _ => h⟩
          rintro ⟨id, u, hs, hu, hbu⟩
          obtain ⟨rfl, rfl⟩ := hm1 hu
          cases hbu
          exact hCb o v h
        have hM : MRel β M0 m0 w := by
          refine ⟨fun id bb hbb => ?_, fun id hid => ?_, fun i j v v' b' hi hj hv hv' _ _ => ?_, fun k hk => hk.1, Keeps.refl _ _, fun g cs hg => (hG g cs hg).mono hcell fun _ _ h => h, rfl, fun g o hg => ⟨⟨(Array.getElem?_eq_some_iff.1 (hO g o hg)).1, hGb g o hg⟩, hO g o hg⟩⟩
          · cases id with
            | zero =>
              cases hbb
              exact .cells ty' cs b vs rfl hb hlen h1 (fun i p v hp hv => (hcs i p v hp hv).mono (fun _ _ _ h => h.elim) fun _ _ h => by cases h) fun hx => hx.2 rfl
            | succ id => cases hbb
          · cases id with
            | zero => exact absurd hid (Nat.not_succ_le_zero 0)
            | succ id => rfl
          · rw [(hm1 hv).1, (hm1 hv').1]
        refine Calls.mono (fnEv_wp hE hmo hf hc (β := β) rfl hM (by simp [hsz]) (fun i p v hp hv => ?_) hq) ?_
        · cases i with
          | zero =>
            simp only [List.getElem?_cons_zero, Option.some.injEq] at hp
            subst hp
            rw [ha0] at hv
            cases hv
            exact .ptr _ 0 0 b rfl
          | succ i =>
            simp only [List.getElem?_cons_succ] at hp
            exact (hargs i p v hp hv).mono (fun _ _ _ h => h.elim) fun _ _ h => by cases h
        · intro e w' he
          cases e with
          | panicked _ => exact he.elim
          | outgrown => exact he.elim
          | returned v =>
            obtain ⟨m', hE', hM', hrep⟩ := he
            have hm' := hE' _ rfl
            refine ⟨hM'.below, hrep.flat hqf, ?_⟩
            have hbr := hM'.blk 0 _ hl2
            cases hbr with
            | cells _ _ b2 vs2 hm2 hb2 hl2 h12 hr2 hB2 =>
              rw [hm'] at hm2
              cases hm2
              exact ⟨vs2, hb2, hl2, h12, fun i p v hp hv => (hr2 i p v hp hv).flat (flatL_get hcf hp)⟩
      · cases hp2
    · cases hp2
  · cases hp
/-- such a function, in one's own memory -/
def spotG (ty : TypeId) (g : List PV → List PV → Tr (PV × List PV)) (ps : List PV) (M : Mem) : Tr (PV × Mem) := match ps with
  | .ptr id 0 :: qs => match look M.blks id with
    | some (.cells ty' cs) => match Nat.beq ty' ty && PV.flatL cs && PV.flatL qs with
      | true => (g cs qs).bind fun r => match PV.flat r.1 && PV.flatL r.2 with
        | true => .leaf (r.1, ⟨setL M.blks id (.cells ty r.2), M.nid, M.glob⟩)
        | false => .fail
      | false => .fail
    | _ => .fail
  | _ => .fail
theorem spot_fn {P : Program} {G : GT} {f : FuncId} {ty : TypeId} {g : List PV → List PV → Tr (PV × List PV)} (hg : SpotOK P G f ty g) : FnOK P G f (spotG ty g) := by
  intro β hβ M m w ps args h hlen hreps p M' hp
  unfold spotG at hp
  split at hp
  · rename_i id qs
    split at hp
    · rename_i ty' cs hl
      split at hp
      · rename_i hchk
        simp only [Bool.and_eq_true] at hchk
        obtain ⟨⟨hty, hcf⟩, hqf⟩ := hchk
        obtain rfl := Nat.eq_of_beq_eq_true hty
        obtain ⟨⟨q, cs'⟩, hq, hp⟩ := Tr.of_bind hp
        dsimp only at hp
        split at hp
        · rename_i hchk2
          simp only [Bool.and_eq_true] at hchk2
          simp only [Tr.run, Option.some.injEq, Prod.mk.injEq] at hp
          obtain ⟨rfl, rfl⟩ := hp
          have hbr := h.blk id _ hl
          cases hbr with
          | cells _ _ b vs hm hb hl1 h1 hr hB =>
            have hlive : Live M m b := ⟨id, _, by rw [liv_of hl]; rfl, hm, rfl⟩
            have hsz : 0 < args.size := by rw [← hlen]; simp
            have ha0 : args[0]? = some (.pointer (some ⟨b, 0, none⟩)) := by
              have hx : args[0]? = some args[0] := Array.getElem?_eq_getElem hsz
              have hr0 := hreps 0 _ _ rfl hx
              generalize args[0] = v0 at hr0 hx
              cases hr0 with
              | ptr _ _ _ b2 hm2 =>
                rw [hm] at hm2
                cases hm2
                exact hx
            have hc := hg cs qs q cs' hq w (fun b' o v => w.cell? ⟨b', o, none⟩ = some v ∧ b' ≠ b) (fun _ _ _ h => h.1)
              (fun g cs hgc => (h.glob g cs (by rw [h.gl, hβ]; exact hgc)).mono (fun b' o v hx => ⟨hx.2.1, fun e => hx.1 (e ▸ hlive)⟩) fun _ _ h => h)
              (by rw [← hβ]; exact h.objs') b vs args (fun o v h => h.2 rfl) (fun g o hgo e => hB (e ▸ (h.objs g o (by rw [hβ]; exact hgo)).1)) hb hl1 h1
              (fun i p v hp hv => (hr i p v hp hv).flat (flatL_get hcf hp)) (by rw [← hlen]; rfl) ha0
              (fun i p v hp hv => (hreps (i + 1) p v (by simpa using hp) hv).flat (flatL_get hqf hp))
            refine Calls.mono hc ?_
            intro e w' he
            cases e with
            | panicked _ => exact he.elim
            | outgrown => exact he.elim
            | returned v =>
              obtain ⟨hk, hv, vs', hb', hl', h1', hr'⟩ := he
              have hblt : b < w.heap.size := (Array.getElem?_eq_some_iff.1 hb).1
              have hblt' : b < w'.heap.size := (Array.getElem?_eq_some_iff.1 hb').1
              let w1 : World := { w' with heap := w'.heap.setIfInBounds b (.cells vs ty' (0, 0)) }
              have hget : ∀ k, k ≠ b → w1.heap[k]? = w'.heap[k]? := fun k hkb => Array.getElem?_setIfInBounds_ne (fun e => hkb e.symm)
              have hgb : w1.heap[b]? = some (.cells vs ty' (0, 0)) := by
                show (w'.heap.setIfInBounds b _)[b]? = _
                rw [Array.getElem?_setIfInBounds_self_of_lt hblt']
              have hk1 : Keeps (· < w.heap.size) w w1 := by
                refine ⟨hk.os, hk.tape, hk.output, ?_, fun k hkk => ?_⟩
                · show w.heap.size ≤ (w'.heap.setIfInBounds b _).size
                  rw [Array.size_setIfInBounds]
                  exact hk.size
                · by_cases e : k = b
                  · subst e
                    rw [hgb, hb]
                  · rw [hget k e]
                    exact hk.block k ⟨hkk, e⟩
              obtain ⟨hM1, hE1⟩ := h.keep hk1
              have hsz1 : w1.heap.size = w'.heap.size := Array.size_setIfInBounds ..
              obtain ⟨hM2, hE2⟩ := hM1.write id (.cells ty' cs) (.cells ty' cs') hl rfl rfl _ hm (w' := w')
                ⟨rfl, rfl, rfl, by rw [hsz1]; exact Nat.le_refl _, fun k hkk => (hget k fun e => hB (e ▸ hkk)).symm⟩
                (fun k hkb => (hget k fun e => hkb (by rw [e]; rfl)).symm)
                (fun _ => .cells ty' cs' b vs' hm hb' hl' h1' (fun i p v hp hv => (hr' i p v hp hv).mono (fun _ _ _ h => h.elim) fun _ _ h => by cases h) hB)
              exact ⟨m, hE1.trans hE2, hM2, hv.mono (fun _ _ _ h => h.elim) fun _ _ h => by cases h⟩
        · cases hp
      · cases hp
    · cases hp
  · cases hp
/-- a weaker telling of it -/
theorem SpotOK.of {P : Program} {G : GT} {f : FuncId} {ty : TypeId} {g h : List PV → List PV → Tr (PV × List PV)} (hg : SpotOK P G f ty g) (hle : ∀ cs ps p cs', (h cs ps).run = some (p, cs') → (g cs ps).run = some (p, cs')) : SpotOK P G f ty h :=
  fun cs ps p cs' hp => hg cs ps p cs' (hle cs ps p cs' hp)
theorem FullOK.cons {P : Program} {G : GT} {l : List (Nat × (List PV → Mem → Tr (PV × Mem)))} {f : Nat} {g : List PV → Mem → Tr (PV × Mem)} {fn : Func} (h : FnOK P G f g) (hf : P.funcs[f]? = some fn) (hc : canEnter fn = true) (hl : FullOK P G l) : FullOK P G ((f, g) :: l) := fun f' g' hm => by
  rcases List.mem_cons.1 hm with e | hm
  · cases e
    exact ⟨h, enters_of hf hc⟩
  · exact hl f' g' hm
end Go.Proofs.YtcdghinmmhcfcaaGreatDoor.Ev

/- nset: slices.SortFunc at bands, as a contract that writes one's own row. No condition. -/
namespace Go.Proofs.YtcdghinmmhcfcaaGreatDoor.Ev
open Go Go.RowKit Go.Proofs Go.Proofs.YtcdghinmmhcfcaaGreatDoor.Str Go.Shelf Go.Lib Go.Sort
set_option linter.unusedVariables false
set_option linter.unusedSimpArgs false
def encS (x : Sp) : List Value := [.int .u32 x.1, .int .u32 x.2]
def cfS (x y : Sp) : Int := bif decide (x.1 < y.1) then -1 else bif decide (y.1 < x.1) then 1 else 0
theorem lt_cfS (x y : Sp) : ltOf cfS x y = decide (x.1 < y.1) := by
  unfold ltOf cfS
  by_cases h1 : x.1 < y.1
  · simp [h1]
  · by_cases h2 : y.1 < x.1 <;> simp [h1, h2]
theorem swoS : SWO (ltOf cfS) where
  irrefl x := by rw [lt_cfS]; simp
  trans x y z h1 h2 := by rw [lt_cfS] at *; simp at *; omega
  ntrans x y z h1 h2 := by rw [lt_cfS] at *; simp at *; omega
theorem nan_calls (x : Int) (w : World) : Calls Tryz.prog 101 #[.int .u32 x] w fun e w' => e = .returned (.bool false) ∧ w' = w := by
  go_enter Tryz.func101, Tryz.ntmps101
  go_wp2
  go_ret
  exact ⟨rfl, rfl⟩
theorem compare_calls (x y : Int) (w : World) : Calls Tryz.prog 75 #[.int .u32 x, .int .u32 y] w fun e w' => e = .returned (.int .i64 (cfS (x, 0) (y, 0))) ∧ w' = w := by
  unfold cfS
  dsimp only
  by_cases h1 : x < y
  · rw [decide_eq_true h1]
    go_enter Tryz.func75, Tryz.ntmps75
    go_wp2_with (go_at_call 101; refine (nan_calls _ _).mono ?_; rintro e w' ⟨rfl, rfl⟩)
    go_ret
    exact ⟨rfl, rfl⟩
  · rw [decide_eq_false h1]
    by_cases h2 : y < x
    · rw [decide_eq_true h2]
      go_enter Tryz.func75, Tryz.ntmps75
      go_wp2_with (go_at_call 101; refine (nan_calls _ _).mono ?_; rintro e w' ⟨rfl, rfl⟩)
      go_ret
      exact ⟨rfl, rfl⟩
    · rw [decide_eq_false h2]
      go_enter Tryz.func75, Tryz.ntmps75
      go_wp2_with (go_at_call 101; refine (nan_calls _ _).mono ?_; rintro e w' ⟨rfl, rfl⟩)
      go_ret
      exact ⟨rfl, rfl⟩
theorem closure_calls (x y : Sp) (W : World) : Calls Tryz.prog 74 #[.agg #[.int .u32 x.1, .int .u32 x.2], .agg #[.int .u32 y.1, .int .u32 y.2]] W fun e w' => e = .returned (.int .i64 (cfS x y)) ∧ ∃ q os', w' = grow (W.drewN q) os' := by
  have hcon := fun W' => compare_calls x.1 y.1 W'
  have e : cfS (x.1, 0) (y.1, 0) = cfS x y := rfl
  rw [e] at hcon
  clear e
  generalize cfS x y = r at hcon ⊢
  go_enter Tryz.func74, Tryz.ntmps74
  go_wp2_with (go_at_call 75; refine (hcon _).mono ?_; rintro e w' ⟨rfl, rfl⟩)
  go_ret
  exact ⟨rfl, 0, _, by rw [alloc_eq_grow, alloc_eq_grow, grow_grow]; rfl⟩
theorem cmpLaysS (blk off size : Nat) (w : World) : CmpLays Tryz.prog 74 #[] encS 2 cfS blk off size w :=
  fun _ _ _ _ x y => closure_calls x y _
/-! ### the sorted list -/
def insO (b : Nat) : Nat → Nat → Array Sp → Array Sp
  | 0, _, d => d
  | n + 1, i, d => bif Nat.blt i b then insO b n (i + 1) (insInner (fun x y => decide (x.1 < y.1)) 0 i d) else d
theorem insO_eq (b : Nat) : ∀ (n i : Nat) (d : Array Sp), b - i ≤ n → insOuter (ltOf cfS) 0 b i d = insO b n i d := by
  have e : ltOf cfS = fun x y => decide (x.1 < y.1) := by
    funext x y
    exact lt_cfS x y
  intro n
  induction n with
  | zero =>
    intro i d h
    rw [insOuter, if_neg (by omega)]
    rfl
  | succ n ih =>
    intro i d h
    rw [insOuter, insO]
    rcases Nat.lt_or_ge i b with hb | hb
    · rw [if_pos hb, show Nat.blt i b = true from by rw [Nat.blt_eq]; exact hb, cond_true, ih _ _ (by omega), e]
    · have : Nat.blt i b = false := by rw [Bool.eq_false_iff, ne_eq, Nat.blt_eq]; omega
      rw [if_neg (by omega), this, cond_false]
def sortA (l : List Sp) : Array Sp := pdq (ltOf cfS) l.toArray 0 l.toArray.size (Lib.bitLen l.toArray.size) true true
def sortS (l : List Sp) : List Sp := bif Nat.ble l.length 12 then (insO l.length l.length 1 l.toArray).toList else (sortA l).toList
theorem sortS_eq (l : List Sp) : sortS l = (sortA l).toList := by
  unfold sortS
  rcases Nat.lt_or_ge 12 l.length with h | h
  · have : Nat.ble l.length 12 = false := by rw [Bool.eq_false_iff, ne_eq, Nat.ble_eq]; omega
    rw [this, cond_false]
  · rw [Nat.ble_eq_true_of_le h, cond_true]
    unfold sortA
    rw [pdq, if_pos (by simpa using h)]
    unfold insertionSort
    rw [insO_eq _ l.length _ _ (by simp)]
    simp
theorem sortA_ok (l : List Sp) : PermIn 0 l.toArray.size l.toArray (sortA l) ∧ SortedIn (ltOf cfS) 0 l.toArray.size (sortA l) := by
  have h := pdq_sorts (ltOf cfS) swoS l.toArray 0 l.toArray.size (Lib.bitLen l.toArray.size) true true (Nat.zero_le _) (Nat.le_refl _) (Or.inl rfl)
  exact ⟨h.1, h.2⟩
theorem sortS_perm (l : List Sp) : (sortS l).Perm l := by
  have h := (sortA_ok l).1
  have hs := h.1
  have h := h.2.2
  rw [sortS_eq]
  have e : (sortA l).toList.take l.length = (sortA l).toList := List.take_of_length_le (by simpa using Nat.le_of_eq hs)
  have h : ((sortA l).toList.take l.length).Perm l := by simpa using h
  rwa [e] at h
theorem sortS_len (l : List Sp) : (sortS l).length = l.length := (sortS_perm l).length_eq
theorem sortS_sorted (l : List Sp) : ∀ (i j : Nat), i < j → j < l.length → (sp (sortS l) i).1 ≤ (sp (sortS l) j).1 := by
  intro i j hij hj
  have h := (sortA_ok l).2 i j (Nat.zero_le _) hij (by simpa using hj)
  have hl : (sortA l).size = l.length := by
    have := sortS_len l
    rw [sortS_eq] at this
    simpa using this
  rw [lt_cfS, decide_eq_false_iff_not] at h
  have e : ∀ k, k < l.length → sp (sortS l) k = (sortA l)[k]! := by
    intro k hk
    rw [sortS_eq]
    unfold sp
    rw [getElem!_pos (sortA l) k (by omega)]
    simp [List.getD, show k < (sortA l).size by omega]
  rw [e i (by omega), e j hj]
  omega
/-! ### the row that is sorted -/
theorem flat_encS : ∀ l : List Sp, (l.flatMap encS) = cellsSp l := fun _ => rfl
theorem isAggB : ∀ w, (isAgg 125).run Tryz.prog w = .ok true w := run_aggT (by kernel_rfl)
theorem sizeOfB : ∀ w, (Go.sizeOf 125).run Tryz.prog w = .ok 2 w := run_sizeT (by kernel_rfl)
theorem enterB : ∀ args w, (callFunc 74 args).run Tryz.prog w = .ok (.enter 74 args) w := enters_of (fn := Tryz.f74) (by kernel_rfl) (by kernel_rfl)
theorem sort_calls (blk cap : Nat) (l : List Sp) (w : World) (hH : HoldsK encS 2 w blk 0 l.toArray) (hblk : blk < w.heap.size) (hsz : l.length < 4611686018427387904) :
    Calls Tryz.prog 73 #[.slice (some ⟨blk, 0, none⟩) l.length cap, .func (.func 74) #[] #[]] w fun e w' =>
      e = .returned (.tuple #[]) ∧ ∃ n os, w' = sortWorldK encS 2 w blk 0 n (sortS l).toArray os := by
  have h := AnyQ.slices_SortFunc_eq Tryz.sortB 2 isAggB sizeOfB encS (fun _ => rfl) (fun x v hv => by simp [encS] at hv; rcases hv with rfl | rfl <;> rfl) cfS swoS 74 #[] blk 0 cap l.toArray w enterB (cmpLaysS blk 0 l.toArray.size w) hH hblk (by simpa using hsz)
  change Calls Tryz.prog 73 _ _ _ at h
  rw [sortS_eq]
  simpa [sortA] using h
theorem flatK_len (l : List Sp) : (flatK encS 2 l.toArray).size = l.length * 2 := by simp
theorem flatK_at (l : List Sp) (k : Nat) (h : k < l.length * 2) : (cellsSp l)[k]? = some (flatK encS 2 l.toArray)[k]! := by
  rw [get_flatK _ _ _ _ (by simpa using h)]
  have hk : k / 2 * 2 + k % 2 = k := by omega
  have hd : k / 2 < l.length := by omega
  have := cellsSp_at l (k / 2) (k % 2) hd (by omega)
  rw [hk] at this
  rw [this]
  have he : l.toArray[k / 2]! = sp l (k / 2) := by
    rw [getElem!_pos l.toArray (k / 2) (by simpa using hd)]
    simp [sp, hd]
  rw [he]
  have : k % 2 = 0 ∨ k % 2 = 1 := by omega
  rcases this with h0 | h0 <;> rw [h0] <;> rfl
theorem cellsSp_len : ∀ l : List Sp, (cellsSp l).length = l.length * 2
  | [] => rfl
  | x :: l => by
    have := cellsSp_len l
    show (cellsSp l).length + 1 + 1 = _
    simp
    omega
theorem row_holds {w : World} {B : Nat} {e : TypeId} {b cap : Nat} {l : List Sp} (h : w.ownsRow B e 2 (.slice (some ⟨b, 0, none⟩) l.length cap) l.length (cellsSp l)) : HoldsK encS 2 w b 0 l.toArray := by
  intro j hj
  rw [flatK_len] at hj
  refine ⟨?_, ?_⟩
  · rw [Nat.zero_add, h.cellAt j hj]
    exact flatK_at l j hj
  · rw [Nat.zero_add]
    exact h.frozenAt j
theorem row_put {w : World} {B : Nat} {e : TypeId} {b cap : Nat} {l l' : List Sp} (hl : l'.length = l.length) (h : w.ownsRow B e 2 (.slice (some ⟨b, 0, none⟩) l.length cap) l.length (cellsSp l)) :
    (putRowK encS 2 w b 0 l'.toArray).ownsRow B e 2 (.slice (some ⟨b, 0, none⟩) l.length cap) l.length (cellsSp l') := by
  rcases h.2 with ⟨h', _⟩ | ⟨g, cap', cur, h', hbg, hg, hnc, hcm, hcs, htake⟩
  · cases h'
  · cases h'
    obtain ⟨hlt, hgg⟩ := Array.getElem?_eq_some_iff.1 hg
    refine ⟨by rw [cellsSp_len, hl], .inr ⟨b, cap, putCells id 0 (flatK encS 2 l'.toArray) cur, rfl, hbg, ?_, hnc, hcm, by simp [putCells, hcs], ?_⟩⟩
    · show ((w.heap.modify b (onCells (putCells id 0 (flatK encS 2 l'.toArray))))[b]?) = _
      rw [Array.getElem?_eq_getElem (by rw [Array.size_modify]; exact hlt), Array.getElem_modify_self, hgg]
      rfl
    · refine List.ext_getElem? fun k => ?_
      rw [List.getElem?_take]
      split
      · rename_i hk
        have hk' : k < l'.length * 2 := by omega
        have hcur : k < cur.size := by rw [hcs]; have := Nat.mul_le_mul_right 2 hnc; omega
        rw [flatK_at l' k hk']
        simp [putCells, hcur]
        intro hge
        omega
      · rename_i hk
        rw [List.getElem?_eq_none (by rw [cellsSp_len, hl]; omega)]
theorem putRowK_other (w : World) (b : Nat) (d : Array Sp) (k : Nat) (h : k ≠ b) : (putRowK encS 2 w b 0 d).heap[k]? = w.heap[k]? := by
  show ((w.heap.modify b _)[k]?) = _
  rw [Array.getElem?_modify, if_neg (fun e => h e.symm)]
theorem putRowK_size (w : World) (b : Nat) (d : Array Sp) : (putRowK encS 2 w b 0 d).heap.size = w.heap.size := by
  show (w.heap.modify b _).size = _
  rw [Array.size_modify]
/-- a row of one's own, sorted by its first column -/
def sortG (ps : List PV) (M : Mem) : Tr (PV × Mem) := match ps with
  | [.own id, .clo g []] => match Nat.beq g 74, look M.blks id with
    | true, some (.row e 2 n f) => .br (areSps n f && Nat.ble n 4294967280) (.leaf (.lit (.tuple #[]), ⟨setL M.blks id (.row e 2 n (sRow (sortS (spsOf n f)))), M.nid, M.glob⟩)) .fail
    | _, _ => .fail
  | _ => .fail
theorem sort_ok (G : GT) : FnOK Tryz.prog G 73 sortG := by
  intro β hG M m w ps args hM hlen hrep p M' hp
  unfold sortG at hp
  split at hp
  · rename_i id g
    obtain ⟨a0, a1, rfl⟩ : ∃ a0 a1, args = #[a0, a1] := by
      have : args.size = 2 := by simpa using hlen.symm
      exact ⟨args[0], args[1], by apply Array.ext <;> simp_all; intro i hi _; match i, hi with | 0, _ => rfl | 1, _ => rfl⟩
    have h0 := hrep 0 _ a0 rfl rfl
    have h1 := hrep 1 _ a1 rfl rfl
    split at hp
    · rename_i e n f hg hlk
      obtain rfl := Nat.eq_of_beq_eq_true hg
      obtain ⟨hs, hp⟩ := br_run hp
      simp only [Bool.and_eq_true, Nat.ble_eq] at hs
      obtain ⟨hs, hnn⟩ := hs
      simp only [Tr.run, Option.some.injEq, Prod.mk.injEq] at hp
      obtain ⟨rfl, rfl⟩ := hp
      cases h0 with
      | own _ _ _ hv hv1 =>
        cases h1 with
        | clo _ _ _ vs hvl _ =>
          obtain rfl : vs = #[] := by
            have : vs.size = 0 := by simpa using hvl.symm
            exact Array.eq_empty_of_size_eq_zero this
          have hbk := hM.blk id _ hlk
          cases hbk with
          | row _ _ _ _ v xs hm ho hKr h1x hl1 hr1 =>
            rw [hv] at hm
            cases hm
            have hL := sps_len n f
            have hS : (sortS (spsOf n f)).length = n := by rw [sortS_len, hL]
            have hxs : xs = cellsSp (spsOf n f) := by
              refine List.ext_getElem? fun k => ?_
              rcases Nat.lt_or_ge k (n * 2) with hk | hk
              · have hc := cellsSp_at (spsOf n f) (k / 2) (k % 2) (by omega) (by omega)
                have hf := sps_row hs (k / 2) (by omega)
                have hk2 : k / 2 * 2 + k % 2 = k := by omega
                rw [hk2] at hc
                rw [hc]
                have : k % 2 = 0 ∨ k % 2 = 1 := by omega
                rcases this with h2 | h2
                · obtain ⟨x, hx, hr⟩ := hr1 (k / 2) (k % 2) (.lit (.int .u32 (sp (spsOf n f) (k / 2)).1)) (by omega) (by rw [hf, h2]; rfl)
                  rw [hk2] at hx
                  rw [hx, h2]
                  cases hr
                  rfl
                · obtain ⟨x, hx, hr⟩ := hr1 (k / 2) (k % 2) (.lit (.int .u32 (sp (spsOf n f) (k / 2)).2)) (by omega) (by rw [hf, h2]; rfl)
                  rw [hk2] at hx
                  rw [hx, h2]
                  cases hr
                  rfl
              · rw [List.getElem?_eq_none (by have := ho.1; omega), List.getElem?_eq_none (by rw [cellsSp_len]; omega)]
            subst hxs
            have key : ∀ w1 : World, Keeps β.K w w1 → (∀ k, blkOf a0 ≠ some k → w1.heap[k]? = w.heap[k]?) → w1.ownsRow 0 e 2 a0 n (cellsSp (sortS (spsOf n f))) →
                MRel β ⟨setL M.blks id (.row e 2 n (sRow (sortS (spsOf n f)))), M.nid, M.glob⟩ m w1 ∧ Ext β M m w ⟨setL M.blks id (.row e 2 n (sRow (sortS (spsOf n f)))), M.nid, M.glob⟩ m w1 := by
              intro w1 hk hw ho1
              refine hM.write id _ _ hlk rfl rfl a0 hv hk hw fun _ => .row e 2 n _ a0 _ hv ho1 hKr (fun x hx => ?_) (fun i _ => rfl) (fun i j p hi hp => ?_)
              · simp only [cellsSp, List.mem_flatMap] at hx
                obtain ⟨y, _, hy⟩ := hx
                simp at hy
                rcases hy with rfl | rfl <;> rfl
              · match j with
                | 0 =>
                  simp [sRow] at hp
                  subst hp
                  exact ⟨_, cellsSp_at _ i 0 (by omega) (by omega), .lit _ _⟩
                | 1 =>
                  simp [sRow] at hp
                  subst hp
                  exact ⟨_, cellsSp_at _ i 1 (by omega) (by omega), .lit _ _⟩
                | j + 2 => simp [sRow] at hp
            rcases ho.2 with ⟨rfl, hn0⟩ | ⟨b, cap, cur, rfl, hbg, hgb, hnc, hcm, hcs, htake⟩
            · subst hn0
              have h := AnyF.slices_SortFunc_none Tryz.sortB none 0 (.func (.func 74) #[] #[]) w
              change Calls Tryz.prog 73 _ _ _ at h
              refine h.mono ?_
              rintro e' w' ⟨rfl, rfl⟩
              have e0 : sortS (spsOf 0 f) = spsOf 0 f := rfl
              obtain ⟨k1, k2⟩ := key w' (Keeps.refl _ _) (fun _ _ => rfl) (by rw [e0]; exact ho)
              exact ⟨m, k2, k1, .lit _ _⟩
            · obtain ⟨hblt, _⟩ := Array.getElem?_eq_some_iff.1 hgb
              have hn62 : n < 4611686018427387904 := by omega
              have ho2 : w.ownsRow 0 e 2 (.slice (some ⟨b, 0, none⟩) (spsOf n f).length cap) (spsOf n f).length (cellsSp (spsOf n f)) := by rw [hL]; exact ho
              have h := sort_calls b cap (spsOf n f) w (row_holds ho2) hblt (by omega)
              rw [hL] at h
              refine h.mono ?_
              rintro e' w' ⟨rfl, q, os, rfl⟩
              have hp := row_put (l' := sortS (spsOf n f)) (by rw [hS, hL]) ho2
              rw [hL] at hp
              obtain ⟨k1, k2⟩ := key (putRowK encS 2 w b 0 (sortS (spsOf n f)).toArray) ⟨rfl, rfl, rfl, Nat.le_of_eq (putRowK_size _ _ _).symm, fun k hk => putRowK_other _ _ _ _ (fun e => hKr _ rfl (e ▸ hk))⟩ (fun k hk => putRowK_other _ _ _ _ (fun e => hk (by rw [e]; rfl))) hp
              obtain ⟨g1, g2⟩ := k1.keep (w' := sortWorldK encS 2 w b 0 q (sortS (spsOf n f)).toArray os) ⟨rfl, rfl, rfl, by show _ ≤ (_ ++ os).size; rw [Array.size_append]; exact Nat.le_add_right _ _, fun k hk => by
                show ((putRowK encS 2 w b 0 (sortS (spsOf n f)).toArray).heap ++ os)[k]? = _
                rw [Array.getElem?_append_left hk]⟩
              exact ⟨m, k2.trans g2, g1, .lit _ _⟩
    · cases hp
  · cases hp
def nsFull : List (Nat × (List PV → Mem → Tr (PV × Mem))) := (73, sortG) :: libFull
theorem nsFull_ok {m : Int} {t : TypeId} {fr : Nat × Nat} : FullOK Tryz.prog (GG m t fr) nsFull := (FullOK.cons (sort_ok _) (fn := Tryz.f73) (by kernel_rfl) (by kernel_rfl) libFull_ok)
section
variable {m : Int} {t : TypeId} {fr : Nat × Nat}
noncomputable abbrev E3 (G : GT) : Env := envOf Tryz.prog G nsPure nsFull
theorem E3_ok : (E3 (GG m t fr)).ok Tryz.prog (GG m t fr) := envOf_ok mixed nsPure_ok nsFull_ok
end
end Go.Proofs.YtcdghinmmhcfcaaGreatDoor.Ev

/- Functions that give back a new row, that their caller may write. No condition. -/
namespace Go.Proofs.YtcdghinmmhcfcaaGreatDoor.Ev
open Go Go.RowKit
set_option linter.unusedVariables false
set_option linter.unusedSimpArgs false
/-- a function that writes nothing that was there, and gives back a row of its own make -/
def RowAt (P : Program) (G : GT) (f : FuncId) (ps : List PV) (e : TypeId) (sz n : Nat) (h : Nat → List PV) : Prop :=
  ∀ (w : World) (C : Nat → Nat → Value → Prop), Known C w → Globs G C → Objs G w → ∀ (args : Array Value), RepL C ps args →
    Calls P f args w fun
      | .returned v, w' => Keeps (· < w.heap.size) w w' ∧ ∃ xs, w'.ownsRow w.heap.size e sz v n xs ∧ (∀ x ∈ xs, x.oneCell' = true) ∧ (∀ i, i < n → (h i).length = sz) ∧
          ∀ (i j : Nat) (p : PV), i < n → (h i)[j]? = some p → ∃ x, xs[i * sz + j]? = some x ∧ Rep (fun b o y => Grown C w w' b o y ∧ blkOf v ≠ some b) (fun _ => none) p x
      | _, _ => False
def RowOK (P : Program) (G : GT) (f : FuncId) (g : List PV → Tr (TypeId × Nat × Nat × (Nat → List PV))) : Prop := ∀ ps e sz n h, (g ps).run = some (e, sz, n, h) → RowAt P G f ps e sz n h
theorem RowOK.of {P : Program} {G : GT} {f : FuncId} {g g' : List PV → Tr (TypeId × Nat × Nat × (Nat → List PV))} (h : RowOK P G f g) (hg : ∀ ps e sz n k, (g' ps).run = some (e, sz, n, k) → ∃ k', (g ps).run = some (e, sz, n, k') ∧ ∀ i, i < n → k' i = k i) : RowOK P G f g' := by
  intro ps e sz n k hk w C hK hG hO args hr
  obtain ⟨k', h1, h2⟩ := hg ps e sz n k hk
  refine (h ps e sz n k' h1 w C hK hG hO args hr).mono ?_
  rintro (v | _) w' hq
  · obtain ⟨q1, xs, q2, q3, q4, q5⟩ := hq
    refine ⟨q1, xs, q2, q3, fun i hi => by rw [← h2 i hi]; exact q4 i hi, fun i j p hi hp => q5 i j p hi (by rw [h2 i hi]; exact hp)⟩
  all_goals exact hq.elim
/-- .. as it is evaluated -/
def fnRow (P : Program) (E : Env) (n : Nat) (fn : Func) (G : GT) (ps : List PV) : Tr (TypeId × Nat × Nat × (Nat → List PV)) := (fnEv P E n fn ps ⟨[], 0, G⟩).bind fun r => match r.1 with
  | .own i => match look r.2.blks i with
    | some (.row e sz k h) => .leaf (e, sz, k, h)
    | _ => .fail
  | _ => .fail
theorem row_of_ev {P : Program} {E : Env} {n : Nat} {G : GT} (hE : E.ok P G) (hmo : P.follows .mixedOrders = true) {f : FuncId} {fn : Func} (hf : P.funcs[f]? = some fn) (hc : ∀ c, fn.body = some c → CutsOK .none P G E c) : RowOK P G f (fnRow P E n fn G) := by
  intro ps e sz k h hp w C hK hG hO args hr
  obtain ⟨⟨q, M'⟩, hq, hp⟩ := Tr.of_bind hp
  dsimp only at hp
  split at hp
  · rename_i i
    split at hp
    · rename_i e1 sz1 k1 h1 hlk
      simp only [Tr.run, Option.some.injEq, Prod.mk.injEq] at hp
      obtain ⟨rfl, rfl, rfl, rfl⟩ := hp
      have hcell : ∀ b o v, C b o v → Cell ⟨w, C, (· < w.heap.size), G⟩ w ⟨[], 0, G⟩ (fun _ => none) b o v := fun b o v h => ⟨fun ⟨id, u, hs, _⟩ => (by cases hs), hK b o v h, fun _ => h⟩
      have hM : MRel ⟨w, C, (· < w.heap.size), G⟩ ⟨[], 0, G⟩ (fun _ => none) w :=
        ⟨fun id b hb => (by cases hb), fun _ _ => rfl, fun i j v v' b hi => (by cases hi), fun k hk => hk, Keeps.refl _ _, fun g cs hg => (hG g cs hg).mono hcell fun _ _ h => h, rfl, fun g o hg => ⟨(Array.getElem?_eq_some_iff.1 (hO g o hg)).1, hO g o hg⟩⟩
      refine Calls.mono (fnEv_wp hE hmo hf hc (β := ⟨w, C, (· < w.heap.size), G⟩) rfl hM hr.1 (fun i p v hp hv => (hr.2 i p v hp hv).mono hcell fun _ _ h => h) hq) ?_
      intro e' w' he
      cases e' with
      | panicked _ => exact he.elim
      | outgrown => exact he.elim
      | returned v =>
        obtain ⟨m', -, hM', hrep⟩ := he
        refine ⟨hM'.below, ?_⟩
        cases hrep with
        | own _ _ _ hv _ =>
          have hb := hM'.blk i _ hlk
          cases hb with
          | row _ _ _ _ v' xs hm ho hKr h1 hl hr1 =>
            rw [hv] at hm
            cases hm
            refine ⟨xs, ⟨ho.1, ho.2.imp id fun ⟨g, cap, cur, e1, e2, r⟩ => ⟨g, cap, cur, e1, Nat.le_of_not_lt (hKr g (by rw [e1]; rfl)), r⟩⟩, h1, hl, fun i' j p hi hj => ?_⟩
            obtain ⟨x, hx, hxr⟩ := hr1 i' j p hi hj
            refine ⟨x, hx, hxr.mono (fun b o y hy => ⟨?_, fun hbv => hy.1 ⟨i, _, liv_of hlk, hv, hbv⟩⟩) fun _ _ h => h⟩
            rcases Nat.lt_or_ge b w.heap.size with h | h
            · exact .inl (hy.2.2 h)
            · exact .inr ⟨h, hy.2.1⟩
    · cases hp
  · cases hp
/-- .. for a caller that has memory of its own: one row more -/
def rowFn (g : List PV → Tr (TypeId × Nat × Nat × (Nat → List PV))) (ps : List PV) (M : Mem) : Tr (PV × Mem) := match PV.closL ps with
  | true => (g ps).bind fun r => .leaf (.own M.nid, M.new (.row r.1 r.2.1 r.2.2.1 r.2.2.2))
  | false => .fail
theorem row_fn {P : Program} {G : GT} {f : FuncId} {g : List PV → Tr (TypeId × Nat × Nat × (Nat → List PV))} (hg : RowOK P G f g) : FnOK P G f (rowFn g) := by
  intro β hG M m w ps args hM hlen hrep p M' hp
  unfold rowFn at hp
  split at hp
  · rename_i hcl
    obtain ⟨⟨e, sz, n, h⟩, h1, hp⟩ := Tr.of_bind hp
    simp only [Tr.run, Option.some.injEq, Prod.mk.injEq] at hp
    obtain ⟨rfl, rfl⟩ := hp
    refine (hg ps e sz n h h1 w (Cell β w M m) (fun b o v h => h.2.1) (fun g cs hgc => hM.glob g cs (by rw [hM.gl, hG]; exact hgc)) (by rw [← hG]; exact hM.objs') args ⟨hlen, fun i p v hp hv => (hrep i p v hp hv).clos (closL_get hcl hp)⟩).mono ?_
    rintro (v | _) w' hq
    · obtain ⟨hk, xs, ho, h1x, hl, hr⟩ := hq
      have hbv : ∀ k, blkOf v = some k → w.heap.size ≤ k := by
        intro k hk'
        rcases ho.2 with ⟨rfl, _⟩ | ⟨b, cap, cur, rfl, hb, _⟩
        · cases hk'
        · cases hk'
          exact hb
      have hone : v.oneCell' = true := by
        rcases ho.2 with ⟨rfl, _⟩ | ⟨b, cap, cur, rfl, _⟩ <;> rfl
      obtain ⟨k1, k2⟩ := hM.grow (.row e sz n h) v (w' := w') ⟨hk.os, hk.tape, hk.output, hk.size, fun k hk' => hk.block k (hM.kLt hk')⟩ hk.block hbv fun he =>
        .row e sz n h v xs (upd_same ..) ⟨ho.1, ho.2.imp id fun ⟨g, cap, cur, e1, e2, r⟩ => ⟨g, cap, cur, e1, Nat.zero_le _, r⟩⟩ (fun j hj hjk => Nat.lt_irrefl _ (Nat.lt_of_lt_of_le (hM.kLt hjk) (hbv j hj))) h1x hl fun i j p hi hj => by
          obtain ⟨x, hx, hxr⟩ := hr i j p hi hj
          refine ⟨x, hx, hxr.mono (fun b o y hy => ?_) fun _ _ h => h⟩
          obtain ⟨hy | ⟨hyb, hyc⟩, hyn⟩ := hy
          · exact he.cell b o y hy
          · refine ⟨fun ⟨id, u, hs, hm, hbu⟩ => ?_, hyc, fun hlt => absurd (hM.kLt hlt) (by omega)⟩
            by_cases hid : id = M.nid
            · subst hid
              rw [upd_same] at hm
              cases hm
              exact hyn hbu
            · rw [upd_other _ _ _ _ hid] at hm
              simp only [Mem.new, liv_cons, if_neg (Ne.symm hid)] at hs
              have := hM.livLt hs hm hbu
              omega
      exact ⟨_, k2, k1, .own _ _ _ (upd_same ..) hone⟩
    all_goals exact hq.elim
  · cases hp
end Go.Proofs.YtcdghinmmhcfcaaGreatDoor.Ev

/- nset.bands: spans at work. No condition. -/
namespace Go.Proofs.YtcdghinmmhcfcaaGreatDoor.Ev
open Go Go.RowKit Go.Proofs Go.Proofs.YtcdghinmmhcfcaaGreatDoor.Str
set_option linter.unusedVariables false
set_option linter.unusedSimpArgs false
section
variable {m : Int} {t : TypeId} {fr : Nat × Nat}
def bnOuts : Exit → Outs := fun e => match e with
  | .normal => { ks := [1, 5, 11, 12, 13], rs := [.slot 5] }
  | _ => { ks := [5], rs := [.slot 5] }
noncomputable abbrev bnRound (G : GT) := roundT Tryz.prog (E2 G) 60 G 47 bnOuts .normal (theLoop 0 Tryz.f72)
theorem bn_round (m : Int) (t : TypeId) (fr : Nat × Nat) (l : List Sp) (n k : Nat) (most u i : Int) (f : Nat → List PV) : (bnRound (GG m t fr) ([.lit (.int .u32 most), .own 0, .gsl 2 n (sRow l), int u, int i], [.row 125 2 k f])).run2 =
 (bif (decide (i < u)) then
 bif (bne (Prod.fst (sp l (Int.toNat i))) (0 : Int)) then
 bif (bne (Prod.snd (sp l (Int.toNat i))) (0 : Int)) then
 (.some ((.normal, ([(.lit (.int .u32 most)), (.own 0), (.gsl 2 n (fun i => [PV.lit (Value.int IntKind.u32 (sp l i).fst), PV.lit (Value.int IntKind.u32 (sp l i).snd)])), (.lit (.int .i64 u)), (.lit (.int .i64 (IntKind.wrap .i64 (i + (1 : Int)))))], [(.row 125 2 k (rowSet f (Int.toNat i) 0 [(.lit (.int .u32 (ite ((Prod.snd (sp l (Int.toNat i))) < (Prod.fst (sp l (Int.toNat i)))) (Prod.snd (sp l (Int.toNat i))) (Prod.fst (sp l (Int.toNat i)))))), (.lit (.int .u32 (ite ((Prod.snd (sp l (Int.toNat i))) > (Prod.fst (sp l (Int.toNat i)))) (Prod.snd (sp l (Int.toNat i))) (Prod.fst (sp l (Int.toNat i))))))]))])), [(Nat.blt (Int.toNat i) k), ((decide ((0 : Int) ≤ i)) && (Nat.blt (Int.toNat i) k)), true, true, ((decide ((0 : Int) ≤ i)) && (Nat.blt (Int.toNat i) n))]))
 else bif (bne most (0 : Int)) then
 (.some ((.normal, ([(.lit (.int .u32 most)), (.own 0), (.gsl 2 n (fun i => [PV.lit (Value.int IntKind.u32 (sp l i).fst), PV.lit (Value.int IntKind.u32 (sp l i).snd)])), (.lit (.int .i64 u)), (.lit (.int .i64 (IntKind.wrap .i64 (i + (1 : Int)))))], [(.row 125 2 k (rowSet f (Int.toNat i) 0 [(.lit (.int .u32 (ite (most < (Prod.fst (sp l (Int.toNat i)))) most (Prod.fst (sp l (Int.toNat i)))))), (.lit (.int .u32 (ite (most > (Prod.fst (sp l (Int.toNat i)))) most (Prod.fst (sp l (Int.toNat i))))))]))])), [(Nat.blt (Int.toNat i) k), ((decide ((0 : Int) ≤ i)) && (Nat.blt (Int.toNat i) k)), true, true, true, ((decide ((0 : Int) ≤ i)) && (Nat.blt (Int.toNat i) n))]))
 else (.some ((.normal, ([(.lit (.int .u32 most)), (.own 0), (.gsl 2 n (fun i => [PV.lit (Value.int IntKind.u32 (sp l i).fst), PV.lit (Value.int IntKind.u32 (sp l i).snd)])), (.lit (.int .i64 u)), (.lit (.int .i64 (IntKind.wrap .i64 (i + (1 : Int)))))], [(.row 125 2 k (rowSet f (Int.toNat i) 0 [(.lit (.int .u32 (ite ((0 : Int) < (Prod.fst (sp l (Int.toNat i)))) (0 : Int) (Prod.fst (sp l (Int.toNat i)))))), (.lit (.int .u32 (ite ((0 : Int) > (Prod.fst (sp l (Int.toNat i)))) (0 : Int) (Prod.fst (sp l (Int.toNat i))))))]))])), [(Nat.blt (Int.toNat i) k), ((decide ((0 : Int) ≤ i)) && (Nat.blt (Int.toNat i) k)), true, true, true, ((decide ((0 : Int) ≤ i)) && (Nat.blt (Int.toNat i) n))]))
 else bif (bne most (0 : Int)) then
 bif (bne (Prod.snd (sp l (Int.toNat i))) (0 : Int)) then
 (.some ((.normal, ([(.lit (.int .u32 most)), (.own 0), (.gsl 2 n (fun i => [PV.lit (Value.int IntKind.u32 (sp l i).fst), PV.lit (Value.int IntKind.u32 (sp l i).snd)])), (.lit (.int .i64 u)), (.lit (.int .i64 (IntKind.wrap .i64 (i + (1 : Int)))))], [(.row 125 2 k (rowSet f (Int.toNat i) 0 [(.lit (.int .u32 (ite ((Prod.snd (sp l (Int.toNat i))) < most) (Prod.snd (sp l (Int.toNat i))) most))), (.lit (.int .u32 (ite ((Prod.snd (sp l (Int.toNat i))) > most) (Prod.snd (sp l (Int.toNat i))) most)))]))])), [(Nat.blt (Int.toNat i) k), ((decide ((0 : Int) ≤ i)) && (Nat.blt (Int.toNat i) k)), true, true, true, ((decide ((0 : Int) ≤ i)) && (Nat.blt (Int.toNat i) n))]))
 else bif (bne most (0 : Int)) then
 (.some ((.normal, ([(.lit (.int .u32 most)), (.own 0), (.gsl 2 n (fun i => [PV.lit (Value.int IntKind.u32 (sp l i).fst), PV.lit (Value.int IntKind.u32 (sp l i).snd)])), (.lit (.int .i64 u)), (.lit (.int .i64 (IntKind.wrap .i64 (i + (1 : Int)))))], [(.row 125 2 k (rowSet f (Int.toNat i) 0 [(.lit (.int .u32 (ite (most < most) most most))), (.lit (.int .u32 (ite (most > most) most most)))]))])), [(Nat.blt (Int.toNat i) k), ((decide ((0 : Int) ≤ i)) && (Nat.blt (Int.toNat i) k)), true, true, true, true, ((decide ((0 : Int) ≤ i)) && (Nat.blt (Int.toNat i) n))]))
 else (.some ((.normal, ([(.lit (.int .u32 most)), (.own 0), (.gsl 2 n (fun i => [PV.lit (Value.int IntKind.u32 (sp l i).fst), PV.lit (Value.int IntKind.u32 (sp l i).snd)])), (.lit (.int .i64 u)), (.lit (.int .i64 (IntKind.wrap .i64 (i + (1 : Int)))))], [(.row 125 2 k (rowSet f (Int.toNat i) 0 [(.lit (.int .u32 (ite ((0 : Int) < most) (0 : Int) most))), (.lit (.int .u32 (ite ((0 : Int) > most) (0 : Int) most)))]))])), [(Nat.blt (Int.toNat i) k), ((decide ((0 : Int) ≤ i)) && (Nat.blt (Int.toNat i) k)), true, true, true, true, ((decide ((0 : Int) ≤ i)) && (Nat.blt (Int.toNat i) n))]))
 else bif (bne (Prod.snd (sp l (Int.toNat i))) (0 : Int)) then
 (.some ((.normal, ([(.lit (.int .u32 most)), (.own 0), (.gsl 2 n (fun i => [PV.lit (Value.int IntKind.u32 (sp l i).fst), PV.lit (Value.int IntKind.u32 (sp l i).snd)])), (.lit (.int .i64 u)), (.lit (.int .i64 (IntKind.wrap .i64 (i + (1 : Int)))))], [(.row 125 2 k (rowSet f (Int.toNat i) 0 [(.lit (.int .u32 (ite ((Prod.snd (sp l (Int.toNat i))) < (0 : Int)) (Prod.snd (sp l (Int.toNat i))) (0 : Int)))), (.lit (.int .u32 (ite ((Prod.snd (sp l (Int.toNat i))) > (0 : Int)) (Prod.snd (sp l (Int.toNat i))) (0 : Int))))]))])), [(Nat.blt (Int.toNat i) k), ((decide ((0 : Int) ≤ i)) && (Nat.blt (Int.toNat i) k)), true, true, true, ((decide ((0 : Int) ≤ i)) && (Nat.blt (Int.toNat i) n))]))
 else bif (bne most (0 : Int)) then
 (.some ((.normal, ([(.lit (.int .u32 most)), (.own 0), (.gsl 2 n (fun i => [PV.lit (Value.int IntKind.u32 (sp l i).fst), PV.lit (Value.int IntKind.u32 (sp l i).snd)])), (.lit (.int .i64 u)), (.lit (.int .i64 (IntKind.wrap .i64 (i + (1 : Int)))))], [(.row 125 2 k (rowSet f (Int.toNat i) 0 [(.lit (.int .u32 (ite (most < (0 : Int)) most (0 : Int)))), (.lit (.int .u32 (ite (most > (0 : Int)) most (0 : Int))))]))])), [(Nat.blt (Int.toNat i) k), ((decide ((0 : Int) ≤ i)) && (Nat.blt (Int.toNat i) k)), true, true, true, true, ((decide ((0 : Int) ≤ i)) && (Nat.blt (Int.toNat i) n))]))
 else (.some ((.normal, ([(.lit (.int .u32 most)), (.own 0), (.gsl 2 n (fun i => [PV.lit (Value.int IntKind.u32 (sp l i).fst), PV.lit (Value.int IntKind.u32 (sp l i).snd)])), (.lit (.int .i64 u)), (.lit (.int .i64 (IntKind.wrap .i64 (i + (1 : Int)))))], [(.row 125 2 k (rowSet f (Int.toNat i) 0 [(.lit (.int .u32 (0 : Int))), (.lit (.int .u32 (0 : Int)))]))])), [(Nat.blt (Int.toNat i) k), ((decide ((0 : Int) ≤ i)) && (Nat.blt (Int.toNat i) k)), true, true, true, true, ((decide ((0 : Int) ≤ i)) && (Nat.blt (Int.toNat i) n))]))
 else (.some (((.exit 0), ([(.own 0)], [(.row 125 2 k f)])), [])) : Option ((Exit × Kept) × List Bool)) := by
  kernel_rfl
/-- a span at work -/
def eS (most a : Int) : Int := bif bne a 0 then a else bif bne most 0 then most else 0
def bandS (most : Int) (x : Sp) : Sp := (bif decide (eS most x.2 < eS most x.1) then eS most x.2 else eS most x.1, bif decide (eS most x.2 < eS most x.1) then eS most x.1 else eS most x.2)
theorem mn (a b : Int) : ite (b < a) b a = (bif decide (b < a) then b else a) := by by_cases h : b < a <;> simp [h]
theorem mx (a b : Int) : ite (b > a) b a = (bif decide (b < a) then a else b) := by
  by_cases h : b < a
  · simp [h, Int.not_lt.2 (Int.le_of_lt h)]
  · by_cases h2 : a < b
    · simp [h, h2]
    · have : a = b := by omega
      subst this
      simp
/-- the row, so far -/
def bnF (B : List Sp) (f : Nat → List PV) (i j : Nat) : List PV := bif Nat.blt j i then sRow B j else f j
theorem bnF_step (B : List Sp) (f : Nat → List PV) (i : Nat) (hf : (f i).drop 2 = []) : rowSet (bnF B f i) i 0 [.lit (.int .u32 (sp B i).1), .lit (.int .u32 (sp B i).2)] = bnF B f (i + 1) := by
  funext k
  rw [rowSet_eq]
  unfold rowSetO
  cases h : Nat.beq k i with
  | true =>
    obtain rfl := Nat.eq_of_beq_eq_true h
    have h1 : Nat.blt k k = false := by rw [Bool.eq_false_iff, ne_eq, Nat.blt_eq]; omega
    have h2 : Nat.blt k (k + 1) = true := by rw [Nat.blt_eq]; omega
    simp [bnF, h1, h2, hf, sRow]
  | false =>
    have hne : k ≠ i := fun e => by subst e; simp at h
    unfold bnF
    have : Nat.blt k i = Nat.blt k (i + 1) := by
      rw [Bool.eq_iff_iff, Nat.blt_eq, Nat.blt_eq]
      omega
    rw [this]
theorem bn_step (m : Int) (t : TypeId) (fr : Nat × Nat) (l : List Sp) (n k : Nat) (most : Int) (i : Nat) (f : Nat → List PV) (hi : i < n) (hk : i < k) (hn : n ≤ 4294967280) :
    (bnRound (GG m t fr) ([.lit (.int .u32 most), .own 0, .gsl 2 n (sRow l), int n, int i], [.row 125 2 k f])).run =
      some (.normal, ([.lit (.int .u32 most), .own 0, .gsl 2 n (sRow l), int n, int ((i + 1 : Nat) : Int)], [.row 125 2 k (rowSet f i 0 [.lit (.int .u32 (bandS most (sp l i)).1), .lit (.int .u32 (bandS most (sp l i)).2)])])) := by
  have h := bn_round m t fr l n k most n i f
  have hd : decide ((i : Int) < (n : Int)) = true := by simp; omega
  have hw : IntKind.i64.wrap ((i : Int) + 1) = ((i + 1 : Nat) : Int) := wrap_succ (by omega)
  have b1 : Nat.blt i k = true := by rw [Nat.blt_eq]; exact hk
  have b2 : Nat.blt i n = true := by rw [Nat.blt_eq]; exact hi
  have b3 : decide ((0 : Int) ≤ (i : Int)) = true := by simp
  rw [hd, hw, Int.toNat_natCast, b1, b2, b3] at h
  simp only [cond_true, mn, mx] at h
  have key : ∀ x y : Int, x = eS most (sp l i).1 → y = eS most (sp l i).2 → (bif decide (y < x) then y else x) = (bandS most (sp l i)).1 ∧ (bif decide (y < x) then x else y) = (bandS most (sp l i)).2 := by
    rintro x y rfl rfl
    exact ⟨rfl, rfl⟩
  cases c1 : bne (sp l i).1 0 with
  | true =>
    have e1 : (sp l i).1 = eS most (sp l i).1 := by unfold eS; rw [c1]; rfl
    rw [c1] at h
    cases c2 : bne (sp l i).2 0 with
    | true =>
      have e2 : (sp l i).2 = eS most (sp l i).2 := by unfold eS; rw [c2]; rfl
      rw [c2] at h
      obtain ⟨k1, k2⟩ := key _ _ e1 e2
      simp only [cond_true, k1, k2] at h
      exact Tr.run_of h (by simp)
    | false =>
      rw [c2] at h
      cases c3 : bne most 0 with
      | true =>
        have e2 : most = eS most (sp l i).2 := by unfold eS; rw [c2, c3]; rfl
        rw [c3] at h
        obtain ⟨k1, k2⟩ := key _ _ e1 e2
        simp only [cond_true, cond_false, k1, k2] at h
        exact Tr.run_of h (by simp)
      | false =>
        have e2 : 0 = eS most (sp l i).2 := by unfold eS; rw [c2, c3]; rfl
        rw [c3] at h
        obtain ⟨k1, k2⟩ := key _ _ e1 e2
        simp only [cond_false, k1, k2] at h
        exact Tr.run_of h (by simp)
  | false =>
    rw [c1] at h
    cases c3 : bne most 0 with
    | true =>
      have e1 : most = eS most (sp l i).1 := by unfold eS; rw [c1, c3]; rfl
      rw [c3] at h
      cases c2 : bne (sp l i).2 0 with
      | true =>
        have e2 : (sp l i).2 = eS most (sp l i).2 := by unfold eS; rw [c2]; rfl
        rw [c2] at h
        obtain ⟨k1, k2⟩ := key _ _ e1 e2
        simp only [cond_true, cond_false, k1, k2] at h
        exact Tr.run_of h (by simp)
      | false =>
        have e2 : most = eS most (sp l i).2 := by unfold eS; rw [c2, c3]; rfl
        rw [c2] at h
        obtain ⟨k1, k2⟩ := key _ _ e1 e2
        have k3 : (bandS most (sp l i)).1 = (bandS most (sp l i)).2 := by rw [← k1, ← k2]
        simp only [cond_true, cond_false, k1] at h
        rw [← k3]
        exact Tr.run_of h (by simp)
    | false =>
      have e1 : 0 = eS most (sp l i).1 := by unfold eS; rw [c1, c3]; rfl
      rw [c3] at h
      cases c2 : bne (sp l i).2 0 with
      | true =>
        have e2 : (sp l i).2 = eS most (sp l i).2 := by unfold eS; rw [c2]; rfl
        rw [c2] at h
        obtain ⟨k1, k2⟩ := key _ _ e1 e2
        simp only [cond_true, cond_false, k1, k2] at h
        exact Tr.run_of h (by simp)
      | false =>
        have e2 : 0 = eS most (sp l i).2 := by unfold eS; rw [c2, c3]; rfl
        rw [c2] at h
        obtain ⟨k1, k2⟩ := key _ _ e1 e2
        have k1 : 0 = (bandS most (sp l i)).1 := by rw [← k1]; rfl
        have k2 : 0 = (bandS most (sp l i)).2 := by rw [← k2]; rfl
        rw [← k1, ← k2]
        simp only [cond_false] at h
        exact Tr.run_of h (by simp)
def bnIn (l : List Sp) (most : Int) (k i : Nat) (f : Nat → List PV) : Kept := ([.lit (.int .u32 most), .own 0, .gsl 2 l.length (sRow l), int l.length, int i], [.row 125 2 k f])
theorem bn_LR (l : List Sp) (most : Int) (k : Nat) (f : Nat → List PV) (hn : l.length ≤ 4294967280) (hk : l.length ≤ k) (hf : ∀ i, i < l.length → (f i).drop 2 = []) : ∀ (d i : Nat), i + d = l.length →
    LR Tryz.prog (E2 (GG m t fr)) 60 (GG m t fr) 47 bnOuts .normal (theLoop 0 Tryz.f72) (bnIn l most k i (bnF (l.map (bandS most)) f i)) (.exit 0) ([.own 0], [.row 125 2 k (bnF (l.map (bandS most)) f l.length)])
  | 0, i, hi => by
    have h := bn_round m t fr l l.length k most l.length i (bnF (l.map (bandS most)) f i)
    have hd : decide ((i : Int) < (l.length : Int)) = false := by simp; omega
    rw [hd] at h
    have e : i = l.length := by omega
    have h := Tr.run_of h (by simp)
    rw [e] at h
    rw [e]
    exact .last h (by simp) (by simp)
  | d + 1, i, hi => by
    have h := bn_step m t fr l l.length k most i (bnF (l.map (bandS most)) f i) (by omega) (by omega) hn
    have hb : sp (l.map (bandS most)) i = bandS most (sp l i) := by
      simp [sp, show i < l.length by omega]
    rw [← hb, bnF_step _ _ _ (hf i (by omega))] at h
    exact .more h (bn_LR l most k f hn hk hf d (i + 1) (by omega))
def bnK : Kept → Tr (Exit × Kept)
  | ([.lit (.int .u32 most), .own 0, .gsl 2 n f', .lit (.int .i64 u), .lit (.int .i64 0)], [.row e 2 k f]) => match Nat.beq e 125 with
    | true => .br (areSps n f' && decide (u = (n : Int)) && Nat.ble n k && Nat.ble n 4294967280 && (List.range n).all fun i => Nat.ble (f i).length 2)
        (.leaf (.exit 0, ([.own 0], [.row 125 2 k (bnF ((spsOf n f').map (bandS most)) f n)]))) .fail
    | false => .fail
  | _ => .fail
theorem bnK_ok (x : Kept) (e : Exit) (y : Kept) (h : (bnK x).run = some (e, y)) : LR Tryz.prog (E2 (GG m t fr)) 60 (GG m t fr) 47 bnOuts .normal (theLoop 0 Tryz.f72) x e y := by
  unfold bnK at h
  split at h
  · rename_i most n f' u e0 k f
    split at h
    · rename_i he
      obtain rfl := Nat.eq_of_beq_eq_true he
      have hb := br_run h
      clear h
      obtain ⟨hc, h⟩ := hb
      simp only [Bool.and_eq_true, decide_eq_true_eq, Nat.ble_eq, List.all_eq_true, List.mem_range] at hc
      obtain ⟨⟨⟨⟨hf', rfl⟩, hnk⟩, hn⟩, hf⟩ := hc
      simp only [Tr.run, Option.some.injEq, Prod.mk.injEq] at h
      obtain ⟨rfl, rfl⟩ := h
      have hL := sps_len n f'
      have key := bn_LR (m := m) (t := t) (fr := fr) (spsOf n f') most k f (by omega) (by omega) (fun i hi => List.drop_eq_nil_of_le (hf i (by omega))) n 0 (by omega)
      have hin : KLe ([.lit (.int .u32 most), .own 0, .gsl 2 n f', int (n : Int), int 0], [.row 125 2 k f]) (bnIn (spsOf n f') most k 0 (bnF ((spsOf n f').map (bandS most)) f 0)) := by
        have e0 : bnF ((spsOf n f').map (bandS most)) f 0 = f := by
          funext j
          unfold bnF
          have : Nat.blt j 0 = false := by rw [Bool.eq_false_iff, ne_eq, Nat.blt_eq]; omega
          rw [this, cond_false]
        rw [e0]
        refine ⟨PLeL.cons (.refl _) (PLeL.cons (.refl _) (PLeL.cons (PLe.gsl hL.symm (sps_row hf')) (PLeL.cons (PLe.of_eq ?_) (.refl _)))), .refl _⟩
        rw [hL]
      rw [hL] at key
      exact .le hin key
    · cases h
  · cases h
noncomputable abbrev bnCut (G : GT) := cutOf G 47 bnOuts 0 bnK
theorem bands_raw (m : Int) (t : TypeId) (fr : Nat × Nat) (n : Nat) (f : Nat → List PV) (most : Int) : (fnRow Tryz.prog ((E2 (GG m t fr)).withCuts (cut1 0 (bnCut (GG m t fr)))) 60 Tryz.f72 (GG m t fr) [.gsl 2 n f, .lit (.int .u32 most)]).run2 =
 ((.some ((125, (2, ((Int.toNat ((n : Nat) : Int)), (bnF (List.map (bandS most) (spsOf n f)) (fun x => List.map PV.lit #[Value.int IntKind.u32 0, Value.int IntKind.u32 0].toList) n)))), [(((((areSps n f) && (decide (((n : Nat) : Int) = ((n : Nat) : Int)))) && (Nat.ble n (Int.toNat ((n : Nat) : Int)))) && (Nat.ble n (4294967280 : Nat))) && (List.all (List.range n) (fun i => ((fun x => List.map PV.lit #[Value.int IntKind.u32 0, Value.int IntKind.u32 0].toList) i).length.ble 2))), (((decide ((0 : Int) ≤ ((n : Nat) : Int))) && (decide (((n : Nat) : Int) = ((n : Nat) : Int)))) && (Nat.ble (8 * (Int.toNat ((n : Nat) : Int))) (140737488355328 : Nat)))])) : Option ((TypeId × Nat × Nat × (Nat → List PV)) × List Bool)) := by
  kernel_rfl
def bandsG : List PV → Tr (TypeId × Nat × Nat × (Nat → List PV))
  | [.gsl 2 n f, .lit (.int .u32 most)] => .br (areSps n f && Nat.ble n 4294967280) (.leaf (125, 2, n, sRow ((spsOf n f).map (bandS most)))) .fail
  | _ => .fail
theorem bands_ok : RowOK Tryz.prog (GG m t fr) 72 bandsG := by
  refine RowOK.of (row_of_ev (E2_ok.withCuts (cut1 0 (bnCut (GG m t fr)))) mixed (fn := Tryz.f72) (n := 60) (by kernel_rfl) (CutLaws.ok (E := (E2 (GG m t fr)).withCuts (cut1 0 (bnCut (GG m t fr)))) (CutLaws.one (by omega) (by kernel_rfl) fun st e st' h => cutOf_ok E2_ok mixed (noCuts_ok (envOf_cuts ..) _) bnK_ok h))) fun ps e sz n k hk => ?_
  unfold bandsG at hk
  split at hk
  · rename_i n' f most
    obtain ⟨hc, hk⟩ := br_run hk
    simp only [Bool.and_eq_true, Nat.ble_eq] at hc
    simp only [Tr.run, Option.some.injEq, Prod.mk.injEq] at hk
    obtain ⟨rfl, rfl, rfl, rfl⟩ := hk
    have h := bands_raw m t fr n' f most
    rw [Int.toNat_natCast] at h
    refine ⟨_, Tr.run_of h (by simp [hc.1]; omega), fun i hi => ?_⟩
    unfold bnF
    have : Nat.blt i n' = true := by rw [Nat.blt_eq]; exact hi
    rw [this, cond_true]
  · cases hk
def nbFull : List (Nat × (List PV → Mem → Tr (PV × Mem))) := (72, rowFn bandsG) :: nsFull
theorem nbFull_ok {m : Int} {t : TypeId} {fr : Nat × Nat} : FullOK Tryz.prog (GG m t fr) nbFull := (FullOK.cons (row_fn bands_ok) (fn := Tryz.f72) (by kernel_rfl) (by kernel_rfl) nsFull_ok)
noncomputable abbrev E4 (G : GT) : Env := envOf Tryz.prog G nsPure nbFull
theorem E4_ok : (E4 (GG m t fr)).ok Tryz.prog (GG m t fr) := envOf_ok mixed nsPure_ok nbFull_ok
end
end Go.Proofs.YtcdghinmmhcfcaaGreatDoor.Ev

/- nset: what the laws ask of the program at fixed numbers. No condition. -/
namespace Go.Proofs.YtcdghinmmhcfcaaGreatDoor.Ev
open Go Go.RowKit Go.Proofs Go.Proofs.YtcdghinmmhcfcaaGreatDoor.Str
set_option linter.unusedVariables false
section
variable {m : Int} {t : TypeId} {fr : Nat × Nat}
def livesG : List PV → Tr PV
  | [] => .leaf (bool true)
  | _ => .fail
end
end Go.Proofs.YtcdghinmmhcfcaaGreatDoor.Ev
