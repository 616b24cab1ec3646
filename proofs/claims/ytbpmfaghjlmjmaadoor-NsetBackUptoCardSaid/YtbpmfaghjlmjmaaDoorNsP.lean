/- nset.Parse: what it does, by hand. No condition. -/
import Derived.Test.YtbpmfaghjlmjmaaDoorNsSp
namespace Go.Proofs.YtbpmfaghjlmjmaaDoor.Ev
open Go Go.RowKit Go.Proofs Go.Proofs.YtbpmfaghjlmjmaaDoor.Str Go.Proofs.YtbpmfaghjlmjmaaDoor.Seq Go.Shelf
set_option linter.unusedVariables false
set_option linter.unusedSimpArgs false
attribute [local go_sem] Oper.semAt_some
/-- a piece's two ends -/
def wA (w : List UInt8) : List UInt8 := (cutC 58 w).1
def wB (w : List UInt8) : List UInt8 := bif (cutC 58 w).2.2 then (cutC 58 w).2.1 else (cutC 58 w).1
def okW (w : List UInt8) : Bool := endB (wA w) && endB (wB w)
def spW (w : List UInt8) : Int × Int := (endV (wA w), endV (wB w))
def cellsSp (l : List (Int × Int)) : List Value := l.flatMap fun x => [.int .u32 x.1, .int .u32 x.2]
theorem splitSeq_calls (s : ByteArray) (w : World) : Calls Tryd.prog 31 #[.string s, .string ⟨#[44]⟩] w fun e w' =>
    e = .returned (.func (.func 58) #[] #[.pointer (some ⟨w.heap.size + 1, 0, none⟩), .pointer (some ⟨w.heap.size, 0, none⟩), .pointer (some ⟨w.heap.size + 2, 0, none⟩)]) ∧
    w' = ((w.alloc (.cells #[.string s] 9)).alloc (.cells #[.string ⟨#[44]⟩] 9)).alloc (.cells #[.int .i64 0] 3) := by
  have inner : ∀ w : World, Calls Tryd.prog 41 #[.string s, .string ⟨#[44]⟩, .int .i64 0] w fun e w' =>
      e = .returned (.func (.func 58) #[] #[.pointer (some ⟨w.heap.size + 1, 0, none⟩), .pointer (some ⟨w.heap.size, 0, none⟩), .pointer (some ⟨w.heap.size + 2, 0, none⟩)]) ∧
      w' = ((w.alloc (.cells #[.string s] 9)).alloc (.cells #[.string ⟨#[44]⟩] 9)).alloc (.cells #[.int .i64 0] 3) := by
    intro w
    go_enter Tryd.func41, Tryd.ntmps41
    go_wp2
    go_ret
    exact ⟨rfl, rfl⟩
  go_enter Tryd.func31, Tryd.ntmps31
  go_wp2_with (go_at_call 41; refine (inner _).mono ?_; rintro e w' ⟨rfl, rfl⟩)
  go_ret
  exact ⟨rfl, rfl⟩
theorem known_below {C : Nat → Nat → Value → Prop} {w W : World} (hK : Known C w) (hb : Below w.heap.size w W) : Known C W := by
  intro b o v h
  have h0 := hK b o v h
  have hlt : b < w.heap.size := by
    unfold World.cell? at h0
    split at h0
    · rename_i hh
      exact (Array.getElem?_eq_some_iff.1 hh).1
    · cases h0
  rw [hb.cell (p := ⟨b, o, none⟩) hlt]
  exact h0
theorem objs_below {G : GT} {w W : World} (hO : Objs G w) (hb : Below w.heap.size w W) : Objs G W := by
  intro g o h
  have h0 := hO g o h
  rw [hb.block g (Array.getElem?_eq_some_iff.1 h0).1]
  exact h0
section
variable {m : Int} {t : TypeId} {fr : Nat × Nat}
/-- an end's call, in whatever world lies above one that fits -/
theorem end_calls {C : Nat → Nat → Value → Prop} {W : World} (hK : Known C W) (hG : Globs (GG m t fr) C) (hO : Objs (GG m t fr) W) (l : List UInt8) (hl : l.length ≤ 4294967280) :
    Calls Tryd.prog 33 #[.string (bs l)] W fun e W' => e = .returned (.tuple #[.int .u32 (endV l), .bool (endB l)]) ∧ Below W.heap.size W W' := by
  have h := end_ok (m := m) (t := t) (fr := fr) [str (bs l)] (.tup [.lit (.int .u32 (endV l)), bool (endB l)]) (by
    have o : okS (bs l) = true := okS_of (by rw [bs_len]; exact hl)
    simp [endG, Tr.run, o, ls_bs]) W C hK hG hO #[.string (bs l)] (by
    refine ⟨rfl, fun i p v hp hv => ?_⟩
    match i with
    | 0 =>
      simp at hp hv
      subst hp
      subst hv
      exact .lit _ _
    | i + 1 => simp at hp)
  refine h.mono ?_
  rintro (v | _) W' hq
  · obtain ⟨hk, hr⟩ := hq
    refine ⟨?_, ⟨hk.os, hk.tape, hk.output, hk.size, hk.block⟩⟩
    cases hr with
    | tup _ _ vs hsz hr =>
      match vs, hsz with
      | ⟨[v0, v1]⟩, _ =>
        have h0 := hr 0 _ v0 rfl rfl
        have h1 := hr 1 _ v1 rfl rfl
        cases h0
        cases h1
        rfl
  all_goals exact hq.elim
theorem cut58_calls {C : Nat → Nat → Value → Prop} {W : World} (hK : Known C W) (hG : Globs (GG m t fr) C) (hO : Objs (GG m t fr) W) (l : List UInt8) (hl : l.length ≤ 4294967280) :
    Calls Tryd.prog 32 #[.string (bs l), .string ⟨#[58]⟩] W fun e W' => e = .returned (.tuple #[.string (bs (wA l)), .string (bs (cutC 58 l).2.1), .bool (cutC 58 l).2.2]) ∧ ∃ n, W' = W.drewN n := by
  refine (Tryd.strings_Cut (bs l) ⟨#[58]⟩ m W (by rw [bs_len]; omega) (glob_cell hK hG GG_maxLen)).mono ?_
  rintro e W' ⟨rfl, hn⟩
  have e1 : (bs l).data.toList = l := ls_bs l
  rw [e1, show (⟨#[58]⟩ : ByteArray).data.toList = [58] from rfl, cut_one]
  exact ⟨rfl, hn⟩
end
theorem row_below {W V : World} {n₀ : Nat} {e : TypeId} {sz : Nat} {v : Value} {k : Nat} {xs : List Value} (hb : Below W.heap.size W V) (h : W.ownsRow n₀ e sz v k xs) : V.ownsRow n₀ e sz v k xs :=
  h.kept (row := none) ⟨hb.os, hb.tape, hb.output, hb.size, fun k hk _ => hb.block k hk⟩ (by cases v.ownBlock <;> simp)
theorem below_drewN (B : Nat) (W : World) (n : Nat) : Below B W (W.drewN n) := by
  have k := Keeps.drewN (K := fun _ => True) (w := W) n
  exact ⟨k.os, k.tape, k.output, k.size, fun i _ => k.block i trivial⟩
theorem others_below {W V : World} (hb : Below W.heap.size W V) : KeepsOthers W V :=
  ⟨hb.size, fun k o h _ => (hb.block k (Array.getElem?_eq_some_iff.1 h).1).trans h⟩
theorem cell_two_new (w : World) (x y : Value) (t : TypeId) : ∀ j u, [x, y][j]? = some u → (w.alloc (.cells #[x, y] t)).cell? ((⟨w.heap.size, 0, none⟩ : Addr).add j) = some u := by
  intro j u hj
  match j, hj with
  | 0, hj =>
    simp at hj
    subst hj
    simp [Addr.add, World.cell?_alloc_new]
  | 1, hj =>
    simp at hj
    subst hj
    simp [Addr.add, World.cell?_alloc_new]
  | j + 2, hj => simp at hj
theorem splitC_len (c : UInt8) : ∀ (l x : List UInt8), x ∈ splitC c l → x.length ≤ l.length
  | [], x, h => by simp [splitC] at h; subst h; exact Nat.le_refl _
  | b :: l, x, h => by
    have ih := splitC_len c l
    unfold splitC at h
    split at h
    · rcases List.mem_cons.1 h with rfl | h
      · simp
      · have := ih x h
        simp
        omega
    · cases hs : splitC c l with
      | nil => exact absurd hs (splitC_ne c l)
      | cons y r =>
        rw [hs] at h ih
        rcases List.mem_cons.1 h with rfl | h
        · have := ih y (by simp)
          simp
          omega
        · have := ih x (by simp [h])
          simp
          omega
theorem splitC_count (c : UInt8) : ∀ (l : List UInt8), (splitC c l).length ≤ l.length + 1
  | [] => by simp [splitC]
  | b :: l => by
    have ih := splitC_count c l
    unfold splitC
    split
    · simp
      omega
    · cases hs : splitC c l with
      | nil => exact absurd hs (splitC_ne c l)
      | cons y r =>
        rw [hs] at ih
        simp at ih ⊢
        omega
theorem cutC_len (c : UInt8) : ∀ l : List UInt8, (cutC c l).1.length ≤ l.length ∧ (cutC c l).2.1.length ≤ l.length
  | [] => by simp [cutC]
  | b :: l => by
    have ih := cutC_len c l
    unfold cutC
    split
    · simp
    · simp
      omega
theorem infoSp : (Tryd.prog.info? 44).map (fun i => (i.zero, i.size, i.bytes)) = some (some (.agg #[.int .u32 0, .int .u32 0]), 2, 8) := by kernel_rfl
/-- what holds between two rounds: the pieces so far are spans, the slice holds them, and the variables lie in their boxes -/
def pI (N : Nat) (w : World) (pre : List (List UInt8)) (W : World) : Prop :=
  pre.all okW = true ∧ (∃ v, Boxed W (N + 2) 22 v ∧ W.ownsRow N 44 2 v pre.length (cellsSp (pre.map spW))) ∧ Boxed W N 22 (.slice none 0 0) ∧ Boxed W (N + 1) 25 (.int .i64 0) ∧
    (∃ u, Boxed W (N + 3) 9 u) ∧ (∃ u, Boxed W (N + 4) 9 u) ∧ (∃ u, Boxed W (N + 5) 3 u) ∧ Below N w W
/-- what holds where a round has left -/
def pX (N : Nat) (w : World) (pre : List (List UInt8)) (W : World) : Prop :=
  pre.all okW = false ∧ Boxed W N 22 (.slice none 0 0) ∧ Boxed W (N + 1) 25 (.int .i64 7) ∧ Below N w W
theorem boxed_own {A B : World} {b : Nat} {row : Option Nat} (hg : A.grownBy B row) (hr : ∀ r, row = some r → b ≤ r ∧ ∃ o : Obj, A.heap[r]? = some o ∧ o.isCells = false) {k : Nat} {t : TypeId} {v : Value} (h : Boxed A k t v) : Boxed B k t v :=
  h.kept hg fun e => by
    obtain ⟨_, o, ho, hc⟩ := hr k e.symm
    rw [show A.heap[k]? = _ from h] at ho
    cases ho
    cases hc
theorem pI_own {N b : Nat} {w : World} (hN : N = w.heap.size) (hb : N ≤ b) : OwnFrom b (pI N w) := by
  rintro pre A B row ⟨h1, ⟨v, h2, h3⟩, h4, h5, ⟨u6, h6⟩, ⟨u7, h7⟩, ⟨u8, h8⟩, h9⟩ hg hr
  refine ⟨h1, ⟨v, boxed_own hg hr h2, h3.kept hg ?_⟩, boxed_own hg hr h4, boxed_own hg hr h5, ⟨u6, boxed_own hg hr h6⟩, ⟨u7, boxed_own hg hr h7⟩, ⟨u8, boxed_own hg hr h8⟩, h9.grown hg (by rw [hN]; exact h9.size) fun k e => Nat.le_trans hb (hr k e).1⟩
  rcases h3.2 with ⟨rfl, _⟩ | ⟨g, cap, cur, rfl, _, hgb, _⟩
  · exact .inl rfl
  · refine .inr fun e' => ?_
    obtain ⟨_, o, ho, hc⟩ := hr g (by simpa [Value.ownBlock] using e'.symm)
    rw [hgb] at ho
    cases ho
    cases hc
theorem pX_own {N b : Nat} {w : World} (hN : N = w.heap.size) (hb : N ≤ b) : OwnFrom b (pX N w) := by
  rintro pre A B row ⟨h1, h4, h5, h9⟩ hg hr
  exact ⟨h1, boxed_own hg hr h4, boxed_own hg hr h5, h9.grown hg (by rw [hN]; exact h9.size) fun k e => Nat.le_trans hb (hr k e).1⟩
theorem pI_step {N : Nat} {w : World} (pre : List (List UInt8)) (A B : World) (h : pI N w pre A) (hx : spX (N + 3) A B) : pI N w pre B := by
  obtain ⟨h1, ⟨v, h2, h3⟩, h4, h5, ⟨u6, h6⟩, ⟨u7, h7⟩, ⟨u8, h8⟩, h9⟩ := h
  obtain ⟨u, x, hu, rfl⟩ := hx
  exact ⟨h1, ⟨v, boxed_other h2 (by omega), h3.kept (grownBy_setCell' A _ x) (.inr (hu.not_row (by decide) h3).symm)⟩, boxed_other h4 (by omega), boxed_other h5 (by omega), ⟨x, hu.set x⟩, ⟨u7, boxed_other h7 (by omega)⟩, ⟨u8, boxed_other h8 (by omega)⟩, h9.setCell (p := ⟨N + 3, 0, none⟩) (by simp) _⟩
set_option maxRecDepth 100000 in
set_option maxHeartbeats 2000000 in
theorem parse_calls {m : Int} {t : TypeId} {fr : Nat × Nat} (s : List UInt8) (hs : s.length ≤ 4294967280) (w : World) {C : Nat → Nat → Value → Prop} (hK : Known C w) (hG : Globs (GG m t fr) C) (hO : Objs (GG m t fr) w) :
    Calls Tryd.prog 21 #[.string (bs s)] w fun e w' => Below w.heap.size w w' ∧
      (((splitC 44 s).all okW = false ∧ e = .returned (.tuple #[.slice none 0 0, .int .i64 7])) ∨
       ((splitC 44 s).all okW = true ∧ 1024 < (splitC 44 s).length ∧ e = .returned (.tuple #[.slice none 0 0, .int .i64 15])) ∨
       ((splitC 44 s).all okW = true ∧ (splitC 44 s).length ≤ 1024 ∧ ∃ v, e = .returned (.tuple #[v, .int .i64 0]) ∧ w'.ownsRow w.heap.size 44 2 v (splitC 44 s).length (cellsSp ((splitC 44 s).map spW)))) := by
  refine (callsIn_wide (n := 0)).1 ?_
  refine callsIn_of_wp_marks Tryd.func21 rfl trivial ?_ rfl
  simp only [Tryd.ntmps21, List.size_toArray, List.length_cons, List.length_nil, Nat.reduceAdd, Nat.reduceSub, Array.replicate_succ, Array.replicate_zero, List.push_toArray, List.append_toArray, List.nil_append, List.cons_append]
  gi_wp2_with (refine ⟨trivial, rfl, ?_⟩; gi_at_call 31; refine (callsIn_wide.2 (splitSeq_calls (bs s) _)).mono ?_; rintro e w' ⟨rfl, rfl⟩)
  have n1 : ∀ (A : World) (o : Obj), (A.alloc o).heap.size = A.heap.size + 1 := fun A o => World.size_alloc A o
  have B0 := Boxed.new w 22 (.slice none 0 0)
  generalize hw1 : w.alloc (Obj.cells #[Value.slice none 0 0] 22) = w1 at *
  have B1 := Boxed.new w1 25 (.int .i64 0)
  generalize hw2 : w1.alloc (Obj.cells #[Value.int IntKind.i64 0] 25) = w2 at *
  have B2 := Boxed.new w2 22 (.slice none 0 0)
  generalize hw3 : w2.alloc (Obj.cells #[Value.slice none 0 0] 22) = w3 at *
  have B3 := Boxed.new w3 9 (.string (bs s))
  generalize hw4 : w3.alloc (Obj.cells #[Value.string (bs s)] 9) = w4 at *
  have B4 := Boxed.new w4 9 (.string ⟨#[44]⟩)
  generalize hw5 : w4.alloc (Obj.cells #[Value.string ⟨#[44]⟩] 9) = w5 at *
  have B5 := Boxed.new w5 3 (.int .i64 0)
  generalize hw6 : w5.alloc (Obj.cells #[Value.int IntKind.i64 0] 3) = w6 at *
  have z1 : w1.heap.size = w.heap.size + 1 := by rw [← hw1]; exact n1 _ _
  have z2 : w2.heap.size = w.heap.size + 2 := by rw [← hw2, n1, z1]
  have z3 : w3.heap.size = w.heap.size + 3 := by rw [← hw3, n1, z2]
  have z4 : w4.heap.size = w.heap.size + 4 := by rw [← hw4, n1, z3]
  have z5 : w5.heap.size = w.heap.size + 5 := by rw [← hw5, n1, z4]
  have z6 : w6.heap.size = w.heap.size + 6 := by rw [← hw6, n1, z5]
  have A0 : Boxed w6 w.heap.size 22 (.slice none 0 0) := by rw [← hw6, ← hw5, ← hw4, ← hw3, ← hw2]; exact ((((B0.alloc _).alloc _).alloc _).alloc _).alloc _
  have A1 : Boxed w6 (w.heap.size + 1) 25 (.int .i64 0) := by rw [← hw6, ← hw5, ← hw4, ← hw3, ← z1]; exact (((B1.alloc _).alloc _).alloc _).alloc _
  have A2 : Boxed w6 (w.heap.size + 2) 22 (.slice none 0 0) := by rw [← hw6, ← hw5, ← hw4, ← z2]; exact ((B2.alloc _).alloc _).alloc _
  have A3 : Boxed w6 (w.heap.size + 3) 9 (.string (bs s)) := by rw [← hw6, ← hw5, ← z3]; exact (B3.alloc _).alloc _
  have A4 : Boxed w6 (w.heap.size + 4) 9 (.string ⟨#[44]⟩) := by rw [← hw6, ← z4]; exact B4.alloc _
  have A5 : Boxed w6 (w.heap.size + 5) 3 (.int .i64 0) := by rw [← z5]; exact B5
  have bel6 : Below w.heap.size w w6 := by
    rw [← hw6, ← hw5, ← hw4, ← hw3, ← hw2, ← hw1]
    exact ((((((Below.refl _ w).alloc (Nat.le_refl _) _).alloc (by simp only [World.size_alloc]; omega) _).alloc (by simp only [World.size_alloc]; omega) _).alloc (by simp only [World.size_alloc]; omega) _).alloc (by simp only [World.size_alloc]; omega) _).alloc (by simp only [World.size_alloc]; omega) _
  clear hw1 hw2 hw3 hw4 hw5 hw6 B0 B1 B2 B3 B4 B5
  have hcount := splitC_count 44 s
  refine range_box (gf := 58) (lb := #[.pointer (some ⟨w.heap.size + 4, 0, none⟩), .pointer (some ⟨w.heap.size + 3, 0, none⟩), .pointer (some ⟨w.heap.size + 5, 0, none⟩)]) rfl (enters_of (fn := Tryd.f58) (by kernel_rfl) (by kernel_rfl))
    (encs := fun x : List UInt8 => #[Value.string (bs x)]) (fun _ => rfl) (sp_gives (w.heap.size + 4) (w.heap.size + 3) (w.heap.size + 5) s w6 A4 A3 A5 (by omega) (by omega) hs)
    (fun A B k o hk ho hx => by obtain ⟨u, v, _, rfl⟩ := hx; exact (Below.heap_setCell _ _ _ k (by show k ≠ w.heap.size + 3; omega)).trans ho) (fun h k => ⟨k.1.trans h.1, k.2.1.trans h.2.1, k.2.2.trans h.2.2⟩)
    (fun A l o hl => ⟨World.putObj_heap_other (by omega), World.putObj_heap_other (by omega), World.putObj_heap_other (by omega)⟩)
    (pI w.heap.size w) (pX w.heap.size w) (pI_own rfl (by omega)) (pX_own rfl (by omega)) (fun pre A B h hx => pI_step pre A B h hx)
    ⟨rfl, ⟨_, A2, World.ownsRow_nil _ _ _ _⟩, A0, A1, ⟨_, A3⟩, ⟨_, A4⟩, ⟨_, A5⟩, bel6⟩
    (fun x => { tmps := #[.string (bs s), undef, .pointer (some ⟨w.heap.size, 0, none⟩), .pointer (some ⟨w.heap.size + 1, 0, none⟩), .pointer (some ⟨w.heap.size + 1 + 1, 0, none⟩), .string (bs x), undef, undef, undef, undef, undef, undef, undef, .string (bs s), .func (.func 58) #[] #[.pointer (some ⟨w.heap.size + 1 + 1 + 1 + 1, 0, none⟩), .pointer (some ⟨w.heap.size + 1 + 1 + 1, 0, none⟩), .pointer (some ⟨w.heap.size + 1 + 1 + 1 + 2, 0, none⟩)], .string (bs x), undef, undef, undef, undef, undef, undef, undef, undef, undef, undef, undef, undef, undef, undef, undef, undef, undef, undef, undef, undef, undef, undef, undef, undef, undef, undef, undef, undef, undef, undef, undef, undef, undef, undef, undef], defers := [] }) ?assign ?body ?done ?stop
  case assign =>
    intro l x W K hK
    gi_wp2
    exact hK
  case body =>
    rintro l pre x W ⟨hok, ⟨v, hv, hrow⟩, hr2, hr3, ⟨u3, hb3⟩, ⟨u4, hb4⟩, ⟨u5, hb5⟩, hB⟩ hpre
    have hx : x ∈ splitC 44 s := hpre.subset (by simp)
    have hxl := splitC_len 44 s x hx
    have hpl : pre.length + 1 ≤ (splitC 44 s).length := by have := hpre.length_le; simpa using this
    have hcl := cutC_len 58 x
    have hcut := cut58_calls (known_below hK hB) hG (objs_below hO hB) x (by omega)
    have hlA : (wA x).length ≤ 4294967280 := by unfold wA; omega
    have hlB : (wB x).length ≤ 4294967280 := by unfold wB; cases (cutC 58 x).2.2 <;> simp <;> omega
    have hA := fun (V : World) (h : Below w.heap.size w V) => end_calls (known_below hK h) hG (objs_below hO h) (wA x) hlA
    have hBc := fun (V : World) (h : Below w.heap.size w V) => end_calls (known_below hK h) hG (objs_below hO h) (wB x) hlB
    obtain ⟨i0, hi, hz0, hz1, hz2⟩ := info_parts infoSp
    clear hcl hxl hx
    cases h2 : (cutC 58 x).2.2 with
    | false =>
      have eB : wB x = wA x := by unfold wB wA; rw [h2]; rfl
      rw [h2] at hcut
      rw [eB] at hBc
      clear h2
      cases ha : endB (wA x) with
      | false =>
        rw [ha] at hA
        rw [ha] at hBc
        gi_wp2_with (first
          | (refine ⟨trivial, rfl, ?_⟩; gi_at_call 32; refine (CallsIn.inRound l (callsIn_wide.2 hcut)).mono ?_; rintro e V1 ⟨rfl, n1, rfl⟩; have p1 := hB.trans (below_drewN w.heap.size W n1); have q1 := below_drewN W.heap.size W n1; clear hcut)
          | (refine ⟨trivial, rfl, ?_⟩; gi_at_call 33; refine (CallsIn.inRound l (callsIn_wide.2 (hA _ p1))).mono ?_; rintro e V2 ⟨rfl, g2⟩; have p2 := p1.trans (g2.mono (Nat.le_trans hB.size q1.size)); have q2 := q1.trans (g2.mono q1.size); clear hA)
          | (refine ⟨trivial, rfl, ?_⟩; gi_at_call 33; refine (CallsIn.inRound l (callsIn_wide.2 (hBc _ p2))).mono ?_; rintro e V3 ⟨rfl, g3⟩; have p3 := p2.trans (g3.mono (Nat.le_trans hB.size q2.size)); have q3 := q2.trans (g3.mono q2.size); have v3 := boxed_same hv (q3.block _ hv.lt); have r3 := row_below q3 hrow; have x0 := boxed_same hr2 (q3.block _ hr2.lt); have x1 := boxed_same hr3 (q3.block _ hr3.lt); have x3 := boxed_same hb3 (q3.block _ hb3.lt); have x4 := boxed_same hb4 (q3.block _ hb4.lt); have x5 := boxed_same hb5 (q3.block _ hb5.lt); have k0 := v3.cell; have k1 := x0.cell; have k2 := x1.cell; have k3 := x0.frozen; have k4 := x1.frozen)
          | (gi_at_builtin; refine wpListIn_append_own _ rfl _ _ 22 rfl w.heap.size 44 i0 (.agg #[.int .u32 0, .int .u32 0]) 2 8 Tryd.underlying22 hi hz0 hz1 hz2 rfl (by decide) _ _ _ rfl (r3.alloc _) ⟨V3.heap.size, 0, none⟩ 1 1 [.int .u32 (endV (wA x)), .int .u32 (endV (wB x))] rfl rfl (cell_two_new _ _ _ _) (by simp [Value.oneCell']) (by unfold maxLen; omega) (by omega) (by have := p3.size; simp; omega) ?_; intro v' w7 hown' hgrow _; obtain ⟨g', cap', rfl⟩ := ownsRow_succ hown'; obtain ⟨y1, y2, y3, y4, y5⟩ := v3.appended (by decide) r3 p3.size (by omega) hown' hgrow; have k5 := y1.cell; have k6 := y1.frozen))
        exact ⟨(others_below q3).trans ((KeepsOthers.setCell _ _ _).trans (KeepsOthers.setCell _ _ _)), by rw [List.all_append]; simp [okW, ha], boxed_other (x0.set _) (show w.heap.size ≠ w.heap.size + 1 by omega), (boxed_other x1 (show w.heap.size + 1 ≠ w.heap.size by omega)).set _,
          (p3.setCell (p := ⟨w.heap.size, 0, none⟩) (Nat.le_refl _) _).setCell (p := ⟨w.heap.size + 1, 0, none⟩) (by simp) _⟩
      | true =>
        rw [ha] at hA
        rw [ha] at hBc
        have hb : endB (wB x) = true := by rw [eB]; exact ha
        gi_wp2_with (first
          | (refine ⟨trivial, rfl, ?_⟩; gi_at_call 32; refine (CallsIn.inRound l (callsIn_wide.2 hcut)).mono ?_; rintro e V1 ⟨rfl, n1, rfl⟩; have p1 := hB.trans (below_drewN w.heap.size W n1); have q1 := below_drewN W.heap.size W n1; clear hcut)
          | (refine ⟨trivial, rfl, ?_⟩; gi_at_call 33; refine (CallsIn.inRound l (callsIn_wide.2 (hA _ p1))).mono ?_; rintro e V2 ⟨rfl, g2⟩; have p2 := p1.trans (g2.mono (Nat.le_trans hB.size q1.size)); have q2 := q1.trans (g2.mono q1.size); clear hA)
          | (refine ⟨trivial, rfl, ?_⟩; gi_at_call 33; refine (CallsIn.inRound l (callsIn_wide.2 (hBc _ p2))).mono ?_; rintro e V3 ⟨rfl, g3⟩; have p3 := p2.trans (g3.mono (Nat.le_trans hB.size q2.size)); have q3 := q2.trans (g3.mono q2.size); have v3 := boxed_same hv (q3.block _ hv.lt); have r3 := row_below q3 hrow; have x0 := boxed_same hr2 (q3.block _ hr2.lt); have x1 := boxed_same hr3 (q3.block _ hr3.lt); have x3 := boxed_same hb3 (q3.block _ hb3.lt); have x4 := boxed_same hb4 (q3.block _ hb4.lt); have x5 := boxed_same hb5 (q3.block _ hb5.lt); have k0 := v3.cell; have k1 := x0.cell; have k2 := x1.cell; have k3 := x0.frozen; have k4 := x1.frozen)
          | (gi_at_builtin; refine wpListIn_append_own _ rfl _ _ 22 rfl w.heap.size 44 i0 (.agg #[.int .u32 0, .int .u32 0]) 2 8 Tryd.underlying22 hi hz0 hz1 hz2 rfl (by decide) _ _ _ rfl (r3.alloc _) ⟨V3.heap.size, 0, none⟩ 1 1 [.int .u32 (endV (wA x)), .int .u32 (endV (wA x))] rfl rfl (cell_two_new _ _ _ _) (by simp [Value.oneCell']) (by unfold maxLen; omega) (by omega) (by have := p3.size; simp; omega) ?_; intro v' w7 hown' hgrow _; obtain ⟨g', cap', rfl⟩ := ownsRow_succ hown'; obtain ⟨y1, y2, y3, y4, y5⟩ := v3.appended (by decide) r3 p3.size (by omega) hown' hgrow; have k5 := y1.cell; have k6 := y1.frozen))
        have kb : ∀ {k : Nat} {t : TypeId} {u : Value}, Boxed V3 k t u → t ≠ 44 → k ≠ w.heap.size + 2 → Boxed (w7.setCell ⟨w.heap.size + 2, 0, none⟩ (.slice (some ⟨g', 0, none⟩) (pre.length + 1) cap')) k t u := fun h ht hne => boxed_other ((h.alloc _).kept hgrow (h.not_row ht r3)) hne
        exact ⟨(others_below q3).trans y4, ⟨Eq.trans (kb x4 (by decide) (by omega)) (Eq.symm hb4), Eq.trans (kb x3 (by decide) (by omega)) (Eq.symm hb3), Eq.trans (kb x5 (by decide) (by omega)) (Eq.symm hb5)⟩,
          by rw [List.all_append, hok]; simp [okW, ha, hb], ⟨_, y2, by rw [List.length_append, List.map_append]; simpa [cellsSp, spW, eB] using y3⟩, kb x0 (by decide) (by omega), kb x1 (by decide) (by omega), ⟨_, kb x3 (by decide) (by omega)⟩, ⟨_, kb x4 (by decide) (by omega)⟩, ⟨_, kb x5 (by decide) (by omega)⟩, p3.trans y5⟩
    | true =>
      have eB : (cutC 58 x).2.1 = wB x := by unfold wB; rw [h2]; rfl
      rw [h2, eB] at hcut
      clear h2
      cases ha : endB (wA x) with
      | false =>
        rw [ha] at hA
        gi_wp2_with (first
          | (refine ⟨trivial, rfl, ?_⟩; gi_at_call 32; refine (CallsIn.inRound l (callsIn_wide.2 hcut)).mono ?_; rintro e V1 ⟨rfl, n1, rfl⟩; have p1 := hB.trans (below_drewN w.heap.size W n1); have q1 := below_drewN W.heap.size W n1; clear hcut)
          | (refine ⟨trivial, rfl, ?_⟩; gi_at_call 33; refine (CallsIn.inRound l (callsIn_wide.2 (hA _ p1))).mono ?_; rintro e V2 ⟨rfl, g2⟩; have p2 := p1.trans (g2.mono (Nat.le_trans hB.size q1.size)); have q2 := q1.trans (g2.mono q1.size); clear hA)
          | (refine ⟨trivial, rfl, ?_⟩; gi_at_call 33; refine (CallsIn.inRound l (callsIn_wide.2 (hBc _ p2))).mono ?_; rintro e V3 ⟨rfl, g3⟩; have p3 := p2.trans (g3.mono (Nat.le_trans hB.size q2.size)); have q3 := q2.trans (g3.mono q2.size); have v3 := boxed_same hv (q3.block _ hv.lt); have r3 := row_below q3 hrow; have x0 := boxed_same hr2 (q3.block _ hr2.lt); have x1 := boxed_same hr3 (q3.block _ hr3.lt); have x3 := boxed_same hb3 (q3.block _ hb3.lt); have x4 := boxed_same hb4 (q3.block _ hb4.lt); have x5 := boxed_same hb5 (q3.block _ hb5.lt); have k0 := v3.cell; have k1 := x0.cell; have k2 := x1.cell; have k3 := x0.frozen; have k4 := x1.frozen)
          | (gi_at_builtin; refine wpListIn_append_own _ rfl _ _ 22 rfl w.heap.size 44 i0 (.agg #[.int .u32 0, .int .u32 0]) 2 8 Tryd.underlying22 hi hz0 hz1 hz2 rfl (by decide) _ _ _ rfl (r3.alloc _) ⟨V3.heap.size, 0, none⟩ 1 1 [.int .u32 (endV (wA x)), .int .u32 (endV (wB x))] rfl rfl (cell_two_new _ _ _ _) (by simp [Value.oneCell']) (by unfold maxLen; omega) (by omega) (by have := p3.size; simp; omega) ?_; intro v' w7 hown' hgrow _; obtain ⟨g', cap', rfl⟩ := ownsRow_succ hown'; obtain ⟨y1, y2, y3, y4, y5⟩ := v3.appended (by decide) r3 p3.size (by omega) hown' hgrow; have k5 := y1.cell; have k6 := y1.frozen))
        exact ⟨(others_below q3).trans ((KeepsOthers.setCell _ _ _).trans (KeepsOthers.setCell _ _ _)), by rw [List.all_append]; simp [okW, ha], boxed_other (x0.set _) (show w.heap.size ≠ w.heap.size + 1 by omega), (boxed_other x1 (show w.heap.size + 1 ≠ w.heap.size by omega)).set _,
          (p3.setCell (p := ⟨w.heap.size, 0, none⟩) (Nat.le_refl _) _).setCell (p := ⟨w.heap.size + 1, 0, none⟩) (by simp) _⟩
      | true =>
        rw [ha] at hA
        cases hb : endB (wB x) with
        | false =>
          rw [hb] at hBc
          gi_wp2_with (first
            | (refine ⟨trivial, rfl, ?_⟩; gi_at_call 32; refine (CallsIn.inRound l (callsIn_wide.2 hcut)).mono ?_; rintro e V1 ⟨rfl, n1, rfl⟩; have p1 := hB.trans (below_drewN w.heap.size W n1); have q1 := below_drewN W.heap.size W n1; clear hcut)
            | (refine ⟨trivial, rfl, ?_⟩; gi_at_call 33; refine (CallsIn.inRound l (callsIn_wide.2 (hA _ p1))).mono ?_; rintro e V2 ⟨rfl, g2⟩; have p2 := p1.trans (g2.mono (Nat.le_trans hB.size q1.size)); have q2 := q1.trans (g2.mono q1.size); clear hA)
            | (refine ⟨trivial, rfl, ?_⟩; gi_at_call 33; refine (CallsIn.inRound l (callsIn_wide.2 (hBc _ p2))).mono ?_; rintro e V3 ⟨rfl, g3⟩; have p3 := p2.trans (g3.mono (Nat.le_trans hB.size q2.size)); have q3 := q2.trans (g3.mono q2.size); have v3 := boxed_same hv (q3.block _ hv.lt); have r3 := row_below q3 hrow; have x0 := boxed_same hr2 (q3.block _ hr2.lt); have x1 := boxed_same hr3 (q3.block _ hr3.lt); have x3 := boxed_same hb3 (q3.block _ hb3.lt); have x4 := boxed_same hb4 (q3.block _ hb4.lt); have x5 := boxed_same hb5 (q3.block _ hb5.lt); have k0 := v3.cell; have k1 := x0.cell; have k2 := x1.cell; have k3 := x0.frozen; have k4 := x1.frozen)
            | (gi_at_builtin; refine wpListIn_append_own _ rfl _ _ 22 rfl w.heap.size 44 i0 (.agg #[.int .u32 0, .int .u32 0]) 2 8 Tryd.underlying22 hi hz0 hz1 hz2 rfl (by decide) _ _ _ rfl (r3.alloc _) ⟨V3.heap.size, 0, none⟩ 1 1 [.int .u32 (endV (wA x)), .int .u32 (endV (wB x))] rfl rfl (cell_two_new _ _ _ _) (by simp [Value.oneCell']) (by unfold maxLen; omega) (by omega) (by have := p3.size; simp; omega) ?_; intro v' w7 hown' hgrow _; obtain ⟨g', cap', rfl⟩ := ownsRow_succ hown'; obtain ⟨y1, y2, y3, y4, y5⟩ := v3.appended (by decide) r3 p3.size (by omega) hown' hgrow; have k5 := y1.cell; have k6 := y1.frozen))
          exact ⟨(others_below q3).trans ((KeepsOthers.setCell _ _ _).trans (KeepsOthers.setCell _ _ _)), by rw [List.all_append]; simp [okW, hb], boxed_other (x0.set _) (show w.heap.size ≠ w.heap.size + 1 by omega), (boxed_other x1 (show w.heap.size + 1 ≠ w.heap.size by omega)).set _,
            (p3.setCell (p := ⟨w.heap.size, 0, none⟩) (Nat.le_refl _) _).setCell (p := ⟨w.heap.size + 1, 0, none⟩) (by simp) _⟩
        | true =>
          rw [hb] at hBc
          gi_wp2_with (first
            | (refine ⟨trivial, rfl, ?_⟩; gi_at_call 32; refine (CallsIn.inRound l (callsIn_wide.2 hcut)).mono ?_; rintro e V1 ⟨rfl, n1, rfl⟩; have p1 := hB.trans (below_drewN w.heap.size W n1); have q1 := below_drewN W.heap.size W n1; clear hcut)
            | (refine ⟨trivial, rfl, ?_⟩; gi_at_call 33; refine (CallsIn.inRound l (callsIn_wide.2 (hA _ p1))).mono ?_; rintro e V2 ⟨rfl, g2⟩; have p2 := p1.trans (g2.mono (Nat.le_trans hB.size q1.size)); have q2 := q1.trans (g2.mono q1.size); clear hA)
            | (refine ⟨trivial, rfl, ?_⟩; gi_at_call 33; refine (CallsIn.inRound l (callsIn_wide.2 (hBc _ p2))).mono ?_; rintro e V3 ⟨rfl, g3⟩; have p3 := p2.trans (g3.mono (Nat.le_trans hB.size q2.size)); have q3 := q2.trans (g3.mono q2.size); have v3 := boxed_same hv (q3.block _ hv.lt); have r3 := row_below q3 hrow; have x0 := boxed_same hr2 (q3.block _ hr2.lt); have x1 := boxed_same hr3 (q3.block _ hr3.lt); have x3 := boxed_same hb3 (q3.block _ hb3.lt); have x4 := boxed_same hb4 (q3.block _ hb4.lt); have x5 := boxed_same hb5 (q3.block _ hb5.lt); have k0 := v3.cell; have k1 := x0.cell; have k2 := x1.cell; have k3 := x0.frozen; have k4 := x1.frozen)
            | (gi_at_builtin; refine wpListIn_append_own _ rfl _ _ 22 rfl w.heap.size 44 i0 (.agg #[.int .u32 0, .int .u32 0]) 2 8 Tryd.underlying22 hi hz0 hz1 hz2 rfl (by decide) _ _ _ rfl (r3.alloc _) ⟨V3.heap.size, 0, none⟩ 1 1 [.int .u32 (endV (wA x)), .int .u32 (endV (wB x))] rfl rfl (cell_two_new _ _ _ _) (by simp [Value.oneCell']) (by unfold maxLen; omega) (by omega) (by have := p3.size; simp; omega) ?_; intro v' w7 hown' hgrow _; obtain ⟨g', cap', rfl⟩ := ownsRow_succ hown'; obtain ⟨y1, y2, y3, y4, y5⟩ := v3.appended (by decide) r3 p3.size (by omega) hown' hgrow; have k5 := y1.cell; have k6 := y1.frozen))
          have kb : ∀ {k : Nat} {t : TypeId} {u : Value}, Boxed V3 k t u → t ≠ 44 → k ≠ w.heap.size + 2 → Boxed (w7.setCell ⟨w.heap.size + 2, 0, none⟩ (.slice (some ⟨g', 0, none⟩) (pre.length + 1) cap')) k t u := fun h ht hne => boxed_other ((h.alloc _).kept hgrow (h.not_row ht r3)) hne
          exact ⟨(others_below q3).trans y4, ⟨Eq.trans (kb x4 (by decide) (by omega)) (Eq.symm hb4), Eq.trans (kb x3 (by decide) (by omega)) (Eq.symm hb3), Eq.trans (kb x5 (by decide) (by omega)) (Eq.symm hb5)⟩,
            by rw [List.all_append, hok]; simp [okW, ha, hb], ⟨_, y2, by rw [List.length_append, List.map_append]; simpa [cellsSp, spW] using y3⟩, kb x0 (by decide) (by omega), kb x1 (by decide) (by omega), ⟨_, kb x3 (by decide) (by omega)⟩, ⟨_, kb x4 (by decide) (by omega)⟩, ⟨_, kb x5 (by decide) (by omega)⟩, p3.trans y5⟩
  case done =>
    rintro D W hD ⟨hok, ⟨v, hv, hrow⟩, hr2, hr3, -, -, -, hB⟩ hKd
    have c4 := hv.cell
    have c2 := hr2.cell
    have c3 := hr3.cell
    have f2 := hr2.frozen
    have f3 := hr3.frozen
    obtain ⟨k, hk⟩ : ∃ k, (splitC 44 s).length = k + 1 := ⟨(splitC 44 s).length - 1, by have := splitC_ne 44 s; cases h : splitC 44 s with | nil => exact absurd h this | cons a b => simp⟩
    rw [hk] at hrow
    obtain ⟨g, cap, rfl⟩ := ownsRow_succ hrow
    have hl : ∀ A : World, A.heap[D]? = some (.deferred (some [])) → ∀ {k : Nat} {t : TypeId} {v : Value}, k < D → Boxed A k t v → Boxed (A.putObj D (.deferred none)) k t v := fun A _ k t v hk h => h.kept (grownBy_putObj' _ D _) (by simp; omega)
    by_cases hbig : 1024 < (splitC 44 s).length
    · have hbig' : ((k : Int) + 1 ≤ 1024) = False := by simp; omega
      gi_wp2
      have hK2 := ((KeepsOthers.setCell W ⟨w.heap.size, 0, none⟩ (.slice none 0 0)).trans (KeepsOthers.setCell _ ⟨w.heap.size + 1, 0, none⟩ (.int .i64 15))).same D _ hKd rfl
      refine ⟨by simp, .inl ⟨_, _, rfl, run_takeDeferred hK2, ?_⟩⟩
      have e2 := (hl _ hK2 (by omega) (boxed_other (hr2.set (.slice none 0 0)) (show w.heap.size ≠ w.heap.size + 1 by omega))).cell
      have e3 := (hl _ hK2 (by omega) ((boxed_other (u := .slice none 0 0) hr3 (show w.heap.size + 1 ≠ w.heap.size by omega)).set (.int .i64 15))).cell
      refine ⟨.tuple #[.slice none 0 0, .int .i64 15], ?_, ((hB.setCell (p := ⟨w.heap.size, 0, none⟩) (Nat.le_refl _) _).setCell (p := ⟨w.heap.size + 1, 0, none⟩) (by simp) _).trans (belowK_b (w := w) (Nat.le_refl _) _ D _ _ (by omega) hK2 rfl rfl), .inr (.inl ⟨hok, hbig, rfl⟩)⟩
      simp [results, Tryd.f21, go_sem, e2, e3]
    · have hbig' : ((k : Int) + 1 ≤ 1024) = True := by simp; omega
      gi_wp2
      have hK2 := ((KeepsOthers.setCell W ⟨w.heap.size, 0, none⟩ (.slice (some ⟨g, 0, none⟩) (k + 1) cap)).trans (KeepsOthers.setCell _ ⟨w.heap.size + 1, 0, none⟩ (.int .i64 0))).same D _ hKd rfl
      refine ⟨by simp, .inl ⟨_, _, rfl, run_takeDeferred hK2, ?_⟩⟩
      have e2 := (hl _ hK2 (by omega) (boxed_other (hr2.set (.slice (some ⟨g, 0, none⟩) (k + 1) cap)) (show w.heap.size ≠ w.heap.size + 1 by omega))).cell
      have e3 := (hl _ hK2 (by omega) ((boxed_other (u := .slice (some ⟨g, 0, none⟩) (k + 1) cap) hr3 (show w.heap.size + 1 ≠ w.heap.size by omega)).set (.int .i64 0))).cell
      have r1 := hrow.kept (grownBy_setCell' W w.heap.size (.slice (some ⟨g, 0, none⟩) (k + 1) cap)) (.inr (hr2.not_row (by decide) hrow).symm)
      have r2 := r1.kept (grownBy_setCell' _ (w.heap.size + 1) (.int .i64 0)) (.inr ((boxed_other (u := .slice (some ⟨g, 0, none⟩) (k + 1) cap) hr3 (show w.heap.size + 1 ≠ w.heap.size by omega)).not_row (by decide) r1).symm)
      refine ⟨.tuple #[.slice (some ⟨g, 0, none⟩) (k + 1) cap, .int .i64 0], ?_, ((hB.setCell (p := ⟨w.heap.size, 0, none⟩) (Nat.le_refl _) _).setCell (p := ⟨w.heap.size + 1, 0, none⟩) (by simp) _).trans (belowK_b (w := w) (Nat.le_refl _) _ D _ _ (by omega) hK2 rfl rfl), .inr (.inr ⟨hok, by omega, _, rfl, by rw [hk]; exact ownsRow_putObj r2 _ hK2 rfl⟩)⟩
      simp [results, Tryd.f21, go_sem, e2, e3]
  case stop =>
    rintro D pre W hD hpre ⟨hbad, hr2, hr3, hB⟩ hKd
    gi_wp2
    refine ⟨by simp, .inl ⟨_, _, rfl, run_takeDeferred hKd, ?_⟩⟩
    have e2 := (hr2.kept (grownBy_putObj' _ D (.deferred none)) (by simp; omega)).cell
    have e3 := (hr3.kept (grownBy_putObj' _ D (.deferred none)) (by simp; omega)).cell
    refine ⟨.tuple #[.slice none 0 0, .int .i64 7], ?_, hB.trans (belowK_b (w := w) (Nat.le_refl _) _ D _ _ (by omega) hKd rfl rfl), .inl ⟨?_, rfl⟩⟩
    · simp [results, Tryd.f21, go_sem, e2, e3]
    · obtain ⟨more, hm⟩ := hpre
      rw [← hm, List.all_append, hbad]
      rfl
end Go.Proofs.YtbpmfaghjlmjmaaDoor.Ev
