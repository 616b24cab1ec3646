/- strings.Builder: its methods, as what they do with one's own places. Condition: what is laid of the library. -/
import Derived.Test.YtnidaonmigjgkaaDoorEvLoop
import Derived.Shelf.Strings.BuilderK
set_option linter.unusedVariables false
set_option linter.unusedSimpArgs false
namespace Go.Proofs.YtnidaonmigjgkaaDoor.Ev
open Go Go.Shelf Go.RowKit Go.Proofs
variable {P : Program} {ρ : Ren}

set_option maxHeartbeats 2000000 in
set_option maxRecDepth 100000 in
theorem say_some (L : Lays.n169 P ρ) (X : Builder.Extra P ρ) (b g cap : Nat) (p : Value) (cur : Array Value) (l : List UInt8) (w : World) (h0 : l ≠ []) (hbk : w.heap[b]? = some (.cells #[p, .slice (some ⟨g, 0, none⟩) l.length cap] (ρ.t 72) (0, 0)))
    (hg : w.heap[g]? = some (.cells cur (ρ.t 5) (0, 0))) (hnc : l.length ≤ cap) (hcm : cap ≤ maxLen) (hcs : cur.size = cap) (hc : ∀ (j : Nat) (x : UInt8), l[j]? = some x → w.cell? ⟨g, j, none⟩ = some (.int .u8 x.toNat)) :
    Calls P (ρ.f 169) #[.pointer (some ⟨b, 0, none⟩)] w fun e w' => e = .returned (.string ⟨l.toArray⟩) ∧ w' = w.drew.freeze ⟨g, 0, none⟩ l.length := by
  have hl0 : l.length ≠ 0 := by simpa using h0
  have c1 : w.drew.cell? ⟨b, 1, none⟩ = some (.slice (some ⟨g, 0, none⟩) l.length cap) := by
    have : w.drew.heap[b]? = some (.cells #[p, .slice (some ⟨g, 0, none⟩) l.length cap] (ρ.t 72) (0, 0)) := hbk
    rw [Lib.cell_of_heap this]; rfl
  have hSD : (Builtin.unsafeSliceData_ #[(ρ.t 37)] (ρ.t 127) #[.slice (some ⟨g, 0, none⟩) l.length cap]).run P w.drew = .ok (.pointer (some ⟨g, 0, none⟩)) w.drew :=
    Lib.run_unsafeSliceData_row _ _ _ _ _ _ (by omega)
  have hUS : (Builtin.unsafeString_ #[(ρ.t 127), (ρ.t 3)] (ρ.t 9) #[.pointer (some ⟨g, 0, none⟩), .int .i64 l.length]).run P w.drew = .ok (.string ⟨l.toArray⟩) (w.drew.freeze ⟨g, 0, none⟩ l.length) := by
    refine Lib.run_unsafeString_row w.drew (ρ.t 127) (ρ.t 3) (ρ.t 9) (ρ.t 5) L.t127 X.cellsByte g cur.size (by have hg' : w.drew.heap[g]? = some (.cells cur (ρ.t 5) (0, 0)) := hg; simp [World.shape?, hg']) l h0 (by omega) (by unfold maxLen at hcm; omega) ?_
    intro j x hx
    rw [addr_add, Nat.zero_add]
    exact hc j x hx
  have mixed := L.mixed
  have t72 := L.t72; have a72 := L.a72; have z72 := L.z72; have v72 := L.v72; have u72 := run_underlying L.t72
  have t70 := L.t70; have a70 := L.a70; have z70 := L.z70; have v70 := L.v70; have u70 := run_underlying L.t70
  have t37 := L.t37; have a37 := L.a37; have z37 := L.z37; have v37 := L.v37; have u37 := run_underlying L.t37
  have t127 := L.t127; have a127 := L.a127; have z127 := L.z127; have v127 := L.v127; have u127 := run_underlying L.t127
  have t3 := L.t3; have a3 := L.a3; have z3 := L.z3; have v3 := L.v3; have u3 := run_underlying L.t3
  have t9 := L.t9; have a9 := L.a9; have z9 := L.z9; have v9 := L.v9; have u9 := run_underlying L.t9
  have t5 := X.t5; have a5 := X.a5; have z5 := X.z5; have v5 := X.v5; have u5 := run_underlying X.t5
  go_enter L.f169, Body.n169_ntmps ρ
  go_wp2
  go_region_o
  all_goals (go_wp2; go_ret; exact ⟨rfl, rfl⟩)
set_option maxHeartbeats 2000000 in
set_option maxRecDepth 100000 in
theorem say_nil (L : Lays.n169 P ρ) (X : Builder.Extra P ρ) (b : Nat) (p : Value) (w : World) (hbk : w.heap[b]? = some (.cells #[p, .slice none 0 0] (ρ.t 72) (0, 0))) :
    Calls P (ρ.f 169) #[.pointer (some ⟨b, 0, none⟩)] w fun e w' => e = .returned (.string .empty) ∧ Keeps (· < w.heap.size) w w' := by
  have hUS := Any.unsafeString_none L X
  have c1 : w.drew.cell? ⟨b, 1, none⟩ = some (.slice none 0 0) := by
    have : w.drew.heap[b]? = some (.cells #[p, .slice none 0 0] (ρ.t 72) (0, 0)) := hbk
    rw [Lib.cell_of_heap this]; rfl
  have hSD : (Builtin.unsafeSliceData_ #[(ρ.t 37)] (ρ.t 127) #[.slice none 0 0]).run P w.drew = .ok (.pointer none) w.drew := rfl
  have mixed := L.mixed
  have t72 := L.t72; have a72 := L.a72; have z72 := L.z72; have v72 := L.v72; have u72 := run_underlying L.t72
  have t70 := L.t70; have a70 := L.a70; have z70 := L.z70; have v70 := L.v70; have u70 := run_underlying L.t70
  have t37 := L.t37; have a37 := L.a37; have z37 := L.z37; have v37 := L.v37; have u37 := run_underlying L.t37
  have t127 := L.t127; have a127 := L.a127; have z127 := L.z127; have v127 := L.v127; have u127 := run_underlying L.t127
  have t3 := L.t3; have a3 := L.a3; have z3 := L.z3; have v3 := L.v3; have u3 := run_underlying L.t3
  have t9 := L.t9; have a9 := L.a9; have z9 := L.z9; have v9 := L.v9; have u9 := run_underlying L.t9
  have t5 := X.t5; have a5 := X.a5; have z5 := X.z5; have v5 := X.v5; have u5 := run_underlying X.t5
  go_enter L.f169, Body.n169_ntmps ρ
  go_wp2
  go_region_o
  all_goals (go_wp2; go_ret; exact ⟨rfl, ⟨rfl, rfl, rfl, Nat.le_refl _, fun _ _ => rfl⟩⟩)
set_option maxHeartbeats 2000000 in
set_option maxRecDepth 100000 in
theorem say_noroom (L : Lays.n169 P ρ) (X : Builder.Extra P ρ) (b g : Nat) (p : Value) (cur : Array Value) (w : World) (hbk : w.heap[b]? = some (.cells #[p, .slice (some ⟨g, 0, none⟩) 0 0] (ρ.t 72) (0, 0))) (hg : w.heap[g]? = some (.cells cur (ρ.t 5) (0, 0))) :
    Calls P (ρ.f 169) #[.pointer (some ⟨b, 0, none⟩)] w fun e w' => e = .returned (.string .empty) ∧ Keeps (· < w.heap.size) w w' := by
  have hUS := Any.unsafeString_none L X
  have hlt : b < w.heap.size := by
    rcases Nat.lt_or_ge b w.heap.size with h' | h'
    · exact h'
    · simp [Array.getElem?_eq_none h'] at hbk
  have c1 : w.drew.cell? ⟨b, 1, none⟩ = some (.slice (some ⟨g, 0, none⟩) 0 0) := by
    have : w.drew.heap[b]? = some (.cells #[p, .slice (some ⟨g, 0, none⟩) 0 0] (ρ.t 72) (0, 0)) := hbk
    rw [Lib.cell_of_heap this]; rfl
  have hSD : (Builtin.unsafeSliceData_ #[(ρ.t 37)] (ρ.t 127) #[.slice (some ⟨g, 0, none⟩) 0 0]).run P w.drew = .ok (.pointer (some ⟨w.drew.heap.size, 0, none⟩)) (w.drew.alloc (.view ⟨g, 0, none⟩ (ρ.t 5))) :=
    Lib.run_unsafeSliceData_zero w.drew _ _ (ρ.t 5) L.t127 ⟨g, 0, none⟩ 0 ((ρ.t 5), cur.size) (by have hg' : w.drew.heap[g]? = some (.cells cur (ρ.t 5) (0, 0)) := hg; simp [World.shape?, hg'])
  have c2 : (w.drew.alloc (.view ⟨g, 0, none⟩ (ρ.t 5))).cell? ⟨b, 1, none⟩ = some (.slice (some ⟨g, 0, none⟩) 0 0) := by
    have : (w.drew.alloc (.view ⟨g, 0, none⟩ (ρ.t 5))).heap[b]? = _ := (Lib.alloc_old w.drew _ b hlt).trans hbk
    rw [Lib.cell_of_heap this]; rfl
  have c3 : (w.alloc (.view ⟨g, 0, none⟩ (ρ.t 5))).drew.cell? ⟨b, 1, none⟩ = some (.slice (some ⟨g, 0, none⟩) 0 0) := c2
  have c0 : w.cell? ⟨b, 1, none⟩ = some (.slice (some ⟨g, 0, none⟩) 0 0) := c1
  have mixed := L.mixed
  have t72 := L.t72; have a72 := L.a72; have z72 := L.z72; have v72 := L.v72; have u72 := run_underlying L.t72
  have t70 := L.t70; have a70 := L.a70; have z70 := L.z70; have v70 := L.v70; have u70 := run_underlying L.t70
  have t37 := L.t37; have a37 := L.a37; have z37 := L.z37; have v37 := L.v37; have u37 := run_underlying L.t37
  have t127 := L.t127; have a127 := L.a127; have z127 := L.z127; have v127 := L.v127; have u127 := run_underlying L.t127
  have t3 := L.t3; have a3 := L.a3; have z3 := L.z3; have v3 := L.v3; have u3 := run_underlying L.t3
  have t9 := L.t9; have a9 := L.a9; have z9 := L.z9; have v9 := L.v9; have u9 := run_underlying L.t9
  have t5 := X.t5; have a5 := X.a5; have z5 := X.z5; have v5 := X.v5; have u5 := run_underlying X.t5
  have hk : Keeps (· < w.heap.size) w (w.drew.alloc (.view ⟨g, 0, none⟩ (ρ.t 5))) := ⟨rfl, rfl, rfl, by simp, fun k hk => heap_alloc_old w.drew _ hk⟩
  go_enter L.f169, Body.n169_ntmps ρ
  go_wp2
  go_region_o
  all_goals (go_wp2; go_ret; exact ⟨rfl, hk⟩)
set_option maxHeartbeats 2000000 in
set_option maxRecDepth 100000 in
theorem say_room (L : Lays.n169 P ρ) (X : Builder.Extra P ρ) (b g cap : Nat) (p : Value) (w : World) (hc0 : cap ≠ 0) (hbk : w.heap[b]? = some (.cells #[p, .slice (some ⟨g, 0, none⟩) 0 cap] (ρ.t 72) (0, 0))) :
    Calls P (ρ.f 169) #[.pointer (some ⟨b, 0, none⟩)] w fun e w' => e = .returned (.string .empty) ∧ Keeps (· < w.heap.size) w w' := by
  have hUS := Any.unsafeString_none L X
  have c1 : w.drew.cell? ⟨b, 1, none⟩ = some (.slice (some ⟨g, 0, none⟩) 0 cap) := by
    have : w.drew.heap[b]? = some (.cells #[p, .slice (some ⟨g, 0, none⟩) 0 cap] (ρ.t 72) (0, 0)) := hbk
    rw [Lib.cell_of_heap this]; rfl
  have hSD : (Builtin.unsafeSliceData_ #[(ρ.t 37)] (ρ.t 127) #[.slice (some ⟨g, 0, none⟩) 0 cap]).run P w.drew = .ok (.pointer (some ⟨g, 0, none⟩)) w.drew :=
    Lib.run_unsafeSliceData_row _ _ _ _ _ _ hc0
  clear hc0
  have mixed := L.mixed
  have t72 := L.t72; have a72 := L.a72; have z72 := L.z72; have v72 := L.v72; have u72 := run_underlying L.t72
  have t70 := L.t70; have a70 := L.a70; have z70 := L.z70; have v70 := L.v70; have u70 := run_underlying L.t70
  have t37 := L.t37; have a37 := L.a37; have z37 := L.z37; have v37 := L.v37; have u37 := run_underlying L.t37
  have t127 := L.t127; have a127 := L.a127; have z127 := L.z127; have v127 := L.v127; have u127 := run_underlying L.t127
  have t3 := L.t3; have a3 := L.a3; have z3 := L.z3; have v3 := L.v3; have u3 := run_underlying L.t3
  have t9 := L.t9; have a9 := L.a9; have z9 := L.z9; have v9 := L.v9; have u9 := run_underlying L.t9
  have t5 := X.t5; have a5 := X.a5; have z5 := X.z5; have v5 := X.v5; have u5 := run_underlying X.t5
  go_enter L.f169, Body.n169_ntmps ρ
  go_wp2
  go_region_o
  all_goals (go_wp2; go_ret; exact ⟨rfl, ⟨rfl, rfl, rfl, Nat.le_refl _, fun _ _ => rfl⟩⟩)

/-- a row of bytes -/
def byteOf : List PV → UInt8
  | [.lit (.int .u8 x)] => UInt8.ofNat x.toNat
  | _ => 0
def isByte : List PV → Bool
  | [.lit (.int .u8 x)] => decide (0 ≤ x) && decide (x < 256)
  | _ => false
def bytesOf (n : Nat) (f : Nat → List PV) : List UInt8 := (List.range n).map fun i => byteOf (f i)
def areBytes (n : Nat) (f : Nat → List PV) : Bool := (List.range n).all fun i => isByte (f i)
/-- (*strings.Builder).String -/
def sayG (tb tu : TypeId) (ps : List PV) (M : Mem) : Tr (PV × Mem) := match ps with
  | [.ptr id 0] => match look M.blks id with
    | some (.cells ty [_, q]) => match Nat.beq ty tb, q with
      | true, .lit (.slice none 0 0) => .leaf (.lit (.string .empty), M)
      | true, .own r => match look M.blks r with
        | some (.row e 1 n f) => match Nat.beq e tu with
          | true => .br (areBytes n f) (.leaf (.lit (.string ⟨(bytesOf n f).toArray⟩), M.del r)) .fail
          | false => .fail
        | _ => .fail
      | _, _ => .fail
    | _ => .fail
  | _ => .fail
/-- (*strings.Builder).copyCheck -/
def checkG (tb : TypeId) (ps : List PV) (M : Mem) : Tr (PV × Mem) := match ps with
  | [.ptr id 0] => match look M.blks id with
    | some (.cells ty [p, q]) => match Nat.beq ty tb, p with
      | true, .lit (.pointer none) => .leaf (.lit (.tuple #[]), ⟨setL M.blks id (.cells ty [.ptr id 0, q]), M.nid, M.glob⟩)
      | true, .ptr i 0 => match Nat.beq i id with
        | true => .leaf (.lit (.tuple #[]), M)
        | false => .fail
      | _, _ => .fail
    | _ => .fail
  | _ => .fail
/-- a place is given up, and its block turns -/
theorem MRel.loose {β : Base} {M : Mem} {m : Nat → Option Value} {w w' : World} (h : MRel β M m w) (id : Nat) (hlv : liv M.blks id = true) (v : Value) (hv : m id = some v) (hb : Keeps β.K w w') (hw : ∀ k, k < w.heap.size → blkOf v ≠ some k → w'.heap[k]? = w.heap[k]?) :
    MRel β (M.del id) m w' ∧ Ext β M m w (M.del id) m w' := by
  have he : Ext β M m w (M.del id) m w' := by
    refine ext_of (fun _ _ h => h) (fun k hk hn => hw k hk fun e => hn ⟨id, v, hlv, hv, e⟩) (fun k hk hL => ?_) rfl
    obtain ⟨i, u, hs, hm, hbu⟩ := hL
    simp only [Mem.del, liv_delL] at hs
    split at hs
    · cases hs
    · exact ⟨i, u, hs, hm, hbu⟩
  refine ⟨⟨fun i bb hi => ?_, h.fresh, fun i j u u' k hi hj hu hu' hk hk' => ?_, h.bsz, h.below.trans hb fun _ h => h, fun g cs hg => (h.glob g cs hg).mono he.cell fun _ _ h => h, h.gl, h.objs⟩, he⟩
  · simp only [Mem.del, look_delL] at hi
    by_cases hid : id = i
    · simp [hid] at hi
    · rw [if_neg hid] at hi
      refine (h.blk i bb hi).turn he hb.size fun hlvb u k hu hk => ?_
      have hli : liv M.blks i = true := by rw [liv_of hi]; exact hlvb
      exact hw k (h.livLt hli hu hk) fun e => hid (h.inj id i v u k hlv hli hv hu e hk)
  · simp only [Mem.del, liv_delL] at hi hj
    split at hi
    · cases hi
    · split at hj
      · cases hj
      · exact h.inj i j u u' k hi hj hu hu' hk hk'
theorem say_ok (L : Lays.n169 P ρ) (X : Builder.Extra P ρ) (G : GT) : FnOK P G (ρ.f 169) (sayG (ρ.t 72) (ρ.t 5)) := by
  intro β hG M m w ps args hM hlen hrep p M' hp
  unfold sayG at hp
  split at hp
  · rename_i id
    obtain ⟨a0, rfl⟩ : ∃ a0, args = #[a0] := by
      have : args.size = 1 := by simpa using hlen.symm
      exact ⟨args[0], by apply Array.ext <;> simp_all⟩
    have h0 := hrep 0 _ a0 rfl rfl
    cases h0 with
    | ptr m id off b hm =>
      split at hp
      · rename_i ty p0 q hlk
        have hbk := hM.blk id _ hlk
        cases hbk with
        | cells ty cs b' vs hm' hb hl h1 hr hB =>
          rw [hm] at hm'
          cases hm'
          obtain ⟨x0, x1, rfl⟩ : ∃ x0 x1, vs = #[x0, x1] := by
            have : vs.size = 2 := by simpa using hl.symm
            exact ⟨vs[0], vs[1], by apply Array.ext <;> simp_all; intro i hi _; match i, hi with | 0, _ => rfl | 1, _ => rfl⟩
          have hq := hr 1 _ x1 rfl rfl
          split at hp
          · rename_i hty
            have := Nat.eq_of_beq_eq_true hty
            subst this
            simp only [Tr.run, Option.some.injEq, Prod.mk.injEq] at hp
            obtain ⟨rfl, rfl⟩ := hp
            have := litOf_rep hq rfl
            subst this
            refine (say_nil L X b x0 w hb).mono ?_
            rintro e w' ⟨rfl, hk⟩
            obtain ⟨h1, h2⟩ := hM.keep hk
            exact ⟨m, h2, h1, .lit _ _⟩
          · rename_i r hty
            have := Nat.eq_of_beq_eq_true hty
            subst this
            cases hq with
            | own m r x1 hmr h1r =>
              split at hp
              · rename_i e n f hlr
                split at hp
                · rename_i he
                  have := Nat.eq_of_beq_eq_true he
                  subst this
                  simp only [Tr.run] at hp
                  cases hby : areBytes n f with
                  | false => rw [hby] at hp; cases hp
                  | true =>
                    rw [hby] at hp
                    simp only [cond_true, Option.some.injEq, Prod.mk.injEq] at hp
                    obtain ⟨rfl, rfl⟩ := hp
                    have hbr := hM.blk r _ hlr
                    cases hbr with
                    | row e sz n f v xs hmv ho h1x hlx hrx =>
                      rw [hmr] at hmv
                      cases hmv
                      have hlen : (bytesOf n f).length = n := by simp [bytesOf]
                      have keepCase : ∀ w', Keeps (· < w.heap.size) w w' → n = 0 → ∃ m', Ext β M m w (M.del r) m' w' ∧ MRel β (M.del r) m' w' ∧ Rep (Cell β w' (M.del r) m') m' (.lit (.string ⟨(bytesOf n f).toArray⟩)) (.string .empty) := by
                        intro w' hk hn
                        subst hn
                        obtain ⟨h1, h2⟩ := hM.keep hk
                        obtain ⟨h3, h4⟩ := h1.del r
                        exact ⟨m, h2.trans h4, h3, .lit _ _⟩
                      rcases ho.2 with ⟨rfl, rfl⟩ | ⟨g, cap, cur, rfl, hbg, hg, hnc, hcm, hcs, htake⟩
                      · refine (say_nil L X b x0 w hb).mono ?_
                        rintro e w' ⟨rfl, hk⟩
                        exact keepCase w' hk rfl
                      · rcases Nat.eq_zero_or_pos n with hn0 | hn0
                        · subst hn0
                          rcases Nat.eq_zero_or_pos cap with hc0 | hc0
                          · subst hc0
                            refine (say_noroom L X b g x0 cur w hb hg).mono ?_
                            rintro e w' ⟨rfl, hk⟩
                            exact keepCase w' hk rfl
                          · refine (say_room L X b g cap x0 w (by omega) hb).mono ?_
                            rintro e w' ⟨rfl, hk⟩
                            exact keepCase w' hk rfl
                        · have hne : bytesOf n f ≠ [] := by
                            intro e
                            rw [e] at hlen
                            simp at hlen
                            omega
                          have hcell : ∀ (j : Nat) (x : UInt8), (bytesOf n f)[j]? = some x → w.cell? ⟨g, j, none⟩ = some (.int .u8 x.toNat) := by
                            intro j x hx
                            have hj : j < n := by
                              rw [← hlen]
                              exact (List.getElem?_eq_some_iff.1 hx).1
                            have hib : isByte (f j) = true := by
                              unfold areBytes at hby
                              exact List.all_eq_true.1 hby j (List.mem_range.2 hj)
                            have hxe : x = byteOf (f j) := by
                              unfold bytesOf at hx
                              rw [List.getElem?_map, List.getElem?_range hj] at hx
                              simpa using hx.symm
                            unfold isByte at hib
                            split at hib
                            · rename_i y hy
                              simp only [Bool.and_eq_true, decide_eq_true_eq] at hib
                              obtain ⟨u, hu, hru⟩ := hrx j 0 (.lit (.int .u8 y)) hj (by rw [hy]; rfl)
                              have := litOf_rep hru rfl
                              subst this
                              have := ho.cells (g := g) rfl _ _ hu
                              rw [addr_add, Nat.zero_add] at this
                              rw [hxe, hy]
                              simp only [byteOf, Nat.mul_one, Nat.add_zero] at this ⊢
                              rw [this]
                              have : ((UInt8.ofNat y.toNat).toNat : Int) = y := by
                                rw [UInt8.toNat_ofNat']
                                omega
                              rw [this]
                            · cases hib
                          have := say_some L X b g cap x0 cur (bytesOf n f) w hne (by rw [hlen]; exact hb) hg (by rw [hlen]; exact hnc) hcm (by simpa using hcs) hcell
                          refine this.mono ?_
                          rintro e w' ⟨rfl, rfl⟩
                          have hkeep : ∀ k, k ≠ g → (w.drew.freeze ⟨g, 0, none⟩ (bytesOf n f).length).heap[k]? = w.heap[k]? := by
                            intro k hk
                            unfold World.freeze
                            split
                            · rfl
                            · show (w.heap.modify g _)[k]? = _
                              rw [Array.getElem?_modify]
                              rw [if_neg (fun e => hk e.symm)]
                          have hsz : (w.drew.freeze ⟨g, 0, none⟩ (bytesOf n f).length).heap.size = w.heap.size := by
                            unfold World.freeze
                            split
                            · rfl
                            · show (w.heap.modify g _).size = _
                              simp
                          have hsame : (w.drew.freeze ⟨g, 0, none⟩ (bytesOf n f).length).os = w.os ∧ (w.drew.freeze ⟨g, 0, none⟩ (bytesOf n f).length).tape = w.tape ∧ (w.drew.freeze ⟨g, 0, none⟩ (bytesOf n f).length).output = w.output := by
                            unfold World.freeze
                            split
                            · exact ⟨rfl, rfl, rfl⟩
                            · exact ⟨rfl, rfl, rfl⟩
                          obtain ⟨h1, h2⟩ := hM.loose r (by rw [liv_of hlr]; rfl) _ hmr (w' := w.drew.freeze ⟨g, 0, none⟩ (bytesOf n f).length) ⟨hsame.1, hsame.2.1, hsame.2.2, by rw [hsz]; exact Nat.le_refl _, fun k hk => hkeep k fun e => by
                            subst e
                            have := hM.bsz k hk
                            omega⟩ fun k _ hne => hkeep k fun e => hne (by simp [blkOf, e])
                          exact ⟨m, h2, h1, .lit _ _⟩
                · cases hp
              · cases hp
          · cases hp
      · cases hp
  · cases hp
/-- what copyCheck does -/
structure CheckCalls (P : Program) (f : FuncId) (tb : TypeId) : Prop where
  fresh : ∀ (b : Nat) (w : World), w.cell? ⟨b, 0, none⟩ = some (.pointer none) → w.shape? b = some (tb, 2) → w.frozen? ⟨b, 0, none⟩ = false →
    Calls P f #[.pointer (some ⟨b, 0, none⟩)] w fun e w' => e = .returned (.tuple #[]) ∧ w' = w.setCell ⟨b, 0, none⟩ (.pointer (some ⟨b, 0, none⟩))
  used : ∀ (b : Nat) (w : World), w.cell? ⟨b, 0, none⟩ = some (.pointer (some ⟨b, 0, none⟩)) → Calls P f #[.pointer (some ⟨b, 0, none⟩)] w fun e w' => e = .returned (.tuple #[]) ∧ w' = w
theorem check_ok {f : FuncId} {tb : TypeId} (L : CheckCalls P f tb) (G : GT) : FnOK P G f (checkG tb) := by
  intro β hG M m w ps args hM hlen hrep p M' hp
  unfold checkG at hp
  split at hp
  · rename_i id
    obtain ⟨a0, rfl⟩ : ∃ a0, args = #[a0] := by
      have : args.size = 1 := by simpa using hlen.symm
      exact ⟨args[0], by apply Array.ext <;> simp_all⟩
    have h0 := hrep 0 _ a0 rfl rfl
    cases h0 with
    | ptr m id off b hm =>
      split at hp
      · rename_i ty p0 q hlk
        have hbk := hM.blk id _ hlk
        cases hbk with
        | cells ty cs b' vs hm' hb hl h1 hr hB =>
          rw [hm] at hm'
          cases hm'
          obtain ⟨x0, x1, rfl⟩ : ∃ x0 x1, vs = #[x0, x1] := by
            have : vs.size = 2 := by simpa using hl.symm
            exact ⟨vs[0], vs[1], by apply Array.ext <;> simp_all; intro i hi _; match i, hi with | 0, _ => rfl | 1, _ => rfl⟩
          have hq := hr 0 _ x0 rfl rfl
          split at hp
          · rename_i hty
            have := Nat.eq_of_beq_eq_true hty
            subst this
            simp only [Tr.run, Option.some.injEq, Prod.mk.injEq] at hp
            obtain ⟨rfl, rfl⟩ := hp
            have := litOf_rep hq rfl
            subst this
            refine (L.fresh b w (by simp [World.cell?, hb]) (by simp [World.shape?, hb]) (by simp [World.frozen?, hb])).mono ?_
            rintro e w' ⟨rfl, rfl⟩
            have hother : ∀ k, k ≠ b → (w.setCell ⟨b, 0, none⟩ (.pointer (some ⟨b, 0, none⟩))).heap[k]? = w.heap[k]? := fun k hk => by
              show (w.heap.modify b _)[k]? = _
              rw [Array.getElem?_modify, if_neg (fun e => hk e.symm)]
            have hx1 : x1.oneCell' = true := h1 x1 (by simp)
            obtain ⟨g1, g2⟩ := hM.write id _ (.cells ty [.ptr id 0, q]) hlk rfl rfl _ hm (w' := w.setCell ⟨b, 0, none⟩ (.pointer (some ⟨b, 0, none⟩))) ⟨rfl, rfl, rfl, by simp [World.setCell], fun k hk => hother k fun e => hB (e ▸ hk)⟩
              (fun k hk => hother k fun e => hk (by simp [blkOf, e])) fun he => by
                refine .cells _ _ b #[.pointer (some ⟨b, 0, none⟩), x1] hm ?_ rfl (fun u hu => ?_) (fun i p v hp hv => ?_) hB
                · show (w.heap.modify b _)[b]? = _
                  rw [Array.getElem?_modify, if_pos rfl, hb]
                  rfl
                · simp at hu
                  rcases hu with rfl | rfl
                  · rfl
                  · exact hx1
                · match i with
                  | 0 =>
                    simp at hp hv
                    subst hp
                    subst hv
                    exact .ptr _ _ _ _ hm
                  | 1 =>
                    simp at hp hv
                    subst hp
                    subst hv
                    exact (hr 1 _ _ rfl rfl).ext he
                  | i + 2 => simp at hp
            exact ⟨m, g2, g1, .lit _ _⟩
          · rename_i i hty
            have := Nat.eq_of_beq_eq_true hty
            subst this
            split at hp
            · rename_i hi
              have := Nat.eq_of_beq_eq_true hi
              subst this
              simp only [Tr.run, Option.some.injEq, Prod.mk.injEq] at hp
              obtain ⟨rfl, rfl⟩ := hp
              cases hq with
              | ptr m i off b2 hm2 =>
                rw [hm] at hm2
                cases hm2
                refine (L.used b w (by simp [World.cell?, hb])).mono ?_
                rintro e w' ⟨rfl, rfl⟩
                exact ⟨m, Ext.refl _ _ _ _, hM, .lit _ _⟩
            · cases hp
          · cases hp
      · cases hp
  · cases hp
end Go.Proofs.YtnidaonmigjgkaaDoor.Ev
