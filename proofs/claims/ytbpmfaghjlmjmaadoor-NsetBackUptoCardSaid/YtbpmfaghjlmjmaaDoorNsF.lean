/- nset: Has, and the document's. No condition. -/
import Derived.Test.YtbpmfaghjlmjmaaDoorNsE
namespace Go.Proofs.YtbpmfaghjlmjmaaDoor.Ev
open Go Go.RowKit Go.Proofs Go.Proofs.YtbpmfaghjlmjmaaDoor.Str
set_option linter.unusedVariables false
set_option linter.unusedSimpArgs false
section
variable {m : Int} {t : TypeId} {fr : Nat × Nat}
/-! ### the first span that has a number -/
def ixOuts : Exit → Outs
  | .normal => { ks := [0, 1, 7, 8] }
  | .exit _ => { ks := [] }
  | _ => { ks := [4] }
noncomputable abbrev ixRound (G : GT) := roundT Tryd.prog (E5 G) 60 G 19 ixOuts .normal (theLoop 0 Tryd.f40)
-- from: ix_round [bs, okS, ls, sp] (m : Int) (t : TypeId) (fr : Nat × Nat) (l : List Sp) (n : Nat) (x u i : Int) : (ixRound (GG m t fr) ([.gsl 2 n (sRow l), .clo 29 [.gptr [.lit (.int .u32 x)]], int u, int i], [])).run2
theorem ix_round (m : Int) (t : TypeId) (fr : Nat × Nat) (l : List Sp) (n : Nat) (x u i : Int) : (ixRound (GG m t fr) ([.gsl 2 n (sRow l), .clo 29 [.gptr [.lit (.int .u32 x)]], int u, int i], [])).run2 =
    (bif (decide (i < u)) then
        bif (decide ((Prod.fst (sp l (Int.toNat i))) ≤ x)) then
          bif (decide (x ≤ (Prod.snd (sp l (Int.toNat i))))) then
            (.some ((.ret, ([(.lit (.int .i64 i))], [])), [((decide ((0 : Int) ≤ i)) && (Nat.blt (Int.toNat i) n))]))
          else (.some ((.normal, ([(.gsl 2 n (fun i => [PV.lit (Value.int IntKind.u32 (sp l i).fst), PV.lit (Value.int IntKind.u32 (sp l i).snd)])), (.clo (29 : FuncId) [(.gptr [(.lit (.int .u32 x))])]), (.lit (.int .i64 u)), (.lit (.int .i64 (IntKind.wrap .i64 (i + (1 : Int)))))], [])), [((decide ((0 : Int) ≤ i)) && (Nat.blt (Int.toNat i) n))]))
        else (.some ((.normal, ([(.gsl 2 n (fun i => [PV.lit (Value.int IntKind.u32 (sp l i).fst), PV.lit (Value.int IntKind.u32 (sp l i).snd)])), (.clo (29 : FuncId) [(.gptr [(.lit (.int .u32 x))])]), (.lit (.int .i64 u)), (.lit (.int .i64 (IntKind.wrap .i64 (i + (1 : Int)))))], [])), [((decide ((0 : Int) ≤ i)) && (Nat.blt (Int.toNat i) n))]))
      else (.some (((.exit 0), ([], [])), [])) : Option ((Exit × Kept) × List Bool)) := by
  kernel_rfl
def withinB (x : Int) (b : Sp) : Bool := decide (b.1 ≤ x) && decide (x ≤ b.2)
/-- where the first is, or -1 -/
def ixZ (x : Int) : List Sp → Nat → Int
  | [], _ => -1
  | b :: r, i => bif withinB x b then (i : Int) else ixZ x r (i + 1)
theorem ixZ_any (x : Int) : ∀ (l : List Sp) (i : Nat), decide (ixZ x l i ≥ 0) = l.any (withinB x)
  | [], i => rfl
  | b :: r, i => by
    rw [ixZ, List.any_cons]
    cases withinB x b with
    | true => simp
    | false =>
      rw [cond_false, Bool.false_or]
      exact ixZ_any x r (i + 1)
def ixEnd (x : Int) (r : List Sp) (i : Nat) : Exit × Kept := bif r.any (withinB x) then (.ret, ([int (ixZ x r i)], [])) else (.exit 0, ([], []))
def ixIn (l : List Sp) (x : Int) (i : Nat) : Kept := ([.gsl 2 l.length (sRow l), .clo 29 [.gptr [.lit (.int .u32 x)]], int l.length, int i], [])
theorem ix_LR (l : List Sp) (x : Int) (hn : l.length ≤ 4294967280) : ∀ (r : List Sp) (i : Nat), l.drop i = r →
    LR Tryd.prog (E5 (GG m t fr)) 60 (GG m t fr) 19 ixOuts .normal (theLoop 0 Tryd.f40) (ixIn l x i) (ixEnd x r i).1 (ixEnd x r i).2
  | [], i, hr => by
    have h := ix_round m t fr l l.length x l.length i
    have hlen := List.drop_eq_nil_iff.1 hr
    have hd : decide ((i : Int) < (l.length : Int)) = false := by simp; omega
    rw [hd] at h
    exact .last (Tr.run_of h (by simp)) (by simp [ixEnd]) (by simp [ixEnd])
  | b :: r, i, hr => by
    have h := ix_round m t fr l l.length x l.length i
    obtain ⟨hlt, hx, hdr⟩ := sp_drop hr
    have hd : decide ((i : Int) < (l.length : Int)) = true := by simp; omega
    have hw : IntKind.i64.wrap ((i : Int) + 1) = ((i + 1 : Nat) : Int) := wrap_succ (by omega)
    rw [hd, hw, Int.toNat_natCast, hx] at h
    simp only [cond_true] at h
    have ih := ix_LR l x hn r (i + 1) hdr
    cases c1 : decide (b.1 ≤ x) with
    | false =>
      rw [c1] at h
      have e : ixEnd x (b :: r) i = ixEnd x r (i + 1) := by unfold ixEnd; simp [ixZ, withinB, c1]
      rw [e]
      exact .more (Tr.run_of h (by simp; omega)) ih
    | true =>
      rw [c1] at h
      cases c2 : decide (x ≤ b.2) with
      | false =>
        rw [c2] at h
        have e : ixEnd x (b :: r) i = ixEnd x r (i + 1) := by unfold ixEnd; simp [ixZ, withinB, c1, c2]
        rw [e]
        exact .more (Tr.run_of h (by simp; omega)) ih
      | true =>
        rw [c2] at h
        have e : ixEnd x (b :: r) i = (.ret, ([int (i : Int)], [])) := by unfold ixEnd; simp [ixZ, withinB, c1, c2]
        rw [e]
        exact .last (Tr.run_of h (by simp; omega)) (by simp) (by simp)
def ixF : Kept → Tr (Exit × Kept)
  | ([.gsl 2 n f, .clo g [.gptr [.lit (.int .u32 x)]], .lit (.int .i64 u), .lit (.int .i64 0)], []) => match Nat.beq g 29 with
    | true => .br (areSps n f && decide (u = (n : Int)) && Nat.ble n 4294967280) (.br ((spsOf n f).any (withinB x)) (.leaf (.ret, ([int (ixZ x (spsOf n f) 0)], []))) (.leaf (.exit 0, ([], [])))) .fail
    | false => .fail
  | _ => .fail
theorem ixF_ok (k : Kept) (e : Exit) (y : Kept) (h : (ixF k).run = some (e, y)) : LR Tryd.prog (E5 (GG m t fr)) 60 (GG m t fr) 19 ixOuts .normal (theLoop 0 Tryd.f40) k e y := by
  unfold ixF at h
  split at h
  · rename_i n f g x u
    split at h
    · rename_i hg
      obtain rfl := Nat.eq_of_beq_eq_true hg
      have hb := br_run h
      clear h
      obtain ⟨hc, h⟩ := hb
      simp only [Bool.and_eq_true, decide_eq_true_eq, Nat.ble_eq] at hc
      obtain ⟨⟨hf, rfl⟩, hn⟩ := hc
      have hL := sps_len n f
      have key := ix_LR (m := m) (t := t) (fr := fr) (spsOf n f) x (by omega) (spsOf n f) 0 rfl
      have hin : KLe ([.gsl 2 n f, .clo 29 [.gptr [.lit (.int .u32 x)]], int (n : Int), int 0], []) (ixIn (spsOf n f) x 0) := by
        refine ⟨PLeL.cons (PLe.gsl hL.symm (sps_row hf)) (PLeL.cons (.refl _) (PLeL.cons (PLe.of_eq ?_) (.refl _))), .refl _⟩
        rw [hL]
      unfold ixEnd at key
      cases hd : (spsOf n f).any (withinB x) with
      | true =>
        rw [hd] at key h
        simp only [Tr.run, cond_true, Option.some.injEq, Prod.mk.injEq] at h
        obtain ⟨rfl, rfl⟩ := h
        exact .le hin key
      | false =>
        rw [hd] at key h
        simp only [Tr.run, cond_false, Option.some.injEq, Prod.mk.injEq] at h
        obtain ⟨rfl, rfl⟩ := h
        exact .le hin key
    · cases h
  · cases h
noncomputable abbrev ixCut (G : GT) := cutOf G 19 ixOuts 0 ixF
-- from: ix_raw [bs, okS, ls, sp, areSps, spsOf, withinB, ixZ] (m : Int) (t : TypeId) (fr : Nat × Nat) (n : Nat) (f : Nat → List PV) (x : Int) : (fnPure Tryd.prog ((E5 (GG m t fr)).withCuts (cut1 0 (ixCut (GG m t fr)))) 60 Tryd.f40 (GG m t fr) [.gsl 2 n f, .clo 29 [.gptr [.lit (.int .u32 x)]]]).run2
theorem ix_raw (m : Int) (t : TypeId) (fr : Nat × Nat) (n : Nat) (f : Nat → List PV) (x : Int) : (fnPure Tryd.prog ((E5 (GG m t fr)).withCuts (cut1 0 (ixCut (GG m t fr)))) 60 Tryd.f40 (GG m t fr) [.gsl 2 n f, .clo 29 [.gptr [.lit (.int .u32 x)]]]).run2 =
    (bif (List.any (spsOf n f) (withinB x)) then
        (.some ((.lit (.int .i64 (ixZ x (spsOf n f) 0))), [(((areSps n f) && (decide (((n : Nat) : Int) = ((n : Nat) : Int)))) && (Nat.ble n (4294967280 : Nat)))]))
      else (.some ((.lit (.int .i64 (-1 : Int))), [(((areSps n f) && (decide (((n : Nat) : Int) = ((n : Nat) : Int)))) && (Nat.ble n (4294967280 : Nat)))])) : Option (PV × List Bool)) := by
  kernel_rfl
def ixG : List PV → Tr PV
  | [.gsl 2 n f, .clo g [.gptr [.lit (.int .u32 x)]]] => match Nat.beq g 29 with
    | true => .br (areSps n f && Nat.ble n 4294967280) (.leaf (int (ixZ x (spsOf n f) 0))) .fail
    | false => .fail
  | _ => .fail
theorem ixZ_none (x : Int) : ∀ (l : List Sp) (i : Nat), l.any (withinB x) = false → ixZ x l i = -1
  | [], i, _ => rfl
  | b :: r, i, h => by
    simp only [List.any_cons, Bool.or_eq_false_iff] at h
    rw [ixZ, h.1, cond_false]
    exact ixZ_none x r (i + 1) h.2
theorem ix_ok : PureOK Tryd.prog (GG m t fr) 40 ixG := by
  refine PureOK.of (fn_cuts mixed E5_ok (fn := Tryd.f40) (cuts := cut1 0 (ixCut (GG m t fr))) (by kernel_rfl) (CutLaws.one (by omega) (by kernel_rfl) fun st e st' h => cutOf_ok E5_ok mixed (noCuts_ok (envOf_cuts ..) _) ixF_ok h)) fun ps p hp => ?_
  unfold ixG at hp
  split at hp
  · rename_i n f g x
    split at hp
    · rename_i hg
      obtain rfl := Nat.eq_of_beq_eq_true hg
      obtain ⟨hc, hp⟩ := br_run hp
      simp only [Bool.and_eq_true] at hc
      simp only [Tr.run, Option.some.injEq] at hp
      subst hp
      have h := ix_raw m t fr n f x
      rw [hc.1, hc.2] at h
      cases hd : (spsOf n f).any (withinB x) with
      | true =>
        rw [hd] at h
        exact ⟨_, Tr.run_of h (by simp), PLe.of_eq rfl⟩
      | false =>
        rw [hd] at h
        refine ⟨_, Tr.run_of h (by simp), PLe.of_eq ?_⟩
        rw [ixZ_none x _ 0 hd]
    · cases hp
  · cases hp
def niPure : List (Nat × (List PV → Tr PV)) := (40, ixG) :: npPure
theorem niPure_ok : TabOK Tryd.prog (GG m t fr) niPure := TabOK.cons ix_ok (fn := Tryd.f40) (by kernel_rfl) (by kernel_rfl) npPure_ok
noncomputable abbrev E6 (G : GT) : Env := envOf Tryd.prog G niPure nbFull
theorem E6_ok : (E6 (GG m t fr)).ok Tryd.prog (GG m t fr) := envOf_ok mixed niPure_ok nbFull_ok
-- from: has_raw [bs, okS, ls, sp, areSps, spsOf, withinB, ixZ, bandS, sRow] (m : Int) (t : TypeId) (fr : Nat × Nat) (n : Nat) (f : Nat → List PV) (most x : Int) : (fnPure Tryd.prog (E6 (GG m t fr)) 60 Tryd.f14 (GG m t fr) [.gsl 2 n f, .lit (.int .u32 most), .lit (.int .u32 x)]).run2
theorem has_raw (m : Int) (t : TypeId) (fr : Nat × Nat) (n : Nat) (f : Nat → List PV) (most x : Int) : (fnPure Tryd.prog (E6 (GG m t fr)) 60 Tryd.f14 (GG m t fr) [.gsl 2 n f, .lit (.int .u32 most), .lit (.int .u32 x)]).run2 =
    ((.some ((.lit (.bool (decide ((ixZ x (spsOf (Prod.fst (Prod.snd (Prod.snd ((50 : TypeId), (2, (n, (sRow (List.map (bandS most) (spsOf n f))))))))) (Prod.snd (Prod.snd (Prod.snd ((50 : TypeId), (2, (n, (sRow (List.map (bandS most) (spsOf n f)))))))))) 0) ≥ (0 : Int))))), [((areSps (Prod.fst (Prod.snd (Prod.snd ((50 : TypeId), (2, (n, (sRow (List.map (bandS most) (spsOf n f))))))))) (Prod.snd (Prod.snd (Prod.snd ((50 : TypeId), (2, (n, (sRow (List.map (bandS most) (spsOf n f)))))))))) && (Nat.ble (Prod.fst (Prod.snd (Prod.snd ((50 : TypeId), (2, (n, (sRow (List.map (bandS most) (spsOf n f))))))))) (4294967280 : Nat))), ((areSps n f) && (Nat.ble n (4294967280 : Nat)))])) : Option (PV × List Bool)) := by
  kernel_rfl
-- from: ends_raw [bs, okS, ls, sp] (m : Int) (t : TypeId) (fr : Nat × Nat) (a b most : Int) : (fnPure Tryd.prog (E6 (GG m t fr)) 60 Tryd.f27 (GG m t fr) [.agg [.lit (.int .u32 a), .lit (.int .u32 b)], .lit (.int .u32 most)]).run2
theorem ends_raw (m : Int) (t : TypeId) (fr : Nat × Nat) (a b most : Int) : (fnPure Tryd.prog (E6 (GG m t fr)) 60 Tryd.f27 (GG m t fr) [.agg [.lit (.int .u32 a), .lit (.int .u32 b)], .lit (.int .u32 most)]).run2 =
    (bif (a == (0 : Int)) then
        bif (b == (0 : Int)) then
          bif (decide (most > most)) then
            (.some ((.tup [(.lit (.int .u32 most)), (.lit (.int .u32 most))]), []))
          else (.some ((.tup [(.lit (.int .u32 most)), (.lit (.int .u32 most))]), []))
        else bif (decide (most > b)) then
            (.some ((.tup [(.lit (.int .u32 b)), (.lit (.int .u32 most))]), []))
          else (.some ((.tup [(.lit (.int .u32 most)), (.lit (.int .u32 b))]), []))
      else bif (b == (0 : Int)) then
          bif (decide (a > most)) then
            (.some ((.tup [(.lit (.int .u32 most)), (.lit (.int .u32 a))]), []))
          else (.some ((.tup [(.lit (.int .u32 a)), (.lit (.int .u32 most))]), []))
        else bif (decide (a > b)) then
            (.some ((.tup [(.lit (.int .u32 b)), (.lit (.int .u32 a))]), []))
          else (.some ((.tup [(.lit (.int .u32 a)), (.lit (.int .u32 b))]), [])) : Option (PV × List Bool)) := by
  kernel_rfl
theorem eS_u32 {most a : Int} (hm : 0 ≤ most ∧ most < 4294967296) (ha : 0 ≤ a ∧ a < 4294967296) : 0 ≤ eS most a ∧ eS most a < 4294967296 := by
  unfold eS
  cases bne a 0 <;> cases bne most 0 <;> simp <;> omega
theorem bandS_u32 {most : Int} {x : Sp} (hm : 0 ≤ most ∧ most < 4294967296) (hx : u32B x = true) : u32B (bandS most x) = true := by
  unfold u32B at hx
  simp only [Bool.and_eq_true, decide_eq_true_eq] at hx
  have h1 := eS_u32 hm hx.1
  have h2 := eS_u32 hm hx.2
  unfold u32B bandS
  cases decide (eS most x.2 < eS most x.1) <;> simp <;> omega
theorem bands_u32 {most : Int} (hm : 0 ≤ most ∧ most < 4294967296) {l : List Sp} (h : l.all u32B = true) : (l.map (bandS most)).all u32B = true := by
  rw [List.all_eq_true] at h ⊢
  intro y hy
  obtain ⟨x, hx, rfl⟩ := List.mem_map.1 hy
  exact bandS_u32 hm (h x hx)
/-- whether a number is in a set -/
def hasS (most x : Int) (l : List Sp) : Bool := (l.map (bandS most)).any (withinB x)
def hasG : List PV → Tr PV
  | [.gsl 2 n f, .lit (.int .u32 most), .lit (.int .u32 x)] => .br (areSps n f && Nat.ble n 4294967280 && u32N most) (.leaf (bool (hasS most x (spsOf n f)))) .fail
  | _ => .fail
theorem has_ok : PureOK Tryd.prog (GG m t fr) 14 hasG := by
  refine PureOK.of (fn_pure mixed E6_ok (envOf_cuts ..) (fn := Tryd.f14) (by kernel_rfl)) fun ps p hp => ?_
  unfold hasG at hp
  split at hp
  · rename_i n f most x
    obtain ⟨hc, hp⟩ := br_run hp
    simp only [Bool.and_eq_true] at hc
    obtain ⟨⟨hf, hn⟩, hm⟩ := hc
    unfold u32N at hm
    simp only [Bool.and_eq_true, decide_eq_true_eq] at hm
    simp only [Tr.run, Option.some.injEq] at hp
    subst hp
    have h := has_raw m t fr n f most x
    have hL : ((spsOf n f).map (bandS most)).length = n := by rw [List.length_map, sps_len]
    have e1 : spsOf n (sRow ((spsOf n f).map (bandS most))) = (spsOf n f).map (bandS most) := by
      have := sps_sRow ((spsOf n f).map (bandS most))
      rwa [hL] at this
    have e2 : areSps n (sRow ((spsOf n f).map (bandS most))) = true := by
      have := are_sRow (bands_u32 hm (sps_u32 hf))
      rwa [hL] at this
    dsimp only at h
    rw [e1, e2, hn, hf, ixZ_any] at h
    exact ⟨_, Tr.run_of h (by simp), PLe.of_eq rfl⟩
  · cases hp
def hsPure : List (Nat × (List PV → Tr PV)) := (14, hasG) :: niPure
theorem hsPure_ok : TabOK Tryd.prog (GG m t fr) hsPure := TabOK.cons has_ok (fn := Tryd.f14) (by kernel_rfl) (by kernel_rfl) niPure_ok
noncomputable abbrev E7 (G : GT) : Env := envOf Tryd.prog G hsPure nbFull
theorem E7_ok : (E7 (GG m t fr)).ok Tryd.prog (GG m t fr) := envOf_ok mixed hsPure_ok nbFull_ok
-- from: joined_raw [bs, okS, ls, sp, areSps, spsOf, hasS, rowApp, u32N] (m : Int) (t : TypeId) (fr : Nat × Nat) (n k : Nat) (f g : Nat → List PV) (most x : Int) : (fnPure Tryd.prog (E7 (GG m t fr)) 60 Tryd.f7 (GG m t fr) [.gsl 2 n f, .gsl 2 k g, .lit (.int .u32 most), .lit (.int .u32 x)]).run2
theorem joined_raw (m : Int) (t : TypeId) (fr : Nat × Nat) (n k : Nat) (f g : Nat → List PV) (most x : Int) : (fnPure Tryd.prog (E7 (GG m t fr)) 60 Tryd.f7 (GG m t fr) [.gsl 2 n f, .gsl 2 k g, .lit (.int .u32 most), .lit (.int .u32 x)]).run2 =
    (bif (hasS most x (spsOf n f)) then
        (.some ((.lit (.bool ((hasS most x (spsOf ((0 + n) + k) (rowApp (0 + n) (rowApp 0 (rowOf [] 2) f) g))) == true))), [true, true, (((areSps n f) && (Nat.ble n (4294967280 : Nat))) && (u32N most)), (((areSps ((0 + n) + k) (rowApp (0 + n) (rowApp 0 (rowOf [] 2) f) g)) && (Nat.ble ((0 + n) + k) (4294967280 : Nat))) && (u32N most)), (Nat.ble (((0 + n) + k) * 8) (140737488355328 : Nat)), (Nat.ble ((0 + n) * 8) (140737488355328 : Nat))]))
      else (.some ((.lit (.bool ((hasS most x (spsOf ((0 + n) + k) (rowApp (0 + n) (rowApp 0 (rowOf [] 2) f) g))) == (hasS most x (spsOf k g))))), [(((areSps k g) && (Nat.ble k (4294967280 : Nat))) && (u32N most)), (((areSps n f) && (Nat.ble n (4294967280 : Nat))) && (u32N most)), (((areSps ((0 + n) + k) (rowApp (0 + n) (rowApp 0 (rowOf [] 2) f) g)) && (Nat.ble ((0 + n) + k) (4294967280 : Nat))) && (u32N most)), (Nat.ble (((0 + n) + k) * 8) (140737488355328 : Nat)), (Nat.ble ((0 + n) * 8) (140737488355328 : Nat))])) : Option (PV × List Bool)) := by
  kernel_rfl
theorem app_none (f0 g : Nat → List PV) : rowApp 0 f0 g = g := by
  funext i
  have := app_hi 0 i f0 g
  rwa [Nat.zero_add] at this
theorem sps_app (n k : Nat) (f g : Nat → List PV) : spsOf (n + k) (rowApp n f g) = spsOf n f ++ spsOf k g := by
  refine List.ext_getElem (by simp [spsOf]) fun i h1 h2 => ?_
  simp only [spsOf, List.getElem_map, List.getElem_range, List.getElem_append, List.length_map, List.length_range]
  split
  · rename_i h
    rw [app_lo _ _ h]
  · rename_i h
    have := app_hi n (i - n) f g
    rw [show n + (i - n) = i by omega] at this
    rw [this]
theorem are_app2 (n k : Nat) (f g : Nat → List PV) (hf : areSps n f = true) (hg : areSps k g = true) : areSps (n + k) (rowApp n f g) = true := by
  unfold areSps at *
  rw [List.all_eq_true] at *
  intro i hi
  have hi := List.mem_range.1 hi
  rcases Nat.lt_or_ge i n with h | h
  · rw [app_lo _ _ h]
    exact hf i (List.mem_range.2 h)
  · have := app_hi n (i - n) f g
    rw [show n + (i - n) = i by omega] at this
    rw [this]
    exact hg _ (List.mem_range.2 (by omega))
def joinedG : List PV → Tr PV
  | [.gsl 2 n f, .gsl 2 k g, .lit (.int .u32 most), .lit (.int .u32 x)] => .br (areSps n f && areSps k g && Nat.ble n 1048576 && Nat.ble k 1048576 && u32N most) (.leaf (bool true)) .fail
  | _ => .fail
theorem joined_ok : PureOK Tryd.prog (GG m t fr) 7 joinedG := by
  refine PureOK.of (fn_pure mixed E7_ok (envOf_cuts ..) (fn := Tryd.f7) (by kernel_rfl)) fun ps p hp => ?_
  unfold joinedG at hp
  split at hp
  · rename_i n f k g most x
    obtain ⟨hc, hp⟩ := br_run hp
    simp only [Bool.and_eq_true, Nat.ble_eq] at hc
    obtain ⟨⟨⟨⟨hf, hg⟩, hn⟩, hk⟩, hm⟩ := hc
    simp only [Tr.run, Option.some.injEq] at hp
    subst hp
    have h := joined_raw m t fr n k f g most x
    rw [Nat.zero_add, app_none, sps_app, are_app2 n k f g hf hg, hf, hg, hm] at h
    have ha : hasS most x (spsOf n f ++ spsOf k g) = (hasS most x (spsOf n f) || hasS most x (spsOf k g)) := by
      unfold hasS
      rw [List.map_append, List.any_append]
    rw [ha] at h
    cases c1 : hasS most x (spsOf n f) with
    | true =>
      rw [c1] at h
      exact ⟨_, Tr.run_of h (by simp; omega), PLe.of_eq (by simp)⟩
    | false =>
      rw [c1] at h
      exact ⟨_, Tr.run_of h (by simp; omega), PLe.of_eq (by simp)⟩
  · cases hp
def joinedSh : List ASh := [.one (.sl [.int .u32, .int .u32]), .one (.sl [.int .u32, .int .u32]), .one (.sc (.int .u32)), .one (.sc (.int .u32))]
theorem u32_given {v : Value} (h : isSc (.int .u32) v = true) : ∃ a, v = .int .u32 a ∧ u32N a = true := by
  obtain ⟨a, rfl, h1, h2⟩ := sc_int h
  have e1 : IntKind.u32.min = 0 := by decide
  have e2 : IntKind.u32.max = 4294967295 := by decide
  refine ⟨a, rfl, ?_⟩
  unfold u32N
  simp
  omega
theorem joined_args {qs : List PV} (ha : areArgs joinedSh qs = true) (hb : argsBulk qs ≤ 1048576) : (joinedG qs).run = some (bool true) := by
  obtain ⟨q0, r0, rfl, h0, hr0⟩ := args_cons ha
  obtain ⟨q1, r1, rfl, h1, hr1⟩ := args_cons hr0
  obtain ⟨q2, r2, rfl, h2, hr2⟩ := args_cons hr1
  obtain ⟨q3, r3, rfl, h3, hr3⟩ := args_cons hr2
  obtain rfl := args_nil hr3
  obtain ⟨n, f, rfl, hf⟩ := ak_sl h0
  obtain ⟨k, g, rfl, hg⟩ := ak_sl h1
  obtain ⟨v, rfl, hv⟩ := ak_sc h2
  obtain ⟨most, rfl, hm⟩ := u32_given hv
  obtain ⟨v', rfl, hv'⟩ := ak_sc h3
  obtain ⟨x, rfl, hx⟩ := u32_given hv'
  have hb' : (((List.range n).map fun i => scsBulk (f i)).sum + 1) + ((((List.range k).map fun i => scsBulk (g i)).sum + 1) + (1 + (1 + 0))) ≤ 1048576 := hb
  obtain ⟨o1, o2⟩ := sps_given hf (by omega)
  obtain ⟨o3, o4⟩ := sps_given hg (by omega)
  have o5 : Nat.ble n 1048576 = true := Nat.ble_eq_true_of_le o2
  have o6 : Nat.ble k 1048576 = true := Nat.ble_eq_true_of_le o4
  show (joinedG [.gsl 2 n f, .gsl 2 k g, .lit (.int .u32 most), .lit (.int .u32 x)]).run = some (bool true)
  simp [joinedG, Tr.run, o1, o3, o5, o6, hm]
end
end Go.Proofs.YtbpmfaghjlmjmaaDoor.Ev
