/- JTallyBack18: several texts in one. Condition: each part's own. -/
import Derived.Test.YtcdghinmmhcfcaaDoorJTallyBack17
import Derived.Test.YtcdghinmmhcfcaaDoorJTallyBack12
import Derived.Test.YtcdghinmmhcfcaaDoorJTallyBack08
import Derived.Stop.LaidErr
/- The tally of numbers is right. No condition, and no program in it. -/
namespace Go.Proofs.YtcdghinmmhcfcaaDoor.Ev
open Go Go.RowKit Go.Proofs Go.Proofs.YtcdghinmmhcfcaaDoor.Str
set_option linter.unusedVariables false
set_option linter.unusedSimpArgs false
theorem pkS_ends : ∀ (r : List Int) (o : List Sp) (c : Sp) (q : List Sp), pkS r o c = some q → (sp q 0).1 = (sp (o ++ [c]) 0).1 ∧ 0 < q.length ∧ (sp q (q.length - 1)).2 = nu (c.2 :: r) r.length
  | [], o, c, q, h => by
    simp only [pkS, Option.some.injEq] at h
    subst h
    refine ⟨rfl, by simp, ?_⟩
    simp [sp, nu, List.getD]
  | n :: r, o, c, q, h => by
    rw [pkS] at h
    cases h1 : decide (n ≤ c.2) with
    | true => rw [h1] at h; cases h
    | false =>
      rw [h1, cond_false] at h
      cases h2 : decide (n = c.2 + 1) with
      | true =>
        rw [h2, cond_true] at h
        obtain ⟨a, b, d⟩ := pkS_ends r o (c.1, n) q h
        refine ⟨?_, b, d⟩
        rw [a]
        cases o <;> simp [sp, List.getD]
      | false =>
        rw [h2, cond_false] at h
        obtain ⟨a, b, d⟩ := pkS_ends r (o ++ [c]) (n, n) q h
        refine ⟨?_, b, d⟩
        rw [a]
        cases o <;> simp [sp, List.getD]
theorem pack_ends {ns : List Int} (h : packE ns = 0) (hn : ns.length ≠ 0) : (sp (packR ns) 0).1 = nu ns 0 ∧ (sp (packR ns) ((packR ns).length - 1)).2 = nu ns (ns.length - 1) := by
  have e : packR ns = theK (packZ ns) := by unfold packR; rw [h]; rfl
  rw [e]
  cases hq : packZ ns with
  | none => unfold packE at h; rw [hq] at h; cases h
  | some q =>
    show (sp q 0).1 = nu ns 0 ∧ (sp q (q.length - 1)).2 = nu ns (ns.length - 1)
    cases ns with
    | nil => exact absurd rfl hn
    | cons n r =>
      obtain ⟨a, b, d⟩ := pkS_ends r [] (n, n) q hq
      exact ⟨a, d⟩
theorem up_le : ∀ (r : List Int) (a : Int) (i : Nat), upB (a :: r) = true → i ≤ r.length → a + i ≤ nu (a :: r) i
  | _, a, 0, _, _ => by simp [nu]
  | [], a, i + 1, _, h => by simp at h
  | b :: r, a, i + 1, h, hi => by
    rw [upB] at h
    simp only [Bool.and_eq_true, decide_eq_true_eq] at h
    have := up_le r b i h.2 (by simpa using hi)
    have e : nu (a :: b :: r) (i + 1) = nu (b :: r) i := rfl
    rw [e]
    omega
theorem of_all {w : Int} {ns : List Int} (h : ofE w ns = 0) : aN w = false ∧ ns.contains 0 = false ∧ upB ns = true ∧ ns.length ≤ 65536 ∧ (ns.length ≠ 0 → wb w 4 = true → packE ns = 0) := by
  unfold ofE at h
  cases c0 : aN w with
  | true => rw [c0] at h; cases h
  | false =>
    rw [c0, cond_false] at h
    cases c1 : ns.contains (0 : Int) with
    | true => rw [c1] at h; cases h
    | false =>
      rw [c1, cond_false] at h
      have e2 : posE ns = 0 := by
        cases c2 : bne (posE ns) 0 with
        | true =>
          rw [c2, cond_true] at h
          exact h
        | false => simpa using c2
      have b2 : bne (posE ns) 0 = false := by rw [e2]; rfl
      rw [b2, cond_false] at h
      have e3 : upB ns = true ∧ ns.length ≤ 65536 := by
        unfold posE at e2
        cases c3 : upB ns with
        | false => rw [c3] at e2; cases e2
        | true =>
          rw [c3, cond_true] at e2
          cases c4 : decide ((ns.length : Int) > 65536) with
          | true => rw [c4] at e2; cases e2
          | false =>
            have := of_decide_eq_false c4
            exact ⟨rfl, by omega⟩
      refine ⟨rfl, rfl, e3.1, e3.2, fun hn h4 => ?_⟩
      have d0 : (((ns.length : Nat) : Int) == 0) = false := by
        rw [beqD]
        exact decide_eq_false (by omega)
      rw [d0, cond_false, h4, cond_true] at h
      cases c5 : bne (packE ns) 0 with
      | true => rw [c5] at h; cases h
      | false => simpa using c5
theorem nu_pos {ns : List Int} (hu : ns.all u32N = true) (h0 : ns.contains 0 = false) {i : Nat} (hi : i < ns.length) : 0 < nu ns i := by
  obtain ⟨a, _⟩ := nu_u32 hu i
  have hm : nu ns i ∈ ns := by
    have e : nu ns i = ns[i] := by simp [nu, hi]
    rw [e]
    exact List.getElem_mem hi
  have : nu ns i ≠ 0 := fun e => by
    rw [e] at hm
    have : ns.contains 0 = true := List.contains_iff_mem.2 hm
    rw [h0] at this
    cases this
  omega
theorem pd_of : ∀ (q : List Sp) (p : Option Sp), (match p with | none => okM none q | some x => okM (some x) q) = true → (∀ x ∈ q, x.1 ≠ 0) → pdB p q = true
  | [], _, _, _ => rfl
  | x :: r, p, h, hz => by
    have hx : (x.1 == 0) = false := by simpa using hz x (by simp)
    cases p with
    | none =>
      dsimp only at h
      rw [okM] at h
      simp only [Bool.and_eq_true] at h
      rw [pdB, pdX, hx, h.1, pd_of r (some x) h.2 fun y hy => hz y (by simp [hy])]
      rfl
    | some y =>
      dsimp only at h
      rw [okM] at h
      simp only [Bool.and_eq_true] at h
      rw [pdB, pdX, hx, h.1.1, pd_of r (some x) h.2 fun y hy => hz y (by simp [hy])]
      show (!false && (true && decide (y.2 + 2 ≤ x.1)) && true) = true
      rw [h.1.2]
      rfl
theorem ev_self (b s : Bool) : evOk b b s = true := by cases b <;> cases s <;> rfl
theorem of_u32 {w : Int} {ns : List Int} (hu : ns.all u32N = true) : u32N (ofLeast w ns) = true ∧ u32N (ofMost w ns) = true ∧ (ofL w ns).all u32B = true := by
  have hn : ∀ i, u32N (nu ns i) = true := fun i => by
    obtain ⟨a, b⟩ := nu_u32 hu i
    unfold u32N
    rw [decide_eq_true a, decide_eq_true b]
    rfl
  unfold ofLeast ofMost ofL
  refine ⟨?_, ?_, ?_⟩
  · cases ((ns.length : Nat) : Int) == 0
    · cases wb w 1
      · rfl
      · exact hn _
    · rfl
  · cases ((ns.length : Nat) : Int) == 0
    · cases wb w 2
      · rfl
      · exact hn _
    · rfl
  · cases ((ns.length : Nat) : Int) == 0
    · cases wb w 4
      · rfl
      · exact packR_u32 hu
    · rfl
theorem of_check {w : Int} {ns : List Int} (hu : ns.all u32N = true) (h : ofE w ns = 0) : ckT (ofT w ns) = true := by
  obtain ⟨g1, g2, g3, g4, g5⟩ := of_all h
  by_cases hz : ns.length = 0
  · have hns : ns = [] := List.eq_nil_of_length_eq_zero hz
    subst hns
    have e : ofT w [] = ⟨w, 0, 0, 0, []⟩ := by
      unfold ofT ofMany
      cases wb w 8 <;> rfl
    rw [e]
    show ckP w 0 0 0 [] = true
    unfold ckP evA
    have p0 : posB 0 = false := rfl
    have s0 : sumS [] = 0 := rfl
    have v0 : evS 0 0 0 0 = false := rfl
    rw [g1, s0, p0, v0]
    cases wb w 1 <;> cases wb w 2 <;> cases wb w 4 <;> cases wb w 8 <;> rfl
  · have d0 : (((ns.length : Nat) : Int) == 0) = false := by
      rw [beqD]
      exact decide_eq_false (by omega)
    have n0 := nu_pos hu g2 (i := 0) (by omega)
    have n1 := nu_pos hu g2 (i := ns.length - 1) (by omega)
    obtain ⟨_, n2⟩ := nu_u32 hu 0
    obtain ⟨_, n3⟩ := nu_u32 hu (ns.length - 1)
    have hup : nu ns 0 + ((ns.length - 1 : Nat) : Int) ≤ nu ns (ns.length - 1) := by
      cases ns with
      | nil => exact absurd rfl hz
      | cons a r => exact up_le r a r.length g3 (Nat.le_refl _)
    have eM : ofMany w ns = bif wb w 8 then (ns.length : Int) else 0 := rfl
    have eL : ofLeast w ns = bif wb w 1 then nu ns 0 else 0 := by unfold ofLeast; rw [d0]; rfl
    have eH : ofMost w ns = bif wb w 2 then nu ns (ns.length - 1) else 0 := by unfold ofMost; rw [d0]; rfl
    have eA : ofL w ns = bif wb w 4 then packR ns else [] := by unfold ofL; rw [d0]; rfl
    have hA : pkB (ofL w ns) = true ∧ sumS (ofL w ns) = (bif wb w 4 then (ns.length : Int) else 0) ∧ (wb w 4 = true → (sp (ofL w ns) 0).1 = nu ns 0 ∧ (sp (ofL w ns) ((ofL w ns).length - 1)).2 = nu ns (ns.length - 1)) := by
      rw [eA]
      cases c4 : wb w 4 with
      | false => exact ⟨rfl, rfl, fun h => by cases h⟩
      | true =>
        have hp := g5 hz c4
        obtain ⟨k1, k2, k3, -, -, -⟩ := pack_is hu hp 0
        have hl := packE_len (ns := ns)
        have hz0 : ∀ x ∈ packR ns, x.1 ≠ 0 := fun x hx e => by
          have e' : packR ns = theK (packZ ns) := by unfold packR; rw [hp]; rfl
          cases hq : packZ ns with
          | none => rw [e', hq] at hx; cases hx
          | some q =>
            rw [e', hq] at hx
            have hok := packZ_ok hu hq
            have : q.any (withinB 0) = true := List.any_eq_true.2 ⟨x, hx, by
              have := hok.2.1 x hx
              unfold fine at this
              unfold withinB
              simp
              omega⟩
            rw [hok.2.2.2 0, g2] at this
            cases this
        refine ⟨?_, k3, fun _ => pack_ends hp hz⟩
        simp only [cond_true]
        unfold pkB
        rw [pd_of (packR ns) none k1 hz0, k3, decide_eq_true (by omega), decide_eq_true (by omega)]
        rfl
    obtain ⟨a1, a2, a3⟩ := hA
    show ckP w (ofMany w ns) (ofLeast w ns) (ofMost w ns) (ofL w ns) = true
    generalize ofL w ns = l at a1 a2 a3
    have m1 : decide (ofMany w ns < 0) = false := decide_eq_false (by rw [eM]; cases wb w 8 <;> simp)
    have m2 : decide (ofMany w ns > 65536) = false := decide_eq_false (by rw [eM]; cases wb w 8 <;> simp <;> omega)
    have p1 : posB (ofLeast w ns) = wb w 1 := by
      rw [eL]
      cases wb w 1
      · rfl
      · exact decide_eq_true n0
    have p2 : posB (ofMost w ns) = wb w 2 := by
      rw [eH]
      cases wb w 2
      · rfl
      · exact decide_eq_true n1
    have p4 : posB (sumS l) = wb w 4 := by
      rw [a2]
      cases wb w 4
      · rfl
      · exact decide_eq_true (show (0 : Int) < (ns.length : Int) by omega)
    have p8 : posB (ofMany w ns) = wb w 8 := by
      rw [eM]
      cases wb w 8
      · rfl
      · exact decide_eq_true (show (0 : Int) < (ns.length : Int) by omega)
    have q1 : (bif gtB (sumS l) 0 then agB w (ofMany w ns) (ofLeast w ns) (ofMost w ns) l (sumS l) else true) = true := by
      show (bif posB (sumS l) then _ else true) = true
      rw [p4]
      cases c4 : wb w 4 with
      | false => rfl
      | true =>
        obtain ⟨f1, f2⟩ := a3 c4
        rw [c4, cond_true] at a2
        rw [cond_true]
        unfold agB
        rw [a2, eM, eL, eH, f1, f2]
        have w8 : IntKind.u64.wrap (ns.length : Int) = (ns.length : Int) := wrap_u64 (by omega)
        cases wb w 8 <;> cases wb w 1 <;> cases wb w 2 <;> simp [w8]
    have q2 : (bif sumS l == 0 then !(evS (ofMany w ns) (ofLeast w ns) (ofMost w ns) (sumS l)) || fiB w (ofMany w ns) (ofLeast w ns) (ofMost w ns) else true) = true := by
      cases sumS l == 0 with
      | false => rfl
      | true =>
        have hfi : fiB w (ofMany w ns) (ofLeast w ns) (ofMost w ns) = true := by
          unfold fiB
          rw [eM, eL, eH]
          have w8 : IntKind.u64.wrap (ns.length : Int) = (ns.length : Int) := wrap_u64 (by omega)
          have h1 : ns.length ≠ 1 ∨ nu ns 0 = nu ns (ns.length - 1) := by
            by_cases hh : ns.length = 1
            · rw [hh]
              exact .inr rfl
            · exact .inl hh
          have hg : gtB (bif wb w 1 then (bif wb w 1 then nu ns 0 else 0) else 1) (bif wb w 2 then (bif wb w 2 then nu ns (ns.length - 1) else 0) else 4294967295) = false := decide_eq_false (by cases wb w 1 <;> cases wb w 2 <;> simp <;> omega)
          rw [hg, cond_false]
          cases wb w 8 <;> cases wb w 1 <;> cases wb w 2 <;> simp [gtB, leB, w8] <;> omega
        rw [hfi]
        simp
    unfold ckP evA
    rw [g1, m1, m2, a1, p1, p2, p4, p8, ev_self, ev_self, ev_self, ev_self, q1, q2]
    rfl
/-- all that TallyBack asks of numbers' tally -/
theorem of_back {w : Int} {ns : List Int} (hu : ns.all u32N = true) (h : ofE w ns = 0) : ckT (ofT w ns) = true ∧ ptOk w (twT (ofT w ns)) = true ∧ ptT w (twT (ofT w ns)) = ofT w ns := by
  obtain ⟨k1, k2, k3⟩ := of_u32 (w := w) hu
  have hc := of_check hu h
  exact ⟨hc, pt_ok (x := ofT w ns) k1 k2 k3 hc, parse_back (x := ofT w ns) k1 k2 k3 hc⟩
end Go.Proofs.YtcdghinmmhcfcaaDoor.Ev

/- Whether two tallies are one; what the laws ask of the program at fixed numbers. No condition. -/
namespace Go.Proofs.YtcdghinmmhcfcaaDoor.Ev
open Go Go.RowKit Go.Proofs Go.Proofs.YtcdghinmmhcfcaaDoor.Str
set_option linter.unusedVariables false
set_option linter.unusedSimpArgs false
section
variable {m : Int} {t : TypeId} {fr : Nat × Nat}
theorem tsame_raw_v (m : Int) (t : TypeId) (fr : Nat × Nat) (w many least most w' many' least' most' : Int) (n n' : Nat) (f f' : Nat → List PV) : ((fnPure Tryd.prog ((E24 (GG m t fr)).withCuts (mrg [(1, none)] noCuts)) 60 Tryd.f9 (GG m t fr) [tlP w many least most n f, tlP w' many' least' most' n' f'])).val =
    ((.some (.lit (.bool (bif (w == w') then (bif (many == many') then (bif (least == least') then (bif (most == most') then (bif (((areSps n f) && (areSps n' f')) && (Nat.ble n (4294967280 : Nat))) then (decide ((spsOf n f) = (spsOf n' f'))) else false) else false) else false) else false) else false)))) : Option PV) := by
  kernel_rfl
theorem tsame_raw_c (m : Int) (t : TypeId) (fr : Nat × Nat) (w many least most w' many' least' most' : Int) (n n' : Nat) (f f' : Nat → List PV) : ((fnPure Tryd.prog ((E24 (GG m t fr)).withCuts (mrg [(1, none)] noCuts)) 60 Tryd.f9 (GG m t fr) [tlP w many least most n f, tlP w' many' least' most' n' f'])).conds =
    (bif (bif (w == w') then (bif (many == many') then (bif (least == least') then (bif (most == most') then (bif (((areSps n f) && (areSps n' f')) && (Nat.ble n (4294967280 : Nat))) then true else false) else true) else true) else true) else true) then
        true
      else false : Bool) := by
  kernel_rfl
theorem lives_raw_v (m : Int) (t : TypeId) (fr : Nat × Nat) : ((fnPure Tryd.prog (E24 (GG m t fr)) 60 Tryd.f4 (GG m t fr) [])).val =
    ((.some (.lit (.bool true))) : Option PV) := by
  kernel_rfl
theorem lives_raw_c (m : Int) (t : TypeId) (fr : Nat × Nat) : ((fnPure Tryd.prog (E24 (GG m t fr)) 60 Tryd.f4 (GG m t fr) [])).conds =
    (true : Bool) := by
  kernel_rfl
def livesTG : List PV → Tr PV
  | [] => .leaf (bool true)
  | _ => .fail
theorem livesT_ok : PureOK Tryd.prog (GG m t fr) 4 livesTG := by
  refine PureOK.of (fn_pure mixed E24_ok (envOf_cuts ..) (fn := Tryd.f4) (by kernel_rfl)) fun ps p hp => ?_
  unfold livesTG at hp
  split at hp
  · simp only [Tr.run, Option.some.injEq] at hp
    subst hp
    exact ⟨_, Tr.run_vc (lives_raw_v m t fr) (lives_raw_c m t fr) rfl rfl, PLe.of_eq rfl⟩
  · cases hp
/-- two tallies are one -/
def tlEq (w many least most : Int) (l : List Sp) (w' many' least' most' : Int) (l' : List Sp) : Bool := w == w' && (many == many' && (least == least' && (most == most' && decide (l = l'))))
def tsameG : List PV → Tr PV
  | [p, q] => match tlOf p, tlOf q with
    | some (w, many, least, most, n, f), some (w', many', least', most', n', f') => .br (areSps n f && areSps n' f' && Nat.ble n 4294967280) (.leaf (bool (tlEq w many least most (spsOf n f) w' many' least' most' (spsOf n' f')))) .fail
    | _, _ => .fail
  | _ => .fail
theorem tsame_ok : PureOK Tryd.prog (GG m t fr) 9 tsameG := by
  intro ps p hp
  unfold tsameG at hp
  split at hp
  · rename_i q q'
    split at hp
    · rename_i w many least most n f w' many' least' most' n' f' h1 h2
      obtain ⟨hb, hp⟩ := br_run hp
      simp only [Tr.run, Option.some.injEq] at hp
      subst hp
      refine PureAt.pre (qs := [tlP w many least most n f, tlP w' many' least' most' n' f']) ?_ (PLeL.cons (tlOf_le h1) (PLeL.cons (tlOf_le h2) .nil))
      have base := fn_mrg mixed (E24_ok (m := m) (t := t) (fr := fr)) (rs := [(1, none)]) (f := 9) (fn := Tryd.f9) (by kernel_rfl) (by kernel_rfl)
      have hv := tsame_raw_v m t fr w many least most w' many' least' most' n n' f f'
      have hc := tsame_raw_c m t fr w many least most w' many' least' most' n n' f f'
      rw [hb] at hv hc
      unfold tlEq
      cases a : w == w' <;> cases b : many == many' <;> cases c : least == least' <;> cases d : most == most' <;> simp only [a, b, c, d, cond_true, cond_false, Bool.true_and, Bool.false_and] at hv hc ⊢ <;> exact base _ _ (Tr.run_vc hv hc rfl rfl)
    · cases hp
  · cases hp
def tsPure : List (Nat × (List PV → Tr PV)) := (4, livesTG) :: (9, tsameG) :: trPure
theorem tsPure_ok {m : Int} {t : TypeId} {fr : Nat × Nat} : TabOK Tryd.prog (GG m t fr) tsPure := (TabOK.cons livesT_ok (fn := Tryd.f4) (by kernel_rfl) (by kernel_rfl) (TabOK.cons tsame_ok (fn := Tryd.f9) (by kernel_rfl) (by kernel_rfl) trPure_ok))
noncomputable abbrev E25 (G : GT) : Env := envOf Tryd.prog G tsPure tlFull
theorem E25_ok : (E25 (GG m t fr)).ok Tryd.prog (GG m t fr) := envOf_ok mixed tsPure_ok tlFull_ok
end
end Go.Proofs.YtcdghinmmhcfcaaDoor.Ev

/- TallyBack: a round, as evaluated. No condition. -/
namespace Go.Proofs.YtcdghinmmhcfcaaDoor.Ev
open Go Go.RowKit Go.Proofs Go.Proofs.YtcdghinmmhcfcaaDoor.Str
set_option linter.unusedVariables false
set_option linter.unusedSimpArgs false
section
variable {m : Int} {t : TypeId} {fr : Nat × Nat}
/-- tally.Of, with a row of none where there is no row -/
def ofG2 : List PV → Tr PV
  | [.lit (.int .u8 w), .gsl 1 n f] => .br (areNums n f && Nat.ble n 4294967280) (.br (ofE w (numsOf n f) == 0) (.leaf (.tup [tlV (ofT w (numsOf n f)), int 0])) (.leaf (.tup [tlP 0 0 0 0 0 (fun _ => []), int (ofE w (numsOf n f))]))) .fail
  | _ => .fail
theorem tlZ_le : PLe tlZ (tlP 0 0 0 0 0 fun _ => []) := tlOf_le rfl
theorem of2_ok : PureOK Tryd.prog (GG m t fr) 5 ofG2 := by
  refine PureOK.of of_ok fun ps p hp => ?_
  unfold ofG2 at hp
  split at hp
  · rename_i w n f
    obtain ⟨hb, hp⟩ := br_run hp
    unfold ofG
    simp only [Tr.run] at hp ⊢
    rw [hb]
    cases c : ofE w (numsOf n f) == 0 with
    | true =>
      rw [c] at hp
      simp only [cond_true, Option.some.injEq] at hp ⊢
      subst hp
      exact ⟨_, rfl, .refl _⟩
    | false =>
      rw [c] at hp
      simp only [cond_true, cond_false, Option.some.injEq] at hp ⊢
      subst hp
      exact ⟨_, rfl, PLe.tup (PLeL.cons tlZ_le (PLeL.refl _))⟩
  · cases hp
def tuPure : List (Nat × (List PV → Tr PV)) := (5, ofG2) :: tsPure
theorem tuPure_ok {m : Int} {t : TypeId} {fr : Nat × Nat} : TabOK Tryd.prog (GG m t fr) tuPure := (TabOK.cons of2_ok (fn := Tryd.f5) (by kernel_rfl) (by kernel_rfl) tsPure_ok)
noncomputable abbrev E26 (G : GT) : Env := envOf Tryd.prog G tuPure tlFull
theorem E26_ok : (E26 (GG m t fr)).ok Tryd.prog (GG m t fr) := envOf_ok mixed tuPure_ok tlFull_ok
def baOuts : Exit → Outs
  | .normal => { ks := [32, 33, 34], rs := [.slot 32] }
  | .exit _ => { ks := [] }
  | _ => { ks := [6] }
noncomputable abbrev baRound (G : GT) := roundT Tryd.prog (E26 G) 60 G 61 baOuts .normal (theLoop 0 Tryd.f3)
def iAt (w : Nat → Int) (i : Nat) : Int := w i
def nAt (n : Nat → Nat) (i : Nat) : Nat := n i
def fAt (f : Nat → Nat → List PV) (i : Nat) : Nat → List PV := f i
def tRows (w many least most : Nat → Int) (n : Nat → Nat) (f : Nat → Nat → List PV) (i : Nat) : List PV := [.lit (.int .u8 (iAt w i)), .lit (.int .i64 (iAt many i)), .lit (.int .u32 (iAt least i)), .lit (.int .u32 (iAt most i)), .gsl 2 (nAt n i) (fAt f i)]
theorem ba_round (m : Int) (t : TypeId) (fr : Nat × Nat) (w many least most : Nat → Int) (n : Nat → Nat) (f : Nat → Nat → List PV) (i : Nat) : (baRound (GG m t fr) ([.own 0, int 2, int ((i : Nat) : Int)], [.row 27 5 2 (tRows w many least most n f)])).run2 =
    (bif (decide (((i : Nat) : Int) < (2 : Int))) then
        bif (ckP (iAt w (Int.toNat ((i : Nat) : Int))) (iAt many (Int.toNat ((i : Nat) : Int))) (iAt least (Int.toNat ((i : Nat) : Int))) (iAt most (Int.toNat ((i : Nat) : Int))) (spsOf (nAt n (Int.toNat ((i : Nat) : Int))) (fAt f (Int.toNat ((i : Nat) : Int))))) then
          bif (aN (iAt w (Int.toNat ((i : Nat) : Int)))) then
            (.some ((.ret, ([(.lit (.bool false))], [])), [true, true, true, ((okS (bs (twS (iAt w (Int.toNat ((i : Nat) : Int))) (iAt many (Int.toNat ((i : Nat) : Int))) (iAt least (Int.toNat ((i : Nat) : Int))) (iAt most (Int.toNat ((i : Nat) : Int))) (spsOf (nAt n (Int.toNat ((i : Nat) : Int))) (fAt f (Int.toNat ((i : Nat) : Int))))))) && ((decide ((0 : Int) ≤ (iAt w (Int.toNat ((i : Nat) : Int))))) && (decide ((iAt w (Int.toNat ((i : Nat) : Int))) < (256 : Int))))), ((((decide ((0 : Int) ≤ (iAt w (Int.toNat ((i : Nat) : Int))))) && (decide ((iAt w (Int.toNat ((i : Nat) : Int))) < (256 : Int)))) && ((u32N (iAt least (Int.toNat ((i : Nat) : Int)))) && (u32N (iAt most (Int.toNat ((i : Nat) : Int)))))) && ((areSps (nAt n (Int.toNat ((i : Nat) : Int))) (fAt f (Int.toNat ((i : Nat) : Int)))) && (Nat.ble (nAt n (Int.toNat ((i : Nat) : Int))) (4294967280 : Nat)))), (Nat.blt (Int.toNat ((i : Nat) : Int)) 2), ((decide ((0 : Int) ≤ ((i : Nat) : Int))) && (Nat.blt (Int.toNat ((i : Nat) : Int)) 2))]))
          else bif (ptOk (iAt w (Int.toNat ((i : Nat) : Int))) (twS (iAt w (Int.toNat ((i : Nat) : Int))) (iAt many (Int.toNat ((i : Nat) : Int))) (iAt least (Int.toNat ((i : Nat) : Int))) (iAt most (Int.toNat ((i : Nat) : Int))) (spsOf (nAt n (Int.toNat ((i : Nat) : Int))) (fAt f (Int.toNat ((i : Nat) : Int)))))) then
              bif (aN (iAt w (Int.toNat ((i : Nat) : Int)))) then
                (.some ((.ret, ([(.lit (.bool false))], [])), [true, true, true, ((okS (bs (twS (iAt w (Int.toNat ((i : Nat) : Int))) (iAt many (Int.toNat ((i : Nat) : Int))) (iAt least (Int.toNat ((i : Nat) : Int))) (iAt most (Int.toNat ((i : Nat) : Int))) (spsOf (nAt n (Int.toNat ((i : Nat) : Int))) (fAt f (Int.toNat ((i : Nat) : Int))))))) && ((decide ((0 : Int) ≤ (iAt w (Int.toNat ((i : Nat) : Int))))) && (decide ((iAt w (Int.toNat ((i : Nat) : Int))) < (256 : Int))))), ((okS (bs (twS (iAt w (Int.toNat ((i : Nat) : Int))) (iAt many (Int.toNat ((i : Nat) : Int))) (iAt least (Int.toNat ((i : Nat) : Int))) (iAt most (Int.toNat ((i : Nat) : Int))) (spsOf (nAt n (Int.toNat ((i : Nat) : Int))) (fAt f (Int.toNat ((i : Nat) : Int))))))) && ((decide ((0 : Int) ≤ (iAt w (Int.toNat ((i : Nat) : Int))))) && (decide ((iAt w (Int.toNat ((i : Nat) : Int))) < (256 : Int))))), ((((decide ((0 : Int) ≤ (iAt w (Int.toNat ((i : Nat) : Int))))) && (decide ((iAt w (Int.toNat ((i : Nat) : Int))) < (256 : Int)))) && ((u32N (iAt least (Int.toNat ((i : Nat) : Int)))) && (u32N (iAt most (Int.toNat ((i : Nat) : Int)))))) && ((areSps (nAt n (Int.toNat ((i : Nat) : Int))) (fAt f (Int.toNat ((i : Nat) : Int)))) && (Nat.ble (nAt n (Int.toNat ((i : Nat) : Int))) (4294967280 : Nat)))), (Nat.blt (Int.toNat ((i : Nat) : Int)) 2), ((decide ((0 : Int) ≤ ((i : Nat) : Int))) && (Nat.blt (Int.toNat ((i : Nat) : Int)) 2))]))
              else bif (ptOk (iAt w (Int.toNat ((i : Nat) : Int))) (twS (iAt w (Int.toNat ((i : Nat) : Int))) (iAt many (Int.toNat ((i : Nat) : Int))) (iAt least (Int.toNat ((i : Nat) : Int))) (iAt most (Int.toNat ((i : Nat) : Int))) (spsOf (nAt n (Int.toNat ((i : Nat) : Int))) (fAt f (Int.toNat ((i : Nat) : Int)))))) then
                  bif (!(tlEq (Tl.w (ptT (iAt w (Int.toNat ((i : Nat) : Int))) (twS (iAt w (Int.toNat ((i : Nat) : Int))) (iAt many (Int.toNat ((i : Nat) : Int))) (iAt least (Int.toNat ((i : Nat) : Int))) (iAt most (Int.toNat ((i : Nat) : Int))) (spsOf (nAt n (Int.toNat ((i : Nat) : Int))) (fAt f (Int.toNat ((i : Nat) : Int))))))) (Tl.many (ptT (iAt w (Int.toNat ((i : Nat) : Int))) (twS (iAt w (Int.toNat ((i : Nat) : Int))) (iAt many (Int.toNat ((i : Nat) : Int))) (iAt least (Int.toNat ((i : Nat) : Int))) (iAt most (Int.toNat ((i : Nat) : Int))) (spsOf (nAt n (Int.toNat ((i : Nat) : Int))) (fAt f (Int.toNat ((i : Nat) : Int))))))) (Tl.least (ptT (iAt w (Int.toNat ((i : Nat) : Int))) (twS (iAt w (Int.toNat ((i : Nat) : Int))) (iAt many (Int.toNat ((i : Nat) : Int))) (iAt least (Int.toNat ((i : Nat) : Int))) (iAt most (Int.toNat ((i : Nat) : Int))) (spsOf (nAt n (Int.toNat ((i : Nat) : Int))) (fAt f (Int.toNat ((i : Nat) : Int))))))) (Tl.most (ptT (iAt w (Int.toNat ((i : Nat) : Int))) (twS (iAt w (Int.toNat ((i : Nat) : Int))) (iAt many (Int.toNat ((i : Nat) : Int))) (iAt least (Int.toNat ((i : Nat) : Int))) (iAt most (Int.toNat ((i : Nat) : Int))) (spsOf (nAt n (Int.toNat ((i : Nat) : Int))) (fAt f (Int.toNat ((i : Nat) : Int))))))) (spsOf (List.length (Tl.l (ptT (iAt w (Int.toNat ((i : Nat) : Int))) (twS (iAt w (Int.toNat ((i : Nat) : Int))) (iAt many (Int.toNat ((i : Nat) : Int))) (iAt least (Int.toNat ((i : Nat) : Int))) (iAt most (Int.toNat ((i : Nat) : Int))) (spsOf (nAt n (Int.toNat ((i : Nat) : Int))) (fAt f (Int.toNat ((i : Nat) : Int)))))))) (sRow (Tl.l (ptT (iAt w (Int.toNat ((i : Nat) : Int))) (twS (iAt w (Int.toNat ((i : Nat) : Int))) (iAt many (Int.toNat ((i : Nat) : Int))) (iAt least (Int.toNat ((i : Nat) : Int))) (iAt most (Int.toNat ((i : Nat) : Int))) (spsOf (nAt n (Int.toNat ((i : Nat) : Int))) (fAt f (Int.toNat ((i : Nat) : Int))))))))) (iAt w (Int.toNat ((i : Nat) : Int))) (iAt many (Int.toNat ((i : Nat) : Int))) (iAt least (Int.toNat ((i : Nat) : Int))) (iAt most (Int.toNat ((i : Nat) : Int))) (spsOf (nAt n (Int.toNat ((i : Nat) : Int))) (fAt f (Int.toNat ((i : Nat) : Int)))))) then
                    (.some ((.ret, ([(.lit (.bool false))], [])), [(((areSps (List.length (Tl.l (ptT (iAt w (Int.toNat ((i : Nat) : Int))) (twS (iAt w (Int.toNat ((i : Nat) : Int))) (iAt many (Int.toNat ((i : Nat) : Int))) (iAt least (Int.toNat ((i : Nat) : Int))) (iAt most (Int.toNat ((i : Nat) : Int))) (spsOf (nAt n (Int.toNat ((i : Nat) : Int))) (fAt f (Int.toNat ((i : Nat) : Int)))))))) (sRow (Tl.l (ptT (iAt w (Int.toNat ((i : Nat) : Int))) (twS (iAt w (Int.toNat ((i : Nat) : Int))) (iAt many (Int.toNat ((i : Nat) : Int))) (iAt least (Int.toNat ((i : Nat) : Int))) (iAt most (Int.toNat ((i : Nat) : Int))) (spsOf (nAt n (Int.toNat ((i : Nat) : Int))) (fAt f (Int.toNat ((i : Nat) : Int))))))))) && (areSps (nAt n (Int.toNat ((i : Nat) : Int))) (fAt f (Int.toNat ((i : Nat) : Int))))) && (Nat.ble (List.length (Tl.l (ptT (iAt w (Int.toNat ((i : Nat) : Int))) (twS (iAt w (Int.toNat ((i : Nat) : Int))) (iAt many (Int.toNat ((i : Nat) : Int))) (iAt least (Int.toNat ((i : Nat) : Int))) (iAt most (Int.toNat ((i : Nat) : Int))) (spsOf (nAt n (Int.toNat ((i : Nat) : Int))) (fAt f (Int.toNat ((i : Nat) : Int)))))))) (4294967280 : Nat))), ((okS (bs (twS (iAt w (Int.toNat ((i : Nat) : Int))) (iAt many (Int.toNat ((i : Nat) : Int))) (iAt least (Int.toNat ((i : Nat) : Int))) (iAt most (Int.toNat ((i : Nat) : Int))) (spsOf (nAt n (Int.toNat ((i : Nat) : Int))) (fAt f (Int.toNat ((i : Nat) : Int))))))) && ((decide ((0 : Int) ≤ (iAt w (Int.toNat ((i : Nat) : Int))))) && (decide ((iAt w (Int.toNat ((i : Nat) : Int))) < (256 : Int))))), ((okS (bs (twS (iAt w (Int.toNat ((i : Nat) : Int))) (iAt many (Int.toNat ((i : Nat) : Int))) (iAt least (Int.toNat ((i : Nat) : Int))) (iAt most (Int.toNat ((i : Nat) : Int))) (spsOf (nAt n (Int.toNat ((i : Nat) : Int))) (fAt f (Int.toNat ((i : Nat) : Int))))))) && ((decide ((0 : Int) ≤ (iAt w (Int.toNat ((i : Nat) : Int))))) && (decide ((iAt w (Int.toNat ((i : Nat) : Int))) < (256 : Int))))), ((((decide ((0 : Int) ≤ (iAt w (Int.toNat ((i : Nat) : Int))))) && (decide ((iAt w (Int.toNat ((i : Nat) : Int))) < (256 : Int)))) && ((u32N (iAt least (Int.toNat ((i : Nat) : Int)))) && (u32N (iAt most (Int.toNat ((i : Nat) : Int)))))) && ((areSps (nAt n (Int.toNat ((i : Nat) : Int))) (fAt f (Int.toNat ((i : Nat) : Int)))) && (Nat.ble (nAt n (Int.toNat ((i : Nat) : Int))) (4294967280 : Nat)))), (Nat.blt (Int.toNat ((i : Nat) : Int)) 2), ((decide ((0 : Int) ≤ ((i : Nat) : Int))) && (Nat.blt (Int.toNat ((i : Nat) : Int)) 2))]))
                  else (.some ((.normal, ([(.own 0), (.lit (.int .i64 (2 : Int))), (.lit (.int .i64 (IntKind.wrap .i64 (((i : Nat) : Int) + (1 : Int)))))], [(.row 27 5 2 (fun i =>
  [PV.lit (Value.int IntKind.u8 (iAt w i)), PV.lit (Value.int IntKind.i64 (iAt many i)),
    PV.lit (Value.int IntKind.u32 (iAt least i)), PV.lit (Value.int IntKind.u32 (iAt most i)),
    PV.gsl 2 (nAt n i) (fAt f i)]))])), [(((areSps (List.length (Tl.l (ptT (iAt w (Int.toNat ((i : Nat) : Int))) (twS (iAt w (Int.toNat ((i : Nat) : Int))) (iAt many (Int.toNat ((i : Nat) : Int))) (iAt least (Int.toNat ((i : Nat) : Int))) (iAt most (Int.toNat ((i : Nat) : Int))) (spsOf (nAt n (Int.toNat ((i : Nat) : Int))) (fAt f (Int.toNat ((i : Nat) : Int)))))))) (sRow (Tl.l (ptT (iAt w (Int.toNat ((i : Nat) : Int))) (twS (iAt w (Int.toNat ((i : Nat) : Int))) (iAt many (Int.toNat ((i : Nat) : Int))) (iAt least (Int.toNat ((i : Nat) : Int))) (iAt most (Int.toNat ((i : Nat) : Int))) (spsOf (nAt n (Int.toNat ((i : Nat) : Int))) (fAt f (Int.toNat ((i : Nat) : Int))))))))) && (areSps (nAt n (Int.toNat ((i : Nat) : Int))) (fAt f (Int.toNat ((i : Nat) : Int))))) && (Nat.ble (List.length (Tl.l (ptT (iAt w (Int.toNat ((i : Nat) : Int))) (twS (iAt w (Int.toNat ((i : Nat) : Int))) (iAt many (Int.toNat ((i : Nat) : Int))) (iAt least (Int.toNat ((i : Nat) : Int))) (iAt most (Int.toNat ((i : Nat) : Int))) (spsOf (nAt n (Int.toNat ((i : Nat) : Int))) (fAt f (Int.toNat ((i : Nat) : Int)))))))) (4294967280 : Nat))), ((okS (bs (twS (iAt w (Int.toNat ((i : Nat) : Int))) (iAt many (Int.toNat ((i : Nat) : Int))) (iAt least (Int.toNat ((i : Nat) : Int))) (iAt most (Int.toNat ((i : Nat) : Int))) (spsOf (nAt n (Int.toNat ((i : Nat) : Int))) (fAt f (Int.toNat ((i : Nat) : Int))))))) && ((decide ((0 : Int) ≤ (iAt w (Int.toNat ((i : Nat) : Int))))) && (decide ((iAt w (Int.toNat ((i : Nat) : Int))) < (256 : Int))))), ((okS (bs (twS (iAt w (Int.toNat ((i : Nat) : Int))) (iAt many (Int.toNat ((i : Nat) : Int))) (iAt least (Int.toNat ((i : Nat) : Int))) (iAt most (Int.toNat ((i : Nat) : Int))) (spsOf (nAt n (Int.toNat ((i : Nat) : Int))) (fAt f (Int.toNat ((i : Nat) : Int))))))) && ((decide ((0 : Int) ≤ (iAt w (Int.toNat ((i : Nat) : Int))))) && (decide ((iAt w (Int.toNat ((i : Nat) : Int))) < (256 : Int))))), ((((decide ((0 : Int) ≤ (iAt w (Int.toNat ((i : Nat) : Int))))) && (decide ((iAt w (Int.toNat ((i : Nat) : Int))) < (256 : Int)))) && ((u32N (iAt least (Int.toNat ((i : Nat) : Int)))) && (u32N (iAt most (Int.toNat ((i : Nat) : Int)))))) && ((areSps (nAt n (Int.toNat ((i : Nat) : Int))) (fAt f (Int.toNat ((i : Nat) : Int)))) && (Nat.ble (nAt n (Int.toNat ((i : Nat) : Int))) (4294967280 : Nat)))), (Nat.blt (Int.toNat ((i : Nat) : Int)) 2), ((decide ((0 : Int) ≤ ((i : Nat) : Int))) && (Nat.blt (Int.toNat ((i : Nat) : Int)) 2))]))
                else (.some ((.ret, ([(.lit (.bool false))], [])), [true, true, true, ((okS (bs (twS (iAt w (Int.toNat ((i : Nat) : Int))) (iAt many (Int.toNat ((i : Nat) : Int))) (iAt least (Int.toNat ((i : Nat) : Int))) (iAt most (Int.toNat ((i : Nat) : Int))) (spsOf (nAt n (Int.toNat ((i : Nat) : Int))) (fAt f (Int.toNat ((i : Nat) : Int))))))) && ((decide ((0 : Int) ≤ (iAt w (Int.toNat ((i : Nat) : Int))))) && (decide ((iAt w (Int.toNat ((i : Nat) : Int))) < (256 : Int))))), ((okS (bs (twS (iAt w (Int.toNat ((i : Nat) : Int))) (iAt many (Int.toNat ((i : Nat) : Int))) (iAt least (Int.toNat ((i : Nat) : Int))) (iAt most (Int.toNat ((i : Nat) : Int))) (spsOf (nAt n (Int.toNat ((i : Nat) : Int))) (fAt f (Int.toNat ((i : Nat) : Int))))))) && ((decide ((0 : Int) ≤ (iAt w (Int.toNat ((i : Nat) : Int))))) && (decide ((iAt w (Int.toNat ((i : Nat) : Int))) < (256 : Int))))), ((((decide ((0 : Int) ≤ (iAt w (Int.toNat ((i : Nat) : Int))))) && (decide ((iAt w (Int.toNat ((i : Nat) : Int))) < (256 : Int)))) && ((u32N (iAt least (Int.toNat ((i : Nat) : Int)))) && (u32N (iAt most (Int.toNat ((i : Nat) : Int)))))) && ((areSps (nAt n (Int.toNat ((i : Nat) : Int))) (fAt f (Int.toNat ((i : Nat) : Int)))) && (Nat.ble (nAt n (Int.toNat ((i : Nat) : Int))) (4294967280 : Nat)))), (Nat.blt (Int.toNat ((i : Nat) : Int)) 2), ((decide ((0 : Int) ≤ ((i : Nat) : Int))) && (Nat.blt (Int.toNat ((i : Nat) : Int)) 2))]))
            else (.some ((.ret, ([(.lit (.bool false))], [])), [true, true, true, ((okS (bs (twS (iAt w (Int.toNat ((i : Nat) : Int))) (iAt many (Int.toNat ((i : Nat) : Int))) (iAt least (Int.toNat ((i : Nat) : Int))) (iAt most (Int.toNat ((i : Nat) : Int))) (spsOf (nAt n (Int.toNat ((i : Nat) : Int))) (fAt f (Int.toNat ((i : Nat) : Int))))))) && ((decide ((0 : Int) ≤ (iAt w (Int.toNat ((i : Nat) : Int))))) && (decide ((iAt w (Int.toNat ((i : Nat) : Int))) < (256 : Int))))), ((((decide ((0 : Int) ≤ (iAt w (Int.toNat ((i : Nat) : Int))))) && (decide ((iAt w (Int.toNat ((i : Nat) : Int))) < (256 : Int)))) && ((u32N (iAt least (Int.toNat ((i : Nat) : Int)))) && (u32N (iAt most (Int.toNat ((i : Nat) : Int)))))) && ((areSps (nAt n (Int.toNat ((i : Nat) : Int))) (fAt f (Int.toNat ((i : Nat) : Int)))) && (Nat.ble (nAt n (Int.toNat ((i : Nat) : Int))) (4294967280 : Nat)))), (Nat.blt (Int.toNat ((i : Nat) : Int)) 2), ((decide ((0 : Int) ≤ ((i : Nat) : Int))) && (Nat.blt (Int.toNat ((i : Nat) : Int)) 2))]))
        else (.some ((.normal, ([(.own 0), (.lit (.int .i64 (2 : Int))), (.lit (.int .i64 (IntKind.wrap .i64 (((i : Nat) : Int) + (1 : Int)))))], [(.row 27 5 2 (fun i =>
  [PV.lit (Value.int IntKind.u8 (iAt w i)), PV.lit (Value.int IntKind.i64 (iAt many i)),
    PV.lit (Value.int IntKind.u32 (iAt least i)), PV.lit (Value.int IntKind.u32 (iAt most i)),
    PV.gsl 2 (nAt n i) (fAt f i)]))])), [((((decide ((0 : Int) ≤ (iAt w (Int.toNat ((i : Nat) : Int))))) && (decide ((iAt w (Int.toNat ((i : Nat) : Int))) < (256 : Int)))) && ((u32N (iAt least (Int.toNat ((i : Nat) : Int)))) && (u32N (iAt most (Int.toNat ((i : Nat) : Int)))))) && ((areSps (nAt n (Int.toNat ((i : Nat) : Int))) (fAt f (Int.toNat ((i : Nat) : Int)))) && (Nat.ble (nAt n (Int.toNat ((i : Nat) : Int))) (4294967280 : Nat)))), (Nat.blt (Int.toNat ((i : Nat) : Int)) 2), ((decide ((0 : Int) ≤ ((i : Nat) : Int))) && (Nat.blt (Int.toNat ((i : Nat) : Int)) 2))]))
      else (.some (((.exit 0), ([], [])), [])) : Option ((Exit × Kept) × List Bool)) := by
  kernel_rfl
end
end Go.Proofs.YtcdghinmmhcfcaaDoor.Ev

/- TallyBack: the rounds, and the law as evaluated. No condition. -/
namespace Go.Proofs.YtcdghinmmhcfcaaDoor.Ev
open Go Go.RowKit Go.Proofs Go.Proofs.YtcdghinmmhcfcaaDoor.Str
set_option linter.unusedVariables false
set_option linter.unusedSimpArgs false
theorem twS_len {w many least most : Int} {l : List Sp} (hl : u32N least = true) (hm : u32N most = true) (hs : l.all u32B = true) (h : ckP w many least most l = true) : (twS w many least most l).length ≤ 180232 := by
  obtain ⟨f1, f2, f3, f4, f5, f6⟩ := ck_facts8 h
  unfold u32N at hl hm
  simp only [Bool.and_eq_true, decide_eq_true_eq] at hl hm
  have hd : ∀ y : Int, 0 ≤ y → y < 4294967296 → (decI y).length ≤ 22528 := fun y h0 h1 => by
    have := dec_len 9 y.toNat (by omega)
    unfold decI
    omega
  have hw := writeS_len hs
  have hall : ∀ y ∈ twL w many least most l, y.length ≤ 22528 := by
    intro y hy
    unfold twL at hy
    simp only [List.mem_append] at hy
    rcases hy with hy | hy | hy | hy
    · cases hb : decide (least > 0) with
      | false => rw [hb] at hy; cases hy
      | true =>
        rw [hb] at hy
        simp only [cond_true, List.mem_cons, List.not_mem_nil, or_false] at hy
        rcases hy with rfl | rfl
        · decide
        · exact hd _ hl.1 hl.2
    · cases hb : decide (most > 0) with
      | false => rw [hb] at hy; cases hy
      | true =>
        rw [hb] at hy
        simp only [cond_true, List.mem_cons, List.not_mem_nil, or_false] at hy
        rcases hy with rfl | rfl
        · decide
        · exact hd _ hm.1 hm.2
    · cases hb : decide ((l.length : Int) > 0) with
      | false => rw [hb] at hy; cases hy
      | true =>
        rw [hb] at hy
        simp only [cond_true, List.mem_cons, List.not_mem_nil, or_false] at hy
        rcases hy with rfl | rfl
        · decide
        · omega
    · cases hb : wb w 8 with
      | false => rw [hb] at hy; cases hy
      | true =>
        rw [hb] at hy
        simp only [cond_true, List.mem_cons, List.not_mem_nil, or_false] at hy
        rcases hy with rfl | rfl
        · decide
        · exact hd _ f2 (by omega)
  have hn : (twL w many least most l).length ≤ 8 := by
    unfold twL
    cases decide (least > 0) <;> cases decide (most > 0) <;> cases decide ((l.length : Int) > 0) <;> cases wb w 8 <;> simp
  have := joinC_le 32 22528 _ hall
  unfold twS
  omega
section
variable {m : Int} {t : TypeId} {fr : Nat × Nat}
theorem ba_step (w many least most : Nat → Int) (n : Nat → Nat) (f : Nat → Nat → List PV) {i : Nat} (hi : i < 2) (hB : tlB (iAt w i) (iAt least i) (iAt most i) (nAt n i) (fAt f i) = true) :
    (baRound (GG m t fr) ([.own 0, int 2, int ((i : Nat) : Int)], [.row 27 5 2 (tRows w many least most n f)])).run = some (.normal, ([.own 0, int 2, int ((i + 1 : Nat) : Int)], [.row 27 5 2 (tRows w many least most n f)])) := by
  have h := ba_round m t fr w many least most n f i
  rw [decide_eq_true (show ((i : Nat) : Int) < 2 by omega), cond_true] at h
  simp only [Int.toNat_natCast] at h
  have hw : IntKind.i64.wrap ((i : Int) + 1) = ((i + 1 : Nat) : Int) := wrap_succ (by omega)
  rw [hw] at h
  have b2 : Nat.blt i 2 = true := by rw [Nat.blt_eq]; exact hi
  have b3 : decide ((0 : Int) ≤ (i : Int)) = true := by simp
  unfold tlB at hB
  simp only [Bool.and_eq_true, decide_eq_true_eq] at hB
  obtain ⟨⟨⟨h1, h2⟩, h3, h4⟩, h5, h6⟩ := hB
  have hs : (spsOf (nAt n i) (fAt f i)).all u32B = true := sps_u32 h5
  rw [b2, b3, h5, h6] at h
  generalize spsOf (nAt n i) (fAt f i) = l at h hs
  rw [decide_eq_true h1, decide_eq_true h2, h3, h4] at h
  cases ck : ckP (iAt w i) (iAt many i) (iAt least i) (iAt most i) l with
  | false =>
    rw [ck, cond_false] at h
    exact Tr.run_of h rfl
  | true =>
    have k1 : ptT (iAt w i) (twS (iAt w i) (iAt many i) (iAt least i) (iAt most i) l) = ⟨(iAt w i), (iAt many i), (iAt least i), (iAt most i), l⟩ := parse_back (x := ⟨(iAt w i), (iAt many i), (iAt least i), (iAt most i), l⟩) h3 h4 hs ck
    have k2 : ptOk (iAt w i) (twS (iAt w i) (iAt many i) (iAt least i) (iAt most i) l) = true := pt_ok (x := ⟨(iAt w i), (iAt many i), (iAt least i), (iAt most i), l⟩) h3 h4 hs ck
    have k3 : aN (iAt w i) = false := (ck_facts8 ck).1
    have k5 : l.length ≤ 1024 := (ck_facts8 ck).2.2.2.2.1
    have k4 : okS (bs (twS (iAt w i) (iAt many i) (iAt least i) (iAt most i) l)) = true := by
      have := twS_len h3 h4 hs ck
      have e : (bs (twS (iAt w i) (iAt many i) (iAt least i) (iAt most i) l)).size = (twS (iAt w i) (iAt many i) (iAt least i) (iAt most i) l).length := bs_len _
      exact okS_of (by omega)
    have k6 : tlEq (iAt w i) (iAt many i) (iAt least i) (iAt most i) l (iAt w i) (iAt many i) (iAt least i) (iAt most i) l = true := by simp [tlEq]
    have k7 : Nat.ble l.length 4294967280 = true := Nat.ble_eq_true_of_le (by omega)
    rw [ck, k3, k2, k1, k4] at h
    simp only [cond_true, cond_false] at h
    rw [sps_sRow, are_sRow hs, k6, k7] at h
    exact Tr.run_of h rfl
theorem ba_LR (w many least most : Nat → Int) (n : Nat → Nat) (f : Nat → Nat → List PV) (hB : ∀ i, i < 2 → tlB (iAt w i) (iAt least i) (iAt most i) (nAt n i) (fAt f i) = true) :
    LR Tryd.prog (E26 (GG m t fr)) 60 (GG m t fr) 61 baOuts .normal (theLoop 0 Tryd.f3) ([.own 0, int 2, int 0], [.row 27 5 2 (tRows w many least most n f)]) (.exit 0) ([], []) :=
  .more (ba_step w many least most n f (i := 0) (by omega) (hB 0 (by omega))) (.more (ba_step w many least most n f (i := 1) (by omega) (hB 1 (by omega)))
    (.last (Tr.run_of (ba_round m t fr w many least most n f 2) rfl) (by simp) (by simp)))
def tlRo : List PV → Option (Int × Int × Int × Int × Nat × (Nat → List PV))
  | [.lit (.int .u8 w), .lit (.int .i64 many), .lit (.int .u32 least), .lit (.int .u32 most), .gsl 2 n f] => some (w, many, least, most, n, f)
  | _ => none
theorem tlRo_eq {l : List PV} {w many least most : Int} {n : Nat} {f : Nat → List PV} (h : tlRo l = some (w, many, least, most, n, f)) : l = [.lit (.int .u8 w), .lit (.int .i64 many), .lit (.int .u32 least), .lit (.int .u32 most), .gsl 2 n f] := by
  unfold tlRo at h
  split at h
  · cases h
    rfl
  · cases h
def baF : Kept → Tr (Exit × Kept)
  | ([.own 0, .lit (.int .i64 2), .lit (.int .i64 0)], [.row e 5 2 g]) => match Nat.beq e 27 with
    | true => match tlRo (g 0) with
      | some (w0, many0, least0, most0, n0, f0) => match tlRo (g 1) with
        | some (w1, many1, least1, most1, n1, f1) => .br (tlB w0 least0 most0 n0 f0 && tlB w1 least1 most1 n1 f1) (.leaf (.exit 0, ([], []))) .fail
        | none => .fail
      | none => .fail
    | false => .fail
  | _ => .fail
theorem baF_ok (k : Kept) (e : Exit) (y : Kept) (h : (baF k).run = some (e, y)) : LR Tryd.prog (E26 (GG m t fr)) 60 (GG m t fr) 61 baOuts .normal (theLoop 0 Tryd.f3) k e y := by
  unfold baF at h
  split at h
  · rename_i e0 g
    split at h
    · rename_i he
      obtain rfl := Nat.eq_of_beq_eq_true he
      split at h
      · rename_i w0 many0 least0 most0 n0 f0 h0
        split at h
        · rename_i w1 many1 least1 most1 n1 f1 h1
          obtain ⟨hb, h⟩ := br_run h
          simp only [Bool.and_eq_true] at hb
          simp only [Tr.run, Option.some.injEq, Prod.mk.injEq] at h
          obtain ⟨rfl, rfl⟩ := h
          have key := ba_LR (m := m) (t := t) (fr := fr) (fun i => bif Nat.beq i 0 then w0 else w1) (fun i => bif Nat.beq i 0 then many0 else many1) (fun i => bif Nat.beq i 0 then least0 else least1) (fun i => bif Nat.beq i 0 then most0 else most1) (fun i => bif Nat.beq i 0 then n0 else n1) (fun i => bif Nat.beq i 0 then f0 else f1) (fun i hi => by
            match i, hi with
            | 0, _ => exact hb.1
            | 1, _ => exact hb.2)
          have hrow : ∀ j, j < 2 → g j = (tRows (fun i => bif Nat.beq i 0 then w0 else w1) (fun i => bif Nat.beq i 0 then many0 else many1) (fun i => bif Nat.beq i 0 then least0 else least1) (fun i => bif Nat.beq i 0 then most0 else most1) (fun i => bif Nat.beq i 0 then n0 else n1) (fun i => bif Nat.beq i 0 then f0 else f1)) j := fun j hj => by
            match j, hj with
            | 0, _ => exact tlRo_eq h0
            | 1, _ => exact tlRo_eq h1
          have hin : KLe ([.own 0, int 2, int 0], [.row 27 5 2 g]) ([.own 0, int 2, int 0], [.row 27 5 2 (tRows (fun i => bif Nat.beq i 0 then w0 else w1) (fun i => bif Nat.beq i 0 then many0 else many1) (fun i => bif Nat.beq i 0 then least0 else least1) (fun i => bif Nat.beq i 0 then most0 else most1) (fun i => bif Nat.beq i 0 then n0 else n1) (fun i => bif Nat.beq i 0 then f0 else f1))]) := ⟨PLeL.refl _, BLeL.cons (.row _ _ rfl hrow) .nil⟩
          exact .le hin key
        · cases h
      · cases h
    · cases h
  · cases h
noncomputable abbrev baCut (G : GT) := cutOf G 61 baOuts 0 baF
theorem tback_raw_v (m : Int) (t : TypeId) (fr : Nat × Nat) (w : Int) (k : Nat) (ns : List Int) (w' many' least' most' : Int) (n : Nat) (f : Nat → List PV) : ((fnPure Tryd.prog ((E26 (GG m t fr)).withCuts (cut1 0 (baCut (GG m t fr)))) 60 Tryd.f3 (GG m t fr) [.lit (.int .u8 w), .gsl 1 k (nRow ns), tlP w' many' least' most' n f])).val =
    (bif ((ofE w (numsOf k (nRow ns))) == (0 : Int)) then
        bif ((ofE w (numsOf k (nRow ns))) == (0 : Int)) then
          bif (ckP w (ofMany w (numsOf k (nRow ns))) (ofLeast w (numsOf k (nRow ns))) (ofMost w (numsOf k (nRow ns))) (spsOf (List.length (ofL w (numsOf k (nRow ns)))) (sRow (ofL w (numsOf k (nRow ns)))))) then
            (.some (.lit (.bool true)))
          else (.some (.lit (.bool false)))
        else bif ((ofE w (numsOf k (nRow ns))) == (0 : Int)) then
            (.some (.lit (.bool true)))
          else (.some (.lit (.bool true)))
      else bif ((ofE w (numsOf k (nRow ns))) == (0 : Int)) then
          bif (ckP w (ofMany w (numsOf k (nRow ns))) (ofLeast w (numsOf k (nRow ns))) (ofMost w (numsOf k (nRow ns))) (spsOf (List.length (ofL w (numsOf k (nRow ns)))) (sRow (ofL w (numsOf k (nRow ns)))))) then
            (.some (.lit (.bool true)))
          else (.some (.lit (.bool false)))
        else bif ((ofE w (numsOf k (nRow ns))) == (0 : Int)) then
            (.some (.lit (.bool true)))
          else (.some (.lit (.bool true))) : Option PV) := by
  kernel_rfl
theorem tback_raw_c (m : Int) (t : TypeId) (fr : Nat × Nat) (w : Int) (k : Nat) (ns : List Int) (w' many' least' most' : Int) (n : Nat) (f : Nat → List PV) : ((fnPure Tryd.prog ((E26 (GG m t fr)).withCuts (cut1 0 (baCut (GG m t fr)))) 60 Tryd.f3 (GG m t fr) [.lit (.int .u8 w), .gsl 1 k (nRow ns), tlP w' many' least' most' n f])).conds =
    (bif ((areNums k (nRow ns)) && (Nat.ble k (4294967280 : Nat))) then
        bif ((ofE w (numsOf k (nRow ns))) == (0 : Int)) then
          bif ((areNums k (nRow ns)) && (Nat.ble k (4294967280 : Nat))) then
            bif ((ofE w (numsOf k (nRow ns))) == (0 : Int)) then
              bif (tlB w (ofLeast w (numsOf k (nRow ns))) (ofMost w (numsOf k (nRow ns))) (List.length (ofL w (numsOf k (nRow ns)))) (sRow (ofL w (numsOf k (nRow ns))))) then
                bif (ckP w (ofMany w (numsOf k (nRow ns))) (ofLeast w (numsOf k (nRow ns))) (ofMost w (numsOf k (nRow ns))) (spsOf (List.length (ofL w (numsOf k (nRow ns)))) (sRow (ofL w (numsOf k (nRow ns)))))) then
                  bif ((tlB w (ofLeast w (numsOf k (nRow ns))) (ofMost w (numsOf k (nRow ns))) (List.length (ofL w (numsOf k (nRow ns)))) (sRow (ofL w (numsOf k (nRow ns))))) && (tlB w' least' most' n f)) then
                    true
                  else false
                else true
              else false
            else bif ((ofE w (numsOf k (nRow ns))) == (0 : Int)) then
                bif (tlB w' least' most' n f) then
                  true
                else false
              else bif (tlB w' least' most' n f) then
                  true
                else false
          else false
        else bif ((areNums k (nRow ns)) && (Nat.ble k (4294967280 : Nat))) then
            bif ((ofE w (numsOf k (nRow ns))) == (0 : Int)) then
              bif (tlB w (ofLeast w (numsOf k (nRow ns))) (ofMost w (numsOf k (nRow ns))) (List.length (ofL w (numsOf k (nRow ns)))) (sRow (ofL w (numsOf k (nRow ns))))) then
                bif (ckP w (ofMany w (numsOf k (nRow ns))) (ofLeast w (numsOf k (nRow ns))) (ofMost w (numsOf k (nRow ns))) (spsOf (List.length (ofL w (numsOf k (nRow ns)))) (sRow (ofL w (numsOf k (nRow ns)))))) then
                  bif ((tlB w (ofLeast w (numsOf k (nRow ns))) (ofMost w (numsOf k (nRow ns))) (List.length (ofL w (numsOf k (nRow ns)))) (sRow (ofL w (numsOf k (nRow ns))))) && (tlB w' least' most' n f)) then
                    true
                  else false
                else true
              else false
            else bif ((ofE w (numsOf k (nRow ns))) == (0 : Int)) then
                bif (tlB w' least' most' n f) then
                  true
                else false
              else bif (tlB w' least' most' n f) then
                  true
                else false
          else false
      else false : Bool) := by
  kernel_rfl
end
end Go.Proofs.YtcdghinmmhcfcaaDoor.Ev

/- TallyBack, a law. No condition. -/
namespace Go.Proofs.YtcdghinmmhcfcaaDoor.Ev
open Go Go.RowKit Go.Proofs Go.Proofs.YtcdghinmmhcfcaaDoor.Str
set_option linter.unusedVariables false
set_option linter.unusedSimpArgs false
section
variable {m : Int} {t : TypeId} {fr : Nat × Nat}
theorem tlB_of {w : Int} {ns : List Int} (hw : 0 ≤ w ∧ w < 256) (hu : ns.all u32N = true) : tlB w (ofLeast w ns) (ofMost w ns) (ofL w ns).length (sRow (ofL w ns)) = true := by
  obtain ⟨k1, k2, k3⟩ := of_u32 (w := w) hu
  have hl : (ofL w ns).length ≤ 1024 := by
    unfold ofL
    cases ((ns.length : Nat) : Int) == 0
    · cases wb w 4
      · simp
      · exact packE_len
    · simp
  unfold tlB
  rw [decide_eq_true hw.1, decide_eq_true hw.2, k1, k2, are_sRow k3, Nat.ble_eq_true_of_le (Nat.le_trans hl (by decide))]
  rfl
def tbackG : List PV → Tr PV
  | [.lit (.int .u8 w), .gsl 1 k g, q] => match tlOf q with
    | some (w', many', least', most', n, f) => .br (areNums k g && Nat.ble k 4294967280 && (decide (0 ≤ w) && decide (w < 256)) && tlB w' least' most' n f) (.leaf (bool true)) .fail
    | none => .fail
  | _ => .fail
theorem tback_ok : PureOK Tryd.prog (GG m t fr) 3 tbackG := by
  intro ps p hp
  unfold tbackG at hp
  split at hp
  · rename_i w k g q
    split at hp
    · rename_i w' many' least' most' n f hq
      obtain ⟨hc0, hp⟩ := br_run hp
      simp only [Bool.and_eq_true, decide_eq_true_eq] at hc0
      obtain ⟨⟨⟨hf, hn⟩, hw⟩, hB⟩ := hc0
      simp only [Tr.run, Option.some.injEq] at hp
      subst hp
      have hL := nums_len k g
      refine PureAt.pre (qs := [.lit (.int .u8 w), .gsl 1 (numsOf k g).length (nRow (numsOf k g)), tlP w' many' least' most' n f]) ?_ (PLeL.cons (.refl _) (PLeL.cons (PLe.gsl hL.symm (nums_row hf)) (PLeL.cons (tlOf_le hq) .nil)))
      have base := fn_cuts mixed (E26_ok (m := m) (t := t) (fr := fr)) (f := 3) (fn := Tryd.f3) (cuts := cut1 0 (baCut (GG m t fr))) (by kernel_rfl) (CutLaws.one (by omega) (by kernel_rfl) fun st e st' h => cutOf_ok E26_ok mixed (noCuts_ok (envOf_cuts ..) _) baF_ok h)
      have hu := nums_u32 hf
      have hn1 : Nat.ble (numsOf k g).length 4294967280 = true := by rw [hL]; exact hn
      generalize numsOf k g = ns at hu hn1 ⊢
      have hv := tback_raw_v m t fr w ns.length ns w' many' least' most' n f
      have hc := tback_raw_c m t fr w ns.length ns w' many' least' most' n f
      rw [nums_nRow] at hv hc
      have hA := tlB_of hw hu
      rw [are_nRow hu, hn1, hA, hB] at hc
      cases c : ofE w ns == 0 with
      | true =>
        have ck : ckP w (ofMany w ns) (ofLeast w ns) (ofMost w ns) (ofL w ns) = true := of_check hu (by simpa using c)
        rw [c, sps_sRow, ck] at hv hc
        exact base _ _ (Tr.run_vc hv hc rfl rfl)
      | false =>
        rw [c] at hv hc
        exact base _ _ (Tr.run_vc hv hc rfl rfl)
    · cases hp
  · cases hp
def tbackSh : List ASh := [.one (.sc (.int .u8)), .one (.sl [.int .u32]), .agg [.sc (.int .u8), .sc (.int .i64), .sc (.int .u32), .sc (.int .u32), .sl [.int .u32, .int .u32]]]
theorem u8_in {v : Value} (h : isSc (.int .u8) v = true) : ∃ a, v = .int .u8 a ∧ 0 ≤ a ∧ a < 256 := by
  obtain ⟨a, rfl, h1, h2⟩ := sc_int h
  have e1 : IntKind.u8.min = 0 := by decide
  have e2 : IntKind.u8.max = 255 := by decide
  exact ⟨a, rfl, by omega, by omega⟩
theorem tback_args {qs : List PV} (ha : areArgs tbackSh qs = true) (hb : argsBulk qs ≤ 1048576) : (tbackG qs).run = some (bool true) := by
  obtain ⟨q0, r0, rfl, h0, hr0⟩ := args_cons ha
  obtain ⟨q1, r1, rfl, h1, hr1⟩ := args_cons hr0
  obtain ⟨q2, r2, rfl, h2, hr2⟩ := args_cons hr1
  obtain rfl := args_nil hr2
  obtain ⟨v, rfl, hv⟩ := ak_sc h0
  obtain ⟨w, rfl, hw⟩ := u8_in hv
  obtain ⟨k, g, rfl, hg⟩ := ak_sl h1
  obtain ⟨l, rfl, hl⟩ := arg_agg h2
  obtain ⟨c0, l0, rfl, d0, hl⟩ := aks_cons hl
  obtain ⟨c1, l1, rfl, d1, hl⟩ := aks_cons hl
  obtain ⟨c2, l2, rfl, d2, hl⟩ := aks_cons hl
  obtain ⟨c3, l3, rfl, d3, hl⟩ := aks_cons hl
  obtain ⟨c4, l4, rfl, d4, hl⟩ := aks_cons hl
  obtain rfl := aks_nil hl
  obtain ⟨v0, rfl, e0⟩ := ak_sc d0
  obtain ⟨w', rfl, hw'⟩ := u8_in e0
  obtain ⟨v1, rfl, e1⟩ := ak_sc d1
  obtain ⟨many', rfl, _, _⟩ := sc_int e1
  obtain ⟨v2, rfl, e2⟩ := ak_sc d2
  obtain ⟨least', rfl, hle⟩ := u32_given e2
  obtain ⟨v3, rfl, e3⟩ := ak_sc d3
  obtain ⟨most', rfl, hmo⟩ := u32_given e3
  obtain ⟨n, f, rfl, hf⟩ := ak_sl d4
  have hb' : 1 + ((((List.range k).map fun i => scsBulk (g i)).sum + 1) + ((1 + (1 + (1 + (1 + ((((List.range n).map fun i => scsBulk (f i)).sum + 1) + 0))))) + 0)) ≤ 1048576 := hb
  obtain ⟨o1, o2⟩ := nums_given hg (by omega)
  obtain ⟨o3, o4⟩ := sps_given hf (by omega)
  have o5 : Nat.ble k 4294967280 = true := Nat.ble_eq_true_of_le (by omega)
  have o6 : Nat.ble n 4294967280 = true := Nat.ble_eq_true_of_le (by omega)
  have hB : tlB w' least' most' n f = true := by
    unfold tlB
    rw [decide_eq_true hw'.1, decide_eq_true hw'.2, hle, hmo, o3, o6]
    rfl
  show (Tr.br (areNums k g && Nat.ble k 4294967280 && (decide (0 ≤ w) && decide (w < 256)) && tlB w' least' most' n f) (.leaf (bool true)) .fail).run = some (bool true)
  rw [o1, o5, decide_eq_true hw.1, decide_eq_true hw.2, hB]
  rfl
end
end Go.Proofs.YtcdghinmmhcfcaaDoor.Ev

/- tally: what the variables hold, from what the rows list. Condition: the rows' own. -/
namespace Go.Proofs.YtcdghinmmhcfcaaDoor.Ev
open Go Go.RowKit Go.Proofs Go.ChangeShapes Go.WideShapes Go.ChangeAt
theorem starX : "*" ++ "errors.errorString" = "*errors.errorString" := by decide
theorem rowErr (u : TypeId) (h : Tryd.prog.typeName? 3 u = some "*errors.errorString") : u = 134 :=
  typeName_ptr_named (P := Tryd.prog) (nm := "errors.errorString") (by rw [starX]; kernel_rfl) (by kernel_rfl) (by decide) u (by rw [starX]; exact h)
/-- A listed table of strings: its cells. -/
theorem strs_of_reads {P : Program} {W : World} {name : String} {zs : List (List UInt8)} {g : Nat} {t e : TypeId} {n : Nat}
    (hg : P.globalNamed name = some g) (hty : (P.globals[g]?).map (·.type) = some t) (ht : P.underlying t = some (.array n e)) (he : P.underlying e = some .string) (hce : P.cellsOf e = 1)
    (h : Lib.VarReads P W name (.agg (zs.map fun z => .lit (.string z)))) (i : Nat) (hi : i < zs.length) : W.cell? ⟨g, i, none⟩ = some (.string ⟨(zs.getD i []).toArray⟩) := by
  obtain ⟨g', t', cs, fuel, p, hg', ht', hvar, hd⟩ := h
  obtain rfl := Option.some.inj (hg.symm.trans hg')
  obtain rfl := Option.some.inj (hty.symm.trans ht')
  obtain ⟨xs, m, rfl, hx, hl, hxl, hall⟩ := DataW.trod_array ht hd
  have hxs : xs.map (·.1) = zs.map fun z => (DataW.lit (.string z) : DataW Unit) := by
    have := congrArg Prod.fst hx
    simpa using this.symm
  have hzl : zs.length = n := by
    have := congrArg List.length hxs
    simp at this
    omega
  obtain ⟨b, hb⟩ : ∃ b, xs[i]? = some b := ⟨xs[i]'(by omega), List.getElem?_eq_getElem (by omega)⟩
  have h1 := hall i (by omega)
  rw [hb, hce] at h1
  obtain ⟨s, hc, rfl, _⟩ := DataW.trod_string he h1
  have h2 : cs.toList[i]? = some (.string s) := by
    have := congrArg (·[0]?) hc
    simpa [List.getElem?_take, List.getElem?_drop] using this
  have h3 : (xs.map (·.1))[i]? = some (DataW.lit (.string s.data.toList) : DataW Unit) := by simp [hb]
  rw [hxs] at h3
  simp only [List.getElem?_map, Option.map_eq_some_iff, DataW.lit.injEq, Lit.string.injEq] at h3
  obtain ⟨z, hz, rfl⟩ := h3
  have h4 : zs.getD i [] = s.data.toList := by simp [List.getD, hz]
  have := World.var?_cell hg hvar i
  rw [this, h4]
  simpa using h2
theorem gptrN {C : Nat → Nat → Value → Prop} {m : Nat → Option Value} {g : Nat} {zs : List Value} (hc : ∀ i v, zs[i]? = some v → C g i v) (h1 : ∀ v, v ∈ zs → v.oneCell' = true) : Rep C m (.gptr (zs.map PV.lit)) (.pointer (some ⟨g, 0, none⟩)) := by
  refine .gptr m (zs.map PV.lit) g 0 (fun j => zs.getD j (.bool true)) (fun j hj => ?_) (fun j q hq => ?_)
  · have hj' : j < zs.length := by simpa using hj
    have e : zs[j]? = some (zs.getD j (.bool true)) := by simp [List.getD, hj']
    refine ⟨?_, h1 _ (List.mem_of_getElem? e)⟩
    have := hc j _ e
    simpa using this
  · rw [List.getElem?_map, Option.map_eq_some_iff] at hq
    obtain ⟨v, hv, rfl⟩ := hq
    have e : zs.getD j (.bool true) = v := by simp [List.getD, hv]
    rw [e]
    exact .lit _ _
theorem globsW {W : World} (hS : W.ShapedOpen Tryd.prog) (hL : laidMetH Tryd.prog Rows.tallyBackUptoRow.laid W) : ∃ m t fr, Globs (GG m t fr) (Held W) ∧ Objs (GG m t fr) W := by
  have hL2 := laid_plain (l := Rows.tallyBackUptoRow.laid) (by kernel_rfl) hL
  have hd : Rows.laid_internal_strconv_uint64pow10 = Lib.tabData (H := Unit) .u64 Lib.pow10Tab := by kernel_rfl
  have hT := tab_of_reads (g := 1) (t := 103) (e := 46) (n := 20) (by kernel_rfl) (by kernel_rfl) Tryd.underlying103 Tryd.underlying46 (by kernel_rfl) (by kernel_rfl) (hd ▸ Lib.laidMet.reads hL2 (.tail _ (.tail _ (.head _))))
  have hdW : (Rows.laid_missive_tally_words (H := Unit)) = .agg (([[77, 73, 78], [77, 65, 88], [65, 76, 76], [67, 79, 85, 78, 84]] : List (List UInt8)).map fun z => .lit (.string z)) := by kernel_rfl
  have hW := strs_of_reads (g := 0) (t := 54) (e := 9) (n := 4) (by kernel_rfl) (by kernel_rfl) Tryd.underlying54 Tryd.underlying9 (by kernel_rfl) (hdW ▸ Lib.laidMet.reads hL2 (.tail _ (.tail _ (.tail _ (.tail _ (.tail _ (.tail _ (.head _))))))))
  obtain ⟨m, hm⟩ := cell_of_shapedOpen_int (g := 2) (t := 3) (zero := #[.int .i64 0]) (k := .i64) hS (of_decide_eq_true (by kernel_rfl)) (by kernel_rfl) rfl (by kernel_rfl) (by kernel_rfl) Tryd.underlying3
  obtain ⟨a0, s0, hv0, -, -, -⟩ := laid_sentinel (hL2.tail.tail.tail.tail) (g := 4) (ti := 75) (tp := 134) (te := 136) (ts := 9) (by kernel_rfl) (by kernel_rfl) Tryd.underlying75 rowErr Tryd.underlying134 Tryd.underlying136 rfl rfl Tryd.underlying9 (by kernel_rfl) (by kernel_rfl)
  obtain ⟨a1, s1, hv1, -, -, -⟩ := laid_sentinel (hL2.tail.tail.tail.tail.tail) (g := 3) (ti := 75) (tp := 134) (te := 136) (ts := 9) (by kernel_rfl) (by kernel_rfl) Tryd.underlying75 rowErr Tryd.underlying134 Tryd.underlying136 rfl rfl Tryd.underlying9 (by kernel_rfl) (by kernel_rfl)
  have hc0 : Held W 4 0 (.iface 134 (.pointer (some a0))) := by
    have h0 := World.var?_cell (g := 4) (by kernel_rfl) hv0 0
    unfold Held
    simpa using h0
  have hc1 : Held W 3 0 (.iface 134 (.pointer (some a1))) := by
    have h0 := World.var?_cell (g := 3) (by kernel_rfl) hv1 0
    unfold Held
    simpa using h0
  have hob : ∃ t fr, W.heap[1]? = some (.cells ((Lib.pow10Tab.map fun z => Value.int .u64 z).toArray) t fr) := by
    unfold Lib.TabIs World.var? at hT
    have hg : Tryd.prog.globalNamed "internal/strconv.uint64pow10" = some 1 := by kernel_rfl
    rw [hg] at hT
    simp only [Option.bind_some] at hT
    split at hT
    · rename_i cs t fr hh
      simp only [Option.some.injEq] at hT
      subst hT
      exact ⟨t, fr, hh⟩
    · cases hT
  obtain ⟨t, fr, ho⟩ := hob
  refine ⟨m, t, fr, fun g cs hg => ?_, fun g o hg => ?_⟩
  · unfold GG at hg
    dsimp only at hg
    split at hg
    · rename_i he
      obtain rfl := Nat.eq_of_beq_eq_true he
      cases hg
      exact gptr1 hm rfl (.lit _ _)
    · split at hg
      · rename_i he
        cases hg
        simp only [Bool.or_eq_true] at he
        rcases he with he | he
        · obtain rfl := Nat.eq_of_beq_eq_true he
          exact gptr1 hc1 rfl (.iface _ _ _ _ (.junk _ _))
        · obtain rfl := Nat.eq_of_beq_eq_true he
          exact gptr1 hc0 rfl (.iface _ _ _ _ (.junk _ _))
      · unfold gxTab at hg
        split at hg
        · rename_i he
          obtain rfl := Nat.eq_of_beq_eq_true he
          cases hg
          refine gptrN (zs := [.string (bs [77, 73, 78]), .string (bs [77, 65, 88]), .string (bs [65, 76, 76]), .string (bs [67, 79, 85, 78, 84])]) (fun i v hv => ?_) (fun v hv => ?_)
          · have hi : i < 4 := by
              have := (List.getElem?_eq_some_iff.1 hv).1
              simpa using this
            have h0 := hW i hi
            unfold Held
            rw [h0]
            match i, hi with
            | 0, _ => cases hv; rfl
            | 1, _ => cases hv; rfl
            | 2, _ => cases hv; rfl
            | 3, _ => cases hv; rfl
          · simp only [List.mem_cons, List.not_mem_nil, or_false] at hv
            rcases hv with rfl | rfl | rfl | rfl <;> rfl
        · cases hg
  · unfold GG at hg
    dsimp only at hg
    split at hg
    · rename_i he
      obtain rfl := Nat.eq_of_beq_eq_true he
      cases hg
      exact ho
    · cases hg
end Go.Proofs.YtcdghinmmhcfcaaDoor.Ev
