/- JTallyHolds20: several texts in one. Condition: each part's own. -/
import Derived.Test.YtcdghinmmhcfcaaGreatDoorJTallyHolds19
import Derived.Test.YtcdghinmmhcfcaaGreatDoorJTallyHolds12
import Derived.Test.YtcdghinmmhcfcaaGreatDoorJTallyHolds08
import Derived.Stop.LaidErr
/- TallyHolds, a law. No condition. -/
namespace Go.Proofs.YtcdghinmmhcfcaaGreatDoor.Ev
open Go Go.RowKit Go.Proofs Go.Proofs.YtcdghinmmhcfcaaGreatDoor.Str
set_option linter.unusedVariables false
set_option linter.unusedSimpArgs false
theorem aN_fin : ∀ k : Fin 256, aN ((k.val : Nat) : Int) = decide (((k.val : Nat) : Int) > 15) := by decide +kernel
theorem aN_gt {w : Int} (h : 0 ≤ w ∧ w < 256) : aN w = decide (w > 15) := by
  have := aN_fin ⟨w.toNat, by omega⟩
  have e : ((w.toNat : Nat) : Int) = w := by omega
  simpa only [e] using this
theorem wb15 : wb 15 1 = true ∧ wb 15 2 = true ∧ wb 15 4 = true ∧ wb 15 8 = true := by
  refine ⟨by decide +kernel, by decide +kernel, by decide +kernel, by decide +kernel⟩
/-- what is known where all numbers have a tally -/
theorem of_facts {ns : List Int} (h : ofE 15 ns = 0) : ns.contains 0 = false ∧ posE ns = 0 ∧ (ns.length ≠ 0 → packE ns = 0) := by
  unfold ofE at h
  have a15 : aN 15 = false := by decide +kernel
  rw [a15, wb15.2.2.1] at h
  simp only [cond_false, cond_true] at h
  cases c1 : ns.contains (0 : Int) with
  | true => rw [c1] at h; cases h
  | false =>
    rw [c1] at h
    simp only [cond_false] at h
    cases c2 : bne (posE ns) 0 with
    | true =>
      rw [c2] at h
      simp only [cond_true] at h
      rw [h] at c2
      cases c2
    | false =>
      have e2 : posE ns = 0 := by simpa using c2
      rw [c2] at h
      simp only [cond_false] at h
      refine ⟨rfl, e2, fun hn => ?_⟩
      have d0 : (((ns.length : Nat) : Int) == 0) = false := by
        rw [beqD]
        exact decide_eq_false (by omega)
      rw [d0, cond_false] at h
      cases c3 : bne (packE ns) 0 with
      | true => rw [c3] at h; cases h
      | false => simpa using c3
theorem ofE_w {w : Int} {ns : List Int} (h : ofE 15 ns = 0) (ha : aN w = false) : ofE w ns = 0 := by
  obtain ⟨h1, h2, h3⟩ := of_facts h
  unfold ofE
  rw [ha, h1, h2]
  have e : bne (0 : Int) 0 = false := rfl
  rw [e]
  simp only [cond_false]
  by_cases hn : ns.length = 0
  · have d0 : (((ns.length : Nat) : Int) == 0) = true := by rw [hn]; rfl
    rw [d0]
    rfl
  · have d0 : (((ns.length : Nat) : Int) == 0) = false := by
      rw [beqD]
      exact decide_eq_false (by omega)
    rw [d0, h3 hn]
    cases wb w 4 <;> rfl
section
variable {m : Int} {t : TypeId} {fr : Nat × Nat}
def holdsG : List PV → Tr PV
  | [.lit (.int .u8 w), .gsl 1 n f] => .br (areNums n f && Nat.ble n 4294967280 && (decide (0 ≤ w) && decide (w < 256))) (.leaf (bool true)) .fail
  | _ => .fail
theorem holds_ok : PureOK Tryz.prog (GG m t fr) 4 holdsG := by
  intro ps p hp
  unfold holdsG at hp
  split at hp
  · rename_i w n f
    have hb := br_run hp
    clear hp
    obtain ⟨hc0, hp⟩ := hb
    simp only [Bool.and_eq_true, decide_eq_true_eq] at hc0
    obtain ⟨⟨hf, hn⟩, hw⟩ := hc0
    simp only [Tr.run, Option.some.injEq] at hp
    subst hp
    have hL := nums_len n f
    refine PureAt.pre (qs := [.lit (.int .u8 w), .gsl 1 (numsOf n f).length (nRow (numsOf n f))]) ?_ (PLeL.cons (.refl _) (PLeL.cons (PLe.gsl hL.symm (nums_row hf)) .nil))
    have base := fn_mrg mixed (E25_ok (m := m) (t := t) (fr := fr)) (rs := hdR false true) (f := 4) (fn := Tryz.f4) (by kernel_rfl) (by kernel_rfl)
    have hu := nums_u32 hf
    have hn1 : Nat.ble (numsOf n f).length 4294967280 = true := by rw [hL]; exact hn
    have hn2 := Nat.le_of_ble_eq_true hn1
    generalize numsOf n f = ns at hu hn1 hn2 ⊢
    have hv := holds_raw_v m t fr w ns.length ns false true
    have hc := holds_raw_c m t fr w ns.length ns false true
    rw [nums_nRow] at hv hc
    rw [are_nRow hu, hn1] at hc
    cases c15 : ofE 15 ns == 0 with
    | false =>
      have d15 : bne (ofE 15 ns) 0 = true := by unfold bne; rw [c15]; rfl
      rw [c15] at hv hc
      rw [d15] at hc
      exact base _ _ (Tr.run_vc hv hc rfl rfl)
    | true =>
      have e15 : ofE 15 ns = 0 := by simpa using c15
      obtain ⟨f1, f2, f3⟩ := of_facts e15
      obtain ⟨w1, w2, w4, w8⟩ := wb15
      have hLu : (ofL 15 ns).all u32B = true := by
        unfold ofL
        rw [w4]
        cases ((ns.length : Nat) : Int) == 0
        · exact packR_u32 hu
        · rfl
      have hLl : Nat.ble (ofL 15 ns).length 4294967280 = true := by
        unfold ofL
        rw [w4]
        cases ((ns.length : Nat) : Int) == 0
        · exact Nat.ble_eq_true_of_le (Nat.le_trans packE_len (by decide))
        · rfl
      have hS : srtE (ofL 15 ns) = 0 ∧ cnS (srtR 0 (ofL 15 ns)) 0 = ((ns.length : Nat) : Int) := by
        by_cases hz : ns.length = 0
        · have d0 : (((ns.length : Nat) : Int) == 0) = true := by rw [hz]; rfl
          unfold ofL
          rw [d0, cond_true, hz]
          exact ⟨rfl, rfl⟩
        · have d0 : (((ns.length : Nat) : Int) == 0) = false := by
            rw [beqD]
            exact decide_eq_false (by omega)
          obtain ⟨_, _, p3, _, p5, p6⟩ := pack_is hu (f3 hz) 0
          unfold ofL
          rw [d0, cond_false, w4, cond_true, p5, p6, cnS_sum, p3]
          exact ⟨rfl, by omega⟩
      have hM : ofMany 15 ns = ((ns.length : Nat) : Int) := by
        unfold ofMany
        rw [w8]
        rfl
      rw [sps_sRow, are_sRow hLu, hLl, hS.1, hS.2, hM, wrap_u64 (x := ((ns.length : Nat) : Int)) (by omega)] at hc
      have b0 : bne (((ns.length : Nat) : Int)) ((ns.length : Nat) : Int) = false := by simp
      have b00 : bne (0 : Int) 0 = false := rfl
      rw [b0, b00] at hc
      rw [c15] at hv hc
      have last : ∀ (hc' : (fnPure Tryz.prog ((E25 (GG m t fr)).withCuts (mrg (hdR false true) noCuts)) 60 Tryz.f4 (GG m t fr) [.lit (.int .u8 w), .gsl 1 ns.length (nRow ns)]).conds = true),
          PureAt Tryz.prog (GG m t fr) 4 [.lit (.int .u8 w), .gsl 1 ns.length (nRow ns)] (bool true) := by
        intro hc'
        cases cw : ofE w ns == 0 with
        | true =>
          rw [cw] at hv
          exact base _ _ (Tr.run_vc hv hc' rfl rfl)
        | false =>
          have dw : bne (ofE w ns) 0 = true := by unfold bne; rw [cw]; rfl
          have g15 : decide (w > 15) = true := by
            rw [← aN_gt hw]
            cases ha : aN w with
            | true => rfl
            | false =>
              rw [ofE_w e15 ha] at cw
              cases cw
          rw [cw, dw, g15] at hv
          exact base _ _ (Tr.run_vc hv hc' rfl rfl)
      apply last
      rw [hc]
      have q1 : (ofLeast w ns == 0) = true ∨ (ofLeast w ns == ofLeast 15 ns) = true := by
        unfold ofLeast
        rw [w1]
        cases ((ns.length : Nat) : Int) == 0 <;> cases wb w 1 <;> simp
      have q2 : (ofMost w ns == 0) = true ∨ (ofMost w ns == ofMost 15 ns) = true := by
        unfold ofMost
        rw [w2]
        cases ((ns.length : Nat) : Int) == 0 <;> cases wb w 2 <;> simp
      have q3 : (ofMany w ns == 0) = true ∨ (ofMany w ns == ((ns.length : Nat) : Int)) = true := by
        unfold ofMany
        cases wb w 8 <;> simp
      have q4 : ((((ofL w ns).length : Nat) : Int) == 0) = true ∨ ((((ofL w ns).length : Nat) : Int) == (((ofL 15 ns).length : Nat) : Int)) = true := by
        unfold ofL
        rw [w4]
        cases ((ns.length : Nat) : Int) == 0 <;> cases wb w 4 <;> simp
      have hpos : ns.length ≠ 0 → bne (ofLeast 15 ns) (nu ns 0) = false ∧ bne (ofMost 15 ns) (nu ns (ns.length - 1)) = false := by
        intro hz
        have d0 : (((ns.length : Nat) : Int) == 0) = false := by
          rw [beqD]
          exact decide_eq_false (by omega)
        unfold ofLeast ofMost
        rw [d0, w1, w2]
        simp
      have cwb : ∀ {x : Bool}, (ofE w ns == 0) = x → bne (ofE w ns) 0 = !x := fun h => by unfold bne; rw [h]
      generalize hp1 : (ofLeast w ns == 0) = p1 at q1 ⊢
      generalize hr1 : (ofLeast w ns == ofLeast 15 ns) = r1 at q1 ⊢
      generalize hp2 : (ofMost w ns == 0) = p2 at q2 ⊢
      generalize hr2 : (ofMost w ns == ofMost 15 ns) = r2 at q2 ⊢
      generalize hp3 : (ofMany w ns == 0) = p3 at q3 ⊢
      generalize hr3 : (ofMany w ns == ((ns.length : Nat) : Int)) = r3 at q3 ⊢
      generalize hp4 : ((((ofL w ns).length : Nat) : Int) == 0) = p4 at q4 ⊢
      generalize hr4 : ((((ofL w ns).length : Nat) : Int) == (((ofL 15 ns).length : Nat) : Int)) = r4 at q4 ⊢
      have X12 : ∀ {p1 r1 p2 r2 p3 r3 p4 r4 : Bool}, (p1 = true ∨ r1 = true) → (p2 = true ∨ r2 = true) → (p3 = true ∨ r3 = true) → (p4 = true ∨ r4 = true) → (p1 || r1) = true ∧ (p2 || r2) = true ∧ (p3 || r3) = true ∧ (p4 || r4) = true := by
        intro p1 r1 p2 r2 p3 r3 p4 r4 a b c d
        refine ⟨?_, ?_, ?_, ?_⟩ <;> simp_all
      generalize hx : (ofE w ns == 0) = x
      rw [cwb hx]
      by_cases hz : ns.length = 0
      · have dz : decide (((ns.length : Nat) : Int) > 0) = false := by rw [hz]; rfl
        rw [dz]
        cases x
        · rfl
        · rcases q1 with rfl | rfl <;> rcases q2 with rfl | rfl <;> rcases q3 with rfl | rfl <;> rcases q4 with rfl | rfl <;> simp
      · have dz : decide (((ns.length : Nat) : Int) > 0) = true := decide_eq_true (by omega)
        have hw2 : IntKind.i64.wrap (((ns.length : Nat) : Int) - 1) = ((ns.length - 1 : Nat) : Int) := by
          have e : ((ns.length : Nat) : Int) - 1 = ((ns.length - 1 : Nat) : Int) := by omega
          rw [e]
          exact wrap_nat (by omega)
        have b1 : Nat.blt 0 ns.length = true := by rw [Nat.blt_eq]; omega
        have b2 : Nat.blt (ns.length - 1) ns.length = true := by rw [Nat.blt_eq]; omega
        have b3 : decide ((0 : Int) ≤ ((ns.length - 1 : Nat) : Int)) = true := by simp
        rw [dz, hw2, Int.toNat_natCast, b1, b2, b3, (hpos hz).1, (hpos hz).2]
        cases x
        · rfl
        · rcases q1 with rfl | rfl <;> rcases q2 with rfl | rfl <;> rcases q3 with rfl | rfl <;> rcases q4 with rfl | rfl <;> simp
  · cases hp
def holdsSh : List ASh := [.one (.sc (.int .u8)), .one (.sl [.int .u32])]
theorem u8_given {v : Value} (h : isSc (.int .u8) v = true) : ∃ a, v = .int .u8 a ∧ 0 ≤ a ∧ a < 256 := by
  obtain ⟨a, rfl, h1, h2⟩ := sc_int h
  have e1 : IntKind.u8.min = 0 := by decide
  have e2 : IntKind.u8.max = 255 := by decide
  exact ⟨a, rfl, by omega, by omega⟩
theorem holds_args {qs : List PV} (ha : areArgs holdsSh qs = true) (hb : argsBulk qs ≤ 1048576) : (holdsG qs).run = some (bool true) := by
  obtain ⟨q0, r0, rfl, h0, hr0⟩ := args_cons ha
  obtain ⟨q1, r1, rfl, h1, hr1⟩ := args_cons hr0
  obtain rfl := args_nil hr1
  obtain ⟨v, rfl, hv⟩ := ak_sc h0
  obtain ⟨w, rfl, hw⟩ := u8_given hv
  obtain ⟨n, f, rfl, hf⟩ := ak_sl h1
  have hb' : 1 + ((((List.range n).map fun i => scsBulk (f i)).sum + 1) + 0) ≤ 1048576 := hb
  obtain ⟨o1, o2⟩ := nums_given hf (by omega)
  have o3 : Nat.ble n 4294967280 = true := Nat.ble_eq_true_of_le (by omega)
  show (holdsG [.lit (.int .u8 w), .gsl 1 n f]).run = some (bool true)
  simp [holdsG, Tr.run, o1, o3, hw.1, hw.2]
end
end Go.Proofs.YtcdghinmmhcfcaaGreatDoor.Ev

/- tally: what the variables hold, from what the rows list. Condition: the rows' own. -/
namespace Go.Proofs.YtcdghinmmhcfcaaGreatDoor.Ev
open Go Go.RowKit Go.Proofs Go.ChangeShapes Go.WideShapes Go.ChangeAt
theorem starX : "*" ++ "errors.errorString" = "*errors.errorString" := by decide
theorem rowErr (u : TypeId) (h : Tryz.prog.typeName? 3 u = some "*errors.errorString") : u = 207 :=
  typeName_ptr_named (P := Tryz.prog) (nm := "errors.errorString") (by rw [starX]; kernel_rfl) (by kernel_rfl) (by decide) u (by rw [starX]; exact h)
/-- A listed table of strings: its cells. -/
theorem strs_of_reads {P : Program} {W : World} {name : String} {zs : List (List UInt8)} {g : Nat} {t e : TypeId} {n : Nat}
    (hg : P.globalNamed name = some g) (hty : (P.globals[g]?).map (·.type) = some t) (ht : P.underlying t = some (.array n e)) (he : P.underlying e = some .string) (hce : P.cellsOf e = 1)
    (h : Lib.VarReads P W name (.agg (zs.map fun z => .lit (.string z)))) (i : Nat) (hi : i < zs.length) : W.cell? ⟨g, i, none⟩ = some (.string ⟨(zs.getD i []).toArray⟩) := by
  obtain ⟨g', t', cs, fuel, p, hg', ht', hvar, hd⟩ := h
  obtain rfl := Option.some.inj (hg.symm.trans hg')
  obtain rfl := Option.some.inj (hty.symm.trans ht')
  obtain ⟨xs, m, rfl, hx, hl, hxl, hall⟩ := DataW.trod_array ht hd
  have hxs : xs.map (·.1) = zs.map fun z => (DataW.lit (.string z) : DataW Unit) := by
    have := congrArg Prod.fst hx
    simpa using this.symm
  have hzl : zs.length = n := by
    have := congrArg List.length hxs
    simp at this
    omega
  obtain ⟨b, hb⟩ : ∃ b, xs[i]? = some b := ⟨xs[i]'(by omega), List.getElem?_eq_getElem (by omega)⟩
  have h1 := hall i (by omega)
  rw [hb, hce] at h1
  obtain ⟨s, hc, rfl, _⟩ := DataW.trod_string he h1
  have h2 : cs.toList[i]? = some (.string s) := by
    have := congrArg (·[0]?) hc
    simpa [List.getElem?_take, List.getElem?_drop] using this
  have h3 : (xs.map (·.1))[i]? = some (DataW.lit (.string s.data.toList) : DataW Unit) := by simp [hb]
  rw [hxs] at h3
  simp only [List.getElem?_map, Option.map_eq_some_iff, DataW.lit.injEq, Lit.string.injEq] at h3
  obtain ⟨z, hz, rfl⟩ := h3
  have h4 : zs.getD i [] = s.data.toList := by simp [List.getD, hz]
  have := World.var?_cell hg hvar i
  rw [this, h4]
  simpa using h2
theorem gptrN {C : Nat → Nat → Value → Prop} {m : Nat → Option Value} {g : Nat} {zs : List Value} (hc : ∀ i v, zs[i]? = some v → C g i v) (h1 : ∀ v, v ∈ zs → v.oneCell' = true) : Rep C m (.gptr (zs.map PV.lit)) (.pointer (some ⟨g, 0, none⟩)) := by
  refine .gptr m (zs.map PV.lit) g 0 (fun j => zs.getD j (.bool true)) (fun j hj => ?_) (fun j q hq => ?_)
  · have hj' : j < zs.length := by simpa using hj
    have e : zs[j]? = some (zs.getD j (.bool true)) := by simp [List.getD, hj']
    refine ⟨?_, h1 _ (List.mem_of_getElem? e)⟩
    have := hc j _ e
    simpa using this
  · rw [List.getElem?_map, Option.map_eq_some_iff] at hq
    obtain ⟨v, hv, rfl⟩ := hq
    have e : zs.getD j (.bool true) = v := by simp [List.getD, hv]
    rw [e]
    exact .lit _ _
theorem globsW {W : World} (hS : W.ShapedOpen Tryz.prog) (hL : laidMetH Tryz.prog Rows.tallyHoldsUptoRow.laid W) : ∃ m t fr, Globs (GG m t fr) (Held W) ∧ Objs (GG m t fr) W := by
  have hL2 := laid_plain (l := Rows.tallyHoldsUptoRow.laid) (by kernel_rfl) hL
  have hd : Rows.laid_internal_strconv_uint64pow10 = Lib.tabData (H := Unit) .u64 Lib.pow10Tab := by kernel_rfl
  have hT := tab_of_reads (g := 1) (t := 167) (e := 40) (n := 20) (by kernel_rfl) (by kernel_rfl) Tryz.underlying167 Tryz.underlying40 (by kernel_rfl) (by kernel_rfl) (hd ▸ Lib.laidMet.reads hL2 (.tail _ (.tail _ (.head _))))
  have hdW : (Rows.laid_missive_tally_words (H := Unit)) = .agg (([[77, 73, 78], [77, 65, 88], [65, 76, 76], [67, 79, 85, 78, 84]] : List (List UInt8)).map fun z => .lit (.string z)) := by kernel_rfl
  have hW := strs_of_reads (g := 0) (t := 61) (e := 9) (n := 4) (by kernel_rfl) (by kernel_rfl) Tryz.underlying61 Tryz.underlying9 (by kernel_rfl) (hdW ▸ Lib.laidMet.reads hL2 (.tail _ (.tail _ (.tail _ (.tail _ (.tail _ (.tail _ (.head _))))))))
  obtain ⟨m, hm⟩ := cell_of_shapedOpen_int (g := 2) (t := 3) (zero := #[.int .i64 0]) (k := .i64) hS (of_decide_eq_true (by kernel_rfl)) (by kernel_rfl) rfl (by kernel_rfl) (by kernel_rfl) Tryz.underlying3
  obtain ⟨a0, s0, hv0, -, -, -⟩ := laid_sentinel (hL2.tail.tail.tail.tail) (g := 4) (ti := 108) (tp := 207) (te := 209) (ts := 9) (by kernel_rfl) (by kernel_rfl) Tryz.underlying108 rowErr Tryz.underlying207 Tryz.underlying209 rfl rfl Tryz.underlying9 (by kernel_rfl) (by kernel_rfl)
  obtain ⟨a1, s1, hv1, -, -, -⟩ := laid_sentinel (hL2.tail.tail.tail.tail.tail) (g := 3) (ti := 108) (tp := 207) (te := 209) (ts := 9) (by kernel_rfl) (by kernel_rfl) Tryz.underlying108 rowErr Tryz.underlying207 Tryz.underlying209 rfl rfl Tryz.underlying9 (by kernel_rfl) (by kernel_rfl)
  have hc0 : Held W 4 0 (.iface 207 (.pointer (some a0))) := by
    have h0 := World.var?_cell (g := 4) (by kernel_rfl) hv0 0
    unfold Held
    simpa using h0
  have hc1 : Held W 3 0 (.iface 207 (.pointer (some a1))) := by
    have h0 := World.var?_cell (g := 3) (by kernel_rfl) hv1 0
    unfold Held
    simpa using h0
  have hob : ∃ t fr, W.heap[1]? = some (.cells ((Lib.pow10Tab.map fun z => Value.int .u64 z).toArray) t fr) := by
    unfold Lib.TabIs World.var? at hT
    have hg : Tryz.prog.globalNamed "internal/strconv.uint64pow10" = some 1 := by kernel_rfl
    rw [hg] at hT
    simp only [Option.bind_some] at hT
    split at hT
    · rename_i cs t fr hh
      simp only [Option.some.injEq] at hT
      subst hT
      exact ⟨t, fr, hh⟩
    · cases hT
  obtain ⟨t, fr, ho⟩ := hob
  refine ⟨m, t, fr, fun g cs hg => ?_, fun g o hg => ?_⟩
  · unfold GG at hg
    dsimp only at hg
    split at hg
    · rename_i he
      obtain rfl := Nat.eq_of_beq_eq_true he
      cases hg
      exact gptr1 hm rfl (.lit _ _)
    · split at hg
      · rename_i he
        cases hg
        simp only [Bool.or_eq_true] at he
        rcases he with he | he
        · obtain rfl := Nat.eq_of_beq_eq_true he
          exact gptr1 hc1 rfl (.iface _ _ _ _ (.junk _ _))
        · obtain rfl := Nat.eq_of_beq_eq_true he
          exact gptr1 hc0 rfl (.iface _ _ _ _ (.junk _ _))
      · unfold gxTab at hg
        split at hg
        · rename_i he
          obtain rfl := Nat.eq_of_beq_eq_true he
          cases hg
          refine gptrN (zs := [.string (bs [77, 73, 78]), .string (bs [77, 65, 88]), .string (bs [65, 76, 76]), .string (bs [67, 79, 85, 78, 84])]) (fun i v hv => ?_) (fun v hv => ?_)
          · have hi : i < 4 := by
              have := (List.getElem?_eq_some_iff.1 hv).1
              simpa using this
            have h0 := hW i hi
            unfold Held
            rw [h0]
            match i, hi with
            | 0, _ => cases hv; rfl
            | 1, _ => cases hv; rfl
            | 2, _ => cases hv; rfl
            | 3, _ => cases hv; rfl
          · simp only [List.mem_cons, List.not_mem_nil, or_false] at hv
            rcases hv with rfl | rfl | rfl | rfl <;> rfl
        · cases hg
  · unfold GG at hg
    dsimp only at hg
    split at hg
    · rename_i he
      obtain rfl := Nat.eq_of_beq_eq_true he
      cases hg
      exact ho
    · cases hg
end Go.Proofs.YtcdghinmmhcfcaaGreatDoor.Ev
