/- NsetPacks, a law. No condition. -/
import Derived.Test.YtbpmfaghjlmjmaaDoorNsD
import Derived.Test.YtbpmfaghjlmjmaaDoorNsArg
namespace Go.Proofs.YtbpmfaghjlmjmaaDoor.Ev
open Go Go.RowKit Go.Proofs Go.Proofs.YtbpmfaghjlmjmaaDoor.Str
set_option linter.unusedVariables false
set_option linter.unusedSimpArgs false
section
variable {m : Int} {t : TypeId} {fr : Nat × Nat}
def nsetPacksG : List PV → Tr PV
  | [.gsl 1 n f] => .br (areNums n f && Nat.ble n 4294967280) (.leaf (bool true)) .fail
  | _ => .fail
theorem nsetPacks_ok : PureOK Tryd.prog (GG m t fr) 4 nsetPacksG := by
  refine PureOK.of (fn_pure mixed E5_ok (envOf_cuts ..) (fn := Tryd.f4) (by kernel_rfl)) fun ps p hp => ?_
  unfold nsetPacksG at hp
  split at hp
  · rename_i n f
    obtain ⟨hc, hp⟩ := br_run hp
    simp only [Bool.and_eq_true] at hc
    simp only [Tr.run, Option.some.injEq] at hp
    subst hp
    have h := nsetPacks_raw m t fr n f
    have e1 : areSps (packR (numsOf n f)).length (sRow (packR (numsOf n f))) = true := are_sRow (packR_u32 (nums_u32 hc.1))
    have e2 : Nat.ble (packR (numsOf n f)).length 4294967280 = true := Nat.ble_eq_true_of_le (Nat.le_trans packE_len (by decide))
    rw [decide_eq_true rfl, e1, e2, hc.1, hc.2, cond_true, show (packE (numsOf n f) == packE (numsOf n f)) = true from beq_self_eq_true _] at h
    exact ⟨_, Tr.run_of h (by simp), PLe.of_eq rfl⟩
  · cases hp
end
/-! ### what is given -/
theorem num_row {ps : List PV} (h : areSc [.int .u32] ps = true) : isNum ps = true := by
  obtain ⟨v, r, rfl, h1, h2⟩ := sc_cons h
  obtain rfl := sc_nil h2
  obtain ⟨k, rfl, h3, h4⟩ := sc_int h1
  have e1 : IntKind.u32.min = 0 := by decide
  have e2 : IntKind.u32.max = 4294967295 := by decide
  unfold isNum
  simp
  omega
theorem sp_row {ps : List PV} (h : areSc [.int .u32, .int .u32] ps = true) : isSp ps = true := by
  obtain ⟨v, r, rfl, h1, h2⟩ := sc_cons h
  obtain ⟨v', r', rfl, h3, h4⟩ := sc_cons h2
  obtain rfl := sc_nil h4
  obtain ⟨a, rfl, h5, h6⟩ := sc_int h1
  obtain ⟨b, rfl, h7, h8⟩ := sc_int h3
  have e1 : IntKind.u32.min = 0 := by decide
  have e2 : IntKind.u32.max = 4294967295 := by decide
  unfold isSp
  simp
  omega
theorem row_bulk {l : List Sc} (hl : 1 ≤ l.length) {f : Nat → List PV} : ∀ L : List Nat, (∀ i ∈ L, areSc l (f i) = true) → L.length ≤ (L.map fun i => scsBulk (f i)).sum
  | [], _ => Nat.zero_le _
  | i :: L, h => by
    have ih := row_bulk hl L fun j hj => h j (by simp [hj])
    have hi := h i (by simp)
    have : 1 ≤ scsBulk (f i) := by
      cases l with
      | nil => simp at hl
      | cons s l =>
        obtain ⟨v, r, e, _⟩ := sc_cons hi
        rw [e]
        simp only [scsBulk]
        unfold scBulk
        split <;> omega
    simp only [List.length_cons, List.map_cons, List.sum_cons]
    omega
theorem nums_given {n : Nat} {f : Nat → List PV} (h : ∀ i, i < n → areSc [.int .u32] (f i) = true) (hb : ((List.range n).map fun i => scsBulk (f i)).sum ≤ 1048576) : areNums n f = true ∧ n ≤ 1048576 := by
  refine ⟨List.all_eq_true.2 fun i hi => num_row (h i (List.mem_range.1 hi)), ?_⟩
  have := row_bulk (l := [.int .u32]) (by simp) (List.range n) fun i hi => h i (List.mem_range.1 hi)
  rw [List.length_range] at this
  omega
theorem sps_given {n : Nat} {f : Nat → List PV} (h : ∀ i, i < n → areSc [.int .u32, .int .u32] (f i) = true) (hb : ((List.range n).map fun i => scsBulk (f i)).sum ≤ 1048576) : areSps n f = true ∧ n ≤ 1048576 := by
  refine ⟨List.all_eq_true.2 fun i hi => sp_row (h i (List.mem_range.1 hi)), ?_⟩
  have := row_bulk (l := [.int .u32, .int .u32]) (by simp) (List.range n) fun i hi => h i (List.mem_range.1 hi)
  rw [List.length_range] at this
  omega
def nsetPacksSh : List ASh := [.one (.sl [.int .u32])]
theorem nsetPacks_args {qs : List PV} (ha : areArgs nsetPacksSh qs = true) (hb : argsBulk qs ≤ 1048576) : (nsetPacksG qs).run = some (bool true) := by
  obtain ⟨q0, r0, rfl, h0, hr0⟩ := args_cons ha
  obtain rfl := args_nil hr0
  obtain ⟨n, f, rfl, hf⟩ := ak_sl h0
  have hb' : (((List.range n).map fun i => scsBulk (f i)).sum + 1) + 0 ≤ 1048576 := hb
  obtain ⟨o1, o2⟩ := nums_given hf (by omega)
  have o3 : Nat.ble n 4294967280 = true := Nat.ble_eq_true_of_le (by omega)
  show (nsetPacksG [.gsl 1 n f]).run = some (bool true)
  simp [nsetPacksG, Tr.run, o1, o3]
end Go.Proofs.YtbpmfaghjlmjmaaDoor.Ev
