/- Each printed function's call comes to what its plain Lean function says (a program of this session, made out of the kit's print, wrote these lines). Conditions: what each theorem names. -/
import Derived.Test.YtdpbaagpekhipaaGreatDoorKZPAllx0
namespace Go.Proofs.YtdpbaagpekhipaaGreatDoor.PAll
open Go.RowKit Go.Proofs.YtdpbaagpekhipaaGreatDoorW.PrintWords Go.Proofs.YtdpbaagpekhipaaGreatDoorW.PrintLast Go.Proofs.YtdpbaagpekhipaaGreatDoorW.PrintMore
attribute [local go_sem] max2_int min2_int max_two min_two max_three min_three max_four min_four   -- for this text's walks alone
set_option linter.unusedVariables false
set_option linter.unusedSimpArgs false

def date_number.f (a0 : Int) (a1 : Int) (a2 : Int) : Option (Int) := if a1 ≤ 2 then (some (wrap64 ((wrap64 ((wrap64 ((wrap64 ((wrap64 ((wrap64 ((wrap64 (Int.tdiv (wrap64 (a0 - 1)) 400)) * 146097)) + (wrap64 ((wrap64 ((wrap64 (a0 - 1)) - (wrap64 ((wrap64 (Int.tdiv (wrap64 (a0 - 1)) 400)) * 400)))) * 365)))) + (wrap64 (Int.tdiv (wrap64 ((wrap64 (a0 - 1)) - (wrap64 ((wrap64 (Int.tdiv (wrap64 (a0 - 1)) 400)) * 400)))) 4)))) - (wrap64 (Int.tdiv (wrap64 ((wrap64 (a0 - 1)) - (wrap64 ((wrap64 (Int.tdiv (wrap64 (a0 - 1)) 400)) * 400)))) 100)))) + (wrap64 ((wrap64 ((wrap64 (Int.tdiv (wrap64 ((wrap64 (153 * (Int.tmod (wrap64 (a1 + 9)) 12))) + 2)) 5)) + a2)) - 1)))) - 719468))) else (some (wrap64 ((wrap64 ((wrap64 ((wrap64 ((wrap64 ((wrap64 ((wrap64 (Int.tdiv a0 400)) * 146097)) + (wrap64 ((wrap64 (a0 - (wrap64 ((wrap64 (Int.tdiv a0 400)) * 400)))) * 365)))) + (wrap64 (Int.tdiv (wrap64 (a0 - (wrap64 ((wrap64 (Int.tdiv a0 400)) * 400)))) 4)))) - (wrap64 (Int.tdiv (wrap64 (a0 - (wrap64 ((wrap64 (Int.tdiv a0 400)) * 400)))) 100)))) + (wrap64 ((wrap64 ((wrap64 (Int.tdiv (wrap64 ((wrap64 (153 * (Int.tmod (wrap64 (a1 + 9)) 12))) + 2)) 5)) + a2)) - 1)))) - 719468)))
set_option maxHeartbeats 8000000 in
set_option maxRecDepth 100000 in
theorem date_number.calls (a0 : Int) (a1 : Int) (a2 : Int) (r : Int) (w : World) (h : date_number.f a0 a1 a2 = some r) :
    Calls Tryz.prog 41 #[.int .i64 a0, .int .i64 a1, .int .i64 a2] w fun e w' => e = .returned (.int .i64 r) ∧ Drawn0 w w' := by
  have H : (if a1 ≤ 2 then (some (wrap64 ((wrap64 ((wrap64 ((wrap64 ((wrap64 ((wrap64 ((wrap64 (Int.tdiv (wrap64 (a0 - 1)) 400)) * 146097)) + (wrap64 ((wrap64 ((wrap64 (a0 - 1)) - (wrap64 ((wrap64 (Int.tdiv (wrap64 (a0 - 1)) 400)) * 400)))) * 365)))) + (wrap64 (Int.tdiv (wrap64 ((wrap64 (a0 - 1)) - (wrap64 ((wrap64 (Int.tdiv (wrap64 (a0 - 1)) 400)) * 400)))) 4)))) - (wrap64 (Int.tdiv (wrap64 ((wrap64 (a0 - 1)) - (wrap64 ((wrap64 (Int.tdiv (wrap64 (a0 - 1)) 400)) * 400)))) 100)))) + (wrap64 ((wrap64 ((wrap64 (Int.tdiv (wrap64 ((wrap64 (153 * (Int.tmod (wrap64 (a1 + 9)) 12))) + 2)) 5)) + a2)) - 1)))) - 719468))) else (some (wrap64 ((wrap64 ((wrap64 ((wrap64 ((wrap64 ((wrap64 ((wrap64 (Int.tdiv a0 400)) * 146097)) + (wrap64 ((wrap64 (a0 - (wrap64 ((wrap64 (Int.tdiv a0 400)) * 400)))) * 365)))) + (wrap64 (Int.tdiv (wrap64 (a0 - (wrap64 ((wrap64 (Int.tdiv a0 400)) * 400)))) 4)))) - (wrap64 (Int.tdiv (wrap64 (a0 - (wrap64 ((wrap64 (Int.tdiv a0 400)) * 400)))) 100)))) + (wrap64 ((wrap64 ((wrap64 (Int.tdiv (wrap64 ((wrap64 (153 * (Int.tmod (wrap64 (a1 + 9)) 12))) + 2)) 5)) + a2)) - 1)))) - 719468)))) = some r := h
  clear h
  by_cases c4 : a1 ≤ 2
  · rw [if_pos c4] at H
    have c4b0 : decide (a1 ≤ 2) = true := decide_eq_true c4
    clear c4
    obtain rfl := Option.some.inj H
    go_enter Tryz.func41, Tryz.ntmps41
    go_wp2
    go_ret
    exact ⟨by first | rfl | (simp; done) | (simp [*]; done), by repeat (first | exact Drawn0.refl _ | apply Drawn0.step)⟩
  · rw [if_neg c4] at H
    have c4b0 : decide (a1 ≤ 2) = false := decide_eq_false c4
    clear c4
    obtain rfl := Option.some.inj H
    go_enter Tryz.func41, Tryz.ntmps41
    go_wp2
    go_ret
    exact ⟨by first | rfl | (simp; done) | (simp [*]; done), by repeat (first | exact Drawn0.refl _ | apply Drawn0.step)⟩

def date_civil.f (a0 : Int) : Option (Int × Int × Int) := if (wrap64 ((wrap64 (Int.tdiv (wrap64 ((wrap64 (5 * (wrap64 ((wrap64 ((wrap64 (a0 + 719468)) - (wrap64 ((wrap64 (Int.tdiv (wrap64 (a0 + 719468)) 146097)) * 146097)))) - (wrap64 ((wrap64 ((wrap64 (365 * (wrap64 (Int.tdiv (wrap64 ((wrap64 ((wrap64 ((wrap64 ((wrap64 (a0 + 719468)) - (wrap64 ((wrap64 (Int.tdiv (wrap64 (a0 + 719468)) 146097)) * 146097)))) - (wrap64 (Int.tdiv (wrap64 ((wrap64 (a0 + 719468)) - (wrap64 ((wrap64 (Int.tdiv (wrap64 (a0 + 719468)) 146097)) * 146097)))) 1460)))) + (wrap64 (Int.tdiv (wrap64 ((wrap64 (a0 + 719468)) - (wrap64 ((wrap64 (Int.tdiv (wrap64 (a0 + 719468)) 146097)) * 146097)))) 36524)))) - (wrap64 (Int.tdiv (wrap64 ((wrap64 (a0 + 719468)) - (wrap64 ((wrap64 (Int.tdiv (wrap64 (a0 + 719468)) 146097)) * 146097)))) 146096)))) 365)))) + (wrap64 (Int.tdiv (wrap64 (Int.tdiv (wrap64 ((wrap64 ((wrap64 ((wrap64 ((wrap64 (a0 + 719468)) - (wrap64 ((wrap64 (Int.tdiv (wrap64 (a0 + 719468)) 146097)) * 146097)))) - (wrap64 (Int.tdiv (wrap64 ((wrap64 (a0 + 719468)) - (wrap64 ((wrap64 (Int.tdiv (wrap64 (a0 + 719468)) 146097)) * 146097)))) 1460)))) + (wrap64 (Int.tdiv (wrap64 ((wrap64 (a0 + 719468)) - (wrap64 ((wrap64 (Int.tdiv (wrap64 (a0 + 719468)) 146097)) * 146097)))) 36524)))) - (wrap64 (Int.tdiv (wrap64 ((wrap64 (a0 + 719468)) - (wrap64 ((wrap64 (Int.tdiv (wrap64 (a0 + 719468)) 146097)) * 146097)))) 146096)))) 365)) 4)))) - (wrap64 (Int.tdiv (wrap64 (Int.tdiv (wrap64 ((wrap64 ((wrap64 ((wrap64 ((wrap64 (a0 + 719468)) - (wrap64 ((wrap64 (Int.tdiv (wrap64 (a0 + 719468)) 146097)) * 146097)))) - (wrap64 (Int.tdiv (wrap64 ((wrap64 (a0 + 719468)) - (wrap64 ((wrap64 (Int.tdiv (wrap64 (a0 + 719468)) 146097)) * 146097)))) 1460)))) + (wrap64 (Int.tdiv (wrap64 ((wrap64 (a0 + 719468)) - (wrap64 ((wrap64 (Int.tdiv (wrap64 (a0 + 719468)) 146097)) * 146097)))) 36524)))) - (wrap64 (Int.tdiv (wrap64 ((wrap64 (a0 + 719468)) - (wrap64 ((wrap64 (Int.tdiv (wrap64 (a0 + 719468)) 146097)) * 146097)))) 146096)))) 365)) 100)))))))) + 2)) 153)) + 3)) > 12 then (some (wrap64 ((wrap64 ((wrap64 (Int.tdiv (wrap64 ((wrap64 ((wrap64 ((wrap64 ((wrap64 (a0 + 719468)) - (wrap64 ((wrap64 (Int.tdiv (wrap64 (a0 + 719468)) 146097)) * 146097)))) - (wrap64 (Int.tdiv (wrap64 ((wrap64 (a0 + 719468)) - (wrap64 ((wrap64 (Int.tdiv (wrap64 (a0 + 719468)) 146097)) * 146097)))) 1460)))) + (wrap64 (Int.tdiv (wrap64 ((wrap64 (a0 + 719468)) - (wrap64 ((wrap64 (Int.tdiv (wrap64 (a0 + 719468)) 146097)) * 146097)))) 36524)))) - (wrap64 (Int.tdiv (wrap64 ((wrap64 (a0 + 719468)) - (wrap64 ((wrap64 (Int.tdiv (wrap64 (a0 + 719468)) 146097)) * 146097)))) 146096)))) 365)) + (wrap64 ((wrap64 (Int.tdiv (wrap64 (a0 + 719468)) 146097)) * 400)))) + 1), wrap64 ((wrap64 ((wrap64 (Int.tdiv (wrap64 ((wrap64 (5 * (wrap64 ((wrap64 ((wrap64 (a0 + 719468)) - (wrap64 ((wrap64 (Int.tdiv (wrap64 (a0 + 719468)) 146097)) * 146097)))) - (wrap64 ((wrap64 ((wrap64 (365 * (wrap64 (Int.tdiv (wrap64 ((wrap64 ((wrap64 ((wrap64 ((wrap64 (a0 + 719468)) - (wrap64 ((wrap64 (Int.tdiv (wrap64 (a0 + 719468)) 146097)) * 146097)))) - (wrap64 (Int.tdiv (wrap64 ((wrap64 (a0 + 719468)) - (wrap64 ((wrap64 (Int.tdiv (wrap64 (a0 + 719468)) 146097)) * 146097)))) 1460)))) + (wrap64 (Int.tdiv (wrap64 ((wrap64 (a0 + 719468)) - (wrap64 ((wrap64 (Int.tdiv (wrap64 (a0 + 719468)) 146097)) * 146097)))) 36524)))) - (wrap64 (Int.tdiv (wrap64 ((wrap64 (a0 + 719468)) - (wrap64 ((wrap64 (Int.tdiv (wrap64 (a0 + 719468)) 146097)) * 146097)))) 146096)))) 365)))) + (wrap64 (Int.tdiv (wrap64 (Int.tdiv (wrap64 ((wrap64 ((wrap64 ((wrap64 ((wrap64 (a0 + 719468)) - (wrap64 ((wrap64 (Int.tdiv (wrap64 (a0 + 719468)) 146097)) * 146097)))) - (wrap64 (Int.tdiv (wrap64 ((wrap64 (a0 + 719468)) - (wrap64 ((wrap64 (Int.tdiv (wrap64 (a0 + 719468)) 146097)) * 146097)))) 1460)))) + (wrap64 (Int.tdiv (wrap64 ((wrap64 (a0 + 719468)) - (wrap64 ((wrap64 (Int.tdiv (wrap64 (a0 + 719468)) 146097)) * 146097)))) 36524)))) - (wrap64 (Int.tdiv (wrap64 ((wrap64 (a0 + 719468)) - (wrap64 ((wrap64 (Int.tdiv (wrap64 (a0 + 719468)) 146097)) * 146097)))) 146096)))) 365)) 4)))) - (wrap64 (Int.tdiv (wrap64 (Int.tdiv (wrap64 ((wrap64 ((wrap64 ((wrap64 ((wrap64 (a0 + 719468)) - (wrap64 ((wrap64 (Int.tdiv (wrap64 (a0 + 719468)) 146097)) * 146097)))) - (wrap64 (Int.tdiv (wrap64 ((wrap64 (a0 + 719468)) - (wrap64 ((wrap64 (Int.tdiv (wrap64 (a0 + 719468)) 146097)) * 146097)))) 1460)))) + (wrap64 (Int.tdiv (wrap64 ((wrap64 (a0 + 719468)) - (wrap64 ((wrap64 (Int.tdiv (wrap64 (a0 + 719468)) 146097)) * 146097)))) 36524)))) - (wrap64 (Int.tdiv (wrap64 ((wrap64 (a0 + 719468)) - (wrap64 ((wrap64 (Int.tdiv (wrap64 (a0 + 719468)) 146097)) * 146097)))) 146096)))) 365)) 100)))))))) + 2)) 153)) + 3)) - 12), wrap64 ((wrap64 ((wrap64 ((wrap64 ((wrap64 (a0 + 719468)) - (wrap64 ((wrap64 (Int.tdiv (wrap64 (a0 + 719468)) 146097)) * 146097)))) - (wrap64 ((wrap64 ((wrap64 (365 * (wrap64 (Int.tdiv (wrap64 ((wrap64 ((wrap64 ((wrap64 ((wrap64 (a0 + 719468)) - (wrap64 ((wrap64 (Int.tdiv (wrap64 (a0 + 719468)) 146097)) * 146097)))) - (wrap64 (Int.tdiv (wrap64 ((wrap64 (a0 + 719468)) - (wrap64 ((wrap64 (Int.tdiv (wrap64 (a0 + 719468)) 146097)) * 146097)))) 1460)))) + (wrap64 (Int.tdiv (wrap64 ((wrap64 (a0 + 719468)) - (wrap64 ((wrap64 (Int.tdiv (wrap64 (a0 + 719468)) 146097)) * 146097)))) 36524)))) - (wrap64 (Int.tdiv (wrap64 ((wrap64 (a0 + 719468)) - (wrap64 ((wrap64 (Int.tdiv (wrap64 (a0 + 719468)) 146097)) * 146097)))) 146096)))) 365)))) + (wrap64 (Int.tdiv (wrap64 (Int.tdiv (wrap64 ((wrap64 ((wrap64 ((wrap64 ((wrap64 (a0 + 719468)) - (wrap64 ((wrap64 (Int.tdiv (wrap64 (a0 + 719468)) 146097)) * 146097)))) - (wrap64 (Int.tdiv (wrap64 ((wrap64 (a0 + 719468)) - (wrap64 ((wrap64 (Int.tdiv (wrap64 (a0 + 719468)) 146097)) * 146097)))) 1460)))) + (wrap64 (Int.tdiv (wrap64 ((wrap64 (a0 + 719468)) - (wrap64 ((wrap64 (Int.tdiv (wrap64 (a0 + 719468)) 146097)) * 146097)))) 36524)))) - (wrap64 (Int.tdiv (wrap64 ((wrap64 (a0 + 719468)) - (wrap64 ((wrap64 (Int.tdiv (wrap64 (a0 + 719468)) 146097)) * 146097)))) 146096)))) 365)) 4)))) - (wrap64 (Int.tdiv (wrap64 (Int.tdiv (wrap64 ((wrap64 ((wrap64 ((wrap64 ((wrap64 (a0 + 719468)) - (wrap64 ((wrap64 (Int.tdiv (wrap64 (a0 + 719468)) 146097)) * 146097)))) - (wrap64 (Int.tdiv (wrap64 ((wrap64 (a0 + 719468)) - (wrap64 ((wrap64 (Int.tdiv (wrap64 (a0 + 719468)) 146097)) * 146097)))) 1460)))) + (wrap64 (Int.tdiv (wrap64 ((wrap64 (a0 + 719468)) - (wrap64 ((wrap64 (Int.tdiv (wrap64 (a0 + 719468)) 146097)) * 146097)))) 36524)))) - (wrap64 (Int.tdiv (wrap64 ((wrap64 (a0 + 719468)) - (wrap64 ((wrap64 (Int.tdiv (wrap64 (a0 + 719468)) 146097)) * 146097)))) 146096)))) 365)) 100)))))) - (wrap64 (Int.tdiv (wrap64 ((wrap64 (153 * (wrap64 (Int.tdiv (wrap64 ((wrap64 (5 * (wrap64 ((wrap64 ((wrap64 (a0 + 719468)) - (wrap64 ((wrap64 (Int.tdiv (wrap64 (a0 + 719468)) 146097)) * 146097)))) - (wrap64 ((wrap64 ((wrap64 (365 * (wrap64 (Int.tdiv (wrap64 ((wrap64 ((wrap64 ((wrap64 ((wrap64 (a0 + 719468)) - (wrap64 ((wrap64 (Int.tdiv (wrap64 (a0 + 719468)) 146097)) * 146097)))) - (wrap64 (Int.tdiv (wrap64 ((wrap64 (a0 + 719468)) - (wrap64 ((wrap64 (Int.tdiv (wrap64 (a0 + 719468)) 146097)) * 146097)))) 1460)))) + (wrap64 (Int.tdiv (wrap64 ((wrap64 (a0 + 719468)) - (wrap64 ((wrap64 (Int.tdiv (wrap64 (a0 + 719468)) 146097)) * 146097)))) 36524)))) - (wrap64 (Int.tdiv (wrap64 ((wrap64 (a0 + 719468)) - (wrap64 ((wrap64 (Int.tdiv (wrap64 (a0 + 719468)) 146097)) * 146097)))) 146096)))) 365)))) + (wrap64 (Int.tdiv (wrap64 (Int.tdiv (wrap64 ((wrap64 ((wrap64 ((wrap64 ((wrap64 (a0 + 719468)) - (wrap64 ((wrap64 (Int.tdiv (wrap64 (a0 + 719468)) 146097)) * 146097)))) - (wrap64 (Int.tdiv (wrap64 ((wrap64 (a0 + 719468)) - (wrap64 ((wrap64 (Int.tdiv (wrap64 (a0 + 719468)) 146097)) * 146097)))) 1460)))) + (wrap64 (Int.tdiv (wrap64 ((wrap64 (a0 + 719468)) - (wrap64 ((wrap64 (Int.tdiv (wrap64 (a0 + 719468)) 146097)) * 146097)))) 36524)))) - (wrap64 (Int.tdiv (wrap64 ((wrap64 (a0 + 719468)) - (wrap64 ((wrap64 (Int.tdiv (wrap64 (a0 + 719468)) 146097)) * 146097)))) 146096)))) 365)) 4)))) - (wrap64 (Int.tdiv (wrap64 (Int.tdiv (wrap64 ((wrap64 ((wrap64 ((wrap64 ((wrap64 (a0 + 719468)) - (wrap64 ((wrap64 (Int.tdiv (wrap64 (a0 + 719468)) 146097)) * 146097)))) - (wrap64 (Int.tdiv (wrap64 ((wrap64 (a0 + 719468)) - (wrap64 ((wrap64 (Int.tdiv (wrap64 (a0 + 719468)) 146097)) * 146097)))) 1460)))) + (wrap64 (Int.tdiv (wrap64 ((wrap64 (a0 + 719468)) - (wrap64 ((wrap64 (Int.tdiv (wrap64 (a0 + 719468)) 146097)) * 146097)))) 36524)))) - (wrap64 (Int.tdiv (wrap64 ((wrap64 (a0 + 719468)) - (wrap64 ((wrap64 (Int.tdiv (wrap64 (a0 + 719468)) 146097)) * 146097)))) 146096)))) 365)) 100)))))))) + 2)) 153)))) + 2)) 5)))) + 1))) else (some (wrap64 ((wrap64 (Int.tdiv (wrap64 ((wrap64 ((wrap64 ((wrap64 ((wrap64 (a0 + 719468)) - (wrap64 ((wrap64 (Int.tdiv (wrap64 (a0 + 719468)) 146097)) * 146097)))) - (wrap64 (Int.tdiv (wrap64 ((wrap64 (a0 + 719468)) - (wrap64 ((wrap64 (Int.tdiv (wrap64 (a0 + 719468)) 146097)) * 146097)))) 1460)))) + (wrap64 (Int.tdiv (wrap64 ((wrap64 (a0 + 719468)) - (wrap64 ((wrap64 (Int.tdiv (wrap64 (a0 + 719468)) 146097)) * 146097)))) 36524)))) - (wrap64 (Int.tdiv (wrap64 ((wrap64 (a0 + 719468)) - (wrap64 ((wrap64 (Int.tdiv (wrap64 (a0 + 719468)) 146097)) * 146097)))) 146096)))) 365)) + (wrap64 ((wrap64 (Int.tdiv (wrap64 (a0 + 719468)) 146097)) * 400))), wrap64 ((wrap64 (Int.tdiv (wrap64 ((wrap64 (5 * (wrap64 ((wrap64 ((wrap64 (a0 + 719468)) - (wrap64 ((wrap64 (Int.tdiv (wrap64 (a0 + 719468)) 146097)) * 146097)))) - (wrap64 ((wrap64 ((wrap64 (365 * (wrap64 (Int.tdiv (wrap64 ((wrap64 ((wrap64 ((wrap64 ((wrap64 (a0 + 719468)) - (wrap64 ((wrap64 (Int.tdiv (wrap64 (a0 + 719468)) 146097)) * 146097)))) - (wrap64 (Int.tdiv (wrap64 ((wrap64 (a0 + 719468)) - (wrap64 ((wrap64 (Int.tdiv (wrap64 (a0 + 719468)) 146097)) * 146097)))) 1460)))) + (wrap64 (Int.tdiv (wrap64 ((wrap64 (a0 + 719468)) - (wrap64 ((wrap64 (Int.tdiv (wrap64 (a0 + 719468)) 146097)) * 146097)))) 36524)))) - (wrap64 (Int.tdiv (wrap64 ((wrap64 (a0 + 719468)) - (wrap64 ((wrap64 (Int.tdiv (wrap64 (a0 + 719468)) 146097)) * 146097)))) 146096)))) 365)))) + (wrap64 (Int.tdiv (wrap64 (Int.tdiv (wrap64 ((wrap64 ((wrap64 ((wrap64 ((wrap64 (a0 + 719468)) - (wrap64 ((wrap64 (Int.tdiv (wrap64 (a0 + 719468)) 146097)) * 146097)))) - (wrap64 (Int.tdiv (wrap64 ((wrap64 (a0 + 719468)) - (wrap64 ((wrap64 (Int.tdiv (wrap64 (a0 + 719468)) 146097)) * 146097)))) 1460)))) + (wrap64 (Int.tdiv (wrap64 ((wrap64 (a0 + 719468)) - (wrap64 ((wrap64 (Int.tdiv (wrap64 (a0 + 719468)) 146097)) * 146097)))) 36524)))) - (wrap64 (Int.tdiv (wrap64 ((wrap64 (a0 + 719468)) - (wrap64 ((wrap64 (Int.tdiv (wrap64 (a0 + 719468)) 146097)) * 146097)))) 146096)))) 365)) 4)))) - (wrap64 (Int.tdiv (wrap64 (Int.tdiv (wrap64 ((wrap64 ((wrap64 ((wrap64 ((wrap64 (a0 + 719468)) - (wrap64 ((wrap64 (Int.tdiv (wrap64 (a0 + 719468)) 146097)) * 146097)))) - (wrap64 (Int.tdiv (wrap64 ((wrap64 (a0 + 719468)) - (wrap64 ((wrap64 (Int.tdiv (wrap64 (a0 + 719468)) 146097)) * 146097)))) 1460)))) + (wrap64 (Int.tdiv (wrap64 ((wrap64 (a0 + 719468)) - (wrap64 ((wrap64 (Int.tdiv (wrap64 (a0 + 719468)) 146097)) * 146097)))) 36524)))) - (wrap64 (Int.tdiv (wrap64 ((wrap64 (a0 + 719468)) - (wrap64 ((wrap64 (Int.tdiv (wrap64 (a0 + 719468)) 146097)) * 146097)))) 146096)))) 365)) 100)))))))) + 2)) 153)) + 3), wrap64 ((wrap64 ((wrap64 ((wrap64 ((wrap64 (a0 + 719468)) - (wrap64 ((wrap64 (Int.tdiv (wrap64 (a0 + 719468)) 146097)) * 146097)))) - (wrap64 ((wrap64 ((wrap64 (365 * (wrap64 (Int.tdiv (wrap64 ((wrap64 ((wrap64 ((wrap64 ((wrap64 (a0 + 719468)) - (wrap64 ((wrap64 (Int.tdiv (wrap64 (a0 + 719468)) 146097)) * 146097)))) - (wrap64 (Int.tdiv (wrap64 ((wrap64 (a0 + 719468)) - (wrap64 ((wrap64 (Int.tdiv (wrap64 (a0 + 719468)) 146097)) * 146097)))) 1460)))) + (wrap64 (Int.tdiv (wrap64 ((wrap64 (a0 + 719468)) - (wrap64 ((wrap64 (Int.tdiv (wrap64 (a0 + 719468)) 146097)) * 146097)))) 36524)))) - (wrap64 (Int.tdiv (wrap64 ((wrap64 (a0 + 719468)) - (wrap64 ((wrap64 (Int.tdiv (wrap64 (a0 + 719468)) 146097)) * 146097)))) 146096)))) 365)))) + (wrap64 (Int.tdiv (wrap64 (Int.tdiv (wrap64 ((wrap64 ((wrap64 ((wrap64 ((wrap64 (a0 + 719468)) - (wrap64 ((wrap64 (Int.tdiv (wrap64 (a0 + 719468)) 146097)) * 146097)))) - (wrap64 (Int.tdiv (wrap64 ((wrap64 (a0 + 719468)) - (wrap64 ((wrap64 (Int.tdiv (wrap64 (a0 + 719468)) 146097)) * 146097)))) 1460)))) + (wrap64 (Int.tdiv (wrap64 ((wrap64 (a0 + 719468)) - (wrap64 ((wrap64 (Int.tdiv (wrap64 (a0 + 719468)) 146097)) * 146097)))) 36524)))) - (wrap64 (Int.tdiv (wrap64 ((wrap64 (a0 + 719468)) - (wrap64 ((wrap64 (Int.tdiv (wrap64 (a0 + 719468)) 146097)) * 146097)))) 146096)))) 365)) 4)))) - (wrap64 (Int.tdiv (wrap64 (Int.tdiv (wrap64 ((wrap64 ((wrap64 ((wrap64 ((wrap64 (a0 + 719468)) - (wrap64 ((wrap64 (Int.tdiv (wrap64 (a0 + 719468)) 146097)) * 146097)))) - (wrap64 (Int.tdiv (wrap64 ((wrap64 (a0 + 719468)) - (wrap64 ((wrap64 (Int.tdiv (wrap64 (a0 + 719468)) 146097)) * 146097)))) 1460)))) + (wrap64 (Int.tdiv (wrap64 ((wrap64 (a0 + 719468)) - (wrap64 ((wrap64 (Int.tdiv (wrap64 (a0 + 719468)) 146097)) * 146097)))) 36524)))) - (wrap64 (Int.tdiv (wrap64 ((wrap64 (a0 + 719468)) - (wrap64 ((wrap64 (Int.tdiv (wrap64 (a0 + 719468)) 146097)) * 146097)))) 146096)))) 365)) 100)))))) - (wrap64 (Int.tdiv (wrap64 ((wrap64 (153 * (wrap64 (Int.tdiv (wrap64 ((wrap64 (5 * (wrap64 ((wrap64 ((wrap64 (a0 + 719468)) - (wrap64 ((wrap64 (Int.tdiv (wrap64 (a0 + 719468)) 146097)) * 146097)))) - (wrap64 ((wrap64 ((wrap64 (365 * (wrap64 (Int.tdiv (wrap64 ((wrap64 ((wrap64 ((wrap64 ((wrap64 (a0 + 719468)) - (wrap64 ((wrap64 (Int.tdiv (wrap64 (a0 + 719468)) 146097)) * 146097)))) - (wrap64 (Int.tdiv (wrap64 ((wrap64 (a0 + 719468)) - (wrap64 ((wrap64 (Int.tdiv (wrap64 (a0 + 719468)) 146097)) * 146097)))) 1460)))) + (wrap64 (Int.tdiv (wrap64 ((wrap64 (a0 + 719468)) - (wrap64 ((wrap64 (Int.tdiv (wrap64 (a0 + 719468)) 146097)) * 146097)))) 36524)))) - (wrap64 (Int.tdiv (wrap64 ((wrap64 (a0 + 719468)) - (wrap64 ((wrap64 (Int.tdiv (wrap64 (a0 + 719468)) 146097)) * 146097)))) 146096)))) 365)))) + (wrap64 (Int.tdiv (wrap64 (Int.tdiv (wrap64 ((wrap64 ((wrap64 ((wrap64 ((wrap64 (a0 + 719468)) - (wrap64 ((wrap64 (Int.tdiv (wrap64 (a0 + 719468)) 146097)) * 146097)))) - (wrap64 (Int.tdiv (wrap64 ((wrap64 (a0 + 719468)) - (wrap64 ((wrap64 (Int.tdiv (wrap64 (a0 + 719468)) 146097)) * 146097)))) 1460)))) + (wrap64 (Int.tdiv (wrap64 ((wrap64 (a0 + 719468)) - (wrap64 ((wrap64 (Int.tdiv (wrap64 (a0 + 719468)) 146097)) * 146097)))) 36524)))) - (wrap64 (Int.tdiv (wrap64 ((wrap64 (a0 + 719468)) - (wrap64 ((wrap64 (Int.tdiv (wrap64 (a0 + 719468)) 146097)) * 146097)))) 146096)))) 365)) 4)))) - (wrap64 (Int.tdiv (wrap64 (Int.tdiv (wrap64 ((wrap64 ((wrap64 ((wrap64 ((wrap64 (a0 + 719468)) - (wrap64 ((wrap64 (Int.tdiv (wrap64 (a0 + 719468)) 146097)) * 146097)))) - (wrap64 (Int.tdiv (wrap64 ((wrap64 (a0 + 719468)) - (wrap64 ((wrap64 (Int.tdiv (wrap64 (a0 + 719468)) 146097)) * 146097)))) 1460)))) + (wrap64 (Int.tdiv (wrap64 ((wrap64 (a0 + 719468)) - (wrap64 ((wrap64 (Int.tdiv (wrap64 (a0 + 719468)) 146097)) * 146097)))) 36524)))) - (wrap64 (Int.tdiv (wrap64 ((wrap64 (a0 + 719468)) - (wrap64 ((wrap64 (Int.tdiv (wrap64 (a0 + 719468)) 146097)) * 146097)))) 146096)))) 365)) 100)))))))) + 2)) 153)))) + 2)) 5)))) + 1)))
set_option maxHeartbeats 8000000 in
set_option maxRecDepth 100000 in
theorem date_civil.calls (a0 : Int) (r1 : Int) (r2 : Int) (r3 : Int) (w : World) (h : date_civil.f a0 = some (r1, r2, r3)) :
    Calls Tryz.prog 42 #[.int .i64 a0] w fun e w' => e = .returned (.tuple #[.int .i64 r1, .int .i64 r2, .int .i64 r3]) ∧ Drawn0 w w' := by
  have H : (if (wrap64 ((wrap64 (Int.tdiv (wrap64 ((wrap64 (5 * (wrap64 ((wrap64 ((wrap64 (a0 + 719468)) - (wrap64 ((wrap64 (Int.tdiv (wrap64 (a0 + 719468)) 146097)) * 146097)))) - (wrap64 ((wrap64 ((wrap64 (365 * (wrap64 (Int.tdiv (wrap64 ((wrap64 ((wrap64 ((wrap64 ((wrap64 (a0 + 719468)) - (wrap64 ((wrap64 (Int.tdiv (wrap64 (a0 + 719468)) 146097)) * 146097)))) - (wrap64 (Int.tdiv (wrap64 ((wrap64 (a0 + 719468)) - (wrap64 ((wrap64 (Int.tdiv (wrap64 (a0 + 719468)) 146097)) * 146097)))) 1460)))) + (wrap64 (Int.tdiv (wrap64 ((wrap64 (a0 + 719468)) - (wrap64 ((wrap64 (Int.tdiv (wrap64 (a0 + 719468)) 146097)) * 146097)))) 36524)))) - (wrap64 (Int.tdiv (wrap64 ((wrap64 (a0 + 719468)) - (wrap64 ((wrap64 (Int.tdiv (wrap64 (a0 + 719468)) 146097)) * 146097)))) 146096)))) 365)))) + (wrap64 (Int.tdiv (wrap64 (Int.tdiv (wrap64 ((wrap64 ((wrap64 ((wrap64 ((wrap64 (a0 + 719468)) - (wrap64 ((wrap64 (Int.tdiv (wrap64 (a0 + 719468)) 146097)) * 146097)))) - (wrap64 (Int.tdiv (wrap64 ((wrap64 (a0 + 719468)) - (wrap64 ((wrap64 (Int.tdiv (wrap64 (a0 + 719468)) 146097)) * 146097)))) 1460)))) + (wrap64 (Int.tdiv (wrap64 ((wrap64 (a0 + 719468)) - (wrap64 ((wrap64 (Int.tdiv (wrap64 (a0 + 719468)) 146097)) * 146097)))) 36524)))) - (wrap64 (Int.tdiv (wrap64 ((wrap64 (a0 + 719468)) - (wrap64 ((wrap64 (Int.tdiv (wrap64 (a0 + 719468)) 146097)) * 146097)))) 146096)))) 365)) 4)))) - (wrap64 (Int.tdiv (wrap64 (Int.tdiv (wrap64 ((wrap64 ((wrap64 ((wrap64 ((wrap64 (a0 + 719468)) - (wrap64 ((wrap64 (Int.tdiv (wrap64 (a0 + 719468)) 146097)) * 146097)))) - (wrap64 (Int.tdiv (wrap64 ((wrap64 (a0 + 719468)) - (wrap64 ((wrap64 (Int.tdiv (wrap64 (a0 + 719468)) 146097)) * 146097)))) 1460)))) + (wrap64 (Int.tdiv (wrap64 ((wrap64 (a0 + 719468)) - (wrap64 ((wrap64 (Int.tdiv (wrap64 (a0 + 719468)) 146097)) * 146097)))) 36524)))) - (wrap64 (Int.tdiv (wrap64 ((wrap64 (a0 + 719468)) - (wrap64 ((wrap64 (Int.tdiv (wrap64 (a0 + 719468)) 146097)) * 146097)))) 146096)))) 365)) 100)))))))) + 2)) 153)) + 3)) > 12 then (some (wrap64 ((wrap64 ((wrap64 (Int.tdiv (wrap64 ((wrap64 ((wrap64 ((wrap64 ((wrap64 (a0 + 719468)) - (wrap64 ((wrap64 (Int.tdiv (wrap64 (a0 + 719468)) 146097)) * 146097)))) - (wrap64 (Int.tdiv (wrap64 ((wrap64 (a0 + 719468)) - (wrap64 ((wrap64 (Int.tdiv (wrap64 (a0 + 719468)) 146097)) * 146097)))) 1460)))) + (wrap64 (Int.tdiv (wrap64 ((wrap64 (a0 + 719468)) - (wrap64 ((wrap64 (Int.tdiv (wrap64 (a0 + 719468)) 146097)) * 146097)))) 36524)))) - (wrap64 (Int.tdiv (wrap64 ((wrap64 (a0 + 719468)) - (wrap64 ((wrap64 (Int.tdiv (wrap64 (a0 + 719468)) 146097)) * 146097)))) 146096)))) 365)) + (wrap64 ((wrap64 (Int.tdiv (wrap64 (a0 + 719468)) 146097)) * 400)))) + 1), wrap64 ((wrap64 ((wrap64 (Int.tdiv (wrap64 ((wrap64 (5 * (wrap64 ((wrap64 ((wrap64 (a0 + 719468)) - (wrap64 ((wrap64 (Int.tdiv (wrap64 (a0 + 719468)) 146097)) * 146097)))) - (wrap64 ((wrap64 ((wrap64 (365 * (wrap64 (Int.tdiv (wrap64 ((wrap64 ((wrap64 ((wrap64 ((wrap64 (a0 + 719468)) - (wrap64 ((wrap64 (Int.tdiv (wrap64 (a0 + 719468)) 146097)) * 146097)))) - (wrap64 (Int.tdiv (wrap64 ((wrap64 (a0 + 719468)) - (wrap64 ((wrap64 (Int.tdiv (wrap64 (a0 + 719468)) 146097)) * 146097)))) 1460)))) + (wrap64 (Int.tdiv (wrap64 ((wrap64 (a0 + 719468)) - (wrap64 ((wrap64 (Int.tdiv (wrap64 (a0 + 719468)) 146097)) * 146097)))) 36524)))) - (wrap64 (Int.tdiv (wrap64 ((wrap64 (a0 + 719468)) - (wrap64 ((wrap64 (Int.tdiv (wrap64 (a0 + 719468)) 146097)) * 146097)))) 146096)))) 365)))) + (wrap64 (Int.tdiv (wrap64 (Int.tdiv (wrap64 ((wrap64 ((wrap64 ((wrap64 ((wrap64 (a0 + 719468)) - (wrap64 ((wrap64 (Int.tdiv (wrap64 (a0 + 719468)) 146097)) * 146097)))) - (wrap64 (Int.tdiv (wrap64 ((wrap64 (a0 + 719468)) - (wrap64 ((wrap64 (Int.tdiv (wrap64 (a0 + 719468)) 146097)) * 146097)))) 1460)))) + (wrap64 (Int.tdiv (wrap64 ((wrap64 (a0 + 719468)) - (wrap64 ((wrap64 (Int.tdiv (wrap64 (a0 + 719468)) 146097)) * 146097)))) 36524)))) - (wrap64 (Int.tdiv (wrap64 ((wrap64 (a0 + 719468)) - (wrap64 ((wrap64 (Int.tdiv (wrap64 (a0 + 719468)) 146097)) * 146097)))) 146096)))) 365)) 4)))) - (wrap64 (Int.tdiv (wrap64 (Int.tdiv (wrap64 ((wrap64 ((wrap64 ((wrap64 ((wrap64 (a0 + 719468)) - (wrap64 ((wrap64 (Int.tdiv (wrap64 (a0 + 719468)) 146097)) * 146097)))) - (wrap64 (Int.tdiv (wrap64 ((wrap64 (a0 + 719468)) - (wrap64 ((wrap64 (Int.tdiv (wrap64 (a0 + 719468)) 146097)) * 146097)))) 1460)))) + (wrap64 (Int.tdiv (wrap64 ((wrap64 (a0 + 719468)) - (wrap64 ((wrap64 (Int.tdiv (wrap64 (a0 + 719468)) 146097)) * 146097)))) 36524)))) - (wrap64 (Int.tdiv (wrap64 ((wrap64 (a0 + 719468)) - (wrap64 ((wrap64 (Int.tdiv (wrap64 (a0 + 719468)) 146097)) * 146097)))) 146096)))) 365)) 100)))))))) + 2)) 153)) + 3)) - 12), wrap64 ((wrap64 ((wrap64 ((wrap64 ((wrap64 (a0 + 719468)) - (wrap64 ((wrap64 (Int.tdiv (wrap64 (a0 + 719468)) 146097)) * 146097)))) - (wrap64 ((wrap64 ((wrap64 (365 * (wrap64 (Int.tdiv (wrap64 ((wrap64 ((wrap64 ((wrap64 ((wrap64 (a0 + 719468)) - (wrap64 ((wrap64 (Int.tdiv (wrap64 (a0 + 719468)) 146097)) * 146097)))) - (wrap64 (Int.tdiv (wrap64 ((wrap64 (a0 + 719468)) - (wrap64 ((wrap64 (Int.tdiv (wrap64 (a0 + 719468)) 146097)) * 146097)))) 1460)))) + (wrap64 (Int.tdiv (wrap64 ((wrap64 (a0 + 719468)) - (wrap64 ((wrap64 (Int.tdiv (wrap64 (a0 + 719468)) 146097)) * 146097)))) 36524)))) - (wrap64 (Int.tdiv (wrap64 ((wrap64 (a0 + 719468)) - (wrap64 ((wrap64 (Int.tdiv (wrap64 (a0 + 719468)) 146097)) * 146097)))) 146096)))) 365)))) + (wrap64 (Int.tdiv (wrap64 (Int.tdiv (wrap64 ((wrap64 ((wrap64 ((wrap64 ((wrap64 (a0 + 719468)) - (wrap64 ((wrap64 (Int.tdiv (wrap64 (a0 + 719468)) 146097)) * 146097)))) - (wrap64 (Int.tdiv (wrap64 ((wrap64 (a0 + 719468)) - (wrap64 ((wrap64 (Int.tdiv (wrap64 (a0 + 719468)) 146097)) * 146097)))) 1460)))) + (wrap64 (Int.tdiv (wrap64 ((wrap64 (a0 + 719468)) - (wrap64 ((wrap64 (Int.tdiv (wrap64 (a0 + 719468)) 146097)) * 146097)))) 36524)))) - (wrap64 (Int.tdiv (wrap64 ((wrap64 (a0 + 719468)) - (wrap64 ((wrap64 (Int.tdiv (wrap64 (a0 + 719468)) 146097)) * 146097)))) 146096)))) 365)) 4)))) - (wrap64 (Int.tdiv (wrap64 (Int.tdiv (wrap64 ((wrap64 ((wrap64 ((wrap64 ((wrap64 (a0 + 719468)) - (wrap64 ((wrap64 (Int.tdiv (wrap64 (a0 + 719468)) 146097)) * 146097)))) - (wrap64 (Int.tdiv (wrap64 ((wrap64 (a0 + 719468)) - (wrap64 ((wrap64 (Int.tdiv (wrap64 (a0 + 719468)) 146097)) * 146097)))) 1460)))) + (wrap64 (Int.tdiv (wrap64 ((wrap64 (a0 + 719468)) - (wrap64 ((wrap64 (Int.tdiv (wrap64 (a0 + 719468)) 146097)) * 146097)))) 36524)))) - (wrap64 (Int.tdiv (wrap64 ((wrap64 (a0 + 719468)) - (wrap64 ((wrap64 (Int.tdiv (wrap64 (a0 + 719468)) 146097)) * 146097)))) 146096)))) 365)) 100)))))) - (wrap64 (Int.tdiv (wrap64 ((wrap64 (153 * (wrap64 (Int.tdiv (wrap64 ((wrap64 (5 * (wrap64 ((wrap64 ((wrap64 (a0 + 719468)) - (wrap64 ((wrap64 (Int.tdiv (wrap64 (a0 + 719468)) 146097)) * 146097)))) - (wrap64 ((wrap64 ((wrap64 (365 * (wrap64 (Int.tdiv (wrap64 ((wrap64 ((wrap64 ((wrap64 ((wrap64 (a0 + 719468)) - (wrap64 ((wrap64 (Int.tdiv (wrap64 (a0 + 719468)) 146097)) * 146097)))) - (wrap64 (Int.tdiv (wrap64 ((wrap64 (a0 + 719468)) - (wrap64 ((wrap64 (Int.tdiv (wrap64 (a0 + 719468)) 146097)) * 146097)))) 1460)))) + (wrap64 (Int.tdiv (wrap64 ((wrap64 (a0 + 719468)) - (wrap64 ((wrap64 (Int.tdiv (wrap64 (a0 + 719468)) 146097)) * 146097)))) 36524)))) - (wrap64 (Int.tdiv (wrap64 ((wrap64 (a0 + 719468)) - (wrap64 ((wrap64 (Int.tdiv (wrap64 (a0 + 719468)) 146097)) * 146097)))) 146096)))) 365)))) + (wrap64 (Int.tdiv (wrap64 (Int.tdiv (wrap64 ((wrap64 ((wrap64 ((wrap64 ((wrap64 (a0 + 719468)) - (wrap64 ((wrap64 (Int.tdiv (wrap64 (a0 + 719468)) 146097)) * 146097)))) - (wrap64 (Int.tdiv (wrap64 ((wrap64 (a0 + 719468)) - (wrap64 ((wrap64 (Int.tdiv (wrap64 (a0 + 719468)) 146097)) * 146097)))) 1460)))) + (wrap64 (Int.tdiv (wrap64 ((wrap64 (a0 + 719468)) - (wrap64 ((wrap64 (Int.tdiv (wrap64 (a0 + 719468)) 146097)) * 146097)))) 36524)))) - (wrap64 (Int.tdiv (wrap64 ((wrap64 (a0 + 719468)) - (wrap64 ((wrap64 (Int.tdiv (wrap64 (a0 + 719468)) 146097)) * 146097)))) 146096)))) 365)) 4)))) - (wrap64 (Int.tdiv (wrap64 (Int.tdiv (wrap64 ((wrap64 ((wrap64 ((wrap64 ((wrap64 (a0 + 719468)) - (wrap64 ((wrap64 (Int.tdiv (wrap64 (a0 + 719468)) 146097)) * 146097)))) - (wrap64 (Int.tdiv (wrap64 ((wrap64 (a0 + 719468)) - (wrap64 ((wrap64 (Int.tdiv (wrap64 (a0 + 719468)) 146097)) * 146097)))) 1460)))) + (wrap64 (Int.tdiv (wrap64 ((wrap64 (a0 + 719468)) - (wrap64 ((wrap64 (Int.tdiv (wrap64 (a0 + 719468)) 146097)) * 146097)))) 36524)))) - (wrap64 (Int.tdiv (wrap64 ((wrap64 (a0 + 719468)) - (wrap64 ((wrap64 (Int.tdiv (wrap64 (a0 + 719468)) 146097)) * 146097)))) 146096)))) 365)) 100)))))))) + 2)) 153)))) + 2)) 5)))) + 1))) else (some (wrap64 ((wrap64 (Int.tdiv (wrap64 ((wrap64 ((wrap64 ((wrap64 ((wrap64 (a0 + 719468)) - (wrap64 ((wrap64 (Int.tdiv (wrap64 (a0 + 719468)) 146097)) * 146097)))) - (wrap64 (Int.tdiv (wrap64 ((wrap64 (a0 + 719468)) - (wrap64 ((wrap64 (Int.tdiv (wrap64 (a0 + 719468)) 146097)) * 146097)))) 1460)))) + (wrap64 (Int.tdiv (wrap64 ((wrap64 (a0 + 719468)) - (wrap64 ((wrap64 (Int.tdiv (wrap64 (a0 + 719468)) 146097)) * 146097)))) 36524)))) - (wrap64 (Int.tdiv (wrap64 ((wrap64 (a0 + 719468)) - (wrap64 ((wrap64 (Int.tdiv (wrap64 (a0 + 719468)) 146097)) * 146097)))) 146096)))) 365)) + (wrap64 ((wrap64 (Int.tdiv (wrap64 (a0 + 719468)) 146097)) * 400))), wrap64 ((wrap64 (Int.tdiv (wrap64 ((wrap64 (5 * (wrap64 ((wrap64 ((wrap64 (a0 + 719468)) - (wrap64 ((wrap64 (Int.tdiv (wrap64 (a0 + 719468)) 146097)) * 146097)))) - (wrap64 ((wrap64 ((wrap64 (365 * (wrap64 (Int.tdiv (wrap64 ((wrap64 ((wrap64 ((wrap64 ((wrap64 (a0 + 719468)) - (wrap64 ((wrap64 (Int.tdiv (wrap64 (a0 + 719468)) 146097)) * 146097)))) - (wrap64 (Int.tdiv (wrap64 ((wrap64 (a0 + 719468)) - (wrap64 ((wrap64 (Int.tdiv (wrap64 (a0 + 719468)) 146097)) * 146097)))) 1460)))) + (wrap64 (Int.tdiv (wrap64 ((wrap64 (a0 + 719468)) - (wrap64 ((wrap64 (Int.tdiv (wrap64 (a0 + 719468)) 146097)) * 146097)))) 36524)))) - (wrap64 (Int.tdiv (wrap64 ((wrap64 (a0 + 719468)) - (wrap64 ((wrap64 (Int.tdiv (wrap64 (a0 + 719468)) 146097)) * 146097)))) 146096)))) 365)))) + (wrap64 (Int.tdiv (wrap64 (Int.tdiv (wrap64 ((wrap64 ((wrap64 ((wrap64 ((wrap64 (a0 + 719468)) - (wrap64 ((wrap64 (Int.tdiv (wrap64 (a0 + 719468)) 146097)) * 146097)))) - (wrap64 (Int.tdiv (wrap64 ((wrap64 (a0 + 719468)) - (wrap64 ((wrap64 (Int.tdiv (wrap64 (a0 + 719468)) 146097)) * 146097)))) 1460)))) + (wrap64 (Int.tdiv (wrap64 ((wrap64 (a0 + 719468)) - (wrap64 ((wrap64 (Int.tdiv (wrap64 (a0 + 719468)) 146097)) * 146097)))) 36524)))) - (wrap64 (Int.tdiv (wrap64 ((wrap64 (a0 + 719468)) - (wrap64 ((wrap64 (Int.tdiv (wrap64 (a0 + 719468)) 146097)) * 146097)))) 146096)))) 365)) 4)))) - (wrap64 (Int.tdiv (wrap64 (Int.tdiv (wrap64 ((wrap64 ((wrap64 ((wrap64 ((wrap64 (a0 + 719468)) - (wrap64 ((wrap64 (Int.tdiv (wrap64 (a0 + 719468)) 146097)) * 146097)))) - (wrap64 (Int.tdiv (wrap64 ((wrap64 (a0 + 719468)) - (wrap64 ((wrap64 (Int.tdiv (wrap64 (a0 + 719468)) 146097)) * 146097)))) 1460)))) + (wrap64 (Int.tdiv (wrap64 ((wrap64 (a0 + 719468)) - (wrap64 ((wrap64 (Int.tdiv (wrap64 (a0 + 719468)) 146097)) * 146097)))) 36524)))) - (wrap64 (Int.tdiv (wrap64 ((wrap64 (a0 + 719468)) - (wrap64 ((wrap64 (Int.tdiv (wrap64 (a0 + 719468)) 146097)) * 146097)))) 146096)))) 365)) 100)))))))) + 2)) 153)) + 3), wrap64 ((wrap64 ((wrap64 ((wrap64 ((wrap64 (a0 + 719468)) - (wrap64 ((wrap64 (Int.tdiv (wrap64 (a0 + 719468)) 146097)) * 146097)))) - (wrap64 ((wrap64 ((wrap64 (365 * (wrap64 (Int.tdiv (wrap64 ((wrap64 ((wrap64 ((wrap64 ((wrap64 (a0 + 719468)) - (wrap64 ((wrap64 (Int.tdiv (wrap64 (a0 + 719468)) 146097)) * 146097)))) - (wrap64 (Int.tdiv (wrap64 ((wrap64 (a0 + 719468)) - (wrap64 ((wrap64 (Int.tdiv (wrap64 (a0 + 719468)) 146097)) * 146097)))) 1460)))) + (wrap64 (Int.tdiv (wrap64 ((wrap64 (a0 + 719468)) - (wrap64 ((wrap64 (Int.tdiv (wrap64 (a0 + 719468)) 146097)) * 146097)))) 36524)))) - (wrap64 (Int.tdiv (wrap64 ((wrap64 (a0 + 719468)) - (wrap64 ((wrap64 (Int.tdiv (wrap64 (a0 + 719468)) 146097)) * 146097)))) 146096)))) 365)))) + (wrap64 (Int.tdiv (wrap64 (Int.tdiv (wrap64 ((wrap64 ((wrap64 ((wrap64 ((wrap64 (a0 + 719468)) - (wrap64 ((wrap64 (Int.tdiv (wrap64 (a0 + 719468)) 146097)) * 146097)))) - (wrap64 (Int.tdiv (wrap64 ((wrap64 (a0 + 719468)) - (wrap64 ((wrap64 (Int.tdiv (wrap64 (a0 + 719468)) 146097)) * 146097)))) 1460)))) + (wrap64 (Int.tdiv (wrap64 ((wrap64 (a0 + 719468)) - (wrap64 ((wrap64 (Int.tdiv (wrap64 (a0 + 719468)) 146097)) * 146097)))) 36524)))) - (wrap64 (Int.tdiv (wrap64 ((wrap64 (a0 + 719468)) - (wrap64 ((wrap64 (Int.tdiv (wrap64 (a0 + 719468)) 146097)) * 146097)))) 146096)))) 365)) 4)))) - (wrap64 (Int.tdiv (wrap64 (Int.tdiv (wrap64 ((wrap64 ((wrap64 ((wrap64 ((wrap64 (a0 + 719468)) - (wrap64 ((wrap64 (Int.tdiv (wrap64 (a0 + 719468)) 146097)) * 146097)))) - (wrap64 (Int.tdiv (wrap64 ((wrap64 (a0 + 719468)) - (wrap64 ((wrap64 (Int.tdiv (wrap64 (a0 + 719468)) 146097)) * 146097)))) 1460)))) + (wrap64 (Int.tdiv (wrap64 ((wrap64 (a0 + 719468)) - (wrap64 ((wrap64 (Int.tdiv (wrap64 (a0 + 719468)) 146097)) * 146097)))) 36524)))) - (wrap64 (Int.tdiv (wrap64 ((wrap64 (a0 + 719468)) - (wrap64 ((wrap64 (Int.tdiv (wrap64 (a0 + 719468)) 146097)) * 146097)))) 146096)))) 365)) 100)))))) - (wrap64 (Int.tdiv (wrap64 ((wrap64 (153 * (wrap64 (Int.tdiv (wrap64 ((wrap64 (5 * (wrap64 ((wrap64 ((wrap64 (a0 + 719468)) - (wrap64 ((wrap64 (Int.tdiv (wrap64 (a0 + 719468)) 146097)) * 146097)))) - (wrap64 ((wrap64 ((wrap64 (365 * (wrap64 (Int.tdiv (wrap64 ((wrap64 ((wrap64 ((wrap64 ((wrap64 (a0 + 719468)) - (wrap64 ((wrap64 (Int.tdiv (wrap64 (a0 + 719468)) 146097)) * 146097)))) - (wrap64 (Int.tdiv (wrap64 ((wrap64 (a0 + 719468)) - (wrap64 ((wrap64 (Int.tdiv (wrap64 (a0 + 719468)) 146097)) * 146097)))) 1460)))) + (wrap64 (Int.tdiv (wrap64 ((wrap64 (a0 + 719468)) - (wrap64 ((wrap64 (Int.tdiv (wrap64 (a0 + 719468)) 146097)) * 146097)))) 36524)))) - (wrap64 (Int.tdiv (wrap64 ((wrap64 (a0 + 719468)) - (wrap64 ((wrap64 (Int.tdiv (wrap64 (a0 + 719468)) 146097)) * 146097)))) 146096)))) 365)))) + (wrap64 (Int.tdiv (wrap64 (Int.tdiv (wrap64 ((wrap64 ((wrap64 ((wrap64 ((wrap64 (a0 + 719468)) - (wrap64 ((wrap64 (Int.tdiv (wrap64 (a0 + 719468)) 146097)) * 146097)))) - (wrap64 (Int.tdiv (wrap64 ((wrap64 (a0 + 719468)) - (wrap64 ((wrap64 (Int.tdiv (wrap64 (a0 + 719468)) 146097)) * 146097)))) 1460)))) + (wrap64 (Int.tdiv (wrap64 ((wrap64 (a0 + 719468)) - (wrap64 ((wrap64 (Int.tdiv (wrap64 (a0 + 719468)) 146097)) * 146097)))) 36524)))) - (wrap64 (Int.tdiv (wrap64 ((wrap64 (a0 + 719468)) - (wrap64 ((wrap64 (Int.tdiv (wrap64 (a0 + 719468)) 146097)) * 146097)))) 146096)))) 365)) 4)))) - (wrap64 (Int.tdiv (wrap64 (Int.tdiv (wrap64 ((wrap64 ((wrap64 ((wrap64 ((wrap64 (a0 + 719468)) - (wrap64 ((wrap64 (Int.tdiv (wrap64 (a0 + 719468)) 146097)) * 146097)))) - (wrap64 (Int.tdiv (wrap64 ((wrap64 (a0 + 719468)) - (wrap64 ((wrap64 (Int.tdiv (wrap64 (a0 + 719468)) 146097)) * 146097)))) 1460)))) + (wrap64 (Int.tdiv (wrap64 ((wrap64 (a0 + 719468)) - (wrap64 ((wrap64 (Int.tdiv (wrap64 (a0 + 719468)) 146097)) * 146097)))) 36524)))) - (wrap64 (Int.tdiv (wrap64 ((wrap64 (a0 + 719468)) - (wrap64 ((wrap64 (Int.tdiv (wrap64 (a0 + 719468)) 146097)) * 146097)))) 146096)))) 365)) 100)))))))) + 2)) 153)))) + 2)) 5)))) + 1)))) = some (r1, r2, r3) := h
  clear h
  by_cases c2 : (wrap64 ((wrap64 (Int.tdiv (wrap64 ((wrap64 (5 * (wrap64 ((wrap64 ((wrap64 (a0 + 719468)) - (wrap64 ((wrap64 (Int.tdiv (wrap64 (a0 + 719468)) 146097)) * 146097)))) - (wrap64 ((wrap64 ((wrap64 (365 * (wrap64 (Int.tdiv (wrap64 ((wrap64 ((wrap64 ((wrap64 ((wrap64 (a0 + 719468)) - (wrap64 ((wrap64 (Int.tdiv (wrap64 (a0 + 719468)) 146097)) * 146097)))) - (wrap64 (Int.tdiv (wrap64 ((wrap64 (a0 + 719468)) - (wrap64 ((wrap64 (Int.tdiv (wrap64 (a0 + 719468)) 146097)) * 146097)))) 1460)))) + (wrap64 (Int.tdiv (wrap64 ((wrap64 (a0 + 719468)) - (wrap64 ((wrap64 (Int.tdiv (wrap64 (a0 + 719468)) 146097)) * 146097)))) 36524)))) - (wrap64 (Int.tdiv (wrap64 ((wrap64 (a0 + 719468)) - (wrap64 ((wrap64 (Int.tdiv (wrap64 (a0 + 719468)) 146097)) * 146097)))) 146096)))) 365)))) + (wrap64 (Int.tdiv (wrap64 (Int.tdiv (wrap64 ((wrap64 ((wrap64 ((wrap64 ((wrap64 (a0 + 719468)) - (wrap64 ((wrap64 (Int.tdiv (wrap64 (a0 + 719468)) 146097)) * 146097)))) - (wrap64 (Int.tdiv (wrap64 ((wrap64 (a0 + 719468)) - (wrap64 ((wrap64 (Int.tdiv (wrap64 (a0 + 719468)) 146097)) * 146097)))) 1460)))) + (wrap64 (Int.tdiv (wrap64 ((wrap64 (a0 + 719468)) - (wrap64 ((wrap64 (Int.tdiv (wrap64 (a0 + 719468)) 146097)) * 146097)))) 36524)))) - (wrap64 (Int.tdiv (wrap64 ((wrap64 (a0 + 719468)) - (wrap64 ((wrap64 (Int.tdiv (wrap64 (a0 + 719468)) 146097)) * 146097)))) 146096)))) 365)) 4)))) - (wrap64 (Int.tdiv (wrap64 (Int.tdiv (wrap64 ((wrap64 ((wrap64 ((wrap64 ((wrap64 (a0 + 719468)) - (wrap64 ((wrap64 (Int.tdiv (wrap64 (a0 + 719468)) 146097)) * 146097)))) - (wrap64 (Int.tdiv (wrap64 ((wrap64 (a0 + 719468)) - (wrap64 ((wrap64 (Int.tdiv (wrap64 (a0 + 719468)) 146097)) * 146097)))) 1460)))) + (wrap64 (Int.tdiv (wrap64 ((wrap64 (a0 + 719468)) - (wrap64 ((wrap64 (Int.tdiv (wrap64 (a0 + 719468)) 146097)) * 146097)))) 36524)))) - (wrap64 (Int.tdiv (wrap64 ((wrap64 (a0 + 719468)) - (wrap64 ((wrap64 (Int.tdiv (wrap64 (a0 + 719468)) 146097)) * 146097)))) 146096)))) 365)) 100)))))))) + 2)) 153)) + 3)) > 12
  · rw [if_pos c2] at H
    have c2b0 : decide (12 < (wrap64 ((wrap64 (Int.tdiv (wrap64 ((wrap64 (5 * (wrap64 ((wrap64 ((wrap64 (a0 + 719468)) - (wrap64 ((wrap64 (Int.tdiv (wrap64 (a0 + 719468)) 146097)) * 146097)))) - (wrap64 ((wrap64 ((wrap64 (365 * (wrap64 (Int.tdiv (wrap64 ((wrap64 ((wrap64 ((wrap64 ((wrap64 (a0 + 719468)) - (wrap64 ((wrap64 (Int.tdiv (wrap64 (a0 + 719468)) 146097)) * 146097)))) - (wrap64 (Int.tdiv (wrap64 ((wrap64 (a0 + 719468)) - (wrap64 ((wrap64 (Int.tdiv (wrap64 (a0 + 719468)) 146097)) * 146097)))) 1460)))) + (wrap64 (Int.tdiv (wrap64 ((wrap64 (a0 + 719468)) - (wrap64 ((wrap64 (Int.tdiv (wrap64 (a0 + 719468)) 146097)) * 146097)))) 36524)))) - (wrap64 (Int.tdiv (wrap64 ((wrap64 (a0 + 719468)) - (wrap64 ((wrap64 (Int.tdiv (wrap64 (a0 + 719468)) 146097)) * 146097)))) 146096)))) 365)))) + (wrap64 (Int.tdiv (wrap64 (Int.tdiv (wrap64 ((wrap64 ((wrap64 ((wrap64 ((wrap64 (a0 + 719468)) - (wrap64 ((wrap64 (Int.tdiv (wrap64 (a0 + 719468)) 146097)) * 146097)))) - (wrap64 (Int.tdiv (wrap64 ((wrap64 (a0 + 719468)) - (wrap64 ((wrap64 (Int.tdiv (wrap64 (a0 + 719468)) 146097)) * 146097)))) 1460)))) + (wrap64 (Int.tdiv (wrap64 ((wrap64 (a0 + 719468)) - (wrap64 ((wrap64 (Int.tdiv (wrap64 (a0 + 719468)) 146097)) * 146097)))) 36524)))) - (wrap64 (Int.tdiv (wrap64 ((wrap64 (a0 + 719468)) - (wrap64 ((wrap64 (Int.tdiv (wrap64 (a0 + 719468)) 146097)) * 146097)))) 146096)))) 365)) 4)))) - (wrap64 (Int.tdiv (wrap64 (Int.tdiv (wrap64 ((wrap64 ((wrap64 ((wrap64 ((wrap64 (a0 + 719468)) - (wrap64 ((wrap64 (Int.tdiv (wrap64 (a0 + 719468)) 146097)) * 146097)))) - (wrap64 (Int.tdiv (wrap64 ((wrap64 (a0 + 719468)) - (wrap64 ((wrap64 (Int.tdiv (wrap64 (a0 + 719468)) 146097)) * 146097)))) 1460)))) + (wrap64 (Int.tdiv (wrap64 ((wrap64 (a0 + 719468)) - (wrap64 ((wrap64 (Int.tdiv (wrap64 (a0 + 719468)) 146097)) * 146097)))) 36524)))) - (wrap64 (Int.tdiv (wrap64 ((wrap64 (a0 + 719468)) - (wrap64 ((wrap64 (Int.tdiv (wrap64 (a0 + 719468)) 146097)) * 146097)))) 146096)))) 365)) 100)))))))) + 2)) 153)) + 3))) = true := decide_eq_true c2
    clear c2
    simp only [Option.some.injEq, Prod.mk.injEq] at H
    obtain ⟨rfl, rfl, rfl⟩ := H
    go_enter Tryz.func42, Tryz.ntmps42
    go_wp2
    go_ret3
    exact ⟨by first | rfl | (simp; done) | (simp [*]; done), by repeat (first | exact Drawn0.refl _ | apply Drawn0.step)⟩
  · rw [if_neg c2] at H
    have c2b0 : decide (12 < (wrap64 ((wrap64 (Int.tdiv (wrap64 ((wrap64 (5 * (wrap64 ((wrap64 ((wrap64 (a0 + 719468)) - (wrap64 ((wrap64 (Int.tdiv (wrap64 (a0 + 719468)) 146097)) * 146097)))) - (wrap64 ((wrap64 ((wrap64 (365 * (wrap64 (Int.tdiv (wrap64 ((wrap64 ((wrap64 ((wrap64 ((wrap64 (a0 + 719468)) - (wrap64 ((wrap64 (Int.tdiv (wrap64 (a0 + 719468)) 146097)) * 146097)))) - (wrap64 (Int.tdiv (wrap64 ((wrap64 (a0 + 719468)) - (wrap64 ((wrap64 (Int.tdiv (wrap64 (a0 + 719468)) 146097)) * 146097)))) 1460)))) + (wrap64 (Int.tdiv (wrap64 ((wrap64 (a0 + 719468)) - (wrap64 ((wrap64 (Int.tdiv (wrap64 (a0 + 719468)) 146097)) * 146097)))) 36524)))) - (wrap64 (Int.tdiv (wrap64 ((wrap64 (a0 + 719468)) - (wrap64 ((wrap64 (Int.tdiv (wrap64 (a0 + 719468)) 146097)) * 146097)))) 146096)))) 365)))) + (wrap64 (Int.tdiv (wrap64 (Int.tdiv (wrap64 ((wrap64 ((wrap64 ((wrap64 ((wrap64 (a0 + 719468)) - (wrap64 ((wrap64 (Int.tdiv (wrap64 (a0 + 719468)) 146097)) * 146097)))) - (wrap64 (Int.tdiv (wrap64 ((wrap64 (a0 + 719468)) - (wrap64 ((wrap64 (Int.tdiv (wrap64 (a0 + 719468)) 146097)) * 146097)))) 1460)))) + (wrap64 (Int.tdiv (wrap64 ((wrap64 (a0 + 719468)) - (wrap64 ((wrap64 (Int.tdiv (wrap64 (a0 + 719468)) 146097)) * 146097)))) 36524)))) - (wrap64 (Int.tdiv (wrap64 ((wrap64 (a0 + 719468)) - (wrap64 ((wrap64 (Int.tdiv (wrap64 (a0 + 719468)) 146097)) * 146097)))) 146096)))) 365)) 4)))) - (wrap64 (Int.tdiv (wrap64 (Int.tdiv (wrap64 ((wrap64 ((wrap64 ((wrap64 ((wrap64 (a0 + 719468)) - (wrap64 ((wrap64 (Int.tdiv (wrap64 (a0 + 719468)) 146097)) * 146097)))) - (wrap64 (Int.tdiv (wrap64 ((wrap64 (a0 + 719468)) - (wrap64 ((wrap64 (Int.tdiv (wrap64 (a0 + 719468)) 146097)) * 146097)))) 1460)))) + (wrap64 (Int.tdiv (wrap64 ((wrap64 (a0 + 719468)) - (wrap64 ((wrap64 (Int.tdiv (wrap64 (a0 + 719468)) 146097)) * 146097)))) 36524)))) - (wrap64 (Int.tdiv (wrap64 ((wrap64 (a0 + 719468)) - (wrap64 ((wrap64 (Int.tdiv (wrap64 (a0 + 719468)) 146097)) * 146097)))) 146096)))) 365)) 100)))))))) + 2)) 153)) + 3))) = false := decide_eq_false c2
    clear c2
    simp only [Option.some.injEq, Prod.mk.injEq] at H
    obtain ⟨rfl, rfl, rfl⟩ := H
    go_enter Tryz.func42, Tryz.ntmps42
    go_wp2
    go_ret3
    exact ⟨by first | rfl | (simp; done) | (simp [*]; done), by repeat (first | exact Drawn0.refl _ | apply Drawn0.step)⟩

def date_Day.j0 : Nat → Int → Int → Int → Bool → Option (Int × Int)
  | 0, _, _, _, _ => none
  | k + 1, x0, x1, x2, x33 => if x33 = true then (some (0, 1)) else ((date_number.f x0 x1 x2).bind fun t101 => ((date_civil.f t101).bind fun bt102 => (if bt102.2.1 = x1 then (some (t101, 0)) else (some (0, 1)))))
def date_Day.f (k : Nat) (a0 : Int) (a1 : Int) (a2 : Int) : Option (Int × Int) := if a0 < 1 then (date_Day.j0 k a0 a1 a2 true) else (if a0 > 9999 then (date_Day.j0 k a0 a1 a2 true) else (if a1 < 1 then (date_Day.j0 k a0 a1 a2 true) else (if a1 > 12 then (date_Day.j0 k a0 a1 a2 true) else (if a2 < 1 then (date_Day.j0 k a0 a1 a2 true) else (date_Day.j0 k a0 a1 a2 (decide (a2 > 31)))))))
theorem date_Day.mono_l : ∀ k, (∀ y0 y1 y2 y3, LeO (date_Day.j0 k y0 y1 y2 y3) (date_Day.j0 (k + 1) y0 y1 y2 y3))
  | 0 => fun _ _ _ _ r h => by simp [date_Day.j0] at h
  | k + 1 => by
    have ih0 := date_Day.mono_l k
    · intro y0 y1 y2 y3
      unfold date_Day.j0
      repeat' first
      | (with_reducible exact ih0 _ _ _ _)
      | (with_reducible exact LeO.refl _)
      | (with_reducible exact LeO.none _)
      | (with_reducible refine LeO.ite ?_ ?_)
      | (with_reducible refine LeO.bind ?_ (fun _ => ?_))
      | exact ih0 _ _ _ _
      | exact LeO.none _
      | refine LeO.ite ?_ ?_
      | refine LeO.bind ?_ (fun _ => ?_)
theorem date_Day.mono : ∀ a0 a1 a2 k, LeO (date_Day.f k a0 a1 a2) (date_Day.f (k + 1) a0 a1 a2) := by
  intro a0 a1 a2 k
  have ih0 := date_Day.mono_l k
  unfold date_Day.f
  repeat' first
      | (with_reducible exact ih0 _ _ _ _)
      | (with_reducible exact LeO.refl _)
      | (with_reducible exact LeO.none _)
      | (with_reducible refine LeO.ite ?_ ?_)
      | (with_reducible refine LeO.bind ?_ (fun _ => ?_))
      | exact ih0 _ _ _ _
      | exact LeO.none _
      | refine LeO.ite ?_ ?_
      | refine LeO.bind ?_ (fun _ => ?_)
set_option maxHeartbeats 8000000 in
set_option maxRecDepth 100000 in
theorem date_Day.calls (k : Nat) (a0 : Int) (a1 : Int) (a2 : Int) (r1 : Int) (r2 : Int) (w : World) (h : date_Day.f k a0 a1 a2 = some (r1, r2)) :
    Calls Tryz.prog 19 #[.int .i64 a0, .int .i64 a1, .int .i64 a2] w fun e w' => e = .returned (.tuple #[.int .i64 r1, .int .i64 r2]) ∧ Drawn0 w w' := by
  have H : (if a0 < 1 then (date_Day.j0 k a0 a1 a2 true) else (if a0 > 9999 then (date_Day.j0 k a0 a1 a2 true) else (if a1 < 1 then (date_Day.j0 k a0 a1 a2 true) else (if a1 > 12 then (date_Day.j0 k a0 a1 a2 true) else (if a2 < 1 then (date_Day.j0 k a0 a1 a2 true) else (date_Day.j0 k a0 a1 a2 (decide (a2 > 31)))))))) = some (r1, r2) := h
  clear h
  have HC4 := Aside0.mk H
  clear H
  go_enter Tryz.func19, Tryz.ntmps19
  go_upto_region 1 with (fail)
  go_cut [33] (fun v33 wc => ∃ (kq : Nat) (x33_3 : Bool), v33 = .bool x33_3 ∧ Aside0 (date_Day.j0 kq a0 a1 a2 x33_3 = some (r1, r2)) ∧ Aside0 (kq ≤ k) ∧ Drawn0 w wc)
  case first =>
    have H := HC4.out
    clear HC4
    by_cases c5 : a0 < 1
    · rw [if_pos c5] at H
      have c5b0 : decide (a0 < 1) = true := decide_eq_true c5
      clear c5
      (first | rw [c5b0] | (simp only [i64_w, i32_w]; rw [c5b0]) | skip)
      have H' := Aside0.mk H
      clear H
      go_wp2
      go_meet
      case rel => exact ⟨_, (true), (by first | rfl | (simp; done) | (simp [*]; done)), H', ⟨by first | omega | exact Nat.le_refl _⟩, by repeat (first | exact Drawn0.refl _ | apply Drawn0.step)⟩
    · rw [if_neg c5] at H
      have c5b0 : decide (a0 < 1) = false := decide_eq_false c5
      clear c5
      (first | rw [c5b0] | (simp only [i64_w, i32_w]; rw [c5b0]) | skip)
      by_cases c6 : a0 > 9999
      · rw [if_pos c6] at H
        have c6b0 : decide (9999 < a0) = true := decide_eq_true c6
        clear c6
        have H' := Aside0.mk H
        clear H
        go_wp2
        go_meet
        case rel => exact ⟨_, (true), (by first | rfl | (simp; done) | (simp [*]; done)), H', ⟨by first | omega | exact Nat.le_refl _⟩, by repeat (first | exact Drawn0.refl _ | apply Drawn0.step)⟩
      · rw [if_neg c6] at H
        have c6b0 : decide (9999 < a0) = false := decide_eq_false c6
        clear c6
        by_cases c7 : a1 < 1
        · rw [if_pos c7] at H
          have c7b0 : decide (a1 < 1) = true := decide_eq_true c7
          clear c7
          have H' := Aside0.mk H
          clear H
          go_wp2
          go_meet
          case rel => exact ⟨_, (true), (by first | rfl | (simp; done) | (simp [*]; done)), H', ⟨by first | omega | exact Nat.le_refl _⟩, by repeat (first | exact Drawn0.refl _ | apply Drawn0.step)⟩
        · rw [if_neg c7] at H
          have c7b0 : decide (a1 < 1) = false := decide_eq_false c7
          clear c7
          by_cases c8 : a1 > 12
          · rw [if_pos c8] at H
            have c8b0 : decide (12 < a1) = true := decide_eq_true c8
            clear c8
            have H' := Aside0.mk H
            clear H
            go_wp2
            go_meet
            case rel => exact ⟨_, (true), (by first | rfl | (simp; done) | (simp [*]; done)), H', ⟨by first | omega | exact Nat.le_refl _⟩, by repeat (first | exact Drawn0.refl _ | apply Drawn0.step)⟩
          · rw [if_neg c8] at H
            have c8b0 : decide (12 < a1) = false := decide_eq_false c8
            clear c8
            by_cases c9 : a2 < 1
            · rw [if_pos c9] at H
              have c9b0 : decide (a2 < 1) = true := decide_eq_true c9
              clear c9
              have H' := Aside0.mk H
              clear H
              go_wp2
              go_meet
              case rel => exact ⟨_, (true), (by first | rfl | (simp; done) | (simp [*]; done)), H', ⟨by first | omega | exact Nat.le_refl _⟩, by repeat (first | exact Drawn0.refl _ | apply Drawn0.step)⟩
            · rw [if_neg c9] at H
              have c9b0 : decide (a2 < 1) = false := decide_eq_false c9
              clear c9
              have H' := Aside0.mk H
              clear H
              go_wp2
              go_meet
              case rel => exact ⟨_, (decide (a2 > 31)), (by first | rfl | (simp; done) | (simp [*]; done)), H', ⟨by first | omega | exact Nat.le_refl _⟩, by repeat (first | exact Drawn0.refl _ | apply Drawn0.step)⟩
  case rest =>
    clear HC4
    try clear c1
    try clear p2
    try clear c5
    try clear c5b0
    try clear c6
    try clear c6b0
    try clear c7
    try clear c7b0
    try clear c8
    try clear c8b0
    try clear c9
    try clear c9b0
    obtain ⟨kq, x33_3, rfl, HA, HJ3, ⟨mc3, rfl⟩⟩ := hcut
    cases kq with
    | zero => exact absurd HA.out (by simp [date_Day.j0])
    | succ kj3 =>
      have H := HA.out
      clear HA
      simp only [date_Day.j0] at H
      by_cases c10 : x33_3 = true
      · subst c10
        have H1 : (some (0, 1)) = some (r1, r2) := by rw [if_pos rfl] at H; exact H
        clear H
        have H := H1
        clear H1
        simp only [Option.some.injEq, Prod.mk.injEq] at H
        obtain ⟨rfl, rfl⟩ := H
        go_wp2
        go_ret2
        exact ⟨by first | rfl | (simp; done) | (simp [*]; done), by repeat (first | exact Drawn0.refl _ | apply Drawn0.step)⟩
      · replace c10 := Bool.eq_false_iff.mpr c10
        subst c10
        have H1 : ((date_number.f a0 a1 a2).bind fun t101 => ((date_civil.f t101).bind fun bt102 => (if bt102.2.1 = a1 then (some (t101, 0)) else (some (0, 1))))) = some (r1, r2) := by rw [if_neg (show ¬ (false = true) by decide)] at H; exact H
        clear H
        have H := H1
        clear H1
        replace H := Option.bind_eq_some_iff.mp H
        obtain ⟨t101, A110, H⟩ := H
        replace H : ((date_civil.f t101).bind fun bt102 => (if bt102.2.1 = a1 then (some (t101, 0)) else (some (0, 1)))) = some (r1, r2) := H
        have A11 := Aside0.mk A110
        clear A110
        replace H := Option.bind_eq_some_iff.mp H
        obtain ⟨⟨t102, t103, t104⟩, A120, H⟩ := H
        replace H : (if t103 = a1 then (some (t101, 0)) else (some (0, 1))) = some (r1, r2) := H
        have A12 := Aside0.mk A120
        clear A120
        by_cases c13 : t103 = a1
        · rw [if_pos c13] at H
          have c13b0 : (t103 == a1) = true := beq_iff_eq.mpr c13
          have c13b1 : (t103 != a1) = false := bne_eq_false_iff_eq.mpr c13
          clear c13
          simp only [Option.some.injEq, Prod.mk.injEq] at H
          obtain ⟨rfl, rfl⟩ := H
          go_wp2_with (first | ((with_reducible refine gate_callee (f := 41) rfl ?_); refine goesL_ (some 37) rfl rfl Tryz.func41 (by kernel_rfl) rfl #[.int .i64 a0, .int .i64 a1, .int .i64 a2] rfl (by (try simp only [List.map_toArray, List.map_cons, List.map_nil]); first | done | rfl | (simp only [List.length_drop, List.length_take]; rfl)) ?_; (with_reducible refine (date_number.calls a0 a1 a2 t101 _ A11.out).mono ?_); rintro e w' ⟨rfl, ⟨nd, rfl⟩⟩; refine ⟨_, rfl, ?_⟩) | ((with_reducible refine gate_callee (f := 42) rfl ?_); refine goesL_ (some 40) rfl rfl Tryz.func42 (by kernel_rfl) rfl #[.int .i64 t101] rfl (by (try simp only [List.map_toArray, List.map_cons, List.map_nil]); first | done | rfl | (simp only [List.length_drop, List.length_take]; rfl)) ?_; (with_reducible refine (date_civil.calls t101 t102 t103 t104 _ A12.out).mono ?_); rintro e w' ⟨rfl, ⟨nd, rfl⟩⟩; refine ⟨_, rfl, ?_⟩))
          go_ret2
          exact ⟨by first | rfl | (simp; done) | (simp [*]; done), by repeat (first | exact Drawn0.refl _ | apply Drawn0.step)⟩
        · rw [if_neg c13] at H
          have c13b0 : (t103 == a1) = false := beq_eq_false_iff_ne.mpr c13
          have c13b1 : (t103 != a1) = true := bne_iff_ne.mpr c13
          simp only [Option.some.injEq, Prod.mk.injEq] at H
          obtain ⟨rfl, rfl⟩ := H
          go_wp2_with (first | ((with_reducible refine gate_callee (f := 41) rfl ?_); refine goesL_ (some 37) rfl rfl Tryz.func41 (by kernel_rfl) rfl #[.int .i64 a0, .int .i64 a1, .int .i64 a2] rfl (by (try simp only [List.map_toArray, List.map_cons, List.map_nil]); first | done | rfl | (simp only [List.length_drop, List.length_take]; rfl)) ?_; (with_reducible refine (date_number.calls a0 a1 a2 t101 _ A11.out).mono ?_); rintro e w' ⟨rfl, ⟨nd, rfl⟩⟩; refine ⟨_, rfl, ?_⟩) | ((with_reducible refine gate_callee (f := 42) rfl ?_); refine goesL_ (some 40) rfl rfl Tryz.func42 (by kernel_rfl) rfl #[.int .i64 t101] rfl (by (try simp only [List.map_toArray, List.map_cons, List.map_nil]); first | done | rfl | (simp only [List.length_drop, List.length_take]; rfl)) ?_; (with_reducible refine (date_civil.calls t101 t102 t103 t104 _ A12.out).mono ?_); rintro e w' ⟨rfl, ⟨nd, rfl⟩⟩; refine ⟨_, rfl, ?_⟩))
          go_ret2
          exact ⟨by first | rfl | (simp; done) | (simp [*]; done), by repeat (first | exact Drawn0.refl _ | apply Drawn0.step)⟩

def date_day.f (k : Nat) (a0 : Int) (a1 : Int) (a2 : Int) : Option (Int × Int) := (date_Day.f k a0 a1 a2).bind fun bt105 => (if bt105.2 = 0 then (some (bt105.1, 0)) else (some (0, 7)))
theorem date_day.mono : ∀ a0 a1 a2 k, LeO (date_day.f k a0 a1 a2) (date_day.f (k + 1) a0 a1 a2) := by
  intro a0 a1 a2 k
  unfold date_day.f
  repeat' first
      | (with_reducible exact date_Day.mono _ _ _ _)
      | (with_reducible exact LeO.refl _)
      | (with_reducible exact LeO.none _)
      | (with_reducible refine LeO.ite ?_ ?_)
      | (with_reducible refine LeO.bind ?_ (fun _ => ?_))
      | exact date_Day.mono _ _ _ _
      | exact LeO.none _
      | refine LeO.ite ?_ ?_
      | refine LeO.bind ?_ (fun _ => ?_)
set_option maxHeartbeats 8000000 in
set_option maxRecDepth 100000 in
theorem date_day.calls (k : Nat) (a0 : Int) (a1 : Int) (a2 : Int) (r1 : Int) (r2 : Int) (w : World) (h : date_day.f k a0 a1 a2 = some (r1, r2)) :
    Calls Tryz.prog 22 #[.int .i64 a0, .int .i64 a1, .int .i64 a2] w fun e w' => e = .returned (.tuple #[.int .i64 r1, .int .i64 r2]) ∧ Drawn0 w w' := by
  have H : ((date_Day.f k a0 a1 a2).bind fun bt105 => (if bt105.2 = 0 then (some (bt105.1, 0)) else (some (0, 7)))) = some (r1, r2) := h
  clear h
  replace H := Option.bind_eq_some_iff.mp H
  obtain ⟨⟨t105, t106⟩, A40, H⟩ := H
  replace H : (if t106 = 0 then (some (t105, 0)) else (some (0, 7))) = some (r1, r2) := H
  have A4 := Aside0.mk A40
  clear A40
  by_cases c5 : t106 = 0
  · rw [if_pos c5] at H
    have c5b0 : (t106 == 0) = true := beq_iff_eq.mpr c5
    have c5b1 : (t106 != 0) = false := bne_eq_false_iff_eq.mpr c5
    clear c5
    simp only [Option.some.injEq, Prod.mk.injEq] at H
    obtain ⟨rfl, rfl⟩ := H
    go_enter Tryz.func22, Tryz.ntmps22
    go_wp2_with (first | ((with_reducible refine gate_callee (f := 19) rfl ?_); refine goesL_ (some 14) rfl rfl Tryz.func19 (by kernel_rfl) rfl #[.int .i64 a0, .int .i64 a1, .int .i64 a2] rfl (by (try simp only [List.map_toArray, List.map_cons, List.map_nil]); first | done | rfl | (simp only [List.length_drop, List.length_take]; rfl)) ?_; (with_reducible refine (date_Day.calls k a0 a1 a2 t105 t106 _ A4.out).mono ?_); rintro e w' ⟨rfl, ⟨nd, rfl⟩⟩; refine ⟨_, rfl, ?_⟩))
    go_ret2
    exact ⟨by first | rfl | (simp; done) | (simp [*]; done), by repeat (first | exact Drawn0.refl _ | apply Drawn0.step)⟩
  · rw [if_neg c5] at H
    have c5b0 : (t106 == 0) = false := beq_eq_false_iff_ne.mpr c5
    have c5b1 : (t106 != 0) = true := bne_iff_ne.mpr c5
    simp only [Option.some.injEq, Prod.mk.injEq] at H
    obtain ⟨rfl, rfl⟩ := H
    go_enter Tryz.func22, Tryz.ntmps22
    go_wp2_with (first | ((with_reducible refine gate_callee (f := 19) rfl ?_); refine goesL_ (some 14) rfl rfl Tryz.func19 (by kernel_rfl) rfl #[.int .i64 a0, .int .i64 a1, .int .i64 a2] rfl (by (try simp only [List.map_toArray, List.map_cons, List.map_nil]); first | done | rfl | (simp only [List.length_drop, List.length_take]; rfl)) ?_; (with_reducible refine (date_Day.calls k a0 a1 a2 t105 t106 _ A4.out).mono ?_); rintro e w' ⟨rfl, ⟨nd, rfl⟩⟩; refine ⟨_, rfl, ?_⟩))
    go_ret2
    exact ⟨by first | rfl | (simp; done) | (simp [*]; done), by repeat (first | exact Drawn0.refl _ | apply Drawn0.step)⟩

def head_small.f (a0 : Int) : Option (Int) := if a0 ≥ 65 then (if a0 ≤ 90 then (some ((a0 + 32) % 256)) else (some a0)) else (some a0)
set_option maxHeartbeats 8000000 in
set_option maxRecDepth 100000 in
theorem head_small.calls (a0 : Int) (r : Int) (w : World) (h : head_small.f a0 = some r) :
    Calls Tryz.prog 67 #[.int .u8 a0] w fun e w' => e = .returned (.int .u8 r) ∧ Drawn0 w w' := by
  have H : (if a0 ≥ 65 then (if a0 ≤ 90 then (some ((a0 + 32) % 256)) else (some a0)) else (some a0)) = some r := h
  clear h
  by_cases c2 : a0 ≥ 65
  · rw [if_pos c2] at H
    have c2b0 : decide (65 ≤ a0) = true := decide_eq_true c2
    clear c2
    by_cases c3 : a0 ≤ 90
    · rw [if_pos c3] at H
      have c3b0 : decide (a0 ≤ 90) = true := decide_eq_true c3
      clear c3
      obtain rfl := Option.some.inj H
      go_enter Tryz.func67, Tryz.ntmps67
      go_wp2
      go_ret
      exact ⟨by first | rfl | (simp; done) | (simp [*]; done), by repeat (first | exact Drawn0.refl _ | apply Drawn0.step)⟩
    · rw [if_neg c3] at H
      have c3b0 : decide (a0 ≤ 90) = false := decide_eq_false c3
      clear c3
      obtain rfl := Option.some.inj H
      go_enter Tryz.func67, Tryz.ntmps67
      go_wp2
      go_ret
      exact ⟨by first | rfl | (simp; done) | (simp [*]; done), by repeat (first | exact Drawn0.refl _ | apply Drawn0.step)⟩
  · rw [if_neg c2] at H
    have c2b0 : decide (65 ≤ a0) = false := decide_eq_false c2
    clear c2
    obtain rfl := Option.some.inj H
    go_enter Tryz.func67, Tryz.ntmps67
    go_wp2
    go_ret
    exact ⟨by first | rfl | (simp; done) | (simp [*]; done), by repeat (first | exact Drawn0.refl _ | apply Drawn0.step)⟩

def head_Like.l0 : Nat → ByteArray → ByteArray → Int → Int → Option (Bool)
  | 0, _, _, _, _ => none
  | k + 1, x0, x1, x12, x13 => if x13 < x12 then (if 0 ≤ x13 then (if x13 < (x0.size : Int) then ((head_small.f (bt x0 x13)).bind fun t107 => (if x13 < (x1.size : Int) then ((head_small.f (bt x1 x13)).bind fun t108 => (if t107 = t108 then (head_Like.l0 k x0 x1 x12 (wrap64 (x13 + 1))) else (some false))) else (none))) else (none)) else (none)) else (some true)
def head_Like.f (k : Nat) (a0 : ByteArray) (a1 : ByteArray) : Option (Bool) := if (a0.size : Int) = (a1.size : Int) then (head_Like.l0 k a0 a1 (a0.size : Int) 0) else (some false)
theorem head_Like.mono_l : ∀ k, (∀ y0 y1 y2 y3, LeO (head_Like.l0 k y0 y1 y2 y3) (head_Like.l0 (k + 1) y0 y1 y2 y3))
  | 0 => fun _ _ _ _ r h => by simp [head_Like.l0] at h
  | k + 1 => by
    have ih0 := head_Like.mono_l k
    · intro y0 y1 y2 y3
      unfold head_Like.l0
      repeat' first
      | (with_reducible exact ih0 _ _ _ _)
      | (with_reducible exact LeO.refl _)
      | (with_reducible exact LeO.none _)
      | (with_reducible refine LeO.ite ?_ ?_)
      | (with_reducible refine LeO.bind ?_ (fun _ => ?_))
      | exact ih0 _ _ _ _
      | exact LeO.none _
      | refine LeO.ite ?_ ?_
      | refine LeO.bind ?_ (fun _ => ?_)
theorem head_Like.mono : ∀ a0 a1 k, LeO (head_Like.f k a0 a1) (head_Like.f (k + 1) a0 a1) := by
  intro a0 a1 k
  have ih0 := head_Like.mono_l k
  unfold head_Like.f
  repeat' first
      | (with_reducible exact ih0 _ _ _ _)
      | (with_reducible exact LeO.refl _)
      | (with_reducible exact LeO.none _)
      | (with_reducible refine LeO.ite ?_ ?_)
      | (with_reducible refine LeO.bind ?_ (fun _ => ?_))
      | exact ih0 _ _ _ _
      | exact LeO.none _
      | refine LeO.ite ?_ ?_
      | refine LeO.bind ?_ (fun _ => ?_)
set_option maxHeartbeats 8000000 in
set_option maxRecDepth 100000 in
theorem head_Like.calls (k : Nat) (a0 : ByteArray) (a1 : ByteArray) (r : Bool) (w : World) (h : head_Like.f k a0 a1 = some r) :
    Calls Tryz.prog 47 #[.string a0, .string a1] w fun e w' => e = .returned (.bool r) ∧ Drawn0 w w' := by
  have H : (if (a0.size : Int) = (a1.size : Int) then (head_Like.l0 k a0 a1 (a0.size : Int) 0) else (some false)) = some r := h
  clear h
  by_cases c3 : (a0.size : Int) = (a1.size : Int)
  · rw [if_pos c3] at H
    have c3b0 : ((a0.size : Int) == (a1.size : Int)) = true := beq_iff_eq.mpr c3
    have c3b1 : ((a0.size : Int) != (a1.size : Int)) = false := bne_eq_false_iff_eq.mpr c3
    have c3b2 : (a0.size == a1.size) = true := by first | simpa using c3 | (simp at c3 ⊢; omega)
    clear c3
    have H' := Aside0.mk H
    clear H
    go_enter Tryz.func47, Tryz.ntmps47
    go_wp2
    repeat (go_quiet (fail); try go_wp2)
    go_loopg [13] k (fun kq v13 w' => ∃ (x13_1 : Int), v13 = .int .i64 x13_1 ∧ Aside0 (head_Like.l0 kq a0 a1 (a0.size : Int) x13_1 = some r) ∧ Aside0 (kq ≤ k) ∧ Drawn0 w w')
    case atStart => exact ⟨(0), (by first | rfl | (simp; done) | (simp [*]; done)), H', ⟨Nat.le_refl _⟩, by repeat (first | exact Drawn0.refl _ | apply Drawn0.step)⟩
    case round =>
      clear H'
      try clear p2
      try clear c3
      try clear c3b0
      try clear c3b1
      try clear c3b2
      obtain ⟨x13_1, rfl, HA, HK1, ⟨m1, rfl⟩⟩ := hrel
      cases gk with
      | zero => exact absurd HA.out (by simp [head_Like.l0])
      | succ k1 =>
        have H := HA.out
        clear HA
        simp only [head_Like.l0] at H
        by_cases c4 : x13_1 < (a0.size : Int)
        · rw [if_pos c4] at H
          have c4b0 : decide (x13_1 < (a0.size : Int)) = true := decide_eq_true c4
          clear c4
          by_cases c5 : 0 ≤ x13_1
          · rw [if_pos c5] at H
            have c5b0 : decide (0 ≤ x13_1) = true := decide_eq_true c5
            clear c5
            by_cases c6 : x13_1 < (a0.size : Int)
            · rw [if_pos c6] at H
              have c6b0 : decide (x13_1 < (a0.size : Int)) = true := decide_eq_true c6
              clear c6
              replace H := Option.bind_eq_some_iff.mp H
              obtain ⟨t107, A80, H⟩ := H
              replace H : (if x13_1 < (a1.size : Int) then ((head_small.f (bt a1 x13_1)).bind fun t108 => (if t107 = t108 then (head_Like.l0 k1 a0 a1 (a0.size : Int) (wrap64 (x13_1 + 1))) else (some false))) else (none)) = some r := H
              have A8 := Aside0.mk A80
              clear A80
              by_cases c9 : x13_1 < (a1.size : Int)
              · rw [if_pos c9] at H
                have c9b0 : decide (x13_1 < (a1.size : Int)) = true := decide_eq_true c9
                clear c9
                replace H := Option.bind_eq_some_iff.mp H
                obtain ⟨t108, A110, H⟩ := H
                replace H : (if t107 = t108 then (head_Like.l0 k1 a0 a1 (a0.size : Int) (wrap64 (x13_1 + 1))) else (some false)) = some r := H
                have A11 := Aside0.mk A110
                clear A110
                by_cases c12 : t107 = t108
                · rw [if_pos c12] at H
                  have c12b0 : (t107 == t108) = true := beq_iff_eq.mpr c12
                  have c12b1 : (t107 != t108) = false := bne_eq_false_iff_eq.mpr c12
                  clear c12
                  have H' := Aside0.mk H
                  clear H
                  have p7 : 0 ≤ (x13_1 : Int) := of_decide_eq_true (by first | (with_reducible assumption) | assumption)
                  have q7 : x13_1 < (a0.size : Int) := of_decide_eq_true (by first | (with_reducible assumption) | assumption)
                  have hx7 := bt_at a0 x13_1
                  replace p7 := eq_true p7
                  replace q7 := eq_true q7
                  go_wp2_with (first | (go_at_call 67; (with_reducible refine (head_small.calls (bt a0 x13_1) t107 _ A8.out).mono ?_); rintro e w' ⟨rfl, ⟨nd, rfl⟩⟩; (try first | exact ⟨rfl, _, World.drewN_drewN _ _ _⟩ | exact ⟨rfl, _, Eq.trans (World.drewN_drewN _ _ _) (congrArg (World.drewN _) (Nat.add_assoc _ _ _))⟩); have p10 : 0 ≤ (x13_1 : Int) := of_decide_eq_true (by first | (with_reducible assumption) | assumption); have q10 : x13_1 < (a1.size : Int) := of_decide_eq_true (by first | (with_reducible assumption) | assumption); have hx10 := bt_at a1 x13_1; replace p10 := eq_true p10; replace q10 := eq_true q10) | (go_at_call 67; (with_reducible refine (head_small.calls (bt a1 x13_1) t108 _ A11.out).mono ?_); rintro e w' ⟨rfl, ⟨nd, rfl⟩⟩; (try first | exact ⟨rfl, _, World.drewN_drewN _ _ _⟩ | exact ⟨rfl, _, Eq.trans (World.drewN_drewN _ _ _) (congrArg (World.drewN _) (Nat.add_assoc _ _ _))⟩)))
                  repeat (go_quiet (first | (go_at_call 67; (with_reducible refine (head_small.calls (bt a0 x13_1) t107 _ A8.out).mono ?_); rintro e w' ⟨rfl, ⟨nd, rfl⟩⟩; (try first | exact ⟨rfl, _, World.drewN_drewN _ _ _⟩ | exact ⟨rfl, _, Eq.trans (World.drewN_drewN _ _ _) (congrArg (World.drewN _) (Nat.add_assoc _ _ _))⟩); have p10 : 0 ≤ (x13_1 : Int) := of_decide_eq_true (by first | (with_reducible assumption) | assumption); have q10 : x13_1 < (a1.size : Int) := of_decide_eq_true (by first | (with_reducible assumption) | assumption); have hx10 := bt_at a1 x13_1; replace p10 := eq_true p10; replace q10 := eq_true q10) | (go_at_call 67; (with_reducible refine (head_small.calls (bt a1 x13_1) t108 _ A11.out).mono ?_); rintro e w' ⟨rfl, ⟨nd, rfl⟩⟩; (try first | exact ⟨rfl, _, World.drewN_drewN _ _ _⟩ | exact ⟨rfl, _, Eq.trans (World.drewN_drewN _ _ _) (congrArg (World.drewN _) (Nat.add_assoc _ _ _))⟩))); try go_wp2_with (first | (go_at_call 67; (with_reducible refine (head_small.calls (bt a0 x13_1) t107 _ A8.out).mono ?_); rintro e w' ⟨rfl, ⟨nd, rfl⟩⟩; (try first | exact ⟨rfl, _, World.drewN_drewN _ _ _⟩ | exact ⟨rfl, _, Eq.trans (World.drewN_drewN _ _ _) (congrArg (World.drewN _) (Nat.add_assoc _ _ _))⟩); have p10 : 0 ≤ (x13_1 : Int) := of_decide_eq_true (by first | (with_reducible assumption) | assumption); have q10 : x13_1 < (a1.size : Int) := of_decide_eq_true (by first | (with_reducible assumption) | assumption); have hx10 := bt_at a1 x13_1; replace p10 := eq_true p10; replace q10 := eq_true q10) | (go_at_call 67; (with_reducible refine (head_small.calls (bt a1 x13_1) t108 _ A11.out).mono ?_); rintro e w' ⟨rfl, ⟨nd, rfl⟩⟩; (try first | exact ⟨rfl, _, World.drewN_drewN _ _ _⟩ | exact ⟨rfl, _, Eq.trans (World.drewN_drewN _ _ _) (congrArg (World.drewN _) (Nat.add_assoc _ _ _))⟩))))
                  go_roundg k1
                  case measure => have := HK1.out; omega
                  case rel => exact ⟨(wrap64 (x13_1 + 1)), (by first | rfl | (simp; done) | (simp [*]; done)), H', ⟨by have := HK1.out; omega⟩, by repeat (first | exact Drawn0.refl _ | apply Drawn0.step)⟩
                · rw [if_neg c12] at H
                  have c12b0 : (t107 == t108) = false := beq_eq_false_iff_ne.mpr c12
                  have c12b1 : (t107 != t108) = true := bne_iff_ne.mpr c12
                  obtain rfl := Option.some.inj H
                  have p7 : 0 ≤ (x13_1 : Int) := of_decide_eq_true (by first | (with_reducible assumption) | assumption)
                  have q7 : x13_1 < (a0.size : Int) := of_decide_eq_true (by first | (with_reducible assumption) | assumption)
                  have hx7 := bt_at a0 x13_1
                  replace p7 := eq_true p7
                  replace q7 := eq_true q7
                  go_wp2_with (first | (go_at_call 67; (with_reducible refine (head_small.calls (bt a0 x13_1) t107 _ A8.out).mono ?_); rintro e w' ⟨rfl, ⟨nd, rfl⟩⟩; (try first | exact ⟨rfl, _, World.drewN_drewN _ _ _⟩ | exact ⟨rfl, _, Eq.trans (World.drewN_drewN _ _ _) (congrArg (World.drewN _) (Nat.add_assoc _ _ _))⟩); have p10 : 0 ≤ (x13_1 : Int) := of_decide_eq_true (by first | (with_reducible assumption) | assumption); have q10 : x13_1 < (a1.size : Int) := of_decide_eq_true (by first | (with_reducible assumption) | assumption); have hx10 := bt_at a1 x13_1; replace p10 := eq_true p10; replace q10 := eq_true q10) | (go_at_call 67; (with_reducible refine (head_small.calls (bt a1 x13_1) t108 _ A11.out).mono ?_); rintro e w' ⟨rfl, ⟨nd, rfl⟩⟩; (try first | exact ⟨rfl, _, World.drewN_drewN _ _ _⟩ | exact ⟨rfl, _, Eq.trans (World.drewN_drewN _ _ _) (congrArg (World.drewN _) (Nat.add_assoc _ _ _))⟩)))
                  repeat (go_quiet (first | (go_at_call 67; (with_reducible refine (head_small.calls (bt a0 x13_1) t107 _ A8.out).mono ?_); rintro e w' ⟨rfl, ⟨nd, rfl⟩⟩; (try first | exact ⟨rfl, _, World.drewN_drewN _ _ _⟩ | exact ⟨rfl, _, Eq.trans (World.drewN_drewN _ _ _) (congrArg (World.drewN _) (Nat.add_assoc _ _ _))⟩); have p10 : 0 ≤ (x13_1 : Int) := of_decide_eq_true (by first | (with_reducible assumption) | assumption); have q10 : x13_1 < (a1.size : Int) := of_decide_eq_true (by first | (with_reducible assumption) | assumption); have hx10 := bt_at a1 x13_1; replace p10 := eq_true p10; replace q10 := eq_true q10) | (go_at_call 67; (with_reducible refine (head_small.calls (bt a1 x13_1) t108 _ A11.out).mono ?_); rintro e w' ⟨rfl, ⟨nd, rfl⟩⟩; (try first | exact ⟨rfl, _, World.drewN_drewN _ _ _⟩ | exact ⟨rfl, _, Eq.trans (World.drewN_drewN _ _ _) (congrArg (World.drewN _) (Nat.add_assoc _ _ _))⟩))); try go_wp2_with (first | (go_at_call 67; (with_reducible refine (head_small.calls (bt a0 x13_1) t107 _ A8.out).mono ?_); rintro e w' ⟨rfl, ⟨nd, rfl⟩⟩; (try first | exact ⟨rfl, _, World.drewN_drewN _ _ _⟩ | exact ⟨rfl, _, Eq.trans (World.drewN_drewN _ _ _) (congrArg (World.drewN _) (Nat.add_assoc _ _ _))⟩); have p10 : 0 ≤ (x13_1 : Int) := of_decide_eq_true (by first | (with_reducible assumption) | assumption); have q10 : x13_1 < (a1.size : Int) := of_decide_eq_true (by first | (with_reducible assumption) | assumption); have hx10 := bt_at a1 x13_1; replace p10 := eq_true p10; replace q10 := eq_true q10) | (go_at_call 67; (with_reducible refine (head_small.calls (bt a1 x13_1) t108 _ A11.out).mono ?_); rintro e w' ⟨rfl, ⟨nd, rfl⟩⟩; (try first | exact ⟨rfl, _, World.drewN_drewN _ _ _⟩ | exact ⟨rfl, _, Eq.trans (World.drewN_drewN _ _ _) (congrArg (World.drewN _) (Nat.add_assoc _ _ _))⟩))))
                  go_ret
                  exact ⟨by first | rfl | (simp; done) | (simp [*]; done), by repeat (first | exact Drawn0.refl _ | apply Drawn0.step)⟩
              · rw [if_neg c9] at H
                exact absurd H (by simp)
            · rw [if_neg c6] at H
              exact absurd H (by simp)
          · rw [if_neg c5] at H
            exact absurd H (by simp)
        · rw [if_neg c4] at H
          have c4b0 : decide (x13_1 < (a0.size : Int)) = false := decide_eq_false c4
          clear c4
          obtain rfl := Option.some.inj H
          go_wp2
          repeat (go_quiet (fail); try go_wp2)
          go_ret
          exact ⟨by first | rfl | (simp; done) | (simp [*]; done), by repeat (first | exact Drawn0.refl _ | apply Drawn0.step)⟩
  · rw [if_neg c3] at H
    have c3b0 : ((a0.size : Int) == (a1.size : Int)) = false := beq_eq_false_iff_ne.mpr c3
    have c3b1 : ((a0.size : Int) != (a1.size : Int)) = true := bne_iff_ne.mpr c3
    have c3b2 : (a0.size == a1.size) = false := by first | simpa using c3 | (simp at c3 ⊢; omega)
    obtain rfl := Option.some.inj H
    go_enter Tryz.func47, Tryz.ntmps47
    go_wp2
    repeat (go_quiet (fail); try go_wp2)
    go_ret
    exact ⟨by first | rfl | (simp; done) | (simp [*]; done), by repeat (first | exact Drawn0.refl _ | apply Drawn0.step)⟩

def date_month.l0 : Nat → ByteArray → Int → Option (Int)
  | 0, _, _ => none
  | k + 1, x0, x3 => if x3 < 36 then (if 0 ≤ x3 then (if x3 ≤ (wrap64 (x3 + 3)) then (if (wrap64 (x3 + 3)) ≤ 36 then ((head_Like.f k x0 ((⟨#[74, 97, 110, 70, 101, 98, 77, 97, 114, 65, 112, 114, 77, 97, 121, 74, 117, 110, 74, 117, 108, 65, 117, 103, 83, 101, 112, 79, 99, 116, 78, 111, 118, 68, 101, 99]⟩ : ByteArray).extract (x3 : Int).toNat ((wrap64 (x3 + 3)) : Int).toNat)).bind fun t109 => (if t109 = true then (some (wrap64 ((wrap64 (Int.tdiv x3 3)) + 1))) else (date_month.l0 k x0 (wrap64 (x3 + 3))))) else (none)) else (none)) else (none)) else (some 0)
def date_month.f (k : Nat) (a0 : ByteArray) : Option (Int) := date_month.l0 k a0 0
theorem date_month.mono_l : ∀ k, (∀ y0 y1, LeO (date_month.l0 k y0 y1) (date_month.l0 (k + 1) y0 y1))
  | 0 => fun _ _ r h => by simp [date_month.l0] at h
  | k + 1 => by
    have ih0 := date_month.mono_l k
    · intro y0 y1
      unfold date_month.l0
      repeat' first
      | (with_reducible exact ih0 _ _)
      | (with_reducible exact head_Like.mono _ _ _)
      | (with_reducible exact LeO.refl _)
      | (with_reducible exact LeO.none _)
      | (with_reducible refine LeO.ite ?_ ?_)
      | (with_reducible refine LeO.bind ?_ (fun _ => ?_))
      | exact ih0 _ _
      | exact head_Like.mono _ _ _
      | exact LeO.none _
      | refine LeO.ite ?_ ?_
      | refine LeO.bind ?_ (fun _ => ?_)
theorem date_month.mono : ∀ a0 k, LeO (date_month.f k a0) (date_month.f (k + 1) a0) := by
  intro a0 k
  have ih0 := date_month.mono_l k
  unfold date_month.f
  repeat' first
      | (with_reducible exact ih0 _ _)
      | (with_reducible exact head_Like.mono _ _ _)
      | (with_reducible exact LeO.refl _)
      | (with_reducible exact LeO.none _)
      | (with_reducible refine LeO.ite ?_ ?_)
      | (with_reducible refine LeO.bind ?_ (fun _ => ?_))
      | exact ih0 _ _
      | exact head_Like.mono _ _ _
      | exact LeO.none _
      | refine LeO.ite ?_ ?_
      | refine LeO.bind ?_ (fun _ => ?_)
set_option maxHeartbeats 8000000 in
set_option maxRecDepth 100000 in
theorem date_month.calls (k : Nat) (a0 : ByteArray) (r : Int) (w : World) (h : date_month.f k a0 = some r) :
    Calls Tryz.prog 24 #[.string a0] w fun e w' => e = .returned (.int .i64 r) ∧ Drawn0 w w' := by
  have H : (date_month.l0 k a0 0) = some r := h
  clear h
  have H' := Aside0.mk H
  clear H
  go_enter Tryz.func24, Tryz.ntmps24
  go_wp2
  go_loopg [3] k (fun kq v3 w' => ∃ (x3_1 : Int), v3 = .int .i64 x3_1 ∧ Aside0 (date_month.l0 kq a0 x3_1 = some r) ∧ Aside0 (kq ≤ k) ∧ Drawn0 w w')
  case atStart => exact ⟨(0), (by first | rfl | (simp; done) | (simp [*]; done)), H', ⟨Nat.le_refl _⟩, by repeat (first | exact Drawn0.refl _ | apply Drawn0.step)⟩
  case round =>
    clear H'
    obtain ⟨x3_1, rfl, HA, HK1, ⟨m1, rfl⟩⟩ := hrel
    cases gk with
    | zero => exact absurd HA.out (by simp [date_month.l0])
    | succ k1 =>
      have H := HA.out
      clear HA
      simp only [date_month.l0] at H
      by_cases c2 : x3_1 < 36
      · rw [if_pos c2] at H
        have c2b0 : decide (x3_1 < 36) = true := decide_eq_true c2
        clear c2
        by_cases c3 : 0 ≤ x3_1
        · rw [if_pos c3] at H
          have c3b0 := eq_true c3
          have c3b1 : decide (0 ≤ x3_1) = true := decide_eq_true c3
          clear c3
          by_cases c4 : x3_1 ≤ (wrap64 (x3_1 + 3))
          · rw [if_pos c4] at H
            have c4b0 := eq_true c4
            have c4b1 : decide (x3_1 ≤ (wrap64 (x3_1 + 3))) = true := decide_eq_true c4
            by_cases c5 : (wrap64 (x3_1 + 3)) ≤ 36
            · rw [if_pos c5] at H
              have c5b0 := eq_true c5
              have c5b1 : decide ((wrap64 (x3_1 + 3)) ≤ 36) = true := decide_eq_true c5
              replace H := Option.bind_eq_some_iff.mp H
              obtain ⟨t109, A60, H⟩ := H
              replace H : (if t109 = true then (some (wrap64 ((wrap64 (Int.tdiv x3_1 3)) + 1))) else (date_month.l0 k1 a0 (wrap64 (x3_1 + 3)))) = some r := H
              have A6 := Aside0.mk A60
              clear A60
              by_cases c7 : t109 = true
              · subst c7
                have H1 : (some (wrap64 ((wrap64 (Int.tdiv x3_1 3)) + 1))) = some r := by rw [if_pos rfl] at H; exact H
                clear H
                have H := H1
                clear H1
                obtain rfl := Option.some.inj H
                go_wp2_with (first | ((with_reducible refine gate_callee (f := 47) rfl ?_); refine goesL_ (some 13) rfl rfl Tryz.func47 (by kernel_rfl) rfl #[.string a0, .string ((⟨#[74, 97, 110, 70, 101, 98, 77, 97, 114, 65, 112, 114, 77, 97, 121, 74, 117, 110, 74, 117, 108, 65, 117, 103, 83, 101, 112, 79, 99, 116, 78, 111, 118, 68, 101, 99]⟩ : ByteArray).extract (x3_1 : Int).toNat ((wrap64 (x3_1 + 3)) : Int).toNat)] rfl (by (try simp only [List.map_toArray, List.map_cons, List.map_nil]); first | done | rfl | (simp only [List.length_drop, List.length_take]; rfl)) ?_; (with_reducible refine (head_Like.calls k1 a0 ((⟨#[74, 97, 110, 70, 101, 98, 77, 97, 114, 65, 112, 114, 77, 97, 121, 74, 117, 110, 74, 117, 108, 65, 117, 103, 83, 101, 112, 79, 99, 116, 78, 111, 118, 68, 101, 99]⟩ : ByteArray).extract (x3_1 : Int).toNat ((wrap64 (x3_1 + 3)) : Int).toNat) true _ A6.out).mono ?_); rintro e w' ⟨rfl, ⟨nd, rfl⟩⟩; refine ⟨_, rfl, ?_⟩))
                go_ret
                exact ⟨by first | rfl | (simp; done) | (simp [*]; done), by repeat (first | exact Drawn0.refl _ | apply Drawn0.step)⟩
              · replace c7 := Bool.eq_false_iff.mpr c7
                subst c7
                have H1 : (date_month.l0 k1 a0 (wrap64 (x3_1 + 3))) = some r := by rw [if_neg (show ¬ (false = true) by decide)] at H; exact H
                clear H
                have H := H1
                clear H1
                have H' := Aside0.mk H
                clear H
                go_wp2_with (first | ((with_reducible refine gate_callee (f := 47) rfl ?_); refine goesL_ (some 13) rfl rfl Tryz.func47 (by kernel_rfl) rfl #[.string a0, .string ((⟨#[74, 97, 110, 70, 101, 98, 77, 97, 114, 65, 112, 114, 77, 97, 121, 74, 117, 110, 74, 117, 108, 65, 117, 103, 83, 101, 112, 79, 99, 116, 78, 111, 118, 68, 101, 99]⟩ : ByteArray).extract (x3_1 : Int).toNat ((wrap64 (x3_1 + 3)) : Int).toNat)] rfl (by (try simp only [List.map_toArray, List.map_cons, List.map_nil]); first | done | rfl | (simp only [List.length_drop, List.length_take]; rfl)) ?_; (with_reducible refine (head_Like.calls k1 a0 ((⟨#[74, 97, 110, 70, 101, 98, 77, 97, 114, 65, 112, 114, 77, 97, 121, 74, 117, 110, 74, 117, 108, 65, 117, 103, 83, 101, 112, 79, 99, 116, 78, 111, 118, 68, 101, 99]⟩ : ByteArray).extract (x3_1 : Int).toNat ((wrap64 (x3_1 + 3)) : Int).toNat) false _ A6.out).mono ?_); rintro e w' ⟨rfl, ⟨nd, rfl⟩⟩; refine ⟨_, rfl, ?_⟩))
                go_roundg k1
                case measure => have := HK1.out; omega
                case rel => exact ⟨(wrap64 (x3_1 + 3)), (by first | rfl | (simp; done) | (simp [*]; done)), H', ⟨by have := HK1.out; omega⟩, by repeat (first | exact Drawn0.refl _ | apply Drawn0.step)⟩
            · rw [if_neg c5] at H
              exact absurd H (by simp)
          · rw [if_neg c4] at H
            exact absurd H (by simp)
        · rw [if_neg c3] at H
          exact absurd H (by simp)
      · rw [if_neg c2] at H
        have c2b0 : decide (x3_1 < 36) = false := decide_eq_false c2
        clear c2
        obtain rfl := Option.some.inj H
        go_wp2
        go_ret
        exact ⟨by first | rfl | (simp; done) | (simp [*]; done), by repeat (first | exact Drawn0.refl _ | apply Drawn0.step)⟩

end Go.Proofs.YtdpbaagpekhipaaGreatDoor.PAll

