-- PRINTED BY print.sh 35421559b90ae4d0a3588c463048766b98c2df88dd9212a6774a882060cdf62d: not written by this session
import Derived.Test.YtdpbaagpekhipaaPDateDaysx0
namespace Go.Proofs.Ytdpbaagpekhipaa.PDateDays
open Go.RowKit Go.Proofs.YtdpbaagpekhipaaW.PrintWords Go.Proofs.YtdpbaagpekhipaaW.PrintLast Go.Proofs.YtdpbaagpekhipaaW.PrintMore
attribute [local go_sem] max2_int min2_int max_two min_two max_three min_three max_four min_four   -- for this text's walks alone
set_option linter.unusedVariables false
set_option linter.unusedSimpArgs false

/-! ### date_number: function 12 -/
def date_number.f (a0 : Int) (a1 : Int) (a2 : Int) : Option (Int) := if a1 ≤ 2 then (some (wrap64 ((wrap64 ((wrap64 ((wrap64 ((wrap64 ((wrap64 ((wrap64 (Int.tdiv (wrap64 (a0 - 1)) 400)) * 146097)) + (wrap64 ((wrap64 ((wrap64 (a0 - 1)) - (wrap64 ((wrap64 (Int.tdiv (wrap64 (a0 - 1)) 400)) * 400)))) * 365)))) + (wrap64 (Int.tdiv (wrap64 ((wrap64 (a0 - 1)) - (wrap64 ((wrap64 (Int.tdiv (wrap64 (a0 - 1)) 400)) * 400)))) 4)))) - (wrap64 (Int.tdiv (wrap64 ((wrap64 (a0 - 1)) - (wrap64 ((wrap64 (Int.tdiv (wrap64 (a0 - 1)) 400)) * 400)))) 100)))) + (wrap64 ((wrap64 ((wrap64 (Int.tdiv (wrap64 ((wrap64 (153 * (Int.tmod (wrap64 (a1 + 9)) 12))) + 2)) 5)) + a2)) - 1)))) - 719468))) else (some (wrap64 ((wrap64 ((wrap64 ((wrap64 ((wrap64 ((wrap64 ((wrap64 (Int.tdiv a0 400)) * 146097)) + (wrap64 ((wrap64 (a0 - (wrap64 ((wrap64 (Int.tdiv a0 400)) * 400)))) * 365)))) + (wrap64 (Int.tdiv (wrap64 (a0 - (wrap64 ((wrap64 (Int.tdiv a0 400)) * 400)))) 4)))) - (wrap64 (Int.tdiv (wrap64 (a0 - (wrap64 ((wrap64 (Int.tdiv a0 400)) * 400)))) 100)))) + (wrap64 ((wrap64 ((wrap64 (Int.tdiv (wrap64 ((wrap64 (153 * (Int.tmod (wrap64 (a1 + 9)) 12))) + 2)) 5)) + a2)) - 1)))) - 719468)))
set_option maxHeartbeats 8000000 in
set_option maxRecDepth 100000 in
theorem date_number.calls (a0 : Int) (a1 : Int) (a2 : Int) (r : Int) (w : World) (h : date_number.f a0 a1 a2 = some r) :
    Calls Try.prog 12 #[.int .i64 a0, .int .i64 a1, .int .i64 a2] w fun e w' => e = .returned (.int .i64 r) ∧ Drawn0 w w' := by
  have H : (if a1 ≤ 2 then (some (wrap64 ((wrap64 ((wrap64 ((wrap64 ((wrap64 ((wrap64 ((wrap64 (Int.tdiv (wrap64 (a0 - 1)) 400)) * 146097)) + (wrap64 ((wrap64 ((wrap64 (a0 - 1)) - (wrap64 ((wrap64 (Int.tdiv (wrap64 (a0 - 1)) 400)) * 400)))) * 365)))) + (wrap64 (Int.tdiv (wrap64 ((wrap64 (a0 - 1)) - (wrap64 ((wrap64 (Int.tdiv (wrap64 (a0 - 1)) 400)) * 400)))) 4)))) - (wrap64 (Int.tdiv (wrap64 ((wrap64 (a0 - 1)) - (wrap64 ((wrap64 (Int.tdiv (wrap64 (a0 - 1)) 400)) * 400)))) 100)))) + (wrap64 ((wrap64 ((wrap64 (Int.tdiv (wrap64 ((wrap64 (153 * (Int.tmod (wrap64 (a1 + 9)) 12))) + 2)) 5)) + a2)) - 1)))) - 719468))) else (some (wrap64 ((wrap64 ((wrap64 ((wrap64 ((wrap64 ((wrap64 ((wrap64 (Int.tdiv a0 400)) * 146097)) + (wrap64 ((wrap64 (a0 - (wrap64 ((wrap64 (Int.tdiv a0 400)) * 400)))) * 365)))) + (wrap64 (Int.tdiv (wrap64 (a0 - (wrap64 ((wrap64 (Int.tdiv a0 400)) * 400)))) 4)))) - (wrap64 (Int.tdiv (wrap64 (a0 - (wrap64 ((wrap64 (Int.tdiv a0 400)) * 400)))) 100)))) + (wrap64 ((wrap64 ((wrap64 (Int.tdiv (wrap64 ((wrap64 (153 * (Int.tmod (wrap64 (a1 + 9)) 12))) + 2)) 5)) + a2)) - 1)))) - 719468)))) = some r := h
  clear h
  by_cases c4 : a1 ≤ 2
  · rw [if_pos c4] at H
    have c4b0 : decide (a1 ≤ 2) = true := decide_eq_true c4
    clear c4
    obtain rfl := Option.some.inj H
    go_enter Try.func12, Try.ntmps12
    go_wp2
    go_ret
    exact ⟨by first | rfl | (simp; done) | (simp [*]; done), by repeat (first | exact Drawn0.refl _ | apply Drawn0.step)⟩
  · rw [if_neg c4] at H
    have c4b0 : decide (a1 ≤ 2) = false := decide_eq_false c4
    clear c4
    obtain rfl := Option.some.inj H
    go_enter Try.func12, Try.ntmps12
    go_wp2
    go_ret
    exact ⟨by first | rfl | (simp; done) | (simp [*]; done), by repeat (first | exact Drawn0.refl _ | apply Drawn0.step)⟩

/-! ### date_civil: function 13 -/
def date_civil.f (a0 : Int) : Option (Int × Int × Int) := if (wrap64 ((wrap64 (Int.tdiv (wrap64 ((wrap64 (5 * (wrap64 ((wrap64 ((wrap64 (a0 + 719468)) - (wrap64 ((wrap64 (Int.tdiv (wrap64 (a0 + 719468)) 146097)) * 146097)))) - (wrap64 ((wrap64 ((wrap64 (365 * (wrap64 (Int.tdiv (wrap64 ((wrap64 ((wrap64 ((wrap64 ((wrap64 (a0 + 719468)) - (wrap64 ((wrap64 (Int.tdiv (wrap64 (a0 + 719468)) 146097)) * 146097)))) - (wrap64 (Int.tdiv (wrap64 ((wrap64 (a0 + 719468)) - (wrap64 ((wrap64 (Int.tdiv (wrap64 (a0 + 719468)) 146097)) * 146097)))) 1460)))) + (wrap64 (Int.tdiv (wrap64 ((wrap64 (a0 + 719468)) - (wrap64 ((wrap64 (Int.tdiv (wrap64 (a0 + 719468)) 146097)) * 146097)))) 36524)))) - (wrap64 (Int.tdiv (wrap64 ((wrap64 (a0 + 719468)) - (wrap64 ((wrap64 (Int.tdiv (wrap64 (a0 + 719468)) 146097)) * 146097)))) 146096)))) 365)))) + (wrap64 (Int.tdiv (wrap64 (Int.tdiv (wrap64 ((wrap64 ((wrap64 ((wrap64 ((wrap64 (a0 + 719468)) - (wrap64 ((wrap64 (Int.tdiv (wrap64 (a0 + 719468)) 146097)) * 146097)))) - (wrap64 (Int.tdiv (wrap64 ((wrap64 (a0 + 719468)) - (wrap64 ((wrap64 (Int.tdiv (wrap64 (a0 + 719468)) 146097)) * 146097)))) 1460)))) + (wrap64 (Int.tdiv (wrap64 ((wrap64 (a0 + 719468)) - (wrap64 ((wrap64 (Int.tdiv (wrap64 (a0 + 719468)) 146097)) * 146097)))) 36524)))) - (wrap64 (Int.tdiv (wrap64 ((wrap64 (a0 + 719468)) - (wrap64 ((wrap64 (Int.tdiv (wrap64 (a0 + 719468)) 146097)) * 146097)))) 146096)))) 365)) 4)))) - (wrap64 (Int.tdiv (wrap64 (Int.tdiv (wrap64 ((wrap64 ((wrap64 ((wrap64 ((wrap64 (a0 + 719468)) - (wrap64 ((wrap64 (Int.tdiv (wrap64 (a0 + 719468)) 146097)) * 146097)))) - (wrap64 (Int.tdiv (wrap64 ((wrap64 (a0 + 719468)) - (wrap64 ((wrap64 (Int.tdiv (wrap64 (a0 + 719468)) 146097)) * 146097)))) 1460)))) + (wrap64 (Int.tdiv (wrap64 ((wrap64 (a0 + 719468)) - (wrap64 ((wrap64 (Int.tdiv (wrap64 (a0 + 719468)) 146097)) * 146097)))) 36524)))) - (wrap64 (Int.tdiv (wrap64 ((wrap64 (a0 + 719468)) - (wrap64 ((wrap64 (Int.tdiv (wrap64 (a0 + 719468)) 146097)) * 146097)))) 146096)))) 365)) 100)))))))) + 2)) 153)) + 3)) > 12 then (some (wrap64 ((wrap64 ((wrap64 (Int.tdiv (wrap64 ((wrap64 ((wrap64 ((wrap64 ((wrap64 (a0 + 719468)) - (wrap64 ((wrap64 (Int.tdiv (wrap64 (a0 + 719468)) 146097)) * 146097)))) - (wrap64 (Int.tdiv (wrap64 ((wrap64 (a0 + 719468)) - (wrap64 ((wrap64 (Int.tdiv (wrap64 (a0 + 719468)) 146097)) * 146097)))) 1460)))) + (wrap64 (Int.tdiv (wrap64 ((wrap64 (a0 + 719468)) - (wrap64 ((wrap64 (Int.tdiv (wrap64 (a0 + 719468)) 146097)) * 146097)))) 36524)))) - (wrap64 (Int.tdiv (wrap64 ((wrap64 (a0 + 719468)) - (wrap64 ((wrap64 (Int.tdiv (wrap64 (a0 + 719468)) 146097)) * 146097)))) 146096)))) 365)) + (wrap64 ((wrap64 (Int.tdiv (wrap64 (a0 + 719468)) 146097)) * 400)))) + 1), wrap64 ((wrap64 ((wrap64 (Int.tdiv (wrap64 ((wrap64 (5 * (wrap64 ((wrap64 ((wrap64 (a0 + 719468)) - (wrap64 ((wrap64 (Int.tdiv (wrap64 (a0 + 719468)) 146097)) * 146097)))) - (wrap64 ((wrap64 ((wrap64 (365 * (wrap64 (Int.tdiv (wrap64 ((wrap64 ((wrap64 ((wrap64 ((wrap64 (a0 + 719468)) - (wrap64 ((wrap64 (Int.tdiv (wrap64 (a0 + 719468)) 146097)) * 146097)))) - (wrap64 (Int.tdiv (wrap64 ((wrap64 (a0 + 719468)) - (wrap64 ((wrap64 (Int.tdiv (wrap64 (a0 + 719468)) 146097)) * 146097)))) 1460)))) + (wrap64 (Int.tdiv (wrap64 ((wrap64 (a0 + 719468)) - (wrap64 ((wrap64 (Int.tdiv (wrap64 (a0 + 719468)) 146097)) * 146097)))) 36524)))) - (wrap64 (Int.tdiv (wrap64 ((wrap64 (a0 + 719468)) - (wrap64 ((wrap64 (Int.tdiv (wrap64 (a0 + 719468)) 146097)) * 146097)))) 146096)))) 365)))) + (wrap64 (Int.tdiv (wrap64 (Int.tdiv (wrap64 ((wrap64 ((wrap64 ((wrap64 ((wrap64 (a0 + 719468)) - (wrap64 ((wrap64 (Int.tdiv (wrap64 (a0 + 719468)) 146097)) * 146097)))) - (wrap64 (Int.tdiv (wrap64 ((wrap64 (a0 + 719468)) - (wrap64 ((wrap64 (Int.tdiv (wrap64 (a0 + 719468)) 146097)) * 146097)))) 1460)))) + (wrap64 (Int.tdiv (wrap64 ((wrap64 (a0 + 719468)) - (wrap64 ((wrap64 (Int.tdiv (wrap64 (a0 + 719468)) 146097)) * 146097)))) 36524)))) - (wrap64 (Int.tdiv (wrap64 ((wrap64 (a0 + 719468)) - (wrap64 ((wrap64 (Int.tdiv (wrap64 (a0 + 719468)) 146097)) * 146097)))) 146096)))) 365)) 4)))) - (wrap64 (Int.tdiv (wrap64 (Int.tdiv (wrap64 ((wrap64 ((wrap64 ((wrap64 ((wrap64 (a0 + 719468)) - (wrap64 ((wrap64 (Int.tdiv (wrap64 (a0 + 719468)) 146097)) * 146097)))) - (wrap64 (Int.tdiv (wrap64 ((wrap64 (a0 + 719468)) - (wrap64 ((wrap64 (Int.tdiv (wrap64 (a0 + 719468)) 146097)) * 146097)))) 1460)))) + (wrap64 (Int.tdiv (wrap64 ((wrap64 (a0 + 719468)) - (wrap64 ((wrap64 (Int.tdiv (wrap64 (a0 + 719468)) 146097)) * 146097)))) 36524)))) - (wrap64 (Int.tdiv (wrap64 ((wrap64 (a0 + 719468)) - (wrap64 ((wrap64 (Int.tdiv (wrap64 (a0 + 719468)) 146097)) * 146097)))) 146096)))) 365)) 100)))))))) + 2)) 153)) + 3)) - 12), wrap64 ((wrap64 ((wrap64 ((wrap64 ((wrap64 (a0 + 719468)) - (wrap64 ((wrap64 (Int.tdiv (wrap64 (a0 + 719468)) 146097)) * 146097)))) - (wrap64 ((wrap64 ((wrap64 (365 * (wrap64 (Int.tdiv (wrap64 ((wrap64 ((wrap64 ((wrap64 ((wrap64 (a0 + 719468)) - (wrap64 ((wrap64 (Int.tdiv (wrap64 (a0 + 719468)) 146097)) * 146097)))) - (wrap64 (Int.tdiv (wrap64 ((wrap64 (a0 + 719468)) - (wrap64 ((wrap64 (Int.tdiv (wrap64 (a0 + 719468)) 146097)) * 146097)))) 1460)))) + (wrap64 (Int.tdiv (wrap64 ((wrap64 (a0 + 719468)) - (wrap64 ((wrap64 (Int.tdiv (wrap64 (a0 + 719468)) 146097)) * 146097)))) 36524)))) - (wrap64 (Int.tdiv (wrap64 ((wrap64 (a0 + 719468)) - (wrap64 ((wrap64 (Int.tdiv (wrap64 (a0 + 719468)) 146097)) * 146097)))) 146096)))) 365)))) + (wrap64 (Int.tdiv (wrap64 (Int.tdiv (wrap64 ((wrap64 ((wrap64 ((wrap64 ((wrap64 (a0 + 719468)) - (wrap64 ((wrap64 (Int.tdiv (wrap64 (a0 + 719468)) 146097)) * 146097)))) - (wrap64 (Int.tdiv (wrap64 ((wrap64 (a0 + 719468)) - (wrap64 ((wrap64 (Int.tdiv (wrap64 (a0 + 719468)) 146097)) * 146097)))) 1460)))) + (wrap64 (Int.tdiv (wrap64 ((wrap64 (a0 + 719468)) - (wrap64 ((wrap64 (Int.tdiv (wrap64 (a0 + 719468)) 146097)) * 146097)))) 36524)))) - (wrap64 (Int.tdiv (wrap64 ((wrap64 (a0 + 719468)) - (wrap64 ((wrap64 (Int.tdiv (wrap64 (a0 + 719468)) 146097)) * 146097)))) 146096)))) 365)) 4)))) - (wrap64 (Int.tdiv (wrap64 (Int.tdiv (wrap64 ((wrap64 ((wrap64 ((wrap64 ((wrap64 (a0 + 719468)) - (wrap64 ((wrap64 (Int.tdiv (wrap64 (a0 + 719468)) 146097)) * 146097)))) - (wrap64 (Int.tdiv (wrap64 ((wrap64 (a0 + 719468)) - (wrap64 ((wrap64 (Int.tdiv (wrap64 (a0 + 719468)) 146097)) * 146097)))) 1460)))) + (wrap64 (Int.tdiv (wrap64 ((wrap64 (a0 + 719468)) - (wrap64 ((wrap64 (Int.tdiv (wrap64 (a0 + 719468)) 146097)) * 146097)))) 36524)))) - (wrap64 (Int.tdiv (wrap64 ((wrap64 (a0 + 719468)) - (wrap64 ((wrap64 (Int.tdiv (wrap64 (a0 + 719468)) 146097)) * 146097)))) 146096)))) 365)) 100)))))) - (wrap64 (Int.tdiv (wrap64 ((wrap64 (153 * (wrap64 (Int.tdiv (wrap64 ((wrap64 (5 * (wrap64 ((wrap64 ((wrap64 (a0 + 719468)) - (wrap64 ((wrap64 (Int.tdiv (wrap64 (a0 + 719468)) 146097)) * 146097)))) - (wrap64 ((wrap64 ((wrap64 (365 * (wrap64 (Int.tdiv (wrap64 ((wrap64 ((wrap64 ((wrap64 ((wrap64 (a0 + 719468)) - (wrap64 ((wrap64 (Int.tdiv (wrap64 (a0 + 719468)) 146097)) * 146097)))) - (wrap64 (Int.tdiv (wrap64 ((wrap64 (a0 + 719468)) - (wrap64 ((wrap64 (Int.tdiv (wrap64 (a0 + 719468)) 146097)) * 146097)))) 1460)))) + (wrap64 (Int.tdiv (wrap64 ((wrap64 (a0 + 719468)) - (wrap64 ((wrap64 (Int.tdiv (wrap64 (a0 + 719468)) 146097)) * 146097)))) 36524)))) - (wrap64 (Int.tdiv (wrap64 ((wrap64 (a0 + 719468)) - (wrap64 ((wrap64 (Int.tdiv (wrap64 (a0 + 719468)) 146097)) * 146097)))) 146096)))) 365)))) + (wrap64 (Int.tdiv (wrap64 (Int.tdiv (wrap64 ((wrap64 ((wrap64 ((wrap64 ((wrap64 (a0 + 719468)) - (wrap64 ((wrap64 (Int.tdiv (wrap64 (a0 + 719468)) 146097)) * 146097)))) - (wrap64 (Int.tdiv (wrap64 ((wrap64 (a0 + 719468)) - (wrap64 ((wrap64 (Int.tdiv (wrap64 (a0 + 719468)) 146097)) * 146097)))) 1460)))) + (wrap64 (Int.tdiv (wrap64 ((wrap64 (a0 + 719468)) - (wrap64 ((wrap64 (Int.tdiv (wrap64 (a0 + 719468)) 146097)) * 146097)))) 36524)))) - (wrap64 (Int.tdiv (wrap64 ((wrap64 (a0 + 719468)) - (wrap64 ((wrap64 (Int.tdiv (wrap64 (a0 + 719468)) 146097)) * 146097)))) 146096)))) 365)) 4)))) - (wrap64 (Int.tdiv (wrap64 (Int.tdiv (wrap64 ((wrap64 ((wrap64 ((wrap64 ((wrap64 (a0 + 719468)) - (wrap64 ((wrap64 (Int.tdiv (wrap64 (a0 + 719468)) 146097)) * 146097)))) - (wrap64 (Int.tdiv (wrap64 ((wrap64 (a0 + 719468)) - (wrap64 ((wrap64 (Int.tdiv (wrap64 (a0 + 719468)) 146097)) * 146097)))) 1460)))) + (wrap64 (Int.tdiv (wrap64 ((wrap64 (a0 + 719468)) - (wrap64 ((wrap64 (Int.tdiv (wrap64 (a0 + 719468)) 146097)) * 146097)))) 36524)))) - (wrap64 (Int.tdiv (wrap64 ((wrap64 (a0 + 719468)) - (wrap64 ((wrap64 (Int.tdiv (wrap64 (a0 + 719468)) 146097)) * 146097)))) 146096)))) 365)) 100)))))))) + 2)) 153)))) + 2)) 5)))) + 1))) else (some (wrap64 ((wrap64 (Int.tdiv (wrap64 ((wrap64 ((wrap64 ((wrap64 ((wrap64 (a0 + 719468)) - (wrap64 ((wrap64 (Int.tdiv (wrap64 (a0 + 719468)) 146097)) * 146097)))) - (wrap64 (Int.tdiv (wrap64 ((wrap64 (a0 + 719468)) - (wrap64 ((wrap64 (Int.tdiv (wrap64 (a0 + 719468)) 146097)) * 146097)))) 1460)))) + (wrap64 (Int.tdiv (wrap64 ((wrap64 (a0 + 719468)) - (wrap64 ((wrap64 (Int.tdiv (wrap64 (a0 + 719468)) 146097)) * 146097)))) 36524)))) - (wrap64 (Int.tdiv (wrap64 ((wrap64 (a0 + 719468)) - (wrap64 ((wrap64 (Int.tdiv (wrap64 (a0 + 719468)) 146097)) * 146097)))) 146096)))) 365)) + (wrap64 ((wrap64 (Int.tdiv (wrap64 (a0 + 719468)) 146097)) * 400))), wrap64 ((wrap64 (Int.tdiv (wrap64 ((wrap64 (5 * (wrap64 ((wrap64 ((wrap64 (a0 + 719468)) - (wrap64 ((wrap64 (Int.tdiv (wrap64 (a0 + 719468)) 146097)) * 146097)))) - (wrap64 ((wrap64 ((wrap64 (365 * (wrap64 (Int.tdiv (wrap64 ((wrap64 ((wrap64 ((wrap64 ((wrap64 (a0 + 719468)) - (wrap64 ((wrap64 (Int.tdiv (wrap64 (a0 + 719468)) 146097)) * 146097)))) - (wrap64 (Int.tdiv (wrap64 ((wrap64 (a0 + 719468)) - (wrap64 ((wrap64 (Int.tdiv (wrap64 (a0 + 719468)) 146097)) * 146097)))) 1460)))) + (wrap64 (Int.tdiv (wrap64 ((wrap64 (a0 + 719468)) - (wrap64 ((wrap64 (Int.tdiv (wrap64 (a0 + 719468)) 146097)) * 146097)))) 36524)))) - (wrap64 (Int.tdiv (wrap64 ((wrap64 (a0 + 719468)) - (wrap64 ((wrap64 (Int.tdiv (wrap64 (a0 + 719468)) 146097)) * 146097)))) 146096)))) 365)))) + (wrap64 (Int.tdiv (wrap64 (Int.tdiv (wrap64 ((wrap64 ((wrap64 ((wrap64 ((wrap64 (a0 + 719468)) - (wrap64 ((wrap64 (Int.tdiv (wrap64 (a0 + 719468)) 146097)) * 146097)))) - (wrap64 (Int.tdiv (wrap64 ((wrap64 (a0 + 719468)) - (wrap64 ((wrap64 (Int.tdiv (wrap64 (a0 + 719468)) 146097)) * 146097)))) 1460)))) + (wrap64 (Int.tdiv (wrap64 ((wrap64 (a0 + 719468)) - (wrap64 ((wrap64 (Int.tdiv (wrap64 (a0 + 719468)) 146097)) * 146097)))) 36524)))) - (wrap64 (Int.tdiv (wrap64 ((wrap64 (a0 + 719468)) - (wrap64 ((wrap64 (Int.tdiv (wrap64 (a0 + 719468)) 146097)) * 146097)))) 146096)))) 365)) 4)))) - (wrap64 (Int.tdiv (wrap64 (Int.tdiv (wrap64 ((wrap64 ((wrap64 ((wrap64 ((wrap64 (a0 + 719468)) - (wrap64 ((wrap64 (Int.tdiv (wrap64 (a0 + 719468)) 146097)) * 146097)))) - (wrap64 (Int.tdiv (wrap64 ((wrap64 (a0 + 719468)) - (wrap64 ((wrap64 (Int.tdiv (wrap64 (a0 + 719468)) 146097)) * 146097)))) 1460)))) + (wrap64 (Int.tdiv (wrap64 ((wrap64 (a0 + 719468)) - (wrap64 ((wrap64 (Int.tdiv (wrap64 (a0 + 719468)) 146097)) * 146097)))) 36524)))) - (wrap64 (Int.tdiv (wrap64 ((wrap64 (a0 + 719468)) - (wrap64 ((wrap64 (Int.tdiv (wrap64 (a0 + 719468)) 146097)) * 146097)))) 146096)))) 365)) 100)))))))) + 2)) 153)) + 3), wrap64 ((wrap64 ((wrap64 ((wrap64 ((wrap64 (a0 + 719468)) - (wrap64 ((wrap64 (Int.tdiv (wrap64 (a0 + 719468)) 146097)) * 146097)))) - (wrap64 ((wrap64 ((wrap64 (365 * (wrap64 (Int.tdiv (wrap64 ((wrap64 ((wrap64 ((wrap64 ((wrap64 (a0 + 719468)) - (wrap64 ((wrap64 (Int.tdiv (wrap64 (a0 + 719468)) 146097)) * 146097)))) - (wrap64 (Int.tdiv (wrap64 ((wrap64 (a0 + 719468)) - (wrap64 ((wrap64 (Int.tdiv (wrap64 (a0 + 719468)) 146097)) * 146097)))) 1460)))) + (wrap64 (Int.tdiv (wrap64 ((wrap64 (a0 + 719468)) - (wrap64 ((wrap64 (Int.tdiv (wrap64 (a0 + 719468)) 146097)) * 146097)))) 36524)))) - (wrap64 (Int.tdiv (wrap64 ((wrap64 (a0 + 719468)) - (wrap64 ((wrap64 (Int.tdiv (wrap64 (a0 + 719468)) 146097)) * 146097)))) 146096)))) 365)))) + (wrap64 (Int.tdiv (wrap64 (Int.tdiv (wrap64 ((wrap64 ((wrap64 ((wrap64 ((wrap64 (a0 + 719468)) - (wrap64 ((wrap64 (Int.tdiv (wrap64 (a0 + 719468)) 146097)) * 146097)))) - (wrap64 (Int.tdiv (wrap64 ((wrap64 (a0 + 719468)) - (wrap64 ((wrap64 (Int.tdiv (wrap64 (a0 + 719468)) 146097)) * 146097)))) 1460)))) + (wrap64 (Int.tdiv (wrap64 ((wrap64 (a0 + 719468)) - (wrap64 ((wrap64 (Int.tdiv (wrap64 (a0 + 719468)) 146097)) * 146097)))) 36524)))) - (wrap64 (Int.tdiv (wrap64 ((wrap64 (a0 + 719468)) - (wrap64 ((wrap64 (Int.tdiv (wrap64 (a0 + 719468)) 146097)) * 146097)))) 146096)))) 365)) 4)))) - (wrap64 (Int.tdiv (wrap64 (Int.tdiv (wrap64 ((wrap64 ((wrap64 ((wrap64 ((wrap64 (a0 + 719468)) - (wrap64 ((wrap64 (Int.tdiv (wrap64 (a0 + 719468)) 146097)) * 146097)))) - (wrap64 (Int.tdiv (wrap64 ((wrap64 (a0 + 719468)) - (wrap64 ((wrap64 (Int.tdiv (wrap64 (a0 + 719468)) 146097)) * 146097)))) 1460)))) + (wrap64 (Int.tdiv (wrap64 ((wrap64 (a0 + 719468)) - (wrap64 ((wrap64 (Int.tdiv (wrap64 (a0 + 719468)) 146097)) * 146097)))) 36524)))) - (wrap64 (Int.tdiv (wrap64 ((wrap64 (a0 + 719468)) - (wrap64 ((wrap64 (Int.tdiv (wrap64 (a0 + 719468)) 146097)) * 146097)))) 146096)))) 365)) 100)))))) - (wrap64 (Int.tdiv (wrap64 ((wrap64 (153 * (wrap64 (Int.tdiv (wrap64 ((wrap64 (5 * (wrap64 ((wrap64 ((wrap64 (a0 + 719468)) - (wrap64 ((wrap64 (Int.tdiv (wrap64 (a0 + 719468)) 146097)) * 146097)))) - (wrap64 ((wrap64 ((wrap64 (365 * (wrap64 (Int.tdiv (wrap64 ((wrap64 ((wrap64 ((wrap64 ((wrap64 (a0 + 719468)) - (wrap64 ((wrap64 (Int.tdiv (wrap64 (a0 + 719468)) 146097)) * 146097)))) - (wrap64 (Int.tdiv (wrap64 ((wrap64 (a0 + 719468)) - (wrap64 ((wrap64 (Int.tdiv (wrap64 (a0 + 719468)) 146097)) * 146097)))) 1460)))) + (wrap64 (Int.tdiv (wrap64 ((wrap64 (a0 + 719468)) - (wrap64 ((wrap64 (Int.tdiv (wrap64 (a0 + 719468)) 146097)) * 146097)))) 36524)))) - (wrap64 (Int.tdiv (wrap64 ((wrap64 (a0 + 719468)) - (wrap64 ((wrap64 (Int.tdiv (wrap64 (a0 + 719468)) 146097)) * 146097)))) 146096)))) 365)))) + (wrap64 (Int.tdiv (wrap64 (Int.tdiv (wrap64 ((wrap64 ((wrap64 ((wrap64 ((wrap64 (a0 + 719468)) - (wrap64 ((wrap64 (Int.tdiv (wrap64 (a0 + 719468)) 146097)) * 146097)))) - (wrap64 (Int.tdiv (wrap64 ((wrap64 (a0 + 719468)) - (wrap64 ((wrap64 (Int.tdiv (wrap64 (a0 + 719468)) 146097)) * 146097)))) 1460)))) + (wrap64 (Int.tdiv (wrap64 ((wrap64 (a0 + 719468)) - (wrap64 ((wrap64 (Int.tdiv (wrap64 (a0 + 719468)) 146097)) * 146097)))) 36524)))) - (wrap64 (Int.tdiv (wrap64 ((wrap64 (a0 + 719468)) - (wrap64 ((wrap64 (Int.tdiv (wrap64 (a0 + 719468)) 146097)) * 146097)))) 146096)))) 365)) 4)))) - (wrap64 (Int.tdiv (wrap64 (Int.tdiv (wrap64 ((wrap64 ((wrap64 ((wrap64 ((wrap64 (a0 + 719468)) - (wrap64 ((wrap64 (Int.tdiv (wrap64 (a0 + 719468)) 146097)) * 146097)))) - (wrap64 (Int.tdiv (wrap64 ((wrap64 (a0 + 719468)) - (wrap64 ((wrap64 (Int.tdiv (wrap64 (a0 + 719468)) 146097)) * 146097)))) 1460)))) + (wrap64 (Int.tdiv (wrap64 ((wrap64 (a0 + 719468)) - (wrap64 ((wrap64 (Int.tdiv (wrap64 (a0 + 719468)) 146097)) * 146097)))) 36524)))) - (wrap64 (Int.tdiv (wrap64 ((wrap64 (a0 + 719468)) - (wrap64 ((wrap64 (Int.tdiv (wrap64 (a0 + 719468)) 146097)) * 146097)))) 146096)))) 365)) 100)))))))) + 2)) 153)))) + 2)) 5)))) + 1)))
set_option maxHeartbeats 8000000 in
set_option maxRecDepth 100000 in
theorem date_civil.calls (a0 : Int) (r1 : Int) (r2 : Int) (r3 : Int) (w : World) (h : date_civil.f a0 = some (r1, r2, r3)) :
    Calls Try.prog 13 #[.int .i64 a0] w fun e w' => e = .returned (.tuple #[.int .i64 r1, .int .i64 r2, .int .i64 r3]) ∧ Drawn0 w w' := by
  have H : (if (wrap64 ((wrap64 (Int.tdiv (wrap64 ((wrap64 (5 * (wrap64 ((wrap64 ((wrap64 (a0 + 719468)) - (wrap64 ((wrap64 (Int.tdiv (wrap64 (a0 + 719468)) 146097)) * 146097)))) - (wrap64 ((wrap64 ((wrap64 (365 * (wrap64 (Int.tdiv (wrap64 ((wrap64 ((wrap64 ((wrap64 ((wrap64 (a0 + 719468)) - (wrap64 ((wrap64 (Int.tdiv (wrap64 (a0 + 719468)) 146097)) * 146097)))) - (wrap64 (Int.tdiv (wrap64 ((wrap64 (a0 + 719468)) - (wrap64 ((wrap64 (Int.tdiv (wrap64 (a0 + 719468)) 146097)) * 146097)))) 1460)))) + (wrap64 (Int.tdiv (wrap64 ((wrap64 (a0 + 719468)) - (wrap64 ((wrap64 (Int.tdiv (wrap64 (a0 + 719468)) 146097)) * 146097)))) 36524)))) - (wrap64 (Int.tdiv (wrap64 ((wrap64 (a0 + 719468)) - (wrap64 ((wrap64 (Int.tdiv (wrap64 (a0 + 719468)) 146097)) * 146097)))) 146096)))) 365)))) + (wrap64 (Int.tdiv (wrap64 (Int.tdiv (wrap64 ((wrap64 ((wrap64 ((wrap64 ((wrap64 (a0 + 719468)) - (wrap64 ((wrap64 (Int.tdiv (wrap64 (a0 + 719468)) 146097)) * 146097)))) - (wrap64 (Int.tdiv (wrap64 ((wrap64 (a0 + 719468)) - (wrap64 ((wrap64 (Int.tdiv (wrap64 (a0 + 719468)) 146097)) * 146097)))) 1460)))) + (wrap64 (Int.tdiv (wrap64 ((wrap64 (a0 + 719468)) - (wrap64 ((wrap64 (Int.tdiv (wrap64 (a0 + 719468)) 146097)) * 146097)))) 36524)))) - (wrap64 (Int.tdiv (wrap64 ((wrap64 (a0 + 719468)) - (wrap64 ((wrap64 (Int.tdiv (wrap64 (a0 + 719468)) 146097)) * 146097)))) 146096)))) 365)) 4)))) - (wrap64 (Int.tdiv (wrap64 (Int.tdiv (wrap64 ((wrap64 ((wrap64 ((wrap64 ((wrap64 (a0 + 719468)) - (wrap64 ((wrap64 (Int.tdiv (wrap64 (a0 + 719468)) 146097)) * 146097)))) - (wrap64 (Int.tdiv (wrap64 ((wrap64 (a0 + 719468)) - (wrap64 ((wrap64 (Int.tdiv (wrap64 (a0 + 719468)) 146097)) * 146097)))) 1460)))) + (wrap64 (Int.tdiv (wrap64 ((wrap64 (a0 + 719468)) - (wrap64 ((wrap64 (Int.tdiv (wrap64 (a0 + 719468)) 146097)) * 146097)))) 36524)))) - (wrap64 (Int.tdiv (wrap64 ((wrap64 (a0 + 719468)) - (wrap64 ((wrap64 (Int.tdiv (wrap64 (a0 + 719468)) 146097)) * 146097)))) 146096)))) 365)) 100)))))))) + 2)) 153)) + 3)) > 12 then (some (wrap64 ((wrap64 ((wrap64 (Int.tdiv (wrap64 ((wrap64 ((wrap64 ((wrap64 ((wrap64 (a0 + 719468)) - (wrap64 ((wrap64 (Int.tdiv (wrap64 (a0 + 719468)) 146097)) * 146097)))) - (wrap64 (Int.tdiv (wrap64 ((wrap64 (a0 + 719468)) - (wrap64 ((wrap64 (Int.tdiv (wrap64 (a0 + 719468)) 146097)) * 146097)))) 1460)))) + (wrap64 (Int.tdiv (wrap64 ((wrap64 (a0 + 719468)) - (wrap64 ((wrap64 (Int.tdiv (wrap64 (a0 + 719468)) 146097)) * 146097)))) 36524)))) - (wrap64 (Int.tdiv (wrap64 ((wrap64 (a0 + 719468)) - (wrap64 ((wrap64 (Int.tdiv (wrap64 (a0 + 719468)) 146097)) * 146097)))) 146096)))) 365)) + (wrap64 ((wrap64 (Int.tdiv (wrap64 (a0 + 719468)) 146097)) * 400)))) + 1), wrap64 ((wrap64 ((wrap64 (Int.tdiv (wrap64 ((wrap64 (5 * (wrap64 ((wrap64 ((wrap64 (a0 + 719468)) - (wrap64 ((wrap64 (Int.tdiv (wrap64 (a0 + 719468)) 146097)) * 146097)))) - (wrap64 ((wrap64 ((wrap64 (365 * (wrap64 (Int.tdiv (wrap64 ((wrap64 ((wrap64 ((wrap64 ((wrap64 (a0 + 719468)) - (wrap64 ((wrap64 (Int.tdiv (wrap64 (a0 + 719468)) 146097)) * 146097)))) - (wrap64 (Int.tdiv (wrap64 ((wrap64 (a0 + 719468)) - (wrap64 ((wrap64 (Int.tdiv (wrap64 (a0 + 719468)) 146097)) * 146097)))) 1460)))) + (wrap64 (Int.tdiv (wrap64 ((wrap64 (a0 + 719468)) - (wrap64 ((wrap64 (Int.tdiv (wrap64 (a0 + 719468)) 146097)) * 146097)))) 36524)))) - (wrap64 (Int.tdiv (wrap64 ((wrap64 (a0 + 719468)) - (wrap64 ((wrap64 (Int.tdiv (wrap64 (a0 + 719468)) 146097)) * 146097)))) 146096)))) 365)))) + (wrap64 (Int.tdiv (wrap64 (Int.tdiv (wrap64 ((wrap64 ((wrap64 ((wrap64 ((wrap64 (a0 + 719468)) - (wrap64 ((wrap64 (Int.tdiv (wrap64 (a0 + 719468)) 146097)) * 146097)))) - (wrap64 (Int.tdiv (wrap64 ((wrap64 (a0 + 719468)) - (wrap64 ((wrap64 (Int.tdiv (wrap64 (a0 + 719468)) 146097)) * 146097)))) 1460)))) + (wrap64 (Int.tdiv (wrap64 ((wrap64 (a0 + 719468)) - (wrap64 ((wrap64 (Int.tdiv (wrap64 (a0 + 719468)) 146097)) * 146097)))) 36524)))) - (wrap64 (Int.tdiv (wrap64 ((wrap64 (a0 + 719468)) - (wrap64 ((wrap64 (Int.tdiv (wrap64 (a0 + 719468)) 146097)) * 146097)))) 146096)))) 365)) 4)))) - (wrap64 (Int.tdiv (wrap64 (Int.tdiv (wrap64 ((wrap64 ((wrap64 ((wrap64 ((wrap64 (a0 + 719468)) - (wrap64 ((wrap64 (Int.tdiv (wrap64 (a0 + 719468)) 146097)) * 146097)))) - (wrap64 (Int.tdiv (wrap64 ((wrap64 (a0 + 719468)) - (wrap64 ((wrap64 (Int.tdiv (wrap64 (a0 + 719468)) 146097)) * 146097)))) 1460)))) + (wrap64 (Int.tdiv (wrap64 ((wrap64 (a0 + 719468)) - (wrap64 ((wrap64 (Int.tdiv (wrap64 (a0 + 719468)) 146097)) * 146097)))) 36524)))) - (wrap64 (Int.tdiv (wrap64 ((wrap64 (a0 + 719468)) - (wrap64 ((wrap64 (Int.tdiv (wrap64 (a0 + 719468)) 146097)) * 146097)))) 146096)))) 365)) 100)))))))) + 2)) 153)) + 3)) - 12), wrap64 ((wrap64 ((wrap64 ((wrap64 ((wrap64 (a0 + 719468)) - (wrap64 ((wrap64 (Int.tdiv (wrap64 (a0 + 719468)) 146097)) * 146097)))) - (wrap64 ((wrap64 ((wrap64 (365 * (wrap64 (Int.tdiv (wrap64 ((wrap64 ((wrap64 ((wrap64 ((wrap64 (a0 + 719468)) - (wrap64 ((wrap64 (Int.tdiv (wrap64 (a0 + 719468)) 146097)) * 146097)))) - (wrap64 (Int.tdiv (wrap64 ((wrap64 (a0 + 719468)) - (wrap64 ((wrap64 (Int.tdiv (wrap64 (a0 + 719468)) 146097)) * 146097)))) 1460)))) + (wrap64 (Int.tdiv (wrap64 ((wrap64 (a0 + 719468)) - (wrap64 ((wrap64 (Int.tdiv (wrap64 (a0 + 719468)) 146097)) * 146097)))) 36524)))) - (wrap64 (Int.tdiv (wrap64 ((wrap64 (a0 + 719468)) - (wrap64 ((wrap64 (Int.tdiv (wrap64 (a0 + 719468)) 146097)) * 146097)))) 146096)))) 365)))) + (wrap64 (Int.tdiv (wrap64 (Int.tdiv (wrap64 ((wrap64 ((wrap64 ((wrap64 ((wrap64 (a0 + 719468)) - (wrap64 ((wrap64 (Int.tdiv (wrap64 (a0 + 719468)) 146097)) * 146097)))) - (wrap64 (Int.tdiv (wrap64 ((wrap64 (a0 + 719468)) - (wrap64 ((wrap64 (Int.tdiv (wrap64 (a0 + 719468)) 146097)) * 146097)))) 1460)))) + (wrap64 (Int.tdiv (wrap64 ((wrap64 (a0 + 719468)) - (wrap64 ((wrap64 (Int.tdiv (wrap64 (a0 + 719468)) 146097)) * 146097)))) 36524)))) - (wrap64 (Int.tdiv (wrap64 ((wrap64 (a0 + 719468)) - (wrap64 ((wrap64 (Int.tdiv (wrap64 (a0 + 719468)) 146097)) * 146097)))) 146096)))) 365)) 4)))) - (wrap64 (Int.tdiv (wrap64 (Int.tdiv (wrap64 ((wrap64 ((wrap64 ((wrap64 ((wrap64 (a0 + 719468)) - (wrap64 ((wrap64 (Int.tdiv (wrap64 (a0 + 719468)) 146097)) * 146097)))) - (wrap64 (Int.tdiv (wrap64 ((wrap64 (a0 + 719468)) - (wrap64 ((wrap64 (Int.tdiv (wrap64 (a0 + 719468)) 146097)) * 146097)))) 1460)))) + (wrap64 (Int.tdiv (wrap64 ((wrap64 (a0 + 719468)) - (wrap64 ((wrap64 (Int.tdiv (wrap64 (a0 + 719468)) 146097)) * 146097)))) 36524)))) - (wrap64 (Int.tdiv (wrap64 ((wrap64 (a0 + 719468)) - (wrap64 ((wrap64 (Int.tdiv (wrap64 (a0 + 719468)) 146097)) * 146097)))) 146096)))) 365)) 100)))))) - (wrap64 (Int.tdiv (wrap64 ((wrap64 (153 * (wrap64 (Int.tdiv (wrap64 ((wrap64 (5 * (wrap64 ((wrap64 ((wrap64 (a0 + 719468)) - (wrap64 ((wrap64 (Int.tdiv (wrap64 (a0 + 719468)) 146097)) * 146097)))) - (wrap64 ((wrap64 ((wrap64 (365 * (wrap64 (Int.tdiv (wrap64 ((wrap64 ((wrap64 ((wrap64 ((wrap64 (a0 + 719468)) - (wrap64 ((wrap64 (Int.tdiv (wrap64 (a0 + 719468)) 146097)) * 146097)))) - (wrap64 (Int.tdiv (wrap64 ((wrap64 (a0 + 719468)) - (wrap64 ((wrap64 (Int.tdiv (wrap64 (a0 + 719468)) 146097)) * 146097)))) 1460)))) + (wrap64 (Int.tdiv (wrap64 ((wrap64 (a0 + 719468)) - (wrap64 ((wrap64 (Int.tdiv (wrap64 (a0 + 719468)) 146097)) * 146097)))) 36524)))) - (wrap64 (Int.tdiv (wrap64 ((wrap64 (a0 + 719468)) - (wrap64 ((wrap64 (Int.tdiv (wrap64 (a0 + 719468)) 146097)) * 146097)))) 146096)))) 365)))) + (wrap64 (Int.tdiv (wrap64 (Int.tdiv (wrap64 ((wrap64 ((wrap64 ((wrap64 ((wrap64 (a0 + 719468)) - (wrap64 ((wrap64 (Int.tdiv (wrap64 (a0 + 719468)) 146097)) * 146097)))) - (wrap64 (Int.tdiv (wrap64 ((wrap64 (a0 + 719468)) - (wrap64 ((wrap64 (Int.tdiv (wrap64 (a0 + 719468)) 146097)) * 146097)))) 1460)))) + (wrap64 (Int.tdiv (wrap64 ((wrap64 (a0 + 719468)) - (wrap64 ((wrap64 (Int.tdiv (wrap64 (a0 + 719468)) 146097)) * 146097)))) 36524)))) - (wrap64 (Int.tdiv (wrap64 ((wrap64 (a0 + 719468)) - (wrap64 ((wrap64 (Int.tdiv (wrap64 (a0 + 719468)) 146097)) * 146097)))) 146096)))) 365)) 4)))) - (wrap64 (Int.tdiv (wrap64 (Int.tdiv (wrap64 ((wrap64 ((wrap64 ((wrap64 ((wrap64 (a0 + 719468)) - (wrap64 ((wrap64 (Int.tdiv (wrap64 (a0 + 719468)) 146097)) * 146097)))) - (wrap64 (Int.tdiv (wrap64 ((wrap64 (a0 + 719468)) - (wrap64 ((wrap64 (Int.tdiv (wrap64 (a0 + 719468)) 146097)) * 146097)))) 1460)))) + (wrap64 (Int.tdiv (wrap64 ((wrap64 (a0 + 719468)) - (wrap64 ((wrap64 (Int.tdiv (wrap64 (a0 + 719468)) 146097)) * 146097)))) 36524)))) - (wrap64 (Int.tdiv (wrap64 ((wrap64 (a0 + 719468)) - (wrap64 ((wrap64 (Int.tdiv (wrap64 (a0 + 719468)) 146097)) * 146097)))) 146096)))) 365)) 100)))))))) + 2)) 153)))) + 2)) 5)))) + 1))) else (some (wrap64 ((wrap64 (Int.tdiv (wrap64 ((wrap64 ((wrap64 ((wrap64 ((wrap64 (a0 + 719468)) - (wrap64 ((wrap64 (Int.tdiv (wrap64 (a0 + 719468)) 146097)) * 146097)))) - (wrap64 (Int.tdiv (wrap64 ((wrap64 (a0 + 719468)) - (wrap64 ((wrap64 (Int.tdiv (wrap64 (a0 + 719468)) 146097)) * 146097)))) 1460)))) + (wrap64 (Int.tdiv (wrap64 ((wrap64 (a0 + 719468)) - (wrap64 ((wrap64 (Int.tdiv (wrap64 (a0 + 719468)) 146097)) * 146097)))) 36524)))) - (wrap64 (Int.tdiv (wrap64 ((wrap64 (a0 + 719468)) - (wrap64 ((wrap64 (Int.tdiv (wrap64 (a0 + 719468)) 146097)) * 146097)))) 146096)))) 365)) + (wrap64 ((wrap64 (Int.tdiv (wrap64 (a0 + 719468)) 146097)) * 400))), wrap64 ((wrap64 (Int.tdiv (wrap64 ((wrap64 (5 * (wrap64 ((wrap64 ((wrap64 (a0 + 719468)) - (wrap64 ((wrap64 (Int.tdiv (wrap64 (a0 + 719468)) 146097)) * 146097)))) - (wrap64 ((wrap64 ((wrap64 (365 * (wrap64 (Int.tdiv (wrap64 ((wrap64 ((wrap64 ((wrap64 ((wrap64 (a0 + 719468)) - (wrap64 ((wrap64 (Int.tdiv (wrap64 (a0 + 719468)) 146097)) * 146097)))) - (wrap64 (Int.tdiv (wrap64 ((wrap64 (a0 + 719468)) - (wrap64 ((wrap64 (Int.tdiv (wrap64 (a0 + 719468)) 146097)) * 146097)))) 1460)))) + (wrap64 (Int.tdiv (wrap64 ((wrap64 (a0 + 719468)) - (wrap64 ((wrap64 (Int.tdiv (wrap64 (a0 + 719468)) 146097)) * 146097)))) 36524)))) - (wrap64 (Int.tdiv (wrap64 ((wrap64 (a0 + 719468)) - (wrap64 ((wrap64 (Int.tdiv (wrap64 (a0 + 719468)) 146097)) * 146097)))) 146096)))) 365)))) + (wrap64 (Int.tdiv (wrap64 (Int.tdiv (wrap64 ((wrap64 ((wrap64 ((wrap64 ((wrap64 (a0 + 719468)) - (wrap64 ((wrap64 (Int.tdiv (wrap64 (a0 + 719468)) 146097)) * 146097)))) - (wrap64 (Int.tdiv (wrap64 ((wrap64 (a0 + 719468)) - (wrap64 ((wrap64 (Int.tdiv (wrap64 (a0 + 719468)) 146097)) * 146097)))) 1460)))) + (wrap64 (Int.tdiv (wrap64 ((wrap64 (a0 + 719468)) - (wrap64 ((wrap64 (Int.tdiv (wrap64 (a0 + 719468)) 146097)) * 146097)))) 36524)))) - (wrap64 (Int.tdiv (wrap64 ((wrap64 (a0 + 719468)) - (wrap64 ((wrap64 (Int.tdiv (wrap64 (a0 + 719468)) 146097)) * 146097)))) 146096)))) 365)) 4)))) - (wrap64 (Int.tdiv (wrap64 (Int.tdiv (wrap64 ((wrap64 ((wrap64 ((wrap64 ((wrap64 (a0 + 719468)) - (wrap64 ((wrap64 (Int.tdiv (wrap64 (a0 + 719468)) 146097)) * 146097)))) - (wrap64 (Int.tdiv (wrap64 ((wrap64 (a0 + 719468)) - (wrap64 ((wrap64 (Int.tdiv (wrap64 (a0 + 719468)) 146097)) * 146097)))) 1460)))) + (wrap64 (Int.tdiv (wrap64 ((wrap64 (a0 + 719468)) - (wrap64 ((wrap64 (Int.tdiv (wrap64 (a0 + 719468)) 146097)) * 146097)))) 36524)))) - (wrap64 (Int.tdiv (wrap64 ((wrap64 (a0 + 719468)) - (wrap64 ((wrap64 (Int.tdiv (wrap64 (a0 + 719468)) 146097)) * 146097)))) 146096)))) 365)) 100)))))))) + 2)) 153)) + 3), wrap64 ((wrap64 ((wrap64 ((wrap64 ((wrap64 (a0 + 719468)) - (wrap64 ((wrap64 (Int.tdiv (wrap64 (a0 + 719468)) 146097)) * 146097)))) - (wrap64 ((wrap64 ((wrap64 (365 * (wrap64 (Int.tdiv (wrap64 ((wrap64 ((wrap64 ((wrap64 ((wrap64 (a0 + 719468)) - (wrap64 ((wrap64 (Int.tdiv (wrap64 (a0 + 719468)) 146097)) * 146097)))) - (wrap64 (Int.tdiv (wrap64 ((wrap64 (a0 + 719468)) - (wrap64 ((wrap64 (Int.tdiv (wrap64 (a0 + 719468)) 146097)) * 146097)))) 1460)))) + (wrap64 (Int.tdiv (wrap64 ((wrap64 (a0 + 719468)) - (wrap64 ((wrap64 (Int.tdiv (wrap64 (a0 + 719468)) 146097)) * 146097)))) 36524)))) - (wrap64 (Int.tdiv (wrap64 ((wrap64 (a0 + 719468)) - (wrap64 ((wrap64 (Int.tdiv (wrap64 (a0 + 719468)) 146097)) * 146097)))) 146096)))) 365)))) + (wrap64 (Int.tdiv (wrap64 (Int.tdiv (wrap64 ((wrap64 ((wrap64 ((wrap64 ((wrap64 (a0 + 719468)) - (wrap64 ((wrap64 (Int.tdiv (wrap64 (a0 + 719468)) 146097)) * 146097)))) - (wrap64 (Int.tdiv (wrap64 ((wrap64 (a0 + 719468)) - (wrap64 ((wrap64 (Int.tdiv (wrap64 (a0 + 719468)) 146097)) * 146097)))) 1460)))) + (wrap64 (Int.tdiv (wrap64 ((wrap64 (a0 + 719468)) - (wrap64 ((wrap64 (Int.tdiv (wrap64 (a0 + 719468)) 146097)) * 146097)))) 36524)))) - (wrap64 (Int.tdiv (wrap64 ((wrap64 (a0 + 719468)) - (wrap64 ((wrap64 (Int.tdiv (wrap64 (a0 + 719468)) 146097)) * 146097)))) 146096)))) 365)) 4)))) - (wrap64 (Int.tdiv (wrap64 (Int.tdiv (wrap64 ((wrap64 ((wrap64 ((wrap64 ((wrap64 (a0 + 719468)) - (wrap64 ((wrap64 (Int.tdiv (wrap64 (a0 + 719468)) 146097)) * 146097)))) - (wrap64 (Int.tdiv (wrap64 ((wrap64 (a0 + 719468)) - (wrap64 ((wrap64 (Int.tdiv (wrap64 (a0 + 719468)) 146097)) * 146097)))) 1460)))) + (wrap64 (Int.tdiv (wrap64 ((wrap64 (a0 + 719468)) - (wrap64 ((wrap64 (Int.tdiv (wrap64 (a0 + 719468)) 146097)) * 146097)))) 36524)))) - (wrap64 (Int.tdiv (wrap64 ((wrap64 (a0 + 719468)) - (wrap64 ((wrap64 (Int.tdiv (wrap64 (a0 + 719468)) 146097)) * 146097)))) 146096)))) 365)) 100)))))) - (wrap64 (Int.tdiv (wrap64 ((wrap64 (153 * (wrap64 (Int.tdiv (wrap64 ((wrap64 (5 * (wrap64 ((wrap64 ((wrap64 (a0 + 719468)) - (wrap64 ((wrap64 (Int.tdiv (wrap64 (a0 + 719468)) 146097)) * 146097)))) - (wrap64 ((wrap64 ((wrap64 (365 * (wrap64 (Int.tdiv (wrap64 ((wrap64 ((wrap64 ((wrap64 ((wrap64 (a0 + 719468)) - (wrap64 ((wrap64 (Int.tdiv (wrap64 (a0 + 719468)) 146097)) * 146097)))) - (wrap64 (Int.tdiv (wrap64 ((wrap64 (a0 + 719468)) - (wrap64 ((wrap64 (Int.tdiv (wrap64 (a0 + 719468)) 146097)) * 146097)))) 1460)))) + (wrap64 (Int.tdiv (wrap64 ((wrap64 (a0 + 719468)) - (wrap64 ((wrap64 (Int.tdiv (wrap64 (a0 + 719468)) 146097)) * 146097)))) 36524)))) - (wrap64 (Int.tdiv (wrap64 ((wrap64 (a0 + 719468)) - (wrap64 ((wrap64 (Int.tdiv (wrap64 (a0 + 719468)) 146097)) * 146097)))) 146096)))) 365)))) + (wrap64 (Int.tdiv (wrap64 (Int.tdiv (wrap64 ((wrap64 ((wrap64 ((wrap64 ((wrap64 (a0 + 719468)) - (wrap64 ((wrap64 (Int.tdiv (wrap64 (a0 + 719468)) 146097)) * 146097)))) - (wrap64 (Int.tdiv (wrap64 ((wrap64 (a0 + 719468)) - (wrap64 ((wrap64 (Int.tdiv (wrap64 (a0 + 719468)) 146097)) * 146097)))) 1460)))) + (wrap64 (Int.tdiv (wrap64 ((wrap64 (a0 + 719468)) - (wrap64 ((wrap64 (Int.tdiv (wrap64 (a0 + 719468)) 146097)) * 146097)))) 36524)))) - (wrap64 (Int.tdiv (wrap64 ((wrap64 (a0 + 719468)) - (wrap64 ((wrap64 (Int.tdiv (wrap64 (a0 + 719468)) 146097)) * 146097)))) 146096)))) 365)) 4)))) - (wrap64 (Int.tdiv (wrap64 (Int.tdiv (wrap64 ((wrap64 ((wrap64 ((wrap64 ((wrap64 (a0 + 719468)) - (wrap64 ((wrap64 (Int.tdiv (wrap64 (a0 + 719468)) 146097)) * 146097)))) - (wrap64 (Int.tdiv (wrap64 ((wrap64 (a0 + 719468)) - (wrap64 ((wrap64 (Int.tdiv (wrap64 (a0 + 719468)) 146097)) * 146097)))) 1460)))) + (wrap64 (Int.tdiv (wrap64 ((wrap64 (a0 + 719468)) - (wrap64 ((wrap64 (Int.tdiv (wrap64 (a0 + 719468)) 146097)) * 146097)))) 36524)))) - (wrap64 (Int.tdiv (wrap64 ((wrap64 (a0 + 719468)) - (wrap64 ((wrap64 (Int.tdiv (wrap64 (a0 + 719468)) 146097)) * 146097)))) 146096)))) 365)) 100)))))))) + 2)) 153)))) + 2)) 5)))) + 1)))) = some (r1, r2, r3) := h
  clear h
  by_cases c2 : (wrap64 ((wrap64 (Int.tdiv (wrap64 ((wrap64 (5 * (wrap64 ((wrap64 ((wrap64 (a0 + 719468)) - (wrap64 ((wrap64 (Int.tdiv (wrap64 (a0 + 719468)) 146097)) * 146097)))) - (wrap64 ((wrap64 ((wrap64 (365 * (wrap64 (Int.tdiv (wrap64 ((wrap64 ((wrap64 ((wrap64 ((wrap64 (a0 + 719468)) - (wrap64 ((wrap64 (Int.tdiv (wrap64 (a0 + 719468)) 146097)) * 146097)))) - (wrap64 (Int.tdiv (wrap64 ((wrap64 (a0 + 719468)) - (wrap64 ((wrap64 (Int.tdiv (wrap64 (a0 + 719468)) 146097)) * 146097)))) 1460)))) + (wrap64 (Int.tdiv (wrap64 ((wrap64 (a0 + 719468)) - (wrap64 ((wrap64 (Int.tdiv (wrap64 (a0 + 719468)) 146097)) * 146097)))) 36524)))) - (wrap64 (Int.tdiv (wrap64 ((wrap64 (a0 + 719468)) - (wrap64 ((wrap64 (Int.tdiv (wrap64 (a0 + 719468)) 146097)) * 146097)))) 146096)))) 365)))) + (wrap64 (Int.tdiv (wrap64 (Int.tdiv (wrap64 ((wrap64 ((wrap64 ((wrap64 ((wrap64 (a0 + 719468)) - (wrap64 ((wrap64 (Int.tdiv (wrap64 (a0 + 719468)) 146097)) * 146097)))) - (wrap64 (Int.tdiv (wrap64 ((wrap64 (a0 + 719468)) - (wrap64 ((wrap64 (Int.tdiv (wrap64 (a0 + 719468)) 146097)) * 146097)))) 1460)))) + (wrap64 (Int.tdiv (wrap64 ((wrap64 (a0 + 719468)) - (wrap64 ((wrap64 (Int.tdiv (wrap64 (a0 + 719468)) 146097)) * 146097)))) 36524)))) - (wrap64 (Int.tdiv (wrap64 ((wrap64 (a0 + 719468)) - (wrap64 ((wrap64 (Int.tdiv (wrap64 (a0 + 719468)) 146097)) * 146097)))) 146096)))) 365)) 4)))) - (wrap64 (Int.tdiv (wrap64 (Int.tdiv (wrap64 ((wrap64 ((wrap64 ((wrap64 ((wrap64 (a0 + 719468)) - (wrap64 ((wrap64 (Int.tdiv (wrap64 (a0 + 719468)) 146097)) * 146097)))) - (wrap64 (Int.tdiv (wrap64 ((wrap64 (a0 + 719468)) - (wrap64 ((wrap64 (Int.tdiv (wrap64 (a0 + 719468)) 146097)) * 146097)))) 1460)))) + (wrap64 (Int.tdiv (wrap64 ((wrap64 (a0 + 719468)) - (wrap64 ((wrap64 (Int.tdiv (wrap64 (a0 + 719468)) 146097)) * 146097)))) 36524)))) - (wrap64 (Int.tdiv (wrap64 ((wrap64 (a0 + 719468)) - (wrap64 ((wrap64 (Int.tdiv (wrap64 (a0 + 719468)) 146097)) * 146097)))) 146096)))) 365)) 100)))))))) + 2)) 153)) + 3)) > 12
  · rw [if_pos c2] at H
    have c2b0 : decide (12 < (wrap64 ((wrap64 (Int.tdiv (wrap64 ((wrap64 (5 * (wrap64 ((wrap64 ((wrap64 (a0 + 719468)) - (wrap64 ((wrap64 (Int.tdiv (wrap64 (a0 + 719468)) 146097)) * 146097)))) - (wrap64 ((wrap64 ((wrap64 (365 * (wrap64 (Int.tdiv (wrap64 ((wrap64 ((wrap64 ((wrap64 ((wrap64 (a0 + 719468)) - (wrap64 ((wrap64 (Int.tdiv (wrap64 (a0 + 719468)) 146097)) * 146097)))) - (wrap64 (Int.tdiv (wrap64 ((wrap64 (a0 + 719468)) - (wrap64 ((wrap64 (Int.tdiv (wrap64 (a0 + 719468)) 146097)) * 146097)))) 1460)))) + (wrap64 (Int.tdiv (wrap64 ((wrap64 (a0 + 719468)) - (wrap64 ((wrap64 (Int.tdiv (wrap64 (a0 + 719468)) 146097)) * 146097)))) 36524)))) - (wrap64 (Int.tdiv (wrap64 ((wrap64 (a0 + 719468)) - (wrap64 ((wrap64 (Int.tdiv (wrap64 (a0 + 719468)) 146097)) * 146097)))) 146096)))) 365)))) + (wrap64 (Int.tdiv (wrap64 (Int.tdiv (wrap64 ((wrap64 ((wrap64 ((wrap64 ((wrap64 (a0 + 719468)) - (wrap64 ((wrap64 (Int.tdiv (wrap64 (a0 + 719468)) 146097)) * 146097)))) - (wrap64 (Int.tdiv (wrap64 ((wrap64 (a0 + 719468)) - (wrap64 ((wrap64 (Int.tdiv (wrap64 (a0 + 719468)) 146097)) * 146097)))) 1460)))) + (wrap64 (Int.tdiv (wrap64 ((wrap64 (a0 + 719468)) - (wrap64 ((wrap64 (Int.tdiv (wrap64 (a0 + 719468)) 146097)) * 146097)))) 36524)))) - (wrap64 (Int.tdiv (wrap64 ((wrap64 (a0 + 719468)) - (wrap64 ((wrap64 (Int.tdiv (wrap64 (a0 + 719468)) 146097)) * 146097)))) 146096)))) 365)) 4)))) - (wrap64 (Int.tdiv (wrap64 (Int.tdiv (wrap64 ((wrap64 ((wrap64 ((wrap64 ((wrap64 (a0 + 719468)) - (wrap64 ((wrap64 (Int.tdiv (wrap64 (a0 + 719468)) 146097)) * 146097)))) - (wrap64 (Int.tdiv (wrap64 ((wrap64 (a0 + 719468)) - (wrap64 ((wrap64 (Int.tdiv (wrap64 (a0 + 719468)) 146097)) * 146097)))) 1460)))) + (wrap64 (Int.tdiv (wrap64 ((wrap64 (a0 + 719468)) - (wrap64 ((wrap64 (Int.tdiv (wrap64 (a0 + 719468)) 146097)) * 146097)))) 36524)))) - (wrap64 (Int.tdiv (wrap64 ((wrap64 (a0 + 719468)) - (wrap64 ((wrap64 (Int.tdiv (wrap64 (a0 + 719468)) 146097)) * 146097)))) 146096)))) 365)) 100)))))))) + 2)) 153)) + 3))) = true := decide_eq_true c2
    clear c2
    simp only [Option.some.injEq, Prod.mk.injEq] at H
    obtain ⟨rfl, rfl, rfl⟩ := H
    go_enter Try.func13, Try.ntmps13
    go_wp2
    go_ret3
    exact ⟨by first | rfl | (simp; done) | (simp [*]; done), by repeat (first | exact Drawn0.refl _ | apply Drawn0.step)⟩
  · rw [if_neg c2] at H
    have c2b0 : decide (12 < (wrap64 ((wrap64 (Int.tdiv (wrap64 ((wrap64 (5 * (wrap64 ((wrap64 ((wrap64 (a0 + 719468)) - (wrap64 ((wrap64 (Int.tdiv (wrap64 (a0 + 719468)) 146097)) * 146097)))) - (wrap64 ((wrap64 ((wrap64 (365 * (wrap64 (Int.tdiv (wrap64 ((wrap64 ((wrap64 ((wrap64 ((wrap64 (a0 + 719468)) - (wrap64 ((wrap64 (Int.tdiv (wrap64 (a0 + 719468)) 146097)) * 146097)))) - (wrap64 (Int.tdiv (wrap64 ((wrap64 (a0 + 719468)) - (wrap64 ((wrap64 (Int.tdiv (wrap64 (a0 + 719468)) 146097)) * 146097)))) 1460)))) + (wrap64 (Int.tdiv (wrap64 ((wrap64 (a0 + 719468)) - (wrap64 ((wrap64 (Int.tdiv (wrap64 (a0 + 719468)) 146097)) * 146097)))) 36524)))) - (wrap64 (Int.tdiv (wrap64 ((wrap64 (a0 + 719468)) - (wrap64 ((wrap64 (Int.tdiv (wrap64 (a0 + 719468)) 146097)) * 146097)))) 146096)))) 365)))) + (wrap64 (Int.tdiv (wrap64 (Int.tdiv (wrap64 ((wrap64 ((wrap64 ((wrap64 ((wrap64 (a0 + 719468)) - (wrap64 ((wrap64 (Int.tdiv (wrap64 (a0 + 719468)) 146097)) * 146097)))) - (wrap64 (Int.tdiv (wrap64 ((wrap64 (a0 + 719468)) - (wrap64 ((wrap64 (Int.tdiv (wrap64 (a0 + 719468)) 146097)) * 146097)))) 1460)))) + (wrap64 (Int.tdiv (wrap64 ((wrap64 (a0 + 719468)) - (wrap64 ((wrap64 (Int.tdiv (wrap64 (a0 + 719468)) 146097)) * 146097)))) 36524)))) - (wrap64 (Int.tdiv (wrap64 ((wrap64 (a0 + 719468)) - (wrap64 ((wrap64 (Int.tdiv (wrap64 (a0 + 719468)) 146097)) * 146097)))) 146096)))) 365)) 4)))) - (wrap64 (Int.tdiv (wrap64 (Int.tdiv (wrap64 ((wrap64 ((wrap64 ((wrap64 ((wrap64 (a0 + 719468)) - (wrap64 ((wrap64 (Int.tdiv (wrap64 (a0 + 719468)) 146097)) * 146097)))) - (wrap64 (Int.tdiv (wrap64 ((wrap64 (a0 + 719468)) - (wrap64 ((wrap64 (Int.tdiv (wrap64 (a0 + 719468)) 146097)) * 146097)))) 1460)))) + (wrap64 (Int.tdiv (wrap64 ((wrap64 (a0 + 719468)) - (wrap64 ((wrap64 (Int.tdiv (wrap64 (a0 + 719468)) 146097)) * 146097)))) 36524)))) - (wrap64 (Int.tdiv (wrap64 ((wrap64 (a0 + 719468)) - (wrap64 ((wrap64 (Int.tdiv (wrap64 (a0 + 719468)) 146097)) * 146097)))) 146096)))) 365)) 100)))))))) + 2)) 153)) + 3))) = false := decide_eq_false c2
    clear c2
    simp only [Option.some.injEq, Prod.mk.injEq] at H
    obtain ⟨rfl, rfl, rfl⟩ := H
    go_enter Try.func13, Try.ntmps13
    go_wp2
    go_ret3
    exact ⟨by first | rfl | (simp; done) | (simp [*]; done), by repeat (first | exact Drawn0.refl _ | apply Drawn0.step)⟩

/-! ### date_Day: function 5 -/
def date_Day.j0 : Nat → Int → Int → Int → Bool → Option (Int × Int)
  | 0, _, _, _, _ => none
  | k + 1, x0, x1, x2, x33 => if x33 = true then (some (0, 1)) else ((date_number.f x0 x1 x2).bind fun t101 => ((date_civil.f t101).bind fun bt102 => (if bt102.2.1 = x1 then (some (t101, 0)) else (some (0, 1)))))
def date_Day.f (k : Nat) (a0 : Int) (a1 : Int) (a2 : Int) : Option (Int × Int) := if a0 < 1 then (date_Day.j0 k a0 a1 a2 true) else (if a0 > 9999 then (date_Day.j0 k a0 a1 a2 true) else (if a1 < 1 then (date_Day.j0 k a0 a1 a2 true) else (if a1 > 12 then (date_Day.j0 k a0 a1 a2 true) else (if a2 < 1 then (date_Day.j0 k a0 a1 a2 true) else (date_Day.j0 k a0 a1 a2 (decide (a2 > 31)))))))
theorem date_Day.mono_l : ∀ k, (∀ y0 y1 y2 y3, LeO (date_Day.j0 k y0 y1 y2 y3) (date_Day.j0 (k + 1) y0 y1 y2 y3))
  | 0 => fun _ _ _ _ r h => by simp [date_Day.j0] at h
  | k + 1 => by
    have ih0 := date_Day.mono_l k
    · intro y0 y1 y2 y3
      unfold date_Day.j0
      repeat' first
      | (with_reducible exact ih0 _ _ _ _)
      | (with_reducible exact LeO.refl _)
      | (with_reducible exact LeO.none _)
      | (with_reducible refine LeO.ite ?_ ?_)
      | (with_reducible refine LeO.bind ?_ (fun _ => ?_))
      | exact ih0 _ _ _ _
      | exact LeO.none _
      | refine LeO.ite ?_ ?_
      | refine LeO.bind ?_ (fun _ => ?_)
theorem date_Day.mono : ∀ a0 a1 a2 k, LeO (date_Day.f k a0 a1 a2) (date_Day.f (k + 1) a0 a1 a2) := by
  intro a0 a1 a2 k
  have ih0 := date_Day.mono_l k
  unfold date_Day.f
  repeat' first
      | (with_reducible exact ih0 _ _ _ _)
      | (with_reducible exact LeO.refl _)
      | (with_reducible exact LeO.none _)
      | (with_reducible refine LeO.ite ?_ ?_)
      | (with_reducible refine LeO.bind ?_ (fun _ => ?_))
      | exact ih0 _ _ _ _
      | exact LeO.none _
      | refine LeO.ite ?_ ?_
      | refine LeO.bind ?_ (fun _ => ?_)
set_option maxHeartbeats 8000000 in
set_option maxRecDepth 100000 in
theorem date_Day.calls (k : Nat) (a0 : Int) (a1 : Int) (a2 : Int) (r1 : Int) (r2 : Int) (w : World) (h : date_Day.f k a0 a1 a2 = some (r1, r2)) :
    Calls Try.prog 5 #[.int .i64 a0, .int .i64 a1, .int .i64 a2] w fun e w' => e = .returned (.tuple #[.int .i64 r1, .int .i64 r2]) ∧ Drawn0 w w' := by
  have H : (if a0 < 1 then (date_Day.j0 k a0 a1 a2 true) else (if a0 > 9999 then (date_Day.j0 k a0 a1 a2 true) else (if a1 < 1 then (date_Day.j0 k a0 a1 a2 true) else (if a1 > 12 then (date_Day.j0 k a0 a1 a2 true) else (if a2 < 1 then (date_Day.j0 k a0 a1 a2 true) else (date_Day.j0 k a0 a1 a2 (decide (a2 > 31)))))))) = some (r1, r2) := h
  clear h
  have HC4 := Aside0.mk H
  clear H
  go_enter Try.func5, Try.ntmps5
  go_upto_region 1 with (fail)
  go_cut [33] (fun v33 wc => ∃ (kq : Nat) (x33_3 : Bool), v33 = .bool x33_3 ∧ Aside0 (date_Day.j0 kq a0 a1 a2 x33_3 = some (r1, r2)) ∧ Aside0 (kq ≤ k) ∧ Drawn0 w wc)
  case first =>
    have H := HC4.out
    clear HC4
    by_cases c5 : a0 < 1
    · rw [if_pos c5] at H
      have c5b0 : decide (a0 < 1) = true := decide_eq_true c5
      clear c5
      (first | rw [c5b0] | (simp only [i64_w, i32_w]; rw [c5b0]) | skip)
      have H' := Aside0.mk H
      clear H
      go_wp2
      go_meet
      case rel => exact ⟨_, (true), (by first | rfl | (simp; done) | (simp [*]; done)), H', ⟨by first | omega | exact Nat.le_refl _⟩, by repeat (first | exact Drawn0.refl _ | apply Drawn0.step)⟩
    · rw [if_neg c5] at H
      have c5b0 : decide (a0 < 1) = false := decide_eq_false c5
      clear c5
      (first | rw [c5b0] | (simp only [i64_w, i32_w]; rw [c5b0]) | skip)
      by_cases c6 : a0 > 9999
      · rw [if_pos c6] at H
        have c6b0 : decide (9999 < a0) = true := decide_eq_true c6
        clear c6
        have H' := Aside0.mk H
        clear H
        go_wp2
        go_meet
        case rel => exact ⟨_, (true), (by first | rfl | (simp; done) | (simp [*]; done)), H', ⟨by first | omega | exact Nat.le_refl _⟩, by repeat (first | exact Drawn0.refl _ | apply Drawn0.step)⟩
      · rw [if_neg c6] at H
        have c6b0 : decide (9999 < a0) = false := decide_eq_false c6
        clear c6
        by_cases c7 : a1 < 1
        · rw [if_pos c7] at H
          have c7b0 : decide (a1 < 1) = true := decide_eq_true c7
          clear c7
          have H' := Aside0.mk H
          clear H
          go_wp2
          go_meet
          case rel => exact ⟨_, (true), (by first | rfl | (simp; done) | (simp [*]; done)), H', ⟨by first | omega | exact Nat.le_refl _⟩, by repeat (first | exact Drawn0.refl _ | apply Drawn0.step)⟩
        · rw [if_neg c7] at H
          have c7b0 : decide (a1 < 1) = false := decide_eq_false c7
          clear c7
          by_cases c8 : a1 > 12
          · rw [if_pos c8] at H
            have c8b0 : decide (12 < a1) = true := decide_eq_true c8
            clear c8
            have H' := Aside0.mk H
            clear H
            go_wp2
            go_meet
            case rel => exact ⟨_, (true), (by first | rfl | (simp; done) | (simp [*]; done)), H', ⟨by first | omega | exact Nat.le_refl _⟩, by repeat (first | exact Drawn0.refl _ | apply Drawn0.step)⟩
          · rw [if_neg c8] at H
            have c8b0 : decide (12 < a1) = false := decide_eq_false c8
            clear c8
            by_cases c9 : a2 < 1
            · rw [if_pos c9] at H
              have c9b0 : decide (a2 < 1) = true := decide_eq_true c9
              clear c9
              have H' := Aside0.mk H
              clear H
              go_wp2
              go_meet
              case rel => exact ⟨_, (true), (by first | rfl | (simp; done) | (simp [*]; done)), H', ⟨by first | omega | exact Nat.le_refl _⟩, by repeat (first | exact Drawn0.refl _ | apply Drawn0.step)⟩
            · rw [if_neg c9] at H
              have c9b0 : decide (a2 < 1) = false := decide_eq_false c9
              clear c9
              have H' := Aside0.mk H
              clear H
              go_wp2
              go_meet
              case rel => exact ⟨_, (decide (a2 > 31)), (by first | rfl | (simp; done) | (simp [*]; done)), H', ⟨by first | omega | exact Nat.le_refl _⟩, by repeat (first | exact Drawn0.refl _ | apply Drawn0.step)⟩
  case rest =>
    clear HC4
    try clear p2
    try clear c5
    try clear c5b0
    try clear c6
    try clear c6b0
    try clear c7
    try clear c7b0
    try clear c8
    try clear c8b0
    try clear c9
    try clear c9b0
    obtain ⟨kq, x33_3, rfl, HA, HJ3, ⟨mc3, rfl⟩⟩ := hcut
    cases kq with
    | zero => exact absurd HA.out (by simp [date_Day.j0])
    | succ kj3 =>
      have H := HA.out
      clear HA
      simp only [date_Day.j0] at H
      by_cases c10 : x33_3 = true
      · subst c10
        have H1 : (some (0, 1)) = some (r1, r2) := by rw [if_pos rfl] at H; exact H
        clear H
        have H := H1
        clear H1
        simp only [Option.some.injEq, Prod.mk.injEq] at H
        obtain ⟨rfl, rfl⟩ := H
        go_wp2
        go_ret2
        exact ⟨by first | rfl | (simp; done) | (simp [*]; done), by repeat (first | exact Drawn0.refl _ | apply Drawn0.step)⟩
      · replace c10 := Bool.eq_false_iff.mpr c10
        subst c10
        have H1 : ((date_number.f a0 a1 a2).bind fun t101 => ((date_civil.f t101).bind fun bt102 => (if bt102.2.1 = a1 then (some (t101, 0)) else (some (0, 1))))) = some (r1, r2) := by rw [if_neg (show ¬ (false = true) by decide)] at H; exact H
        clear H
        have H := H1
        clear H1
        replace H := Option.bind_eq_some_iff.mp H
        obtain ⟨t101, A110, H⟩ := H
        replace H : ((date_civil.f t101).bind fun bt102 => (if bt102.2.1 = a1 then (some (t101, 0)) else (some (0, 1)))) = some (r1, r2) := H
        have A11 := Aside0.mk A110
        clear A110
        replace H := Option.bind_eq_some_iff.mp H
        obtain ⟨⟨t102, t103, t104⟩, A120, H⟩ := H
        replace H : (if t103 = a1 then (some (t101, 0)) else (some (0, 1))) = some (r1, r2) := H
        have A12 := Aside0.mk A120
        clear A120
        by_cases c13 : t103 = a1
        · rw [if_pos c13] at H
          have c13b0 : (t103 == a1) = true := beq_iff_eq.mpr c13
          have c13b1 : (t103 != a1) = false := bne_eq_false_iff_eq.mpr c13
          clear c13
          simp only [Option.some.injEq, Prod.mk.injEq] at H
          obtain ⟨rfl, rfl⟩ := H
          go_wp2_with (first | ((with_reducible refine gate_callee (f := 12) rfl ?_); refine goesL_ (some 37) rfl rfl Try.func12 (by kernel_rfl) rfl #[.int .i64 a0, .int .i64 a1, .int .i64 a2] rfl (by (try simp only [List.map_toArray, List.map_cons, List.map_nil]); first | done | rfl | (simp only [List.length_drop, List.length_take]; rfl)) ?_; (with_reducible refine (date_number.calls a0 a1 a2 t101 _ A11.out).mono ?_); rintro e w' ⟨rfl, ⟨nd, rfl⟩⟩; refine ⟨_, rfl, ?_⟩) | ((with_reducible refine gate_callee (f := 13) rfl ?_); refine goesL_ (some 40) rfl rfl Try.func13 (by kernel_rfl) rfl #[.int .i64 t101] rfl (by (try simp only [List.map_toArray, List.map_cons, List.map_nil]); first | done | rfl | (simp only [List.length_drop, List.length_take]; rfl)) ?_; (with_reducible refine (date_civil.calls t101 t102 t103 t104 _ A12.out).mono ?_); rintro e w' ⟨rfl, ⟨nd, rfl⟩⟩; refine ⟨_, rfl, ?_⟩))
          go_ret2
          exact ⟨by first | rfl | (simp; done) | (simp [*]; done), by repeat (first | exact Drawn0.refl _ | apply Drawn0.step)⟩
        · rw [if_neg c13] at H
          have c13b0 : (t103 == a1) = false := beq_eq_false_iff_ne.mpr c13
          have c13b1 : (t103 != a1) = true := bne_iff_ne.mpr c13
          simp only [Option.some.injEq, Prod.mk.injEq] at H
          obtain ⟨rfl, rfl⟩ := H
          go_wp2_with (first | ((with_reducible refine gate_callee (f := 12) rfl ?_); refine goesL_ (some 37) rfl rfl Try.func12 (by kernel_rfl) rfl #[.int .i64 a0, .int .i64 a1, .int .i64 a2] rfl (by (try simp only [List.map_toArray, List.map_cons, List.map_nil]); first | done | rfl | (simp only [List.length_drop, List.length_take]; rfl)) ?_; (with_reducible refine (date_number.calls a0 a1 a2 t101 _ A11.out).mono ?_); rintro e w' ⟨rfl, ⟨nd, rfl⟩⟩; refine ⟨_, rfl, ?_⟩) | ((with_reducible refine gate_callee (f := 13) rfl ?_); refine goesL_ (some 40) rfl rfl Try.func13 (by kernel_rfl) rfl #[.int .i64 t101] rfl (by (try simp only [List.map_toArray, List.map_cons, List.map_nil]); first | done | rfl | (simp only [List.length_drop, List.length_take]; rfl)) ?_; (with_reducible refine (date_civil.calls t101 t102 t103 t104 _ A12.out).mono ?_); rintro e w' ⟨rfl, ⟨nd, rfl⟩⟩; refine ⟨_, rfl, ?_⟩))
          go_ret2
          exact ⟨by first | rfl | (simp; done) | (simp [*]; done), by repeat (first | exact Drawn0.refl _ | apply Drawn0.step)⟩

/-! ### missiveref10_leap: function 17 -/
def missiveref10_leap.f (a0 : Int) : Option (Bool) := if (Int.tmod a0 4) = 0 then (if (Int.tmod a0 100) = 0 then (some ((Int.tmod a0 400) == 0)) else (some true)) else (some ((Int.tmod a0 400) == 0))
set_option maxHeartbeats 8000000 in
set_option maxRecDepth 100000 in
theorem missiveref10_leap.calls (a0 : Int) (r : Bool) (w : World) (h : missiveref10_leap.f a0 = some r) :
    Calls Try.prog 17 #[.int .i64 a0] w fun e w' => e = .returned (.bool r) ∧ Drawn0 w w' := by
  have H : (if (Int.tmod a0 4) = 0 then (if (Int.tmod a0 100) = 0 then (some ((Int.tmod a0 400) == 0)) else (some true)) else (some ((Int.tmod a0 400) == 0))) = some r := h
  clear h
  by_cases c2 : (Int.tmod a0 4) = 0
  · rw [if_pos c2] at H
    have c2b0 : ((Int.tmod a0 4) == 0) = true := beq_iff_eq.mpr c2
    have c2b1 : ((Int.tmod a0 4) != 0) = false := bne_eq_false_iff_eq.mpr c2
    clear c2
    by_cases c3 : (Int.tmod a0 100) = 0
    · rw [if_pos c3] at H
      have c3b0 : ((Int.tmod a0 100) == 0) = true := beq_iff_eq.mpr c3
      have c3b1 : ((Int.tmod a0 100) != 0) = false := bne_eq_false_iff_eq.mpr c3
      clear c3
      obtain rfl := Option.some.inj H
      go_enter Try.func17, Try.ntmps17
      go_wp2
      go_ret
      exact ⟨by first | rfl | (simp; done) | (simp [*]; done), by repeat (first | exact Drawn0.refl _ | apply Drawn0.step)⟩
    · rw [if_neg c3] at H
      have c3b0 : ((Int.tmod a0 100) == 0) = false := beq_eq_false_iff_ne.mpr c3
      have c3b1 : ((Int.tmod a0 100) != 0) = true := bne_iff_ne.mpr c3
      obtain rfl := Option.some.inj H
      go_enter Try.func17, Try.ntmps17
      go_wp2
      go_ret
      exact ⟨by first | rfl | (simp; done) | (simp [*]; done), by repeat (first | exact Drawn0.refl _ | apply Drawn0.step)⟩
  · rw [if_neg c2] at H
    have c2b0 : ((Int.tmod a0 4) == 0) = false := beq_eq_false_iff_ne.mpr c2
    have c2b1 : ((Int.tmod a0 4) != 0) = true := bne_iff_ne.mpr c2
    obtain rfl := Option.some.inj H
    go_enter Try.func17, Try.ntmps17
    go_wp2
    go_ret
    exact ⟨by first | rfl | (simp; done) | (simp [*]; done), by repeat (first | exact Drawn0.refl _ | apply Drawn0.step)⟩

/-! ### missiveref10_long: function 14 -/
def missiveref10_long.f (a0 : Int) (a1 : Int) : Option (Int) := if a1 = 2 then ((missiveref10_leap.f a0).bind fun t105 => (if t105 = true then (some 29) else (some 28))) else (if a1 = 4 then (some 30) else (if a1 = 6 then (some 30) else (if a1 = 9 then (some 30) else (if a1 = 11 then (some 30) else (some 31)))))
set_option maxHeartbeats 8000000 in
set_option maxRecDepth 100000 in
theorem missiveref10_long.calls (a0 : Int) (a1 : Int) (r : Int) (w : World) (h : missiveref10_long.f a0 a1 = some r) :
    Calls Try.prog 14 #[.int .i64 a0, .int .i64 a1] w fun e w' => e = .returned (.int .i64 r) ∧ Drawn0 w w' := by
  have H : (if a1 = 2 then ((missiveref10_leap.f a0).bind fun t105 => (if t105 = true then (some 29) else (some 28))) else (if a1 = 4 then (some 30) else (if a1 = 6 then (some 30) else (if a1 = 9 then (some 30) else (if a1 = 11 then (some 30) else (some 31)))))) = some r := h
  clear h
  by_cases c3 : a1 = 2
  · rw [if_pos c3] at H
    have c3b0 : (a1 == 2) = true := beq_iff_eq.mpr c3
    have c3b1 : (a1 != 2) = false := bne_eq_false_iff_eq.mpr c3
    clear c3
    replace H := Option.bind_eq_some_iff.mp H
    obtain ⟨t105, A40, H⟩ := H
    replace H : (if t105 = true then (some 29) else (some 28)) = some r := H
    have A4 := Aside0.mk A40
    clear A40
    by_cases c5 : t105 = true
    · subst c5
      have H1 : (some 29) = some r := by rw [if_pos rfl] at H; exact H
      clear H
      have H := H1
      clear H1
      obtain rfl := Option.some.inj H
      go_enter Try.func14, Try.ntmps14
      go_wp2_with (first | ((with_reducible refine gate_callee (f := 17) rfl ?_); refine goesL_ (some 9) rfl rfl Try.func17 (by kernel_rfl) rfl #[.int .i64 a0] rfl (by (try simp only [List.map_toArray, List.map_cons, List.map_nil]); first | done | rfl | (simp only [List.length_drop, List.length_take]; rfl)) ?_; (with_reducible refine (missiveref10_leap.calls a0 true _ A4.out).mono ?_); rintro e w' ⟨rfl, ⟨nd, rfl⟩⟩; refine ⟨_, rfl, ?_⟩))
      go_ret
      exact ⟨by first | rfl | (simp; done) | (simp [*]; done), by repeat (first | exact Drawn0.refl _ | apply Drawn0.step)⟩
    · replace c5 := Bool.eq_false_iff.mpr c5
      subst c5
      have H1 : (some 28) = some r := by rw [if_neg (show ¬ (false = true) by decide)] at H; exact H
      clear H
      have H := H1
      clear H1
      obtain rfl := Option.some.inj H
      go_enter Try.func14, Try.ntmps14
      go_wp2_with (first | ((with_reducible refine gate_callee (f := 17) rfl ?_); refine goesL_ (some 9) rfl rfl Try.func17 (by kernel_rfl) rfl #[.int .i64 a0] rfl (by (try simp only [List.map_toArray, List.map_cons, List.map_nil]); first | done | rfl | (simp only [List.length_drop, List.length_take]; rfl)) ?_; (with_reducible refine (missiveref10_leap.calls a0 false _ A4.out).mono ?_); rintro e w' ⟨rfl, ⟨nd, rfl⟩⟩; refine ⟨_, rfl, ?_⟩))
      go_ret
      exact ⟨by first | rfl | (simp; done) | (simp [*]; done), by repeat (first | exact Drawn0.refl _ | apply Drawn0.step)⟩
  · rw [if_neg c3] at H
    have c3b0 : (a1 == 2) = false := beq_eq_false_iff_ne.mpr c3
    have c3b1 : (a1 != 2) = true := bne_iff_ne.mpr c3
    by_cases c6 : a1 = 4
    · rw [if_pos c6] at H
      have c6b0 : (a1 == 4) = true := beq_iff_eq.mpr c6
      have c6b1 : (a1 != 4) = false := bne_eq_false_iff_eq.mpr c6
      clear c6
      obtain rfl := Option.some.inj H
      go_enter Try.func14, Try.ntmps14
      go_wp2
      go_ret
      exact ⟨by first | rfl | (simp; done) | (simp [*]; done), by repeat (first | exact Drawn0.refl _ | apply Drawn0.step)⟩
    · rw [if_neg c6] at H
      have c6b0 : (a1 == 4) = false := beq_eq_false_iff_ne.mpr c6
      have c6b1 : (a1 != 4) = true := bne_iff_ne.mpr c6
      by_cases c7 : a1 = 6
      · rw [if_pos c7] at H
        have c7b0 : (a1 == 6) = true := beq_iff_eq.mpr c7
        have c7b1 : (a1 != 6) = false := bne_eq_false_iff_eq.mpr c7
        clear c7
        obtain rfl := Option.some.inj H
        go_enter Try.func14, Try.ntmps14
        go_wp2
        go_ret
        exact ⟨by first | rfl | (simp; done) | (simp [*]; done), by repeat (first | exact Drawn0.refl _ | apply Drawn0.step)⟩
      · rw [if_neg c7] at H
        have c7b0 : (a1 == 6) = false := beq_eq_false_iff_ne.mpr c7
        have c7b1 : (a1 != 6) = true := bne_iff_ne.mpr c7
        by_cases c8 : a1 = 9
        · rw [if_pos c8] at H
          have c8b0 : (a1 == 9) = true := beq_iff_eq.mpr c8
          have c8b1 : (a1 != 9) = false := bne_eq_false_iff_eq.mpr c8
          clear c8
          obtain rfl := Option.some.inj H
          go_enter Try.func14, Try.ntmps14
          go_wp2
          go_ret
          exact ⟨by first | rfl | (simp; done) | (simp [*]; done), by repeat (first | exact Drawn0.refl _ | apply Drawn0.step)⟩
        · rw [if_neg c8] at H
          have c8b0 : (a1 == 9) = false := beq_eq_false_iff_ne.mpr c8
          have c8b1 : (a1 != 9) = true := bne_iff_ne.mpr c8
          by_cases c9 : a1 = 11
          · rw [if_pos c9] at H
            have c9b0 : (a1 == 11) = true := beq_iff_eq.mpr c9
            have c9b1 : (a1 != 11) = false := bne_eq_false_iff_eq.mpr c9
            clear c9
            obtain rfl := Option.some.inj H
            go_enter Try.func14, Try.ntmps14
            go_wp2
            go_ret
            exact ⟨by first | rfl | (simp; done) | (simp [*]; done), by repeat (first | exact Drawn0.refl _ | apply Drawn0.step)⟩
          · rw [if_neg c9] at H
            have c9b0 : (a1 == 11) = false := beq_eq_false_iff_ne.mpr c9
            have c9b1 : (a1 != 11) = true := bne_iff_ne.mpr c9
            obtain rfl := Option.some.inj H
            go_enter Try.func14, Try.ntmps14
            go_wp2
            go_ret
            exact ⟨by first | rfl | (simp; done) | (simp [*]; done), by repeat (first | exact Drawn0.refl _ | apply Drawn0.step)⟩

/-! ### missiveref10_ahead: function 15 -/
def missiveref10_ahead.f (a0 : Int) : Option (Int) := some (wrap64 ((wrap64 ((wrap64 ((wrap64 (365 * (wrap64 (a0 - 1)))) + (wrap64 (Int.tdiv (wrap64 (a0 - 1)) 4)))) - (wrap64 (Int.tdiv (wrap64 (a0 - 1)) 100)))) + (wrap64 (Int.tdiv (wrap64 (a0 - 1)) 400))))
set_option maxHeartbeats 8000000 in
set_option maxRecDepth 100000 in
theorem missiveref10_ahead.calls (a0 : Int) (r : Int) (w : World) (h : missiveref10_ahead.f a0 = some r) :
    Calls Try.prog 15 #[.int .i64 a0] w fun e w' => e = .returned (.int .i64 r) ∧ Drawn0 w w' := by
  have H : (some (wrap64 ((wrap64 ((wrap64 ((wrap64 (365 * (wrap64 (a0 - 1)))) + (wrap64 (Int.tdiv (wrap64 (a0 - 1)) 4)))) - (wrap64 (Int.tdiv (wrap64 (a0 - 1)) 100)))) + (wrap64 (Int.tdiv (wrap64 (a0 - 1)) 400))))) = some r := h
  clear h
  obtain rfl := Option.some.inj H
  go_enter Try.func15, Try.ntmps15
  go_wp2
  go_ret
  exact ⟨by first | rfl | (simp; done) | (simp [*]; done), by repeat (first | exact Drawn0.refl _ | apply Drawn0.step)⟩

/-! ### missiveref10_Day: function 6 -/
mutual
def missiveref10_Day.j0 : Nat → Int → Int → Int → Bool → Option (Int × Int)
  | 0, _, _, _, _ => none
  | k + 1, x0, x1, x2, x34 => if x34 = true then (some (0, 1)) else ((missiveref10_ahead.f x0).bind fun t107 => (missiveref10_Day.l0 k x0 x1 (wrap64 ((wrap64 ((wrap64 ((-719162) + t107)) + x2)) - 1)) 1))
def missiveref10_Day.l0 : Nat → Int → Int → Int → Int → Option (Int × Int)
  | 0, _, _, _, _ => none
  | k + 1, x0, x1, x8, x9 => if x9 < x1 then ((missiveref10_long.f x0 x9).bind fun t108 => (missiveref10_Day.l0 k x0 x1 (wrap64 (x8 + t108)) (wrap64 (x9 + 1)))) else (some (x8, 0))
end
def missiveref10_Day.f (k : Nat) (a0 : Int) (a1 : Int) (a2 : Int) : Option (Int × Int) := if a0 < 1 then (missiveref10_Day.j0 k a0 a1 a2 true) else (if a0 > 9999 then (missiveref10_Day.j0 k a0 a1 a2 true) else (if a1 < 1 then (missiveref10_Day.j0 k a0 a1 a2 true) else (if a1 > 12 then (missiveref10_Day.j0 k a0 a1 a2 true) else (if a2 < 1 then (missiveref10_Day.j0 k a0 a1 a2 true) else ((missiveref10_long.f a0 a1).bind fun t106 => (missiveref10_Day.j0 k a0 a1 a2 (decide (a2 > t106))))))))
theorem missiveref10_Day.mono_l : ∀ k, (∀ y0 y1 y2 y3, LeO (missiveref10_Day.j0 k y0 y1 y2 y3) (missiveref10_Day.j0 (k + 1) y0 y1 y2 y3)) ∧ (∀ y0 y1 y2 y3, LeO (missiveref10_Day.l0 k y0 y1 y2 y3) (missiveref10_Day.l0 (k + 1) y0 y1 y2 y3))
  | 0 => ⟨fun _ _ _ _ r h => by simp [missiveref10_Day.j0] at h, fun _ _ _ _ r h => by simp [missiveref10_Day.l0] at h⟩
  | k + 1 => by
    obtain ⟨ih0, ih1⟩ := missiveref10_Day.mono_l k
    refine ⟨?_, ?_⟩
    · intro y0 y1 y2 y3
      unfold missiveref10_Day.j0
      repeat' first
      | (with_reducible exact ih0 _ _ _ _)
      | (with_reducible exact ih1 _ _ _ _)
      | (with_reducible exact LeO.refl _)
      | (with_reducible exact LeO.none _)
      | (with_reducible refine LeO.ite ?_ ?_)
      | (with_reducible refine LeO.bind ?_ (fun _ => ?_))
      | exact ih0 _ _ _ _
      | exact ih1 _ _ _ _
      | exact LeO.none _
      | refine LeO.ite ?_ ?_
      | refine LeO.bind ?_ (fun _ => ?_)
    · intro y0 y1 y2 y3
      unfold missiveref10_Day.l0
      repeat' first
      | (with_reducible exact ih0 _ _ _ _)
      | (with_reducible exact ih1 _ _ _ _)
      | (with_reducible exact LeO.refl _)
      | (with_reducible exact LeO.none _)
      | (with_reducible refine LeO.ite ?_ ?_)
      | (with_reducible refine LeO.bind ?_ (fun _ => ?_))
      | exact ih0 _ _ _ _
      | exact ih1 _ _ _ _
      | exact LeO.none _
      | refine LeO.ite ?_ ?_
      | refine LeO.bind ?_ (fun _ => ?_)
theorem missiveref10_Day.mono : ∀ a0 a1 a2 k, LeO (missiveref10_Day.f k a0 a1 a2) (missiveref10_Day.f (k + 1) a0 a1 a2) := by
  intro a0 a1 a2 k
  obtain ⟨ih0, ih1⟩ := missiveref10_Day.mono_l k
  unfold missiveref10_Day.f
  repeat' first
      | (with_reducible exact ih0 _ _ _ _)
      | (with_reducible exact ih1 _ _ _ _)
      | (with_reducible exact LeO.refl _)
      | (with_reducible exact LeO.none _)
      | (with_reducible refine LeO.ite ?_ ?_)
      | (with_reducible refine LeO.bind ?_ (fun _ => ?_))
      | exact ih0 _ _ _ _
      | exact ih1 _ _ _ _
      | exact LeO.none _
      | refine LeO.ite ?_ ?_
      | refine LeO.bind ?_ (fun _ => ?_)
set_option maxHeartbeats 8000000 in
set_option maxRecDepth 100000 in
theorem missiveref10_Day.calls (k : Nat) (a0 : Int) (a1 : Int) (a2 : Int) (r1 : Int) (r2 : Int) (w : World) (h : missiveref10_Day.f k a0 a1 a2 = some (r1, r2)) :
    Calls Try.prog 6 #[.int .i64 a0, .int .i64 a1, .int .i64 a2] w fun e w' => e = .returned (.tuple #[.int .i64 r1, .int .i64 r2]) ∧ Drawn0 w w' := by
  have H : (if a0 < 1 then (missiveref10_Day.j0 k a0 a1 a2 true) else (if a0 > 9999 then (missiveref10_Day.j0 k a0 a1 a2 true) else (if a1 < 1 then (missiveref10_Day.j0 k a0 a1 a2 true) else (if a1 > 12 then (missiveref10_Day.j0 k a0 a1 a2 true) else (if a2 < 1 then (missiveref10_Day.j0 k a0 a1 a2 true) else ((missiveref10_long.f a0 a1).bind fun t106 => (missiveref10_Day.j0 k a0 a1 a2 (decide (a2 > t106))))))))) = some (r1, r2) := h
  clear h
  have HC4 := Aside0.mk H
  clear H
  go_enter Try.func6, Try.ntmps6
  go_upto_region 1 with (fail)
  go_cut [34] (fun v34 wc => ∃ (kq : Nat) (x34_3 : Bool), v34 = .bool x34_3 ∧ Aside0 (missiveref10_Day.j0 kq a0 a1 a2 x34_3 = some (r1, r2)) ∧ Aside0 (kq ≤ k) ∧ Drawn0 w wc)
  case first =>
    have H := HC4.out
    clear HC4
    by_cases c5 : a0 < 1
    · rw [if_pos c5] at H
      have c5b0 : decide (a0 < 1) = true := decide_eq_true c5
      clear c5
      (first | rw [c5b0] | (simp only [i64_w, i32_w]; rw [c5b0]) | skip)
      have H' := Aside0.mk H
      clear H
      go_wp2
      go_meet
      case rel => exact ⟨_, (true), (by first | rfl | (simp; done) | (simp [*]; done)), H', ⟨by first | omega | exact Nat.le_refl _⟩, by repeat (first | exact Drawn0.refl _ | apply Drawn0.step)⟩
    · rw [if_neg c5] at H
      have c5b0 : decide (a0 < 1) = false := decide_eq_false c5
      clear c5
      (first | rw [c5b0] | (simp only [i64_w, i32_w]; rw [c5b0]) | skip)
      by_cases c6 : a0 > 9999
      · rw [if_pos c6] at H
        have c6b0 : decide (9999 < a0) = true := decide_eq_true c6
        clear c6
        have H' := Aside0.mk H
        clear H
        go_wp2
        go_meet
        case rel => exact ⟨_, (true), (by first | rfl | (simp; done) | (simp [*]; done)), H', ⟨by first | omega | exact Nat.le_refl _⟩, by repeat (first | exact Drawn0.refl _ | apply Drawn0.step)⟩
      · rw [if_neg c6] at H
        have c6b0 : decide (9999 < a0) = false := decide_eq_false c6
        clear c6
        by_cases c7 : a1 < 1
        · rw [if_pos c7] at H
          have c7b0 : decide (a1 < 1) = true := decide_eq_true c7
          clear c7
          have H' := Aside0.mk H
          clear H
          go_wp2
          go_meet
          case rel => exact ⟨_, (true), (by first | rfl | (simp; done) | (simp [*]; done)), H', ⟨by first | omega | exact Nat.le_refl _⟩, by repeat (first | exact Drawn0.refl _ | apply Drawn0.step)⟩
        · rw [if_neg c7] at H
          have c7b0 : decide (a1 < 1) = false := decide_eq_false c7
          clear c7
          by_cases c8 : a1 > 12
          · rw [if_pos c8] at H
            have c8b0 : decide (12 < a1) = true := decide_eq_true c8
            clear c8
            have H' := Aside0.mk H
            clear H
            go_wp2
            go_meet
            case rel => exact ⟨_, (true), (by first | rfl | (simp; done) | (simp [*]; done)), H', ⟨by first | omega | exact Nat.le_refl _⟩, by repeat (first | exact Drawn0.refl _ | apply Drawn0.step)⟩
          · rw [if_neg c8] at H
            have c8b0 : decide (12 < a1) = false := decide_eq_false c8
            clear c8
            by_cases c9 : a2 < 1
            · rw [if_pos c9] at H
              have c9b0 : decide (a2 < 1) = true := decide_eq_true c9
              clear c9
              have H' := Aside0.mk H
              clear H
              go_wp2
              go_meet
              case rel => exact ⟨_, (true), (by first | rfl | (simp; done) | (simp [*]; done)), H', ⟨by first | omega | exact Nat.le_refl _⟩, by repeat (first | exact Drawn0.refl _ | apply Drawn0.step)⟩
            · rw [if_neg c9] at H
              have c9b0 : decide (a2 < 1) = false := decide_eq_false c9
              clear c9
              replace H := Option.bind_eq_some_iff.mp H
              obtain ⟨t106, A100, H⟩ := H
              replace H : (missiveref10_Day.j0 k a0 a1 a2 (decide (a2 > t106))) = some (r1, r2) := H
              have A10 := Aside0.mk A100
              clear A100
              have H' := Aside0.mk H
              clear H
              go_wp2_with (first | (go_at_call 14; (with_reducible refine (missiveref10_long.calls a0 a1 t106 _ A10.out).mono ?_); rintro e w' ⟨rfl, ⟨nd, rfl⟩⟩))
              go_meet
              case rel => exact ⟨_, (decide (a2 > t106)), (by first | rfl | (simp; done) | (simp [*]; done)), H', ⟨by first | omega | exact Nat.le_refl _⟩, by repeat (first | exact Drawn0.refl _ | apply Drawn0.step)⟩
  case rest =>
    clear HC4
    try clear p2
    try clear c5
    try clear c5b0
    try clear c6
    try clear c6b0
    try clear c7
    try clear c7b0
    try clear c8
    try clear c8b0
    try clear c9
    try clear c9b0
    obtain ⟨kq, x34_3, rfl, HA, HJ3, ⟨mc3, rfl⟩⟩ := hcut
    cases kq with
    | zero => exact absurd HA.out (by simp [missiveref10_Day.j0])
    | succ kj3 =>
      have H := HA.out
      clear HA
      simp only [missiveref10_Day.j0] at H
      by_cases c11 : x34_3 = true
      · subst c11
        have H1 : (some (0, 1)) = some (r1, r2) := by rw [if_pos rfl] at H; exact H
        clear H
        have H := H1
        clear H1
        simp only [Option.some.injEq, Prod.mk.injEq] at H
        obtain ⟨rfl, rfl⟩ := H
        go_wp2
        go_ret2
        exact ⟨by first | rfl | (simp; done) | (simp [*]; done), by repeat (first | exact Drawn0.refl _ | apply Drawn0.step)⟩
      · replace c11 := Bool.eq_false_iff.mpr c11
        subst c11
        have H1 : ((missiveref10_ahead.f a0).bind fun t107 => (missiveref10_Day.l0 kj3 a0 a1 (wrap64 ((wrap64 ((wrap64 ((-719162) + t107)) + a2)) - 1)) 1)) = some (r1, r2) := by rw [if_neg (show ¬ (false = true) by decide)] at H; exact H
        clear H
        have H := H1
        clear H1
        replace H := Option.bind_eq_some_iff.mp H
        obtain ⟨t107, A120, H⟩ := H
        replace H : (missiveref10_Day.l0 kj3 a0 a1 (wrap64 ((wrap64 ((wrap64 ((-719162) + t107)) + a2)) - 1)) 1) = some (r1, r2) := H
        have A12 := Aside0.mk A120
        clear A120
        have H' := Aside0.mk H
        clear H
        go_wp2_with (first | ((with_reducible refine gate_callee (f := 15) rfl ?_); refine goesL_ (some 36) rfl rfl Try.func15 (by kernel_rfl) rfl #[.int .i64 a0] rfl (by (try simp only [List.map_toArray, List.map_cons, List.map_nil]); first | done | rfl | (simp only [List.length_drop, List.length_take]; rfl)) ?_; (with_reducible refine (missiveref10_ahead.calls a0 t107 _ A12.out).mono ?_); rintro e w' ⟨rfl, ⟨nd, rfl⟩⟩; refine ⟨_, rfl, ?_⟩))
        go_loopg [8, 9] kj3 (fun kq v8 v9 w' => ∃ (x8_2 : Int) (x9_2 : Int), v8 = .int .i64 x8_2 ∧ v9 = .int .i64 x9_2 ∧ Aside0 (missiveref10_Day.l0 kq a0 a1 x8_2 x9_2 = some (r1, r2)) ∧ Aside0 (kq ≤ kj3) ∧ Drawn0 w w')
        case atStart => exact ⟨(wrap64 ((wrap64 ((wrap64 ((-719162) + t107)) + a2)) - 1)), (1), (by first | rfl | (simp; done) | (simp [*]; done)), (by first | rfl | (simp; done) | (simp [*]; done)), H', ⟨Nat.le_refl _⟩, by repeat (first | exact Drawn0.refl _ | apply Drawn0.step)⟩
        case round =>
          clear H'
          try clear c1
          try clear p2
          try clear c3
          try clear c5
          try clear c5b0
          try clear c6
          try clear c6b0
          try clear p6
          try clear c7
          try clear c7b0
          try clear c8
          try clear c8b0
          try clear c9
          try clear c9b0
          try clear c11
          try clear p2
          obtain ⟨x8_2, x9_2, rfl, rfl, HA, HK2, ⟨m2, rfl⟩⟩ := hrel
          cases gk with
          | zero => exact absurd HA.out (by simp [missiveref10_Day.l0])
          | succ k2 =>
            have H := HA.out
            clear HA
            simp only [missiveref10_Day.l0] at H
            by_cases c13 : x9_2 < a1
            · rw [if_pos c13] at H
              have c13b0 : decide (x9_2 < a1) = true := decide_eq_true c13
              clear c13
              replace H := Option.bind_eq_some_iff.mp H
              obtain ⟨t108, A140, H⟩ := H
              replace H : (missiveref10_Day.l0 k2 a0 a1 (wrap64 (x8_2 + t108)) (wrap64 (x9_2 + 1))) = some (r1, r2) := H
              have A14 := Aside0.mk A140
              clear A140
              have H' := Aside0.mk H
              clear H
              go_wp2_with (first | ((with_reducible refine gate_callee (f := 14) rfl ?_); refine goesL_ (some 49) rfl rfl Try.func14 (by kernel_rfl) rfl #[.int .i64 a0, .int .i64 x9_2] rfl (by (try simp only [List.map_toArray, List.map_cons, List.map_nil]); first | done | rfl | (simp only [List.length_drop, List.length_take]; rfl)) ?_; (with_reducible refine (missiveref10_long.calls a0 x9_2 t108 _ A14.out).mono ?_); rintro e w' ⟨rfl, ⟨nd, rfl⟩⟩; refine ⟨_, rfl, ?_⟩))
              go_roundg k2
              case measure => have := HJ3.out; have := HK2.out; omega
              case rel => exact ⟨(wrap64 (x8_2 + t108)), (wrap64 (x9_2 + 1)), (by first | rfl | (simp; done) | (simp [*]; done)), (by first | rfl | (simp; done) | (simp [*]; done)), H', ⟨by have := HJ3.out; have := HK2.out; omega⟩, by repeat (first | exact Drawn0.refl _ | apply Drawn0.step)⟩
            · rw [if_neg c13] at H
              have c13b0 : decide (x9_2 < a1) = false := decide_eq_false c13
              clear c13
              simp only [Option.some.injEq, Prod.mk.injEq] at H
              obtain ⟨rfl, rfl⟩ := H
              go_wp2
              go_ret2
              exact ⟨by first | rfl | (simp; done) | (simp [*]; done), by repeat (first | exact Drawn0.refl _ | apply Drawn0.step)⟩

/-! ### date_there: function 16 -/
def date_there.f (a0 : Int) : Option (Bool) := if a0 ≥ (-719162) then (some (decide (a0 ≤ 2932896))) else (some false)
set_option maxHeartbeats 8000000 in
set_option maxRecDepth 100000 in
theorem date_there.calls (a0 : Int) (r : Bool) (w : World) (h : date_there.f a0 = some r) :
    Calls Try.prog 16 #[.int .i64 a0] w fun e w' => e = .returned (.bool r) ∧ Drawn0 w w' := by
  have H : (if a0 ≥ (-719162) then (some (decide (a0 ≤ 2932896))) else (some false)) = some r := h
  clear h
  by_cases c2 : a0 ≥ (-719162)
  · rw [if_pos c2] at H
    have c2b0 : decide ((-719162) ≤ a0) = true := decide_eq_true c2
    clear c2
    obtain rfl := Option.some.inj H
    go_enter Try.func16, Try.ntmps16
    go_wp2
    go_ret
    exact ⟨by first | rfl | (simp; done) | (simp [*]; done), by repeat (first | exact Drawn0.refl _ | apply Drawn0.step)⟩
  · rw [if_neg c2] at H
    have c2b0 : decide ((-719162) ≤ a0) = false := decide_eq_false c2
    clear c2
    obtain rfl := Option.some.inj H
    go_enter Try.func16, Try.ntmps16
    go_wp2
    go_ret
    exact ⟨by first | rfl | (simp; done) | (simp [*]; done), by repeat (first | exact Drawn0.refl _ | apply Drawn0.step)⟩

/-! ### date_Civil: function 7 -/
def date_Civil.f (a0 : Int) : Option (Int × Int × Int × Int) := (date_there.f a0).bind fun t109 => (if t109 = true then ((date_civil.f a0).bind fun bt110 => (some (bt110.1, bt110.2.1, bt110.2.2, 0))) else (some (0, 0, 0, 1)))
set_option maxHeartbeats 8000000 in
set_option maxRecDepth 100000 in
theorem date_Civil.calls (a0 : Int) (r1 : Int) (r2 : Int) (r3 : Int) (r4 : Int) (w : World) (h : date_Civil.f a0 = some (r1, r2, r3, r4)) :
    Calls Try.prog 7 #[.int .i64 a0] w fun e w' => e = .returned (.tuple #[.int .i64 r1, .int .i64 r2, .int .i64 r3, .int .i64 r4]) ∧ Drawn0 w w' := by
  have H : ((date_there.f a0).bind fun t109 => (if t109 = true then ((date_civil.f a0).bind fun bt110 => (some (bt110.1, bt110.2.1, bt110.2.2, 0))) else (some (0, 0, 0, 1)))) = some (r1, r2, r3, r4) := h
  clear h
  replace H := Option.bind_eq_some_iff.mp H
  obtain ⟨t109, A20, H⟩ := H
  replace H : (if t109 = true then ((date_civil.f a0).bind fun bt110 => (some (bt110.1, bt110.2.1, bt110.2.2, 0))) else (some (0, 0, 0, 1))) = some (r1, r2, r3, r4) := H
  have A2 := Aside0.mk A20
  clear A20
  by_cases c3 : t109 = true
  · subst c3
    have H1 : ((date_civil.f a0).bind fun bt110 => (some (bt110.1, bt110.2.1, bt110.2.2, 0))) = some (r1, r2, r3, r4) := by rw [if_pos rfl] at H; exact H
    clear H
    have H := H1
    clear H1
    replace H := Option.bind_eq_some_iff.mp H
    obtain ⟨⟨t110, t111, t112⟩, A40, H⟩ := H
    replace H : (some (t110, t111, t112, 0)) = some (r1, r2, r3, r4) := H
    have A4 := Aside0.mk A40
    clear A40
    simp only [Option.some.injEq, Prod.mk.injEq] at H
    obtain ⟨rfl, rfl, rfl, rfl⟩ := H
    go_enter Try.func7, Try.ntmps7
    go_wp2_with (first | ((with_reducible refine gate_callee (f := 16) rfl ?_); refine goesL_ (some 10) rfl rfl Try.func16 (by kernel_rfl) rfl #[.int .i64 a0] rfl (by (try simp only [List.map_toArray, List.map_cons, List.map_nil]); first | done | rfl | (simp only [List.length_drop, List.length_take]; rfl)) ?_; (with_reducible refine (date_there.calls a0 true _ A2.out).mono ?_); rintro e w' ⟨rfl, ⟨nd, rfl⟩⟩; refine ⟨_, rfl, ?_⟩) | ((with_reducible refine gate_callee (f := 13) rfl ?_); refine goesL_ (some 14) rfl rfl Try.func13 (by kernel_rfl) rfl #[.int .i64 a0] rfl (by (try simp only [List.map_toArray, List.map_cons, List.map_nil]); first | done | rfl | (simp only [List.length_drop, List.length_take]; rfl)) ?_; (with_reducible refine (date_civil.calls a0 t110 t111 t112 _ A4.out).mono ?_); rintro e w' ⟨rfl, ⟨nd, rfl⟩⟩; refine ⟨_, rfl, ?_⟩))
    refine bodyPost_ret (results_list (rs := [.tmp 2, .tmp 3, .tmp 4, .tmp 5]) rfl (by simp) (.tmp (.tmp (.tmp (.tmp .nil))))) rfl ?_
    exact ⟨by first | rfl | (simp; done) | (simp [*]; done), by repeat (first | exact Drawn0.refl _ | apply Drawn0.step)⟩
  · replace c3 := Bool.eq_false_iff.mpr c3
    subst c3
    have H1 : (some (0, 0, 0, 1)) = some (r1, r2, r3, r4) := by rw [if_neg (show ¬ (false = true) by decide)] at H; exact H
    clear H
    have H := H1
    clear H1
    simp only [Option.some.injEq, Prod.mk.injEq] at H
    obtain ⟨rfl, rfl, rfl, rfl⟩ := H
    go_enter Try.func7, Try.ntmps7
    go_wp2_with (first | ((with_reducible refine gate_callee (f := 16) rfl ?_); refine goesL_ (some 10) rfl rfl Try.func16 (by kernel_rfl) rfl #[.int .i64 a0] rfl (by (try simp only [List.map_toArray, List.map_cons, List.map_nil]); first | done | rfl | (simp only [List.length_drop, List.length_take]; rfl)) ?_; (with_reducible refine (date_there.calls a0 false _ A2.out).mono ?_); rintro e w' ⟨rfl, ⟨nd, rfl⟩⟩; refine ⟨_, rfl, ?_⟩))
    refine bodyPost_ret (results_list (rs := [.tmp 2, .tmp 3, .tmp 4, .tmp 5]) rfl (by simp) (.tmp (.tmp (.tmp (.tmp .nil))))) rfl ?_
    exact ⟨by first | rfl | (simp; done) | (simp [*]; done), by repeat (first | exact Drawn0.refl _ | apply Drawn0.step)⟩

end Go.Proofs.Ytdpbaagpekhipaa.PDateDays
