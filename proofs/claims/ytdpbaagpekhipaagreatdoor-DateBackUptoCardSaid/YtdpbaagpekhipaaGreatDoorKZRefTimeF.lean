/- missiveref10.ParseTime, as a plain function. No condition. -/
import Derived.Test.YtdpbaagpekhipaaGreatDoorKZRefTimeH
namespace Go.Proofs.YtdpbaagpekhipaaGreatDoor
open Go.RowKit Go.Proofs.YtdpbaagpekhipaaGreatDoorW.PrintWords Go.Proofs.YtdpbaagpekhipaaGreatDoorW.PrintLast
open PAll
/-- what missiveref10.ParseTime answers: the day, the second, the zone, why not -/
def missiveref10_ParseTime.f (a0 : ByteArray) : Option (Int × Int × Int × Int) :=
  if a0.size ≤ 2000000 then
    if a0.size = 26 then
      (missiveref10_Parse.f 60 (rtx a0)).bind fun r => (missiveref10_digits.f 60 (a0.extract 12 14) 2 2).bind fun h => (missiveref10_digits.f 60 (a0.extract 15 17) 2 2).bind fun m =>
      (missiveref10_digits.f 60 (a0.extract 18 20) 2 2).bind fun x => (missiveref10_digits.f 60 (a0.extract 22 24) 2 2).bind fun zh => (missiveref10_digits.f 60 (a0.extract 24 26) 2 2).bind fun zm =>
      if zh ≤ 1000000 then
        (if rtOk a0 r.2 h m x zh zm then some (r.1, 3600 * h + 60 * m + x, (if bt a0 21 = 45 then -(60 * zh + zm) else 60 * zh + zm), 0) else some (0, 0, 0, 7))
      else none
    else some (0, 0, 0, 7)
  else none
end Go.Proofs.YtdpbaagpekhipaaGreatDoor

