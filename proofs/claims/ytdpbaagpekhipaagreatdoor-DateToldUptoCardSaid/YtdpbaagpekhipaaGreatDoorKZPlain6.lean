/- Plain laws of the date texts: DateTimes, DateTold. No condition. -/
import Derived.Test.YtdpbaagpekhipaaGreatDoorKZPlain5
import Derived.Test.YtdpbaagpekhipaaGreatDoorKZPAllx15
import Derived.Lib.Split
import Derived.Lib.SplitLaws
import Derived.Lib.CutLaws
import Derived.Lib.CountLaws
import Derived.Lib.IndexLaws
import Derived.Lib.FieldsP
open Go Go.RowKit Go.Proofs.YtdpbaagpekhipaaGreatDoorW.PrintWords Go.Proofs.YtdpbaagpekhipaaGreatDoorW.PrintLast Go.Proofs.YtdpbaagpekhipaaGreatDoor.Str
set_option linter.unusedVariables false
set_option linter.unusedSimpArgs false
namespace Go.Proofs.YtdpbaagpekhipaaGreatDoor.PAll
theorem DateTimes (s : ByteArray) (n x z : Int) (hs : s.size ≤ 2000000) : ∃ k, missivelaw10_DateTimes.f k s n x z = some true := by
  refine ⟨300, ?_⟩
  obtain ⟨r, w1, w2⟩ := writeTime_same n x z 300 (by omega)
  obtain ⟨q, v1, v2⟩ := ptime_same s hs
  unfold missivelaw10_DateTimes.f
  rw [v1, Option.bind_some, v2, Option.bind_some, w1, Option.bind_some, w2, Option.bind_some, texts_true 300 (by omega), Option.bind_some]
  simp
theorem told_j0 (s : ByteArray) (k : Nat) (hs : s.size ≤ 2000000) : missivelaw10_DateTold.j0 (k + 1) s = some true := by
  rw [missivelaw10_DateTold.j0]
  rcases ptime_right s hs with h | ⟨n, x, z, h, r⟩
  · rw [h, Option.bind_some]
    rfl
  · obtain ⟨b, w1, w2, w3⟩ := back n x z r
    rw [h, Option.bind_some]
    simp only [if_true]
    rw [w1, Option.bind_some]
    simp only
    rw [w2, Option.bind_some]
    simp
theorem DateTold (s : ByteArray) (n x z : Int) (hs : s.size ≤ 2000000) : ∃ k, missivelaw10_DateTold.f k s n x z = some true := by
  refine ⟨300, ?_⟩
  unfold missivelaw10_DateTold.f
  rw [texts_true 300 (by omega), Option.bind_some, if_pos rfl]
  by_cases r : rightP n x z
  · obtain ⟨b, w1, w2, w3⟩ := back n x z r
    rw [w1, Option.bind_some]
    simp only [if_true]
    rw [w2, Option.bind_some]
    simp only [if_true]
    rw [if_neg (by simp), if_pos (by omega)]
    exact told_j0 s 299 hs
  · rw [writeTime_no n x z r, Option.bind_some, if_neg (by decide)]
    exact told_j0 s 299 hs
end Go.Proofs.YtdpbaagpekhipaaGreatDoor.PAll

