/- DateDays' plain statement: for any four numbers the law's printed function answers true. No condition. -/
import Derived.Test.YtdpbaagpekhipaaDays
namespace Go.Proofs.Ytdpbaagpekhipaa.Pure
open Go.RowKit Go.Proofs.Ytdpbaagpekhipaa.PDateDays Go.Proofs.YtdpbaagpekhipaaW.PrintWords Go.Proofs.YtdpbaagpekhipaaW.PrintLast
theorem DateDays : missivelaw10_DateDays.Pure := PDateDays.DateDays
end Go.Proofs.Ytdpbaagpekhipaa.Pure
