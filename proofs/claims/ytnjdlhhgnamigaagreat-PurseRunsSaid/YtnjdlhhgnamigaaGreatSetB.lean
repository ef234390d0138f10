/- Walk: the reference's word on weeks; a week for the program. -/
import Derived.Test.YtnjdlhhgnamigaaGreatSetA
namespace Go.Proofs.YtnjdlhhgnamigaaGreat
open Go.RowKit Go.Bs Go.Pu Go.Pl Go.Sort

end Go.Proofs.YtnjdlhhgnamigaaGreat
