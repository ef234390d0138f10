/- Walk: what is missing of a window's bags. -/
import Derived.Test.YtnjdlhhgnamigaaGreatLgnA
namespace Go.Pu
def Led.missP (l : Led) (w : Int) : Int × Int × Int := if l.okB then (if 0 ≤ w ∧ w ≤ (l.windows.length : Int) - 1 then ((l.missing w).1, (l.missing w).2, 0) else (0, 0, 2)) else (0, 0, 1)
end Go.Pu
namespace Go.Proofs.YtnjdlhhgnamigaaGreat
open Go.RowKit Go.Bs Go.Pu Go.Pl Go.Sort

end Go.Proofs.YtnjdlhhgnamigaaGreat
