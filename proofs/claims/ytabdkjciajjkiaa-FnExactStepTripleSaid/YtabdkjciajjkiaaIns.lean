/-
  The library's insertion sort with a comparison: its contract laid at this program's numbers. No condition.
-/
import Derived.Shelf.SlGeneric
import Derived.Ground.SlsfProg
import Derived.Shelf.SlSortCmp.Insertion
import Derived.Test.YtabdkjciajjkiaaCpt
namespace Go.Proofs.Ytabdkjciajjkiaa
open Go.RowKit
shelf_lay_g SlLaysF.n20 Slsf 20 at Try 96 as Try.lIns
end Go.Proofs.Ytabdkjciajjkiaa
