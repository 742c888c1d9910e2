/-
  Contracts of the library at this program's numbers. No condition but what stands in each.
-/
import Derived.Ground.SlsfProg
import Derived.Shelf.SlSortCmp.Insertion
import Derived.Test.YtdenfmgmapgpiaaProg
namespace Go.Proofs.Ytdenfmgmapgpiaa
open Go.RowKit Go.Shelf
def Try.lIns_ren : Go.Shelf.Ren := ⟨fun | 20 => 99 | n => n, fun | 24 => 3 | 22 => 72 | 3 => 3 | 25 => 101 | 4 => 4 | 0 => 0 | n => n, fun | n => n⟩
theorem Try.lIns : Go.Proofs.SlLaysF.n20 Try.prog Try.lIns_ren := {
  mixed := by kernel_rfl,
  f20 := ⟨Try.f99.name, by decide, Try.func99.trans (congrArg some (by kernel_rfl))⟩,
  t0 := Try.underlying0,
  a0 := Try.isAgg0,
  z0 := Try.sizeOf0,
  v0 := Try.zeroValue0,
  t3 := Try.underlying3,
  a3 := Try.isAgg3,
  z3 := Try.sizeOf3,
  v3 := Try.zeroValue3,
  t4 := Try.underlying4,
  a4 := Try.isAgg4,
  z4 := Try.sizeOf4,
  v4 := Try.zeroValue4,
  t22 := Try.underlying72,
  a22 := Try.isAgg72,
  z22 := Try.sizeOf72,
  v22 := Try.zeroValue72,
  a24 := Try.isAgg3,
  z24 := Try.sizeOf3,
  t25 := Try.underlying101,
  a25 := Try.isAgg101,
  z25 := Try.sizeOf101,
  v25 := Try.zeroValue101 }
end Go.Proofs.Ytdenfmgmapgpiaa
