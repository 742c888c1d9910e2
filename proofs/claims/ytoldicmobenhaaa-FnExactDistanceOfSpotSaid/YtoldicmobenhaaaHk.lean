/-
  What was kept behind blocks that are written anew at their making. No condition.
-/
import Derived.Test.YtoldicmobenhaaaBase
namespace Go.Proofs.Ytoldicmobenhaaa
open Go.RowKit
theorem un_alloc1 {w : World} {o : Obj} {b f : Nat} {v : Value} (h : b < w.heap.size) (hh : (w.alloc o).cell? ⟨b, f, none⟩ = some v) : w.cell? ⟨b, f, none⟩ = some v :=
  (World.cell?_alloc_lt w o ⟨b, f, none⟩ h).symm.trans hh
theorem un_alloc2 {w : World} {o o' : Obj} {b f : Nat} {v : Value} (h : b < w.heap.size) (hh : ((w.alloc o).alloc o').cell? ⟨b, f, none⟩ = some v) : w.cell? ⟨b, f, none⟩ = some v :=
  un_alloc1 h (un_alloc1 (by rw [World.size_alloc]; omega) hh)
theorem keep_setx {w : World} {b o b' o' : Nat} {x v : Value} (hne : b ≠ b') (h : w.cell? ⟨b', o', none⟩ = some v) : (w.setCell ⟨b, o, none⟩ x).cell? ⟨b', o', none⟩ = some v := keep_set (p := ⟨b, o, none⟩) (a := ⟨b', o', none⟩) hne h
end Go.Proofs.Ytoldicmobenhaaa
