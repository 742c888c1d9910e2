/-
  The three cells of a triple. No condition.
-/
import Derived.Test.YtdenfmgmapgpiaaCps
namespace Go.Proofs.Ytdenfmgmapgpiaa
open Go.RowKit
def C3 (W : World) (h : Nat) (x y z : Int) : Prop := W.cell? ⟨h, 0, none⟩ = some (.int .i64 x) ∧ W.cell? ⟨h, 1, none⟩ = some (.int .i64 y) ∧ W.cell? ⟨h, 2, none⟩ = some (.int .i64 z)
theorem C3.below {W W1 : World} {h : Nat} {x y z : Int} (k : C3 W h x y z) (hb : Below W.heap.size W W1) : C3 W1 h x y z := ⟨cell_keep hb k.1, cell_keep hb k.2.1, cell_keep hb k.2.2⟩
theorem C3.other {W : World} {b b' n : Nat} {x y z : Int} {v : Value} (h : C3 W b x y z) (hb : b' ≠ b) : C3 (W.setCell ⟨b', n, none⟩ v) b x y z := ⟨keep_setx hb h.1, keep_setx hb h.2.1, keep_setx hb h.2.2⟩
theorem C3.put {W : World} {b : Nat} {x y z x' y' z' : Int} (h : C3 W b x y z) : C3 (((W.setCell ⟨b, 0, none⟩ (.int .i64 x')).setCell ⟨b, 1, none⟩ (.int .i64 y')).setCell ⟨b, 2, none⟩ (.int .i64 z')) b x' y' z' :=
  ⟨keep_seto (by decide) (keep_seto (by decide) (set_here h.1)), keep_seto (by decide) (set_here (keep_seto (by decide) h.2.1)), set_here (keep_seto (by decide) (keep_seto (by decide) h.2.2))⟩
end Go.Proofs.Ytdenfmgmapgpiaa
