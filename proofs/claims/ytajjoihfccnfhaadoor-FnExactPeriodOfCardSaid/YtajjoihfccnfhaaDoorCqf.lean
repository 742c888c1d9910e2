/-
  Two lists behind one another, off the library's own code. Condition: what stands in each.
-/
import Derived.Test.YtajjoihfccnfhaaDoorCqe
import Derived.Deep.Upon
namespace Go.Proofs.YtajjoihfccnfhaaDoor
open Go.RowKit
set_option maxHeartbeats 1000000
theorem grow_any (n : Nat) (h0 : 0 < n) (hn : n ≤ 1000) (w : World) : Calls Tryd.prog 95 #[.slice none 0 0, .int .i64 (n : Int)] w fun e w' =>
    (∃ v, e = .returned v ∧ w'.ownsRow w.heap.size 2 1 v 0 []) ∧ Below w.heap.size w w' := by
  obtain ⟨i0, hi0, hz0, hs0, hb0⟩ := info_all infoI8
  have h : Calls Tryd.prog 95 #[.slice none 0 0, .int .i64 (n : Int)] w _ := Any8.slices_Grow_grow Tryd.growI i0 (.int .i64 0) hi0 hz0 (by rw [hs0]; decide) none 0 0 n [] w (Nat.le_refl _) (by omega) (by rw [hb0]; omega) (by omega) (by simp) (fun _ => rfl) (fun a ha => by cases ha)
  refine h.mono ?_
  rintro e w' ⟨rfl, rfl⟩
  have hge := grownCap_ge w (0 + n) 0 2
  have hle := grownCap_le_maxLen w (0 + n) 0 2 (by unfold maxLen; omega)
  refine ⟨⟨_, rfl, World.ownsRow_made (w := w.drew) _ _ (Nat.le_refl _) hle ?_⟩, ((Below.refl _ _).drew).alloc (Nat.le_refl _) _⟩
  have hge' : n ≤ grownCap w n 0 2 := by simpa using hge
  simp [Builtin.zeroCells, Value.cells]
  show n + (grownCap w n 0 2 - n) = grownCap w n 0 2
  omega
theorem wpList_append_zero {P : Program} {w : World} {ops : Array Oper} {rest : List Oper} {o : Oper} {a : Act} {Q : Exit → Act → World → Prop} (hgd : o.guard = none) (s x : Operand) (t : TypeId)
    (ho : o.op = .call { callee := .builtin .append, args := #[s, x], argTypes := #[t, t] })
    (e : TypeId) (i : TypeInfo) (ht : P.underlying t = some (.slice e)) (hi : P.info? e = some i)
    (base : Option Addr) (sLen sCap : Nat) (hle : sLen ≤ sCap) (hs : a.eval s = .slice base sLen sCap) (ad : Addr) (c : Nat) (hx : a.eval x = .slice (some ad) 0 c)
    (h : wpList P ops Q rest (a.put o.dst (.slice base sLen sCap)) w) : wpList P ops Q (o :: rest) a w := by
  refine wpList_plain hgd fun K hK => ?_
  have hrun := run_append_nothing (P := P) w t t o.type e i ht hi base sLen sCap hle (.slice (some ad) 0 c) (Src.ofSlice w ht ad 0 c [] (by simp) (fun j v hj => by simp at hj) (fun _ h => by cases h))
  unfold Oper.wp
  simp [execOp, ho, resolve, invoke, builtin, hs, hx, hrun, Result.andThen]
  exact hK _ _ h
end Go.Proofs.YtajjoihfccnfhaaDoor
