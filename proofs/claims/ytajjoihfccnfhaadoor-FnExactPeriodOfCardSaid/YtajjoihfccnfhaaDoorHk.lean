/-
  What was kept behind blocks that are written anew at their making. No condition.
-/
import Derived.Test.YtajjoihfccnfhaaDoorBase
namespace Go.Proofs.YtajjoihfccnfhaaDoor
open Go.RowKit
theorem un_alloc1 {w : World} {o : Obj} {b f : Nat} {v : Value} (h : b < w.heap.size) (hh : (w.alloc o).cell? ⟨b, f, none⟩ = some v) : w.cell? ⟨b, f, none⟩ = some v :=
  (World.cell?_alloc_lt w o ⟨b, f, none⟩ h).symm.trans hh
theorem un_alloc2 {w : World} {o o' : Obj} {b f : Nat} {v : Value} (h : b < w.heap.size) (hh : ((w.alloc o).alloc o').cell? ⟨b, f, none⟩ = some v) : w.cell? ⟨b, f, none⟩ = some v :=
  un_alloc1 h (un_alloc1 (by rw [World.size_alloc]; omega) hh)
theorem keep_setx {w : World} {b o b' o' : Nat} {x v : Value} (hne : b ≠ b') (h : w.cell? ⟨b', o', none⟩ = some v) : (w.setCell ⟨b, o, none⟩ x).cell? ⟨b', o', none⟩ = some v := keep_set (p := ⟨b, o, none⟩) (a := ⟨b', o', none⟩) hne h
theorem keep_hc {w1 W : World} {k b o : Nat} {v : Value} (h : ∀ b o, b < k → w1.cell? ⟨b, o, none⟩ = W.cell? ⟨b, o, none⟩) (hlt : b < k) (hv : W.cell? ⟨b, o, none⟩ = some v) : w1.cell? ⟨b, o, none⟩ = some v := (h b o hlt).trans hv
theorem fz_alloc {w : World} {o : Obj} {b i : Nat} (h : w.frozen? ⟨b, i, none⟩ = false) (hlt : b < w.heap.size) : (w.alloc o).frozen? ⟨b, i, none⟩ = false := (World.frozen?_alloc_old (h := by simp; omega) ..).trans h
theorem fz_drew {w : World} {a : Addr} (h : w.frozen? a = false) : w.drew.frozen? a = false := h
theorem fz_set {w : World} {p a : Addr} {x : Value} (h : w.frozen? a = false) : (w.setCell p x).frozen? a = false := by rw [World.frozen?_setCell]; exact h
theorem fz_hc {w1 W : World} {k b o : Nat} (h : ∀ b o, b < k → w1.frozen? ⟨b, o, none⟩ = W.frozen? ⟨b, o, none⟩) (hlt : b < k) (hv : W.frozen? ⟨b, o, none⟩ = false) : w1.frozen? ⟨b, o, none⟩ = false := (h b o hlt).trans hv
theorem gcut {p q : Prop} (h : p) (k : p → q) : q := k h
end Go.Proofs.YtajjoihfccnfhaaDoor
