/-
  Rows of whole numbers as results: what the laws ask of them (the same numbers, marks, marks that are still held). No condition but what stands in each.
-/
import Derived.Test.YtdenfmgmapgpiaaCpt
import Derived.Deep.RegionHeld3
import Derived.Deep.CutRange
import Derived.Deep.DeepCutAuto
namespace Go.Proofs.Ytdenfmgmapgpiaa
open Go.RowKit
set_option maxHeartbeats 400000
/-- The cells of a row may be written, and lie in a block from B on. -/
def WSl (B : Nat) (w : World) (A : Option Addr) (n : Nat) : Prop := 0 < n → ∃ b off, A = some ⟨b, off, none⟩ ∧ B ≤ b ∧ b < w.heap.size ∧ ∀ i, i < n → w.frozen? ⟨b, off + i, none⟩ = false
theorem WSl.keep {B : Nat} {w w1 : World} {A : Option Addr} {n : Nat} (h : WSl B w A n) (hb : Below w.heap.size w w1) : WSl B w1 A n := fun hn => by
  obtain ⟨b, off, e, hB, hl, hf⟩ := h hn
  exact ⟨b, off, e, hB, by have := hb.size; omega, fun i hi => (hb.frozen (p := ⟨b, off + i, none⟩) hl).trans (hf i hi)⟩
theorem WSl.mono {B B' : Nat} {w : World} {A : Option Addr} {n : Nat} (h : WSl B w A n) (hle : B' ≤ B) : WSl B' w A n := fun hn => by
  obtain ⟨b, off, e, hB, hl, hf⟩ := h hn
  exact ⟨b, off, e, by omega, hl, hf⟩
def marks (k : Int) (n : Nat) : List Int := (List.range n).map fun j : Nat => k + (j : Int)
theorem marks_len (k : Int) (n : Nat) : (marks k n).length = n := by simp [marks]
theorem marks_at {k : Int} {n i : Nat} (h : i < n) : (marks k n)[i]?.getD 0 = k + (i : Int) := by simp [marks, h]
theorem below_beyond {B : Nat} {w wr : World} {b o : Nat} {v : Value} (h : Below B w wr) (hB : B ≤ b) : Below B w (wr.setCell ⟨b, o, none⟩ v) := h.setCell (p := ⟨b, o, none⟩) hB v
end Go.Proofs.Ytdenfmgmapgpiaa
