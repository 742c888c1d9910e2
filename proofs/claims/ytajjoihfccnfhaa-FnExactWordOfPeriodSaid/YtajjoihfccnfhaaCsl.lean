/-
  Rows of whole numbers as results: what the laws ask of them (the same numbers, marks, marks that are still held). No condition but what stands in each.
-/
import Derived.Test.YtajjoihfccnfhaaCpt
import Derived.Deep.RegionHeld3
import Derived.Deep.CutRange
import Derived.Deep.DeepCutAuto
namespace Go.Proofs.Ytajjoihfccnfhaa
open Go.RowKit
set_option maxHeartbeats 400000
/-- The cells of a row may be written, and lie in a block from B on. -/
def WSl (B : Nat) (w : World) (A : Option Addr) (n : Nat) : Prop := 0 < n → ∃ b off, A = some ⟨b, off, none⟩ ∧ B ≤ b ∧ b < w.heap.size ∧ ∀ i, i < n → w.frozen? ⟨b, off + i, none⟩ = false
theorem WSl.keep {B : Nat} {w w1 : World} {A : Option Addr} {n : Nat} (h : WSl B w A n) (hb : Below w.heap.size w w1) : WSl B w1 A n := fun hn => by
  obtain ⟨b, off, e, hB, hl, hf⟩ := h hn
  exact ⟨b, off, e, hB, by have := hb.size; omega, fun i hi => (hb.frozen (p := ⟨b, off + i, none⟩) hl).trans (hf i hi)⟩
theorem WSl.mono {B B' : Nat} {w : World} {A : Option Addr} {n : Nat} (h : WSl B w A n) (hle : B' ≤ B) : WSl B' w A n := fun hn => by
  obtain ⟨b, off, e, hB, hl, hf⟩ := h hn
  exact ⟨b, off, e, by omega, hl, hf⟩
def marks (k : Int) (n : Nat) : List Int := (List.range n).map fun j : Nat => k + (j : Int)
theorem marks_len (k : Int) (n : Nat) : (marks k n).length = n := by simp [marks]
theorem marks_at {k : Int} {n i : Nat} (h : i < n) : (marks k n)[i]?.getD 0 = k + (i : Int) := by simp [marks, h]
theorem below_beyond {B : Nat} {w wr : World} {b o : Nat} {v : Value} (h : Below B w wr) (hB : B ≤ b) : Below B w (wr.setCell ⟨b, o, none⟩ v) := h.setCell (p := ⟨b, o, none⟩) hB v
theorem eqInt64S_same (A A' : Option Addr) (n c c' : Nat) (xs : List Int) (w : World) (h : ISl w A n xs) (h' : ISl w A' n xs) (hn : n ≤ 281474976710656) :
    Calls Try.prog 8 #[.slice A n c, .slice A' n c'] w fun e w' => e = .returned (.bool true) ∧ Below w.heap.size w w' := by
  obtain ⟨rfl, hx⟩ := h
  have hx' := h'.2
  clear h'
  go_enter Try.func8, Try.ntmps8
  go_wp2
  go_loopw [5] (fun i wr => Below w.heap.size w wr ∧ ∃ k : Nat, k ≤ xs.length ∧ i = .int .i64 k) (fun i _ => xs.length - (intOf i).toNat)
  case atStart => exact ⟨Below.refl _ _, 0, Nat.zero_le _, rfl⟩
  case round =>
    obtain ⟨hB, k, hk, rfl⟩ := hrel
    by_cases hlt : k < xs.length
    · obtain ⟨b, off, rfl, hb, hr⟩ := hx (by omega)
      obtain ⟨b', off', rfl, hb', hr'⟩ := hx' (by omega)
      have h1 := cell_keep hB (hr k hlt)
      have h2 := cell_keep hB (hr' k hlt)
      obtain ⟨x, hp⟩ : ∃ p, xs[k]?.getD 0 = p := ⟨_, rfl⟩
      rw [hp] at h1 h2
      clear hp hr hx hb hr' hx' hb'
      have hi0 : (0 : Int) ≤ (k : Int) := by omega
      have hi1 : (k : Int) < (xs.length : Int) := by omega
      go_wp2
      (try (go_quiet (fail)))
      go_wp2
      go_roundw
      case rel => exact ⟨by (repeat' (first | (with_reducible exact Below.refl _ _) | (with_reducible refine Below.alloc ?_ ?_ _) | (with_reducible refine Below.drew ?_) | (with_reducible refine below_drewN' ?_ _) | (with_reducible refine Below.setCell ?_ ?_ _) | (with_reducible refine Below.trans ?_ (Below.mono (by assumption) ?_)) | go_size)), k + 1, by omega, by go_num⟩
      case measure => simp [intOf]; omega
    · go_wp2
      go_returns
      exact ⟨rfl, hB⟩
end Go.Proofs.Ytajjoihfccnfhaa
