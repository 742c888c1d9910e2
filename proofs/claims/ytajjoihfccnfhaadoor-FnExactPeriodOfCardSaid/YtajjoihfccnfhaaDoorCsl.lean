/-
  Rows of whole numbers as results: what the laws ask of them (the same numbers, marks, marks that are still held). No condition but what stands in each.
-/
import Derived.Test.YtajjoihfccnfhaaDoorCpt
import Derived.Deep.RegionHeld3
import Derived.Deep.CutRange
import Derived.Deep.DeepCutAuto
namespace Go.Proofs.YtajjoihfccnfhaaDoor
open Go.RowKit
set_option maxHeartbeats 400000
/-- The cells of a row may be written, and lie in a block from B on. -/
def WSl (B : Nat) (w : World) (A : Option Addr) (n : Nat) : Prop := 0 < n → ∃ b off, A = some ⟨b, off, none⟩ ∧ B ≤ b ∧ b < w.heap.size ∧ ∀ i, i < n → w.frozen? ⟨b, off + i, none⟩ = false
theorem WSl.keep {B : Nat} {w w1 : World} {A : Option Addr} {n : Nat} (h : WSl B w A n) (hb : Below w.heap.size w w1) : WSl B w1 A n := fun hn => by
  obtain ⟨b, off, e, hB, hl, hf⟩ := h hn
  exact ⟨b, off, e, hB, by have := hb.size; omega, fun i hi => (hb.frozen (p := ⟨b, off + i, none⟩) hl).trans (hf i hi)⟩
theorem WSl.mono {B B' : Nat} {w : World} {A : Option Addr} {n : Nat} (h : WSl B w A n) (hle : B' ≤ B) : WSl B' w A n := fun hn => by
  obtain ⟨b, off, e, hB, hl, hf⟩ := h hn
  exact ⟨b, off, e, by omega, hl, hf⟩
def marks (k : Int) (n : Nat) : List Int := (List.range n).map fun j : Nat => k + (j : Int)
theorem marks_len (k : Int) (n : Nat) : (marks k n).length = n := by simp [marks]
theorem marks_at {k : Int} {n i : Nat} (h : i < n) : (marks k n)[i]?.getD 0 = k + (i : Int) := by simp [marks, h]
theorem below_beyond {B : Nat} {w wr : World} {b o : Nat} {v : Value} (h : Below B w wr) (hB : B ≤ b) : Below B w (wr.setCell ⟨b, o, none⟩ v) := h.setCell (p := ⟨b, o, none⟩) hB v
theorem eqInt64S_same (A A' : Option Addr) (n c c' : Nat) (xs : List Int) (w : World) (h : ISl w A n xs) (h' : ISl w A' n xs) (hn : n ≤ 281474976710656) :
    Calls Tryd.prog 25 #[.slice A n c, .slice A' n c'] w fun e w' => e = .returned (.bool true) ∧ Below w.heap.size w w' := by
  obtain ⟨rfl, hx⟩ := h
  have hx' := h'.2
  clear h'
  go_enter Tryd.func25, Tryd.ntmps25
  go_wp2
  go_loopw [5] (fun i wr => Below w.heap.size w wr ∧ ∃ k : Nat, k ≤ xs.length ∧ i = .int .i64 k) (fun i _ => xs.length - (intOf i).toNat)
  case atStart => exact ⟨Below.refl _ _, 0, Nat.zero_le _, rfl⟩
  case round =>
    obtain ⟨hB, k, hk, rfl⟩ := hrel
    by_cases hlt : k < xs.length
    · obtain ⟨b, off, rfl, hb, hr⟩ := hx (by omega)
      obtain ⟨b', off', rfl, hb', hr'⟩ := hx' (by omega)
      have h1 := cell_keep hB (hr k hlt)
      have h2 := cell_keep hB (hr' k hlt)
      obtain ⟨x, hp⟩ : ∃ p, xs[k]?.getD 0 = p := ⟨_, rfl⟩
      rw [hp] at h1 h2
      clear hp hr hx hb hr' hx' hb'
      have hi0 : (0 : Int) ≤ (k : Int) := by omega
      have hi1 : (k : Int) < (xs.length : Int) := by omega
      go_wp2
      (try (go_quiet (fail)))
      go_wp2
      go_roundw
      case rel => exact ⟨by (repeat' (first | (with_reducible exact Below.refl _ _) | (with_reducible refine Below.alloc ?_ ?_ _) | (with_reducible refine Below.drew ?_) | (with_reducible refine below_drewN' ?_ _) | (with_reducible refine Below.setCell ?_ ?_ _) | (with_reducible refine Below.trans ?_ (Below.mono (by assumption) ?_)) | go_size)), k + 1, by omega, by go_num⟩
      case measure => simp [intOf]; omega
    · go_wp2
      go_returns
      exact ⟨rfl, hB⟩
theorem markInt64S_any (A : Option Addr) (n c : Nat) (B : Nat) (xs : List Int) (m : Int) (w : World) (h : ISl w A n xs) (hw : WSl B w A n) (hn : n ≤ 281474976710656) (hm : 0 ≤ m ∧ m ≤ 1152921504606846976) :
    Calls Tryd.prog 26 #[.slice A n c, .int .i64 m] w fun e w' => e = .returned (.int .i64 (m + n)) ∧ ISl w' A n (marks m n) ∧ w.heap.size ≤ w'.heap.size ∧ Below B w w' := by
  obtain ⟨rfl, hx⟩ := h
  go_enter Tryd.func26, Tryd.ntmps26
  go_wp2
  go_loopw [1, 5] (fun kk i wr => ∃ k : Nat, k ≤ xs.length ∧ i = .int .i64 k ∧ kk = .int .i64 (m + k) ∧ Below B w wr ∧ wr.heap.size = w.heap.size ∧
      (0 < xs.length → ∃ b off, A = some ⟨b, off, none⟩ ∧ B ≤ b ∧ (∀ j, j < xs.length → ∃ v, wr.cell? ⟨b, off + j, none⟩ = some v ∧ wr.frozen? ⟨b, off + j, none⟩ = false ∧ (j < k → v = .int .i64 (m + j))))) (fun _ i _ => xs.length - (intOf i).toNat)
  case atStart =>
    refine ⟨0, Nat.zero_le _, rfl, by simp, Below.refl _ _, rfl, fun hp => ?_⟩
    obtain ⟨b, off, rfl, hb, hr⟩ := hx hp
    obtain ⟨b', off', e, hBb, _, hf⟩ := hw hp
    cases e
    exact ⟨b, off, rfl, hBb, fun j hj => ⟨_, hr j hj, hf j hj, fun h => absurd h (by omega)⟩⟩
  case round =>
    obtain ⟨k, hk, rfl, rfl, hB, hsz, hc⟩ := hrel
    clear hx hw
    by_cases hlt : k < xs.length
    · obtain ⟨b, off, rfl, hBb, hall⟩ := hc (by omega)
      obtain ⟨v, h1, h2, _⟩ := hall k hlt
      have HC := Lib.hid hall
      have HS := Lib.hid hsz
      clear hall hc hsz
      have hi0 : (0 : Int) ≤ (k : Int) := by omega
      have hi1 : (k : Int) < (xs.length : Int) := by omega
      go_wp2
      go_roundw
      case rel =>
        refine ⟨k + 1, by omega, by go_num, by go_num, below_beyond hB hBb, by rw [World.size_setCell]; exact HS.out, fun _ => ⟨b, off, rfl, hBb, fun j hj => ?_⟩⟩
        by_cases hjk : j = k
        · subst hjk
          refine ⟨_, World.cell?_setCell_same (h := h1) .., by rw [World.frozen?_setCell]; exact h2, fun _ => rfl⟩
        · obtain ⟨u, g1, g2, g3⟩ := HC.out j hj
          refine ⟨u, (World.cell?_setCell_other _ _ _ _ (fun e => hjk (by have := congrArg Addr.off e; simp at this; omega))).trans g1, by rw [World.frozen?_setCell]; exact g2, fun hlt' => g3 (by omega)⟩
      case measure => simp [intOf]; omega
    · have hkn : k = xs.length := by omega
      subst hkn
      have HC := Lib.hid hc
      have HS := Lib.hid hsz
      clear hc hsz
      go_wp2
      go_returns
      refine ⟨rfl, ⟨by rw [marks_len], fun hp => ?_⟩, by rw [HS.out]; exact Nat.le_refl _, hB⟩
      obtain ⟨b, off, rfl, hBb, hall⟩ := HC.out hp
      refine ⟨b, off, rfl, ?_, fun i hi => ?_⟩
      · obtain ⟨v, h1, _⟩ := hall 0 hp
        exact World.block_lt_of_cell? _ _ h1
      · rw [marks_len] at hi
        obtain ⟨v, h1, _, h3⟩ := hall i hi
        rw [h1, h3 hi, marks_at hi]
theorem heldInt64S_any (A : Option Addr) (n c : Nat) (m : Int) (w : World) (h : ISl w A n (marks m n)) (hn : n ≤ 281474976710656) (hm : 0 ≤ m ∧ m ≤ 1152921504606846976) :
    Calls Tryd.prog 27 #[.slice A n c, .int .i64 m] w fun e w' => e = .returned (.int .i64 (m + n)) ∧ Below w.heap.size w w' := by
  have hx := h.2
  clear h
  go_enter Tryd.func27, Tryd.ntmps27
  go_wp2
  go_loopw [1, 5] (fun kk i wr => Below w.heap.size w wr ∧ ∃ k : Nat, k ≤ n ∧ i = .int .i64 k ∧ kk = .int .i64 (m + k)) (fun _ i _ => n - (intOf i).toNat)
  case atStart => exact ⟨Below.refl _ _, 0, Nat.zero_le _, rfl, by simp⟩
  case round =>
    obtain ⟨hB, k, hk, rfl, rfl⟩ := hrel
    by_cases hlt : k < n
    · obtain ⟨b, off, rfl, hb, hr⟩ := hx (by omega)
      have h1 := cell_keep hB (hr k (by rw [marks_len]; exact hlt))
      rw [marks_at hlt] at h1
      clear hr hx hb
      have hi0 : (0 : Int) ≤ (k : Int) := by omega
      have hi1 : (k : Int) < (n : Int) := by omega
      go_wp2
      (try (go_quiet (fail)))
      go_wp2
      go_roundw
      case rel => exact ⟨by (repeat' (first | (with_reducible exact Below.refl _ _) | (with_reducible refine Below.alloc ?_ ?_ _) | (with_reducible refine Below.drew ?_) | (with_reducible refine below_drewN' ?_ _) | (with_reducible refine Below.setCell ?_ ?_ _) | (with_reducible refine Below.trans ?_ (Below.mono (by assumption) ?_)) | go_size)), k + 1, by omega, by go_num, by go_num⟩
      case measure => simp [intOf]; omega
    · obtain rfl : k = n := by omega
      go_wp2
      go_returns
      exact ⟨rfl, hB⟩
end Go.Proofs.YtajjoihfccnfhaaDoor
