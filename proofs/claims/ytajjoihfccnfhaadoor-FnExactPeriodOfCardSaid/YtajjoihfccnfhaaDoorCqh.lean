/-
  Two lists behind one another, off the library's own code: the whole call. Condition: what stands in each.
-/
import Derived.Test.YtajjoihfccnfhaaDoorCqg
namespace Go.Proofs.YtajjoihfccnfhaaDoor
open Go.RowKit
set_option maxHeartbeats 1000000
set_option maxRecDepth 1000000 in
theorem concat_any (N b n c c0 k : Nat) (xs : List Int) (w : World) (hl : xs.length = n) (hk : k < n) (hn : n ≤ 1000) (hr : IRow w b 0 xs) (h0 : w.cell? ⟨N, 0, none⟩ = some (.slice (some ⟨b, k, none⟩) (n - k) c0)) (h1 : w.cell? ⟨N, 1, none⟩ = some (.slice (some ⟨b, 0, none⟩) k c)) :
    Calls Tryd.prog 77 #[.slice (some ⟨N, 0, none⟩) 2 2] w fun e w' => (∃ v, e = .returned v ∧ w'.ownsRow w.heap.size 2 1 v n (ivs (rotI xs k))) ∧ Below w.heap.size w w' := by
  have HR := Lib.hid hr
  have HL := Lib.hid hl
  clear hr hl
  go_enter Tryd.func77, Tryd.ntmps77
  go_upto_region 3 with fail
  go_loopw [3, 11] (fun o i W => ∃ j s : Nat, i = .int .i64 j ∧ o = .int .i64 s ∧ ((j = 0 ∧ s = 0) ∨ (j = 1 ∧ s = n - k) ∨ (j = 2 ∧ s = n)) ∧ W = w) (fun _ i _ => 2 - (intOf i).toNat)
  case atStart => exact ⟨0, 0, rfl, rfl, .inl ⟨rfl, rfl⟩, rfl⟩
  case round =>
    obtain ⟨j, s, rfl, rfl, hcase, rfl⟩ := hrel
    rcases hcase with ⟨rfl, rfl⟩ | ⟨rfl, rfl⟩ | ⟨rfl, rfl⟩
    · go_wp2
      go_roundw
      case rel => exact ⟨1, n - k, by simp, by first | rfl | simp, .inr (.inl ⟨rfl, rfl⟩), trivial⟩
      case measure => simp [intOf]
    · have e : ((n - k : Nat) : Int) + (k : Int) = (n : Int) := by omega
      go_wp2
      go_roundw
      case rel => exact ⟨2, n, by simp, by first | rfl | rw [e], .inr (.inr ⟨rfl, rfl⟩), trivial⟩
      case measure => simp [intOf]
    · go_upto_region 9 with fail
      refine conB N b s c c0 k xs _ _ _ _ _ _ _ _ _ _ _ _ _ _ _ _ _ _ _ _ _ _ _ _ _ _ _ _ _ _ _ _ _ _ _  HL.out hk hn HR.out h0 h1 (fun _ _ h => h) ?_
      assumption
end Go.Proofs.YtajjoihfccnfhaaDoor
