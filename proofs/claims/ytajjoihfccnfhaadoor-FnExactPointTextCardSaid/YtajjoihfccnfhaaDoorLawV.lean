/-
  The walks of laws of texts: each call returns true, and nothing that lay before has turned. Conditions: the table that the library reads.
-/
import Derived.Test.YtajjoihfccnfhaaDoorCtx
namespace Go.Proofs.YtajjoihfccnfhaaDoor
open Go.RowKit
set_option maxHeartbeats 400000
theorem FnExactPointText_walk (a0_0 a0_1 : Int) (w : World) (ht : TabHere w) :
    Calls Tryd.prog 3 #[.agg #[.int .i64 a0_0, .int .i64 a0_1]] w fun e w' => e = .returned (.bool true) ∧ Below w.heap.size w w' := by
  have h1 := fun W => specPT_any a0_0 a0_1 W
  have h2 := fun W (hW : Below w.heap.size w W) => implPT_any a0_0 a0_1 W (Lib.tabBelow_of_tabIs ht W hW)
  obtain ⟨⟨s, c⟩, hr⟩ : ∃ r, ptR a0_0 a0_1 = r := ⟨_, rfl⟩
  rw [hr] at h1 h2
  dsimp only at h1 h2
  have H1 := Lib.hid h1
  have H2 := Lib.hid h2
  clear h1 h2 hr ht
  go_enter Tryd.func3, Tryd.ntmps3
  go_wp2_with (first
    | (go_at_call 11; go_must ((with_reducible refine (toPoint_any _ _ _).mono ?_)); rintro e w1 ⟨rfl, hb1⟩; obtain ⟨hc1, hf1, hz1, hn1⟩ := bstep 1 w hb1 (by go_size))
    | (go_at_call 10; go_must ((with_reducible refine (H1.out _).mono ?_)); rintro e w2 ⟨rfl, hb2⟩; obtain ⟨hc2, hf2, hz2, hn2⟩ := bstep 1 w hb2 (by go_size))
    | (go_at_call 12; go_must ((with_reducible refine (H2.out _ ?_).mono ?_)); (focus (repeat' (first | (with_reducible exact Below.refl _ _) | (with_reducible refine Below.alloc ?_ ?_ _) | (with_reducible refine Below.drew ?_) | (with_reducible refine below_drewN' ?_ _) | (with_reducible refine Below.setCell ?_ ?_ _) | (with_reducible refine Below.trans ?_ (Below.mono (by assumption) ?_)) | go_size))); rintro e w3 ⟨rfl, hb3⟩; obtain ⟨hc3, hf3, hz3, hn3⟩ := bstep 1 w hb3 (by go_size)))
  go_returns
  exact ⟨rfl, by (repeat' (first | (with_reducible exact Below.refl _ _) | (with_reducible refine Below.alloc ?_ ?_ _) | (with_reducible refine Below.drew ?_) | (with_reducible refine below_drewN' ?_ _) | (with_reducible refine Below.setCell ?_ ?_ _) | (with_reducible refine Below.trans ?_ (Below.mono (by assumption) ?_)) | go_size))⟩
end Go.Proofs.YtajjoihfccnfhaaDoor
