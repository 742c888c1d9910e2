/-
  The walks of laws: each call returns true, and nothing that lay before has turned. Condition: none but the kinds' bounds.
-/
import Derived.Test.YtoldicmobenhaaaCpd
namespace Go.Proofs.Ytoldicmobenhaaa
open Go.RowKit
set_option maxHeartbeats 400000
theorem FnExactDistanceOfSpot_walk (a0_0 a0_1 a0_2 a1_0 a1_1 a1_2 a2_0 a2_1 a2_2 a3_0 a3_1 a3_2 : Int) (w : World) (_g0_0 : -9223372036854775808 ≤ a0_0 ∧ a0_0 ≤ 9223372036854775807) (_g0_1 : -9223372036854775808 ≤ a0_1 ∧ a0_1 ≤ 9223372036854775807) (_g0_2 : -9223372036854775808 ≤ a0_2 ∧ a0_2 ≤ 9223372036854775807) (_g1_0 : -9223372036854775808 ≤ a1_0 ∧ a1_0 ≤ 9223372036854775807) (_g1_1 : -9223372036854775808 ≤ a1_1 ∧ a1_1 ≤ 9223372036854775807) (_g1_2 : -9223372036854775808 ≤ a1_2 ∧ a1_2 ≤ 9223372036854775807) (_g2_0 : -9223372036854775808 ≤ a2_0 ∧ a2_0 ≤ 9223372036854775807) (_g2_1 : -9223372036854775808 ≤ a2_1 ∧ a2_1 ≤ 9223372036854775807) (_g2_2 : -9223372036854775808 ≤ a2_2 ∧ a2_2 ≤ 9223372036854775807) (_g3_0 : -9223372036854775808 ≤ a3_0 ∧ a3_0 ≤ 9223372036854775807) (_g3_1 : -9223372036854775808 ≤ a3_1 ∧ a3_1 ≤ 9223372036854775807) (_g3_2 : -9223372036854775808 ≤ a3_2 ∧ a3_2 ≤ 9223372036854775807) :
    Calls Try.prog 10 #[.agg #[.int .i64 a0_0, .int .i64 a0_1, .int .i64 a0_2], .agg #[.int .i64 a1_0, .int .i64 a1_1, .int .i64 a1_2], .agg #[.int .i64 a2_0, .int .i64 a2_1, .int .i64 a2_2], .agg #[.int .i64 a3_0, .int .i64 a3_1, .int .i64 a3_2]] w fun e w' => e = .returned (.bool true) ∧ Below w.heap.size w w' := by
  clear _g0_0 _g0_1 _g0_2 _g1_0 _g1_1 _g1_2 _g2_0 _g2_1 _g2_2 _g3_0 _g3_1 _g3_2
  go_enter Try.func10, Try.ntmps10
  go_wp2
  (refine wp_region_beyond (w.heap.size + 4) (by kernel_rfl) (by kernel_rfl) (by go_size) (fun hBe => ?_); (repeat (first | go_big_quiet_step ((first | (go_at_call 16; exact beyond_of (toSpot_any _ _ _ _)) | (go_at_call 35; exact beyond_of (specDist_any _ _ _ _ _ _ _ _ _ _ _ _ _)))) | quiet_step ((first | (go_at_call 16; exact beyond_of (toSpot_any _ _ _ _)) | (go_at_call 35; exact beyond_of (specDist_any _ _ _ _ _ _ _ _ _ _ _ _ _)))))); refine wpQuiet_nil ?_; clear hBe; intro w1 hb1; obtain ⟨hc1, hf1, hz1, hn1⟩ := bstep 4 w hb1 (by go_size))
  go_wp2
  (refine wp_region_beyond (w.heap.size + 4) (by kernel_rfl) (by kernel_rfl) (by go_size) (fun hBe => ?_); (repeat (first | go_big_quiet_step ((first | (go_at_call 16; exact beyond_of (toSpot_any _ _ _ _)) | (go_at_call 36; exact beyond_of (implDist_any _ _ _ _ _ _ _ _ _ _ _ _ _)))) | quiet_step ((first | (go_at_call 16; exact beyond_of (toSpot_any _ _ _ _)) | (go_at_call 36; exact beyond_of (implDist_any _ _ _ _ _ _ _ _ _ _ _ _ _)))))); refine wpQuiet_nil ?_; clear hBe; intro w1 hb1; obtain ⟨hc1, hf1, hz1, hn1⟩ := bstep 4 w hb1 (by go_size))
  go_wp2
  go_returns
  exact ⟨rfl, by (repeat' (first | (with_reducible exact Below.refl _ _) | (with_reducible refine Below.alloc ?_ ?_ _) | (with_reducible refine Below.drew ?_) | (with_reducible refine below_drewN' ?_ _) | (with_reducible refine Below.setCell ?_ ?_ _) | (with_reducible refine Below.trans ?_ (Below.mono (by assumption) ?_)) | go_size))⟩
end Go.Proofs.Ytoldicmobenhaaa
