/-
  The walks of laws: each call returns true, and nothing that lay before has turned. Condition: none but the kinds' bounds.
-/
import Derived.Test.YtabdkjciajjkiaaCmr
namespace Go.Proofs.Ytabdkjciajjkiaa
open Go.RowKit
set_option maxHeartbeats 400000
theorem FnExactMatrixOfRun_walk (a0_0 a0_1 a0_2 a1 a2 : Int) (w : World) (_g0_0 : -9223372036854775808 ≤ a0_0 ∧ a0_0 ≤ 9223372036854775807) (_g0_1 : -9223372036854775808 ≤ a0_1 ∧ a0_1 ≤ 9223372036854775807) (_g0_2 : -9223372036854775808 ≤ a0_2 ∧ a0_2 ≤ 9223372036854775807) (_g1 : -9223372036854775808 ≤ a1 ∧ a1 ≤ 9223372036854775807) (_g2 : -9223372036854775808 ≤ a2 ∧ a2 ≤ 9223372036854775807) :
    Calls Try.prog 13 #[.agg #[.int .i64 a0_0, .int .i64 a0_1, .int .i64 a0_2], .int .i64 a1, .int .i64 a2] w fun e w' => e = .returned (.bool true) ∧ Below w.heap.size w w' := by
  clear _g0_0 _g0_1 _g0_2 _g1 _g2
  go_enter Try.func13, Try.ntmps13
  go_wp2_with (first | (go_at_call 15; have tok := ws; clear tok; (with_reducible refine (toTriple_any _ _ _ _).mono ?_); rintro e w1 ⟨rfl, hb1⟩; obtain ⟨hc1, hf1, hz1, hn1⟩ := bstep 1 w hb1 (by go_size); obtain ⟨hd1, he1, hy1, hx1⟩ := bstep 1 ws hb1 (by go_size)) | (go_at_call 15; (with_reducible refine (toTriple_any _ _ _ _).mono ?_); rintro e w1 ⟨rfl, hb1⟩; obtain ⟨hc1, hf1, hz1, hn1⟩ := bstep 1 w hb1 (by go_size)) | (go_at_call 45; (with_reducible refine (specMat_any _ _ _ _ _ _).mono ?_); rintro e ws ⟨rfl, hb1⟩; obtain ⟨hc1, hf1, hz1, hn1⟩ := bstep 1 w hb1 (by go_size)) | (go_at_call 46; have tok := ws; clear tok; (with_reducible refine (implMat_any _ _ _ _ _ _).mono ?_); rintro e w1 ⟨rfl, hb1⟩; obtain ⟨hc1, hf1, hz1, hn1⟩ := bstep 1 w hb1 (by go_size); obtain ⟨hd1, he1, hy1, hx1⟩ := bstep 1 ws hb1 (by go_size)) | (go_at_call 47; have tok := ws; clear tok; (with_reducible refine (eqSquare_same _ _ _ _ _ _ _ _ _ _).mono ?_); rintro e w1 ⟨rfl, hb1⟩; obtain ⟨hc1, hf1, hz1, hn1⟩ := bstep 1 w hb1 (by go_size); obtain ⟨hd1, he1, hy1, hx1⟩ := bstep 1 ws hb1 (by go_size)))
  go_returns
  exact ⟨rfl, by (repeat' (first | (with_reducible exact Below.refl _ _) | (with_reducible refine Below.alloc ?_ ?_ _) | (with_reducible refine Below.drew ?_) | (with_reducible refine below_drewN' ?_ _) | (with_reducible refine Below.setCell ?_ ?_ _) | (with_reducible refine Below.trans ?_ (Below.mono (by assumption) ?_)) | go_size))⟩
end Go.Proofs.Ytabdkjciajjkiaa
