/-
  The walks of laws: each call returns true, and nothing that lay before has turned. Condition: none but the kinds' bounds.
-/
import Derived.Test.YtoldicmobenhaaaCfn
namespace Go.Proofs.Ytoldicmobenhaaa
open Go.RowKit
set_option maxHeartbeats 400000
theorem FnExactReducedForms_walk (a0 : Int) (w : World) (_g0 : -9223372036854775808 ≤ a0 ∧ a0 ≤ 9223372036854775807) :
    Calls Try.prog 14 #[.int .i64 a0] w fun e w' => e = .returned (.bool true) ∧ Below w.heap.size w w' := by
  clear _g0
  have hn := formsR_len a0
  have hsp := fun W => specForms_any a0 W
  have hip := fun W => implForms_any a0 W
  obtain ⟨r, hr⟩ : ∃ r, formsR a0 = r := ⟨_, rfl⟩
  obtain ⟨xs, rc⟩ := r
  rw [hr] at hn hsp hip
  dsimp only at hn hsp hip
  have HN := Lib.hid hn
  have HS := Lib.hid hsp
  have HI := Lib.hid hip
  clear hn hsp hip hr
  go_enter Try.func14, Try.ntmps14
  go_wp2_with fail
  refine (HS.out _).mono ?_
  rintro e w1 ⟨⟨A1, c1, rfl, hI1, _⟩, hb1⟩
  have k1 := hb1
  go_wp2_with fail
  refine (HI.out _).mono ?_
  rintro e w2 ⟨⟨A2, c2, rfl, hI2, hW2⟩, hb2⟩
  have k2 := k1.trans (hb2.mono k1.size)
  have j2 := hb2
  go_wp2_with fail
  refine (eqFormS_same A2 A1 _ _ _ xs _ hI2 (hI1.keep j2) HN.out).mono ?_
  rintro e w3 ⟨rfl, hb3⟩
  have k3 := k2.trans (hb3.mono k2.size)
  have j3 := j2.trans (hb3.mono j2.size)
  go_wp2_with fail
  refine (markFormS_any A2 _ _ w1.heap.size xs 1 _ (hI2.keep hb3) (hW2.keep hb3) HN.out ⟨by omega, by omega⟩).mono ?_
  rintro e w4 ⟨rfl, hM, _, hb4⟩
  have k4 := k3.trans (hb4.mono k1.size)
  have j4 := j3.trans hb4
  go_wp2_with fail
  refine (heldFormS_any A2 _ _ 1 _ hM HN.out ⟨by omega, by omega⟩).mono ?_
  rintro e w5 ⟨rfl, hb5⟩
  have k5 := k4.trans (hb5.mono k4.size)
  have j5 := j4.trans (hb5.mono j4.size)
  have m5 := hb5
  go_wp2_with fail
  refine (HI.out _).mono ?_
  rintro e w6 ⟨⟨A3, c3, rfl, hI3, _⟩, hb6⟩
  have k6 := k5.trans (hb6.mono k5.size)
  have j6 := j5.trans (hb6.mono j5.size)
  have m6 := m5.trans (hb6.mono m5.size)
  go_wp2_with fail
  refine (eqFormS_same A3 A1 _ _ _ xs _ hI3 (hI1.keep j6) HN.out).mono ?_
  rintro e w7 ⟨rfl, hb7⟩
  have k7 := k6.trans (hb7.mono k6.size)
  have j7 := j6.trans (hb7.mono j6.size)
  have m7 := m6.trans (hb7.mono m6.size)
  go_wp2_with fail
  refine (heldFormS_any A2 _ _ 1 _ (hM.keep m7) HN.out ⟨by omega, by omega⟩).mono ?_
  rintro e w8 ⟨rfl, hb8⟩
  have k8 := k7.trans (hb8.mono k7.size)
  have j8 := j7.trans (hb8.mono j7.size)
  have m8 := m7.trans (hb8.mono m7.size)
  go_wp2
  go_returns
  exact ⟨rfl, k8⟩
end Go.Proofs.Ytoldicmobenhaaa
