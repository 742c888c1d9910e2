/-
  The walks of laws: each call returns true, and nothing that lay before has turned. Condition: none but the kinds' bounds.
-/
import Derived.Test.YtabdkjciajjkiaaCrt
namespace Go.Proofs.Ytabdkjciajjkiaa
open Go.RowKit
set_option maxHeartbeats 400000
theorem FnExactRunTriple_walk (a0_0 a0_1 a0_2 a1 a2 : Int) (w : World) (_g0_0 : -9223372036854775808 ≤ a0_0 ∧ a0_0 ≤ 9223372036854775807) (_g0_1 : -9223372036854775808 ≤ a0_1 ∧ a0_1 ≤ 9223372036854775807) (_g0_2 : -9223372036854775808 ≤ a0_2 ∧ a0_2 ≤ 9223372036854775807) (_g1 : -9223372036854775808 ≤ a1 ∧ a1 ≤ 9223372036854775807) (_g2 : -9223372036854775808 ≤ a2 ∧ a2 ≤ 9223372036854775807) :
    Calls Try.prog 12 #[.agg #[.int .i64 a0_0, .int .i64 a0_1, .int .i64 a0_2], .int .i64 a1, .int .i64 a2] w fun e w' => e = .returned (.bool true) ∧ Below w.heap.size w w' := by
  clear _g0_0 _g0_1 _g0_2 _g1 _g2
  have hn := runR_len a0_0 a0_1 a0_2 a1 a2
  have hsp := fun W => specRun_any a0_0 a0_1 a0_2 a1 a2 W
  have hip := fun W => implRun_any a0_0 a0_1 a0_2 a1 a2 W
  obtain ⟨r, hr⟩ : ∃ r, runR a0_0 a0_1 a0_2 a1 a2 = r := ⟨_, rfl⟩
  obtain ⟨xs, rc⟩ := r
  rw [hr] at hn hsp hip
  dsimp only at hn hsp hip
  have HN := Lib.hid hn
  have HS := Lib.hid hsp
  have HI := Lib.hid hip
  clear hn hsp hip hr
  go_enter Try.func12, Try.ntmps12
  go_wp2_with fail
  refine (toTriple_any _ _ _ _).mono ?_
  rintro e w1 ⟨rfl, hb1⟩
  have k1 := ((Below.refl w.heap.size w).alloc (Nat.le_refl _) _).trans (hb1.mono (by go_size))
  have q0 : w1.cell? ⟨w.heap.size, 0, none⟩ = some (.int .i64 a0_0) := keep_below hb1 (by go_size) (by go_simp)
  have q1 : w1.cell? ⟨w.heap.size, 1, none⟩ = some (.int .i64 a0_1) := keep_below hb1 (by go_size) (by go_simp)
  have q2 : w1.cell? ⟨w.heap.size, 2, none⟩ = some (.int .i64 a0_2) := keep_below hb1 (by go_size) (by go_simp)
  have z1 : w.heap.size + 1 ≤ w1.heap.size := by have := hb1.size; simp at this; omega
  go_wp2_with fail
  refine (HS.out _).mono ?_
  rintro e w2 ⟨⟨A1, c1, rfl, hI1, _⟩, hb2⟩
  have k2 := k1.trans (hb2.mono k1.size)
  have q0 := cell_keepB hb2 (show w.heap.size < w1.heap.size from z1) q0
  have q1 := cell_keepB hb2 (show w.heap.size < w1.heap.size from z1) q1
  have q2 := cell_keepB hb2 (show w.heap.size < w1.heap.size from z1) q2
  have z2 : w.heap.size + 1 ≤ w2.heap.size := by have := hb2.size; omega
  go_wp2_with fail
  refine (toTriple_any _ _ _ _).mono ?_
  rintro e w3 ⟨rfl, hb3⟩
  have k3 := k2.trans (hb3.mono k2.size)
  have q0 := cell_keepB hb3 (show w.heap.size < w2.heap.size from z2) q0
  have q1 := cell_keepB hb3 (show w.heap.size < w2.heap.size from z2) q1
  have q2 := cell_keepB hb3 (show w.heap.size < w2.heap.size from z2) q2
  have z3 : w.heap.size + 1 ≤ w3.heap.size := by have := hb3.size; omega
  have j3 := hb3
  go_wp2_with fail
  refine (HI.out _).mono ?_
  rintro e w4 ⟨⟨A2, c2, rfl, hI2, hW2⟩, hb4⟩
  have k4 := k3.trans (hb4.mono k3.size)
  have q0 := cell_keepB hb4 (show w.heap.size < w3.heap.size from z3) q0
  have q1 := cell_keepB hb4 (show w.heap.size < w3.heap.size from z3) q1
  have q2 := cell_keepB hb4 (show w.heap.size < w3.heap.size from z3) q2
  have z4 : w.heap.size + 1 ≤ w4.heap.size := by have := hb4.size; omega
  have j4 := j3.trans (hb4.mono j3.size)
  go_wp2_with fail
  refine (eqTripleS_same A2 A1 _ _ _ xs _ hI2 (hI1.keep j4) HN.out).mono ?_
  rintro e w5 ⟨rfl, hb5⟩
  have k5 := k4.trans (hb5.mono k4.size)
  have q0 := cell_keepB hb5 (show w.heap.size < w4.heap.size from z4) q0
  have q1 := cell_keepB hb5 (show w.heap.size < w4.heap.size from z4) q1
  have q2 := cell_keepB hb5 (show w.heap.size < w4.heap.size from z4) q2
  have z5 : w.heap.size + 1 ≤ w5.heap.size := by have := hb5.size; omega
  have j5 := j4.trans (hb5.mono j4.size)
  go_wp2_with fail
  refine (markTripleS_any A2 _ _ w3.heap.size xs 1 _ (hI2.keep hb5) (hW2.keep hb5) HN.out ⟨by omega, by omega⟩).mono ?_
  rintro e w6 ⟨rfl, hM, _, hb6⟩
  have k6 := k5.trans (hb6.mono k3.size)
  have q0 := cell_keepB hb6 (show w.heap.size < w3.heap.size from z3) q0
  have q1 := cell_keepB hb6 (show w.heap.size < w3.heap.size from z3) q1
  have q2 := cell_keepB hb6 (show w.heap.size < w3.heap.size from z3) q2
  have z6 : w.heap.size + 1 ≤ w6.heap.size := by have := hb6.size; omega
  have j6 := j5.trans (hb6.mono j3.size)
  go_wp2_with fail
  refine (heldTripleS_any A2 _ _ 1 _ hM HN.out ⟨by omega, by omega⟩).mono ?_
  rintro e w7 ⟨rfl, hb7⟩
  have k7 := k6.trans (hb7.mono k6.size)
  have q0 := cell_keepB hb7 (show w.heap.size < w6.heap.size from z6) q0
  have q1 := cell_keepB hb7 (show w.heap.size < w6.heap.size from z6) q1
  have q2 := cell_keepB hb7 (show w.heap.size < w6.heap.size from z6) q2
  have z7 : w.heap.size + 1 ≤ w7.heap.size := by have := hb7.size; omega
  have j7 := j6.trans (hb7.mono j6.size)
  have m7 := hb7
  go_wp2_with fail
  refine (toTriple_any _ _ _ _).mono ?_
  rintro e w8 ⟨rfl, hb8⟩
  have k8 := k7.trans (hb8.mono k7.size)
  have q0 := cell_keepB hb8 (show w.heap.size < w7.heap.size from z7) q0
  have q1 := cell_keepB hb8 (show w.heap.size < w7.heap.size from z7) q1
  have q2 := cell_keepB hb8 (show w.heap.size < w7.heap.size from z7) q2
  have z8 : w.heap.size + 1 ≤ w8.heap.size := by have := hb8.size; omega
  have j8 := j7.trans (hb8.mono j7.size)
  have m8 := m7.trans (hb8.mono m7.size)
  go_wp2_with fail
  refine (HI.out _).mono ?_
  rintro e w9 ⟨⟨A3, c3, rfl, hI3, _⟩, hb9⟩
  have k9 := k8.trans (hb9.mono k8.size)
  have q0 := cell_keepB hb9 (show w.heap.size < w8.heap.size from z8) q0
  have q1 := cell_keepB hb9 (show w.heap.size < w8.heap.size from z8) q1
  have q2 := cell_keepB hb9 (show w.heap.size < w8.heap.size from z8) q2
  have z9 : w.heap.size + 1 ≤ w9.heap.size := by have := hb9.size; omega
  have j9 := j8.trans (hb9.mono j8.size)
  have m9 := m8.trans (hb9.mono m8.size)
  go_wp2_with fail
  refine (eqTripleS_same A3 A1 _ _ _ xs _ hI3 (hI1.keep j9) HN.out).mono ?_
  rintro e w10 ⟨rfl, hb10⟩
  have k10 := k9.trans (hb10.mono k9.size)
  have q0 := cell_keepB hb10 (show w.heap.size < w9.heap.size from z9) q0
  have q1 := cell_keepB hb10 (show w.heap.size < w9.heap.size from z9) q1
  have q2 := cell_keepB hb10 (show w.heap.size < w9.heap.size from z9) q2
  have z10 : w.heap.size + 1 ≤ w10.heap.size := by have := hb10.size; omega
  have j10 := j9.trans (hb10.mono j9.size)
  have m10 := m9.trans (hb10.mono m9.size)
  go_wp2_with fail
  refine (heldTripleS_any A2 _ _ 1 _ (hM.keep m10) HN.out ⟨by omega, by omega⟩).mono ?_
  rintro e w11 ⟨rfl, hb11⟩
  have k11 := k10.trans (hb11.mono k10.size)
  have q0 := cell_keepB hb11 (show w.heap.size < w10.heap.size from z10) q0
  have q1 := cell_keepB hb11 (show w.heap.size < w10.heap.size from z10) q1
  have q2 := cell_keepB hb11 (show w.heap.size < w10.heap.size from z10) q2
  have z11 : w.heap.size + 1 ≤ w11.heap.size := by have := hb11.size; omega
  have j11 := j10.trans (hb11.mono j10.size)
  have m11 := m10.trans (hb11.mono m10.size)
  go_wp2
  go_returns
  exact ⟨rfl, k11⟩
end Go.Proofs.Ytabdkjciajjkiaa
