/-
  The walks of laws: each call returns true, and nothing that lay before has turned. Condition: none but the kinds' bounds.
-/
import Derived.Test.YtoldicmobenhaaaCcr
import Derived.Test.YtoldicmobenhaaaHk
namespace Go.Proofs.Ytoldicmobenhaaa
open Go.RowKit
set_option maxHeartbeats 400000
theorem FnExactCrossOf_walk (a0_0 a0_1 a0_2 a1_0 a1_1 a1_2 : Int) (w : World) (_g0_0 : -9223372036854775808 ≤ a0_0 ∧ a0_0 ≤ 9223372036854775807) (_g0_1 : -9223372036854775808 ≤ a0_1 ∧ a0_1 ≤ 9223372036854775807) (_g0_2 : -9223372036854775808 ≤ a0_2 ∧ a0_2 ≤ 9223372036854775807) (_g1_0 : -9223372036854775808 ≤ a1_0 ∧ a1_0 ≤ 9223372036854775807) (_g1_1 : -9223372036854775808 ≤ a1_1 ∧ a1_1 ≤ 9223372036854775807) (_g1_2 : -9223372036854775808 ≤ a1_2 ∧ a1_2 ≤ 9223372036854775807) :
    Calls Try.prog 8 #[.agg #[.int .i64 a0_0, .int .i64 a0_1, .int .i64 a0_2], .agg #[.int .i64 a1_0, .int .i64 a1_1, .int .i64 a1_2]] w fun e w' => e = .returned (.bool true) ∧ Below w.heap.size w w' := by
  clear _g0_0 _g0_1 _g0_2 _g1_0 _g1_1 _g1_2
  have hn := crossR_len a0_0 a0_1 a0_2 a1_0 a1_1 a1_2
  have hsp := fun W => specCross_any a0_0 a0_1 a0_2 a1_0 a1_1 a1_2 W
  have hip := fun W => implCross_any a0_0 a0_1 a0_2 a1_0 a1_1 a1_2 W
  obtain ⟨r, hr⟩ : ∃ r, crossR a0_0 a0_1 a0_2 a1_0 a1_1 a1_2 = r := ⟨_, rfl⟩
  obtain ⟨xs, rc⟩ := r
  rw [hr] at hn hsp hip
  dsimp only at hn hsp hip
  have HN := Lib.hid hn
  have HS := Lib.hid hsp
  have HI := Lib.hid hip
  clear hn hsp hip hr
  go_enter Try.func8, Try.ntmps8
  go_wp2_with fail
  go_region_held3 (fun w' => w'.cell? ⟨w.heap.size, 0, none⟩ = some (.int .i64 a0_0) ∧ w'.cell? ⟨w.heap.size, 1, none⟩ = some (.int .i64 a0_1) ∧ w'.cell? ⟨w.heap.size, 2, none⟩ = some (.int .i64 a0_2) ∧ w'.cell? ⟨w.heap.size + 1, 0, none⟩ = some (.int .i64 a1_0) ∧ w'.cell? ⟨w.heap.size + 1, 1, none⟩ = some (.int .i64 a1_1) ∧ w'.cell? ⟨w.heap.size + 1, 2, none⟩ = some (.int .i64 a1_2)) ((focus (((repeat' apply And.intro) <;> (repeat' (first | (with_reducible assumption) | (with_reducible refine keep_drew ?_) | (with_reducible refine keep_setx (by omega) ?_) | (with_reducible refine keep_hc (by with_reducible assumption) (by omega) ?_) | (focus (go_simp; done)) | (with_reducible refine keep_alloc ?_)))); done))) (first | (go_at_call 16; (with_reducible refine (toSpot_any _ _ _ _).mono ?_); rintro e w1 ⟨rfl, hb1⟩; obtain ⟨hg1, hi1, hy1, hx1⟩ := bfull hb1; (try simp only [World.size_drew] at hg1 hi1 hy1 hx1); (try simp only [World.size_alloc] at hg1 hi1 hy1 hx1); (try simp only [World.size_setCell] at hg1 hi1 hy1 hx1)) | (go_at_call 28; (with_reducible refine (HS.out _).mono ?_); rintro e w2 ⟨⟨A1, c1, rfl, hI1, _⟩, hb2⟩; obtain ⟨hg2, hi2, hy2, hx2⟩ := bfull hb2; (try simp only [World.size_drew] at hg2 hi2 hy2 hx2); (try simp only [World.size_alloc] at hg2 hi2 hy2 hx2); (try simp only [World.size_setCell] at hg2 hi2 hy2 hx2)))
  have k2 : Below w.heap.size w w2 := by (repeat' (first | (with_reducible exact Below.refl _ _) | (with_reducible refine Below.alloc ?_ ?_ _) | (with_reducible refine Below.drew ?_) | (with_reducible refine below_drewN' ?_ _) | (with_reducible refine Below.setCell ?_ ?_ _) | (with_reducible refine Below.trans ?_ (Below.mono (by assumption) ?_)) | go_size))
  obtain ⟨q0, q1, q2, q3, q4, q5⟩ : w2.cell? ⟨w.heap.size, 0, none⟩ = some (.int .i64 a0_0) ∧ w2.cell? ⟨w.heap.size, 1, none⟩ = some (.int .i64 a0_1) ∧ w2.cell? ⟨w.heap.size, 2, none⟩ = some (.int .i64 a0_2) ∧ w2.cell? ⟨w.heap.size + 1, 0, none⟩ = some (.int .i64 a1_0) ∧ w2.cell? ⟨w.heap.size + 1, 1, none⟩ = some (.int .i64 a1_1) ∧ w2.cell? ⟨w.heap.size + 1, 2, none⟩ = some (.int .i64 a1_2) := by (focus (((repeat' apply And.intro) <;> (repeat' (first | (with_reducible assumption) | (with_reducible refine keep_drew ?_) | (with_reducible refine keep_setx (by omega) ?_) | (with_reducible refine keep_hc (by with_reducible assumption) (by omega) ?_) | (focus (go_simp; done)) | (with_reducible refine keep_alloc ?_)))); done))
  have z2 : w.heap.size + 2 ≤ w2.heap.size := by go_size
  go_wp2_with fail
  go_region_held3 (fun w' => w'.cell? ⟨w.heap.size, 0, none⟩ = some (.int .i64 a0_0) ∧ w'.cell? ⟨w.heap.size, 1, none⟩ = some (.int .i64 a0_1) ∧ w'.cell? ⟨w.heap.size, 2, none⟩ = some (.int .i64 a0_2) ∧ w'.cell? ⟨w.heap.size + 1, 0, none⟩ = some (.int .i64 a1_0) ∧ w'.cell? ⟨w.heap.size + 1, 1, none⟩ = some (.int .i64 a1_1) ∧ w'.cell? ⟨w.heap.size + 1, 2, none⟩ = some (.int .i64 a1_2)) ((focus (((repeat' apply And.intro) <;> (repeat' (first | (with_reducible assumption) | (with_reducible refine keep_drew ?_) | (with_reducible refine keep_setx (by omega) ?_) | (with_reducible refine keep_hc (by with_reducible assumption) (by omega) ?_) | (focus (go_simp; done)) | (with_reducible refine keep_alloc ?_)))); done))) (first | (go_at_call 16; (with_reducible refine (toSpot_any _ _ _ _).mono ?_); rintro e w3 ⟨rfl, hb3⟩; obtain ⟨hg3, hi3, hy3, hx3⟩ := bfull hb3; (try simp only [World.size_drew] at hg3 hi3 hy3 hx3); (try simp only [World.size_alloc] at hg3 hi3 hy3 hx3); (try simp only [World.size_setCell] at hg3 hi3 hy3 hx3)) | (go_at_call 29; (with_reducible refine (HI.out _).mono ?_); rintro e w4 ⟨⟨A2, c2, rfl, hI2, hW2⟩, hb4⟩; obtain ⟨hg4, hi4, hy4, hx4⟩ := bfull hb4; (try simp only [World.size_drew] at hg4 hi4 hy4 hx4); (try simp only [World.size_alloc] at hg4 hi4 hy4 hx4); (try simp only [World.size_setCell] at hg4 hi4 hy4 hx4); replace hW2 := hW2.mono (show w2.heap.size ≤ _ by go_size)))
  have m4 : Below w2.heap.size w2 w4 := by (repeat' (first | (with_reducible exact Below.refl _ _) | (with_reducible refine Below.alloc ?_ ?_ _) | (with_reducible refine Below.drew ?_) | (with_reducible refine below_drewN' ?_ _) | (with_reducible refine Below.setCell ?_ ?_ _) | (with_reducible refine Below.trans ?_ (Below.mono (by assumption) ?_)) | go_size))
  have k4 := k2.trans (m4.mono k2.size)
  obtain ⟨q0, q1, q2, q3, q4, q5⟩ : w4.cell? ⟨w.heap.size, 0, none⟩ = some (.int .i64 a0_0) ∧ w4.cell? ⟨w.heap.size, 1, none⟩ = some (.int .i64 a0_1) ∧ w4.cell? ⟨w.heap.size, 2, none⟩ = some (.int .i64 a0_2) ∧ w4.cell? ⟨w.heap.size + 1, 0, none⟩ = some (.int .i64 a1_0) ∧ w4.cell? ⟨w.heap.size + 1, 1, none⟩ = some (.int .i64 a1_1) ∧ w4.cell? ⟨w.heap.size + 1, 2, none⟩ = some (.int .i64 a1_2) := by (focus (((repeat' apply And.intro) <;> (repeat' (first | (with_reducible assumption) | (with_reducible refine keep_drew ?_) | (with_reducible refine keep_setx (by omega) ?_) | (with_reducible refine keep_hc (by with_reducible assumption) (by omega) ?_) | (focus (go_simp; done)) | (with_reducible refine keep_alloc ?_)))); done))
  have z4 : w.heap.size + 2 ≤ w4.heap.size := by go_size
  have j4 := m4
  go_wp2_with fail
  refine (eqInt64S_same A2 A1 _ _ _ xs _ hI2 (hI1.keep j4) HN.out).mono ?_
  rintro e w5 ⟨rfl, hb5⟩
  have k5 : Below w.heap.size w w5 := k4.trans (hb5.mono (by omega))
  have q0 := cell_keepB hb5 (show w.heap.size < w4.heap.size by omega) q0
  have q1 := cell_keepB hb5 (show w.heap.size < w4.heap.size by omega) q1
  have q2 := cell_keepB hb5 (show w.heap.size < w4.heap.size by omega) q2
  have q3 := cell_keepB hb5 (show w.heap.size + 1 < w4.heap.size by omega) q3
  have q4 := cell_keepB hb5 (show w.heap.size + 1 < w4.heap.size by omega) q4
  have q5 := cell_keepB hb5 (show w.heap.size + 1 < w4.heap.size by omega) q5
  have z5 : w.heap.size + 2 ≤ w5.heap.size := by have := hb5.size; omega
  have j5 := j4.trans (hb5.mono j4.size)
  go_wp2_with fail
  refine (markInt64S_any A2 _ _ w2.heap.size xs 1 _ (hI2.keep hb5) (hW2.keep hb5) HN.out ⟨by omega, by omega⟩).mono ?_
  rintro e w6 ⟨rfl, hM, _, hb6⟩
  have k6 : Below w.heap.size w w6 := k5.trans (hb6.mono (by omega))
  have q0 := cell_keepB hb6 (show w.heap.size < w2.heap.size by omega) q0
  have q1 := cell_keepB hb6 (show w.heap.size < w2.heap.size by omega) q1
  have q2 := cell_keepB hb6 (show w.heap.size < w2.heap.size by omega) q2
  have q3 := cell_keepB hb6 (show w.heap.size + 1 < w2.heap.size by omega) q3
  have q4 := cell_keepB hb6 (show w.heap.size + 1 < w2.heap.size by omega) q4
  have q5 := cell_keepB hb6 (show w.heap.size + 1 < w2.heap.size by omega) q5
  have z6 : w.heap.size + 2 ≤ w6.heap.size := by have := hb6.size; omega
  have j6 := j5.trans hb6
  go_wp2_with fail
  refine (heldInt64S_any A2 _ _ 1 _ hM HN.out ⟨by omega, by omega⟩).mono ?_
  rintro e w7 ⟨rfl, hb7⟩
  have k7 : Below w.heap.size w w7 := k6.trans (hb7.mono (by omega))
  have q0 := cell_keepB hb7 (show w.heap.size < w6.heap.size by omega) q0
  have q1 := cell_keepB hb7 (show w.heap.size < w6.heap.size by omega) q1
  have q2 := cell_keepB hb7 (show w.heap.size < w6.heap.size by omega) q2
  have q3 := cell_keepB hb7 (show w.heap.size + 1 < w6.heap.size by omega) q3
  have q4 := cell_keepB hb7 (show w.heap.size + 1 < w6.heap.size by omega) q4
  have q5 := cell_keepB hb7 (show w.heap.size + 1 < w6.heap.size by omega) q5
  have z7 : w.heap.size + 2 ≤ w7.heap.size := by have := hb7.size; omega
  have j7 := j6.trans (hb7.mono j6.size)
  go_wp2_with fail
  go_region_held3 (fun w' => w'.cell? ⟨w.heap.size, 0, none⟩ = some (.int .i64 a0_0) ∧ w'.cell? ⟨w.heap.size, 1, none⟩ = some (.int .i64 a0_1) ∧ w'.cell? ⟨w.heap.size, 2, none⟩ = some (.int .i64 a0_2) ∧ w'.cell? ⟨w.heap.size + 1, 0, none⟩ = some (.int .i64 a1_0) ∧ w'.cell? ⟨w.heap.size + 1, 1, none⟩ = some (.int .i64 a1_1) ∧ w'.cell? ⟨w.heap.size + 1, 2, none⟩ = some (.int .i64 a1_2)) ((focus (((repeat' apply And.intro) <;> (repeat' (first | (with_reducible assumption) | (with_reducible refine keep_drew ?_) | (with_reducible refine keep_setx (by omega) ?_) | (with_reducible refine keep_hc (by with_reducible assumption) (by omega) ?_) | (focus (go_simp; done)) | (with_reducible refine keep_alloc ?_)))); done))) (first | (go_at_call 16; (with_reducible refine (toSpot_any _ _ _ _).mono ?_); rintro e w8 ⟨rfl, hb8⟩; obtain ⟨hg8, hi8, hy8, hx8⟩ := bfull hb8; (try simp only [World.size_drew] at hg8 hi8 hy8 hx8); (try simp only [World.size_alloc] at hg8 hi8 hy8 hx8); (try simp only [World.size_setCell] at hg8 hi8 hy8 hx8)) | (go_at_call 29; (with_reducible refine (HI.out _).mono ?_); rintro e w9 ⟨⟨A3, c3, rfl, hI3, _⟩, hb9⟩; obtain ⟨hg9, hi9, hy9, hx9⟩ := bfull hb9; (try simp only [World.size_drew] at hg9 hi9 hy9 hx9); (try simp only [World.size_alloc] at hg9 hi9 hy9 hx9); (try simp only [World.size_setCell] at hg9 hi9 hy9 hx9)))
  have m9 : Below w7.heap.size w7 w9 := by (repeat' (first | (with_reducible exact Below.refl _ _) | (with_reducible refine Below.alloc ?_ ?_ _) | (with_reducible refine Below.drew ?_) | (with_reducible refine below_drewN' ?_ _) | (with_reducible refine Below.setCell ?_ ?_ _) | (with_reducible refine Below.trans ?_ (Below.mono (by assumption) ?_)) | go_size))
  have k9 := k7.trans (m9.mono k7.size)
  obtain ⟨q0, q1, q2, q3, q4, q5⟩ : w9.cell? ⟨w.heap.size, 0, none⟩ = some (.int .i64 a0_0) ∧ w9.cell? ⟨w.heap.size, 1, none⟩ = some (.int .i64 a0_1) ∧ w9.cell? ⟨w.heap.size, 2, none⟩ = some (.int .i64 a0_2) ∧ w9.cell? ⟨w.heap.size + 1, 0, none⟩ = some (.int .i64 a1_0) ∧ w9.cell? ⟨w.heap.size + 1, 1, none⟩ = some (.int .i64 a1_1) ∧ w9.cell? ⟨w.heap.size + 1, 2, none⟩ = some (.int .i64 a1_2) := by (focus (((repeat' apply And.intro) <;> (repeat' (first | (with_reducible assumption) | (with_reducible refine keep_drew ?_) | (with_reducible refine keep_setx (by omega) ?_) | (with_reducible refine keep_hc (by with_reducible assumption) (by omega) ?_) | (focus (go_simp; done)) | (with_reducible refine keep_alloc ?_)))); done))
  have z9 : w.heap.size + 2 ≤ w9.heap.size := by go_size
  have j9 := j7.trans (m9.mono j7.size)
  go_wp2_with fail
  refine (eqInt64S_same A3 A1 _ _ _ xs _ hI3 (hI1.keep j9) HN.out).mono ?_
  rintro e w10 ⟨rfl, hb10⟩
  have k10 : Below w.heap.size w w10 := k9.trans (hb10.mono (by omega))
  have q0 := cell_keepB hb10 (show w.heap.size < w9.heap.size by omega) q0
  have q1 := cell_keepB hb10 (show w.heap.size < w9.heap.size by omega) q1
  have q2 := cell_keepB hb10 (show w.heap.size < w9.heap.size by omega) q2
  have q3 := cell_keepB hb10 (show w.heap.size + 1 < w9.heap.size by omega) q3
  have q4 := cell_keepB hb10 (show w.heap.size + 1 < w9.heap.size by omega) q4
  have q5 := cell_keepB hb10 (show w.heap.size + 1 < w9.heap.size by omega) q5
  have z10 : w.heap.size + 2 ≤ w10.heap.size := by have := hb10.size; omega
  have n9 := hb7.trans (m9.mono hb7.size)
  have n10 := n9.trans (hb10.mono n9.size)
  go_wp2_with fail
  refine (heldInt64S_any A2 _ _ 1 _ (hM.keep n10) HN.out ⟨by omega, by omega⟩).mono ?_
  rintro e w11 ⟨rfl, hb11⟩
  have k11 : Below w.heap.size w w11 := k10.trans (hb11.mono (by omega))
  have q0 := cell_keepB hb11 (show w.heap.size < w10.heap.size by omega) q0
  have q1 := cell_keepB hb11 (show w.heap.size < w10.heap.size by omega) q1
  have q2 := cell_keepB hb11 (show w.heap.size < w10.heap.size by omega) q2
  have q3 := cell_keepB hb11 (show w.heap.size + 1 < w10.heap.size by omega) q3
  have q4 := cell_keepB hb11 (show w.heap.size + 1 < w10.heap.size by omega) q4
  have q5 := cell_keepB hb11 (show w.heap.size + 1 < w10.heap.size by omega) q5
  have z11 : w.heap.size + 2 ≤ w11.heap.size := by have := hb11.size; omega
  go_wp2
  go_returns
  exact ⟨rfl, k11⟩
end Go.Proofs.Ytoldicmobenhaaa
