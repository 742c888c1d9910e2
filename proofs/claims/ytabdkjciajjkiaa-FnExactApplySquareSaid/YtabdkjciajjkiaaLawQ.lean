/-
  The walks of laws: each call returns true, and nothing that lay before has turned. Condition: none but the kinds' bounds.
-/
import Derived.Test.YtabdkjciajjkiaaCsa
namespace Go.Proofs.Ytabdkjciajjkiaa
open Go.RowKit
set_option maxHeartbeats 400000
theorem FnExactApplySquare_walk (a0_0 a0_1 a0_2 a0_3 a0_4 a0_5 a0_6 a0_7 a0_8 a1_0 a1_1 a1_2 : Int) (w : World) (_g0_0 : -9223372036854775808 ≤ a0_0 ∧ a0_0 ≤ 9223372036854775807) (_g0_1 : -9223372036854775808 ≤ a0_1 ∧ a0_1 ≤ 9223372036854775807) (_g0_2 : -9223372036854775808 ≤ a0_2 ∧ a0_2 ≤ 9223372036854775807) (_g0_3 : -9223372036854775808 ≤ a0_3 ∧ a0_3 ≤ 9223372036854775807) (_g0_4 : -9223372036854775808 ≤ a0_4 ∧ a0_4 ≤ 9223372036854775807) (_g0_5 : -9223372036854775808 ≤ a0_5 ∧ a0_5 ≤ 9223372036854775807) (_g0_6 : -9223372036854775808 ≤ a0_6 ∧ a0_6 ≤ 9223372036854775807) (_g0_7 : -9223372036854775808 ≤ a0_7 ∧ a0_7 ≤ 9223372036854775807) (_g0_8 : -9223372036854775808 ≤ a0_8 ∧ a0_8 ≤ 9223372036854775807) (_g1_0 : -9223372036854775808 ≤ a1_0 ∧ a1_0 ≤ 9223372036854775807) (_g1_1 : -9223372036854775808 ≤ a1_1 ∧ a1_1 ≤ 9223372036854775807) (_g1_2 : -9223372036854775808 ≤ a1_2 ∧ a1_2 ≤ 9223372036854775807) :
    Calls Try.prog 4 #[.agg #[.int .i64 a0_0, .int .i64 a0_1, .int .i64 a0_2, .int .i64 a0_3, .int .i64 a0_4, .int .i64 a0_5, .int .i64 a0_6, .int .i64 a0_7, .int .i64 a0_8], .agg #[.int .i64 a1_0, .int .i64 a1_1, .int .i64 a1_2]] w fun e w' => e = .returned (.bool true) ∧ Below w.heap.size w w' := by
  clear _g0_0 _g0_1 _g0_2 _g0_3 _g0_4 _g0_5 _g0_6 _g0_7 _g0_8 _g1_0 _g1_1 _g1_2
  obtain ⟨r, hr⟩ : ∃ r, appSq a0_0 a0_1 a0_2 a0_3 a0_4 a0_5 a0_6 a0_7 a0_8 a1_0 a1_1 a1_2 = r := ⟨_, rfl⟩
  obtain ⟨r0, r1, r2, rc⟩ := r
  have hsp := fun W => specApp_any a0_0 a0_1 a0_2 a0_3 a0_4 a0_5 a0_6 a0_7 a0_8 a1_0 a1_1 a1_2 W
  rw [hr] at hsp
  have HS := Lib.hid hsp
  have hip := fun W => implApp_any a0_0 a0_1 a0_2 a0_3 a0_4 a0_5 a0_6 a0_7 a0_8 a1_0 a1_1 a1_2 W
  rw [hr] at hip
  have HI := Lib.hid hip
  clear hsp hip hr
  go_enter Try.func4, Try.ntmps4
  have hna10 : ¬ w.heap.size + 1 = w.heap.size := by omega
  have hnb0 : ¬ w.heap.size + 1 + 1 = w.heap.size := by omega
  have hnb1 : ¬ w.heap.size + 1 + 1 = w.heap.size + 1 := by omega
  go_wp2_with fail
  go_cut [5, 6] (fun pp cc w1 => ∃ N, pp = .pointer (some ⟨N, 0, none⟩) ∧ cc = .int .i64 rc ∧ (w.heap.size + 2 ≤ w1.heap.size ∧ w1.cell? ⟨w.heap.size, 0, none⟩ = some (.int .i64 a0_0) ∧ w1.cell? ⟨w.heap.size, 1, none⟩ = some (.int .i64 a0_1) ∧ w1.cell? ⟨w.heap.size, 2, none⟩ = some (.int .i64 a0_2) ∧ w1.cell? ⟨w.heap.size, 3, none⟩ = some (.int .i64 a0_3) ∧ w1.cell? ⟨w.heap.size, 4, none⟩ = some (.int .i64 a0_4) ∧ w1.cell? ⟨w.heap.size, 5, none⟩ = some (.int .i64 a0_5) ∧ w1.cell? ⟨w.heap.size, 6, none⟩ = some (.int .i64 a0_6) ∧ w1.cell? ⟨w.heap.size, 7, none⟩ = some (.int .i64 a0_7) ∧ w1.cell? ⟨w.heap.size, 8, none⟩ = some (.int .i64 a0_8) ∧ w1.cell? ⟨w.heap.size + 1, 0, none⟩ = some (.int .i64 a1_0) ∧ w1.cell? ⟨w.heap.size + 1, 1, none⟩ = some (.int .i64 a1_1) ∧ w1.cell? ⟨w.heap.size + 1, 2, none⟩ = some (.int .i64 a1_2)) ∧ w.heap.size + 2 ≤ N ∧ (w1.cell? ⟨N, 0, none⟩ = some (.int .i64 r0) ∧ w1.cell? ⟨N, 1, none⟩ = some (.int .i64 r1) ∧ w1.cell? ⟨N, 2, none⟩ = some (.int .i64 r2)) ∧ Below w.heap.size w w1)
  case first =>
    go_region_held3 (fun w' => w.heap.size + 2 ≤ w'.heap.size ∧ w'.cell? ⟨w.heap.size, 0, none⟩ = some (.int .i64 a0_0) ∧ w'.cell? ⟨w.heap.size, 1, none⟩ = some (.int .i64 a0_1) ∧ w'.cell? ⟨w.heap.size, 2, none⟩ = some (.int .i64 a0_2) ∧ w'.cell? ⟨w.heap.size, 3, none⟩ = some (.int .i64 a0_3) ∧ w'.cell? ⟨w.heap.size, 4, none⟩ = some (.int .i64 a0_4) ∧ w'.cell? ⟨w.heap.size, 5, none⟩ = some (.int .i64 a0_5) ∧ w'.cell? ⟨w.heap.size, 6, none⟩ = some (.int .i64 a0_6) ∧ w'.cell? ⟨w.heap.size, 7, none⟩ = some (.int .i64 a0_7) ∧ w'.cell? ⟨w.heap.size, 8, none⟩ = some (.int .i64 a0_8) ∧ w'.cell? ⟨w.heap.size + 1, 0, none⟩ = some (.int .i64 a1_0) ∧ w'.cell? ⟨w.heap.size + 1, 1, none⟩ = some (.int .i64 a1_1) ∧ w'.cell? ⟨w.heap.size + 1, 2, none⟩ = some (.int .i64 a1_2))
      (first | (refine ⟨by go_size, ?_⟩; go_keep))
      (first | (go_at_call 18; (with_reducible refine (toSquare_any _ _ _ _ _ _ _ _ _ _).mono ?_); rintro e w1 ⟨rfl, hb1⟩; obtain ⟨hc1, hf1, hz1, hn1⟩ := bstep 2 w hb1 (by go_size); obtain ⟨hg1, hi1, hy1, hx1⟩ := bfull hb1; try (refine bcomp (by assumption) hb1 ?_; intro hq hg2 hi2 hx2)) | (go_at_call 15; (with_reducible refine (toTriple_any _ _ _ _).mono ?_); rintro e w1 ⟨rfl, hb1⟩; obtain ⟨hc1, hf1, hz1, hn1⟩ := bstep 2 w hb1 (by go_size); obtain ⟨hg1, hi1, hy1, hx1⟩ := bfull hb1; try (refine bcomp (by assumption) hb1 ?_; intro hq hg2 hi2 hx2)) | (go_at_call 17; (with_reducible refine (HS.out _).mono ?_); rintro e w1 ⟨rfl, hb1⟩; obtain ⟨hc1, hf1, hz1, hn1⟩ := bstep 2 w hb1 (by go_size); obtain ⟨hg1, hi1, hy1, hx1⟩ := bfull hb1; try (refine bcomp (by assumption) hb1 ?_; intro hq hg2 hi2 hx2)))
    all_goals
      go_wp2_with fail
      go_meet
      case rel =>
        refine ⟨_, rfl, rfl, by assumption, ?_, ?_, ?_⟩
        · go_size
        · (repeat' apply And.intro) <;> go_simp
        · (repeat' (first | (with_reducible exact Below.refl _ _) | (with_reducible refine Below.alloc ?_ ?_ _) | (with_reducible refine Below.drew ?_) | (with_reducible refine below_drewN' ?_ _) | (with_reducible refine Below.setCell ?_ ?_ _) | (with_reducible refine Below.trans ?_ (Below.mono (by assumption) ?_)) | go_size))
  case rest =>
    obtain ⟨N, rfl, rfl, ⟨hsz, hs0, hs1, hs2, hs3, hs4, hs5, hs6, hs7, hs8, hs9, hs10, hs11⟩, hN1, ⟨hp0, hp1, hp2⟩, hB⟩ := hcut
    have hN2 : N < wc.heap.size := World.block_lt_of_cell? wc _ hp0
    clear hnb0
    have hnb0 : ¬ wc.heap.size = w.heap.size := by omega
    have hnc0 : w.heap.size < wc.heap.size := by omega
    clear hnb1
    have hnb1 : ¬ wc.heap.size = w.heap.size + 1 := by omega
    have hnc1 : w.heap.size + 1 < wc.heap.size := by omega
    have hnd : ¬ wc.heap.size = N := by omega
    go_wp2_with fail
    go_cut [7, 8] (fun pp cc w1 => ∃ M, pp = .pointer (some ⟨M, 0, none⟩) ∧ cc = .int .i64 rc ∧ (w.heap.size + 2 ≤ w1.heap.size ∧ w1.cell? ⟨w.heap.size, 0, none⟩ = some (.int .i64 a0_0) ∧ w1.cell? ⟨w.heap.size, 1, none⟩ = some (.int .i64 a0_1) ∧ w1.cell? ⟨w.heap.size, 2, none⟩ = some (.int .i64 a0_2) ∧ w1.cell? ⟨w.heap.size, 3, none⟩ = some (.int .i64 a0_3) ∧ w1.cell? ⟨w.heap.size, 4, none⟩ = some (.int .i64 a0_4) ∧ w1.cell? ⟨w.heap.size, 5, none⟩ = some (.int .i64 a0_5) ∧ w1.cell? ⟨w.heap.size, 6, none⟩ = some (.int .i64 a0_6) ∧ w1.cell? ⟨w.heap.size, 7, none⟩ = some (.int .i64 a0_7) ∧ w1.cell? ⟨w.heap.size, 8, none⟩ = some (.int .i64 a0_8) ∧ w1.cell? ⟨w.heap.size + 1, 0, none⟩ = some (.int .i64 a1_0) ∧ w1.cell? ⟨w.heap.size + 1, 1, none⟩ = some (.int .i64 a1_1) ∧ w1.cell? ⟨w.heap.size + 1, 2, none⟩ = some (.int .i64 a1_2) ∧ w1.cell? ⟨N, 0, none⟩ = some (.int .i64 r0) ∧ w1.cell? ⟨N, 1, none⟩ = some (.int .i64 r1) ∧ w1.cell? ⟨N, 2, none⟩ = some (.int .i64 r2)) ∧ (w1.cell? ⟨M, 0, none⟩ = some (.int .i64 r0) ∧ w1.cell? ⟨M, 1, none⟩ = some (.int .i64 r1) ∧ w1.cell? ⟨M, 2, none⟩ = some (.int .i64 r2)) ∧ Below w.heap.size w w1)
    case first =>
      go_region_held3 (fun w' => w.heap.size + 2 ≤ w'.heap.size ∧ w'.cell? ⟨w.heap.size, 0, none⟩ = some (.int .i64 a0_0) ∧ w'.cell? ⟨w.heap.size, 1, none⟩ = some (.int .i64 a0_1) ∧ w'.cell? ⟨w.heap.size, 2, none⟩ = some (.int .i64 a0_2) ∧ w'.cell? ⟨w.heap.size, 3, none⟩ = some (.int .i64 a0_3) ∧ w'.cell? ⟨w.heap.size, 4, none⟩ = some (.int .i64 a0_4) ∧ w'.cell? ⟨w.heap.size, 5, none⟩ = some (.int .i64 a0_5) ∧ w'.cell? ⟨w.heap.size, 6, none⟩ = some (.int .i64 a0_6) ∧ w'.cell? ⟨w.heap.size, 7, none⟩ = some (.int .i64 a0_7) ∧ w'.cell? ⟨w.heap.size, 8, none⟩ = some (.int .i64 a0_8) ∧ w'.cell? ⟨w.heap.size + 1, 0, none⟩ = some (.int .i64 a1_0) ∧ w'.cell? ⟨w.heap.size + 1, 1, none⟩ = some (.int .i64 a1_1) ∧ w'.cell? ⟨w.heap.size + 1, 2, none⟩ = some (.int .i64 a1_2) ∧ w'.cell? ⟨N, 0, none⟩ = some (.int .i64 r0) ∧ w'.cell? ⟨N, 1, none⟩ = some (.int .i64 r1) ∧ w'.cell? ⟨N, 2, none⟩ = some (.int .i64 r2))
        (first | (refine ⟨by go_size, ?_⟩; go_keep))
        (first | (go_at_call 18; (with_reducible refine (toSquare_any _ _ _ _ _ _ _ _ _ _).mono ?_); rintro e w1 ⟨rfl, hb1⟩; obtain ⟨hc1, hf1, hz1, hn1⟩ := bstep 0 wc hb1 (by go_size); obtain ⟨hg1, hi1, hy1, hx1⟩ := bfull hb1; try (refine bcomp (by assumption) hb1 ?_; intro hq hg2 hi2 hx2)) | (go_at_call 15; (with_reducible refine (toTriple_any _ _ _ _).mono ?_); rintro e w1 ⟨rfl, hb1⟩; obtain ⟨hc1, hf1, hz1, hn1⟩ := bstep 0 wc hb1 (by go_size); obtain ⟨hg1, hi1, hy1, hx1⟩ := bfull hb1; try (refine bcomp (by assumption) hb1 ?_; intro hq hg2 hi2 hx2)) | (go_at_call 19; (with_reducible refine (HI.out _).mono ?_); rintro e w1 ⟨rfl, hb1⟩; obtain ⟨hc1, hf1, hz1, hn1⟩ := bstep 0 wc hb1 (by go_size); obtain ⟨hg1, hi1, hy1, hx1⟩ := bfull hb1; try (refine bcomp (by assumption) hb1 ?_; intro hq hg2 hi2 hx2)))
      all_goals
        go_wp2_with fail
        go_meet
        case rel =>
          refine ⟨_, rfl, rfl, by assumption, ?_, ?_⟩
          · (repeat' apply And.intro) <;> go_simp
          · (repeat' (first | (with_reducible exact Below.refl _ _) | (with_reducible refine Below.alloc ?_ ?_ _) | (with_reducible refine Below.drew ?_) | (with_reducible refine below_drewN' ?_ _) | (with_reducible refine Below.setCell ?_ ?_ _) | (with_reducible refine Below.trans ?_ (Below.mono (by assumption) ?_)) | go_size))
    case rest =>
      obtain ⟨M, rfl, rfl, ⟨hsz, hs0, hs1, hs2, hs3, hs4, hs5, hs6, hs7, hs8, hs9, hs10, hs11, hs12, hs13, hs14⟩, ⟨hp0, hp1, hp2⟩, hB⟩ := hcut
      go_wp2_with (first | (go_at_call 20; (with_reducible refine (eqTriple_same _ _ _ _).mono ?_); rintro e w1 ⟨rfl, hb1⟩; obtain ⟨hc1, hf1, hz1, hn1⟩ := bstep 0 w hb1 (by go_size)))
      go_returns
      exact ⟨rfl, by (repeat' (first | (with_reducible exact Below.refl _ _) | (with_reducible refine Below.alloc ?_ ?_ _) | (with_reducible refine Below.drew ?_) | (with_reducible refine below_drewN' ?_ _) | (with_reducible refine Below.setCell ?_ ?_ _) | (with_reducible refine Below.trans ?_ (Below.mono (by assumption) ?_)) | go_size))⟩
end Go.Proofs.Ytabdkjciajjkiaa
