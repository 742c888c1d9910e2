/-
  Cross products as rows: contracts. No condition but what stands in each.
-/
import Derived.Test.YtoldicmobenhaaaCpc
import Derived.Test.YtoldicmobenhaaaCsl
namespace Go.Proofs.Ytoldicmobenhaaa
open Go.RowKit
set_option maxHeartbeats 1000000
def crossR (a b c d e f : Int) : List Int × Int := if sp2B a b c d e f = true then ([(crossG a b c d e f).1, (crossG a b c d e f).2.1, (crossG a b c d e f).2.2], 0) else ([], 1)
theorem crossR_len (a b c d e f : Int) : (crossR a b c d e f).1.length ≤ 281474976710656 := by
  unfold crossR
  split <;> simp
theorem isl_three {w : World} {B b : Nat} {x y z : Int} (hB : B ≤ b) (h0 : w.cell? ⟨b, 0, none⟩ = some (.int .i64 x)) (h1 : w.cell? ⟨b, 1, none⟩ = some (.int .i64 y)) (h2 : w.cell? ⟨b, 2, none⟩ = some (.int .i64 z))
    (f0 : w.frozen? ⟨b, 0, none⟩ = false) (f1 : w.frozen? ⟨b, 1, none⟩ = false) (f2 : w.frozen? ⟨b, 2, none⟩ = false) : ISl w (some ⟨b, 0, none⟩) 3 [x, y, z] ∧ WSl B w (some ⟨b, 0, none⟩) 3 :=
  ⟨isl3 h0 (by simpa using h1) (by simpa using h2), fun _ => ⟨b, 0, rfl, hB, World.block_lt_of_cell? w _ h0, fun i hi => by
    match i, hi with
    | 0, _ => exact f0
    | 1, _ => simpa using f1
    | 2, _ => simpa using f2⟩⟩
theorem implCross_any (a b c d e f : Int) (w : World) : Calls Try.prog 29 #[.agg #[.int .i64 a, .int .i64 b, .int .i64 c], .agg #[.int .i64 d, .int .i64 e, .int .i64 f]] w fun en w' =>
    (∃ A cc, en = .returned (.tuple #[.slice A (crossR a b c d e f).1.length cc, .int .i64 (crossR a b c d e f).2]) ∧ ISl w' A (crossR a b c d e f).1.length (crossR a b c d e f).1 ∧ WSl w.heap.size w' A (crossR a b c d e f).1.length) ∧ Below w.heap.size w w' := by
  unfold crossR
  obtain ⟨⟨x, y, z⟩, hx⟩ : ∃ r, crossG a b c d e f = r := ⟨_, rfl⟩
  have hc := fun W => cross_any a b c d e f W
  rw [hx] at hc ⊢
  dsimp only at hc ⊢
  have HC := Lib.hid hc
  clear hc hx
  obtain ⟨p1, hp1⟩ : ∃ zz, sp2B a b c d e f = zz := ⟨_, rfl⟩; have cc1 := fun bb off cc W h0 h1 h2 h3 h4 h5 => spots2_any bb off cc a b c d e f W h0 h1 h2 h3 h4 h5; rw [hp1] at cc1; have C1 := Lib.hid cc1; have P1 := Lib.hid hp1; clear cc1 hp1
  rw [P1.out]
  clear P1
  cases p1
  · rw [if_neg (by decide)]
    go_enter Try.func29, Try.ntmps29
    go_wp2_with (first | (go_at_call 55; (with_reducible refine (C1.out _ _ _ _ ?_ ?_ ?_ ?_ ?_ ?_).mono ?_); (iterate 6 (focus (go_simp; done))); rintro e w1 ⟨rfl, hb1⟩; obtain ⟨hc1, hf1, hz1, hn1⟩ := bstep 3 w hb1 (by go_size)))
    go_returns
    exact ⟨⟨none, 0, rfl, ⟨rfl, fun h => absurd h (by simp)⟩, fun h => absurd h (by simp)⟩, by (repeat' (first | (with_reducible exact Below.refl _ _) | (with_reducible refine Below.alloc ?_ ?_ _) | (with_reducible refine Below.drew ?_) | (with_reducible refine below_drewN' ?_ _) | (with_reducible refine Below.setCell ?_ ?_ _) | (with_reducible refine Below.trans ?_ (Below.mono (by assumption) ?_)) | go_size))⟩
  · rw [if_pos rfl]
    go_enter Try.func29, Try.ntmps29
    go_wp2_with (first | (go_at_call 55; (with_reducible refine (C1.out _ _ _ _ ?_ ?_ ?_ ?_ ?_ ?_).mono ?_); (iterate 6 (focus (go_simp; done))); rintro e w1 ⟨rfl, hb1⟩; obtain ⟨hc1, hf1, hz1, hn1⟩ := bstep 3 w hb1 (by go_size)) | (go_at_call 64; (with_reducible refine (HC.out _).mono ?_); rintro e w2 ⟨rfl, hb1⟩; obtain ⟨hc1, hf1, hz1, hn1⟩ := bstep 3 w hb1 (by go_size)))
    go_returns
    obtain ⟨h1, h2⟩ := @isl_three (w2.alloc (.cells #[.int .i64 x, .int .i64 y, .int .i64 z] 25)) w.heap.size w2.heap.size x y z (by go_size) (by go_simp) (by go_simp) (by go_simp) (by go_simp) (by go_simp) (by go_simp)
    exact ⟨⟨_, 3, rfl, h1, h2⟩, by (repeat' (first | (with_reducible exact Below.refl _ _) | (with_reducible refine Below.alloc ?_ ?_ _) | (with_reducible refine Below.drew ?_) | (with_reducible refine below_drewN' ?_ _) | (with_reducible refine Below.setCell ?_ ?_ _) | (with_reducible refine Below.trans ?_ (Below.mono (by assumption) ?_)) | go_size))⟩
theorem specCross_any (a b c d e f : Int) (w : World) : Calls Try.prog 28 #[.agg #[.int .i64 a, .int .i64 b, .int .i64 c], .agg #[.int .i64 d, .int .i64 e, .int .i64 f]] w fun en w' =>
    (∃ A cc, en = .returned (.tuple #[.slice A (crossR a b c d e f).1.length cc, .int .i64 (crossR a b c d e f).2]) ∧ ISl w' A (crossR a b c d e f).1.length (crossR a b c d e f).1 ∧ WSl w.heap.size w' A (crossR a b c d e f).1.length) ∧ Below w.heap.size w w' := by
  unfold crossR
  obtain ⟨⟨x, y, z⟩, hx⟩ : ∃ r, crossG a b c d e f = r := ⟨_, rfl⟩
  have hc := fun W => l08Cross_any a b c d e f W
  rw [hx] at hc ⊢
  dsimp only at hc ⊢
  have HC := Lib.hid hc
  clear hc hx
  obtain ⟨p1, hp1⟩ : ∃ zz, spotB a b c = zz := ⟨_, rfl⟩; have cc1 := fun W => l08Spot_any a b c W; rw [hp1] at cc1; have C1 := Lib.hid cc1; have P1 := Lib.hid hp1; clear cc1 hp1
  obtain ⟨p2, hp2⟩ : ∃ zz, spotB d e f = zz := ⟨_, rfl⟩; have cc2 := fun W => l08Spot_any d e f W; rw [hp2] at cc2; have C2 := Lib.hid cc2; have P2 := Lib.hid hp2; clear cc2 hp2
  rw [sp2B, P1.out, P2.out]
  clear P1 P2
  cases p1
  · rw [if_neg (by simp)]
    go_enter Try.func28, Try.ntmps28
    go_wp2_with (first | (go_at_call 50; (with_reducible refine (C1.out _).mono ?_); rintro e w1 ⟨rfl, hb1⟩; obtain ⟨hc1, hf1, hz1, hn1⟩ := bstep 2 w hb1 (by go_size)) | (go_at_call 50; (with_reducible refine (C2.out _).mono ?_); rintro e w1 ⟨rfl, hb1⟩; obtain ⟨hc1, hf1, hz1, hn1⟩ := bstep 2 w hb1 (by go_size)))
    go_returns
    exact ⟨⟨none, 0, rfl, ⟨rfl, fun h => absurd h (by simp)⟩, fun h => absurd h (by simp)⟩, by (repeat' (first | (with_reducible exact Below.refl _ _) | (with_reducible refine Below.alloc ?_ ?_ _) | (with_reducible refine Below.drew ?_) | (with_reducible refine below_drewN' ?_ _) | (with_reducible refine Below.setCell ?_ ?_ _) | (with_reducible refine Below.trans ?_ (Below.mono (by assumption) ?_)) | go_size))⟩
  · cases p2
    · rw [if_neg (by decide)]
      go_enter Try.func28, Try.ntmps28
      go_wp2_with (first | (go_at_call 50; (with_reducible refine (C1.out _).mono ?_); rintro e w1 ⟨rfl, hb1⟩; obtain ⟨hc1, hf1, hz1, hn1⟩ := bstep 2 w hb1 (by go_size)) | (go_at_call 50; (with_reducible refine (C2.out _).mono ?_); rintro e w1 ⟨rfl, hb1⟩; obtain ⟨hc1, hf1, hz1, hn1⟩ := bstep 2 w hb1 (by go_size)))
      go_returns
      exact ⟨⟨none, 0, rfl, ⟨rfl, fun h => absurd h (by simp)⟩, fun h => absurd h (by simp)⟩, by (repeat' (first | (with_reducible exact Below.refl _ _) | (with_reducible refine Below.alloc ?_ ?_ _) | (with_reducible refine Below.drew ?_) | (with_reducible refine below_drewN' ?_ _) | (with_reducible refine Below.setCell ?_ ?_ _) | (with_reducible refine Below.trans ?_ (Below.mono (by assumption) ?_)) | go_size))⟩
    · rw [if_pos (by decide)]
      go_enter Try.func28, Try.ntmps28
      go_wp2_with (first | (go_at_call 50; (with_reducible refine (C1.out _).mono ?_); rintro e w1 ⟨rfl, hb1⟩; obtain ⟨hc1, hf1, hz1, hn1⟩ := bstep 2 w hb1 (by go_size)) | (go_at_call 50; (with_reducible refine (C2.out _).mono ?_); rintro e w1 ⟨rfl, hb1⟩; obtain ⟨hc1, hf1, hz1, hn1⟩ := bstep 2 w hb1 (by go_size)) | (go_at_call 63; (with_reducible refine (HC.out _).mono ?_); rintro e w2 ⟨rfl, hb1⟩; obtain ⟨hc1, hf1, hz1, hn1⟩ := bstep 2 w hb1 (by go_size)))
      go_returns
      obtain ⟨h1, h2⟩ := @isl_three ((w2.alloc (.cells #[.int .i64 x, .int .i64 y, .int .i64 z] 25)).alloc (.cells #[.int .i64 x, .int .i64 y, .int .i64 z] 2)) w.heap.size (w2.heap.size + 1) x y z (by go_size) (by go_simp) (by go_simp) (by go_simp) (by go_simp) (by go_simp) (by go_simp)
      exact ⟨⟨_, 3, rfl, h1, h2⟩, by (repeat' (first | (with_reducible exact Below.refl _ _) | (with_reducible refine Below.alloc ?_ ?_ _) | (with_reducible refine Below.drew ?_) | (with_reducible refine below_drewN' ?_ _) | (with_reducible refine Below.setCell ?_ ?_ _) | (with_reducible refine Below.trans ?_ (Below.mono (by assumption) ?_)) | go_size))⟩
end Go.Proofs.Ytoldicmobenhaaa
