/-
  Contracts of functions on corners, angles, fractions, matrices, triples and spots. No condition but what stands in each.
-/
import Derived.Test.YtpgeiikmcemnkaaCpt
namespace Go.Proofs.Ytpgeiikmcemnkaa
open Go.RowKit
set_option maxHeartbeats 400000
theorem neqTriple_run (w : World) (a b c x y z : Int) : (binOp .neq 30 (.agg #[.int .i64 a, .int .i64 b, .int .i64 c]) (.agg #[.int .i64 x, .int .i64 y, .int .i64 z])).run Try.prog w = .ok (.bool (!(a == x && b == y && c == z))) w :=
  run_neq3 w Try.underlying30 rfl Try.underlying2 (by kernel_rfl) Try.isAgg2 a b c x y z
theorem eqlTriple_run (w : World) (a b c x y z : Int) : (binOp .eql 30 (.agg #[.int .i64 a, .int .i64 b, .int .i64 c]) (.agg #[.int .i64 x, .int .i64 y, .int .i64 z])).run Try.prog w = .ok (.bool (a == x && b == y && c == z)) w :=
  run_eql3 w Try.underlying30 rfl Try.underlying2 (by kernel_rfl) Try.isAgg2 a b c x y z
theorem eqlSpot_run (w : World) (a b c x y z : Int) : (binOp .eql 34 (.agg #[.int .i64 a, .int .i64 b, .int .i64 c]) (.agg #[.int .i64 x, .int .i64 y, .int .i64 z])).run Try.prog w = .ok (.bool (a == x && b == y && c == z)) w :=
  run_eql3 w Try.underlying34 rfl Try.underlying2 (by kernel_rfl) Try.isAgg2 a b c x y z
theorem eqlPoint_run (w : World) (a b x y : Int) : (binOp .eql 25 (.agg #[.int .i64 a, .int .i64 b]) (.agg #[.int .i64 x, .int .i64 y])).run Try.prog w = .ok (.bool (a == x && b == y)) w :=
  run_eql2 w Try.underlying25 rfl Try.underlying2 (by kernel_rfl) Try.isAgg2 a b x y
theorem points2_any (b off c : Nat) (x y u v : Int) (w : World) (h0 : w.cell? ⟨b, off, none⟩ = some (.int .i64 x)) (h1 : w.cell? ⟨b, off + 1, none⟩ = some (.int .i64 y)) (h2 : w.cell? ⟨b, off + 2, none⟩ = some (.int .i64 u))
    (h3 : w.cell? ⟨b, off + 3, none⟩ = some (.int .i64 v)) : Calls Try.prog 56 #[.slice (some ⟨b, off, none⟩) 2 c] w fun e w' => e = .returned (.bool (ppB x y u v)) ∧ Below w.heap.size w w' := by
  have h := points_any _ _ c [(x, y), (u, v)] w (psl2 h0 h1 h2 h3) (by omega)
  rw [allP2] at h
  exact h
theorem toInt64A2_any (x y : Int) (w : World) : Calls Try.prog 55 #[.agg #[.int .i64 x, .int .i64 y]] w fun e w' => e = .returned (.agg #[.int .i64 x, .int .i64 y]) ∧ Below w.heap.size w w' := by
  go_enter Try.func55, Try.ntmps55
  go_wp2
  go_rounds 3
  go_returns
  exact ⟨rfl, by (repeat' (first | (with_reducible exact Below.refl _ _) | (with_reducible refine Below.alloc ?_ ?_ _) | (with_reducible refine Below.drew ?_) | (with_reducible refine below_drewN' ?_ _) | (with_reducible refine Below.setCell ?_ ?_ _) | (with_reducible refine Below.trans ?_ (Below.mono (by assumption) ?_)) | go_size))⟩
theorem toTriple_any (a b c : Int) (w : World) : Calls Try.prog 19 #[.agg #[.int .i64 a, .int .i64 b, .int .i64 c]] w fun e w' => e = .returned (.agg #[.int .i64 a, .int .i64 b, .int .i64 c]) ∧ Below w.heap.size w w' := by
  go_enter Try.func19, Try.ntmps19
  go_wp2
  go_rounds 4
  go_returns
  exact ⟨rfl, by (repeat' (first | (with_reducible exact Below.refl _ _) | (with_reducible refine Below.alloc ?_ ?_ _) | (with_reducible refine Below.drew ?_) | (with_reducible refine below_drewN' ?_ _) | (with_reducible refine Below.setCell ?_ ?_ _) | (with_reducible refine Below.trans ?_ (Below.mono (by assumption) ?_)) | go_size))⟩
theorem toSpot_any (a b c : Int) (w : World) : Calls Try.prog 22 #[.agg #[.int .i64 a, .int .i64 b, .int .i64 c]] w fun e w' => e = .returned (.agg #[.int .i64 a, .int .i64 b, .int .i64 c]) ∧ Below w.heap.size w w' := by
  go_enter Try.func22, Try.ntmps22
  go_wp2
  go_rounds 4
  go_returns
  exact ⟨rfl, by (repeat' (first | (with_reducible exact Below.refl _ _) | (with_reducible refine Below.alloc ?_ ?_ _) | (with_reducible refine Below.drew ?_) | (with_reducible refine below_drewN' ?_ _) | (with_reducible refine Below.setCell ?_ ?_ _) | (with_reducible refine Below.trans ?_ (Below.mono (by assumption) ?_)) | go_size))⟩
theorem toShape_any (a b c : Int) (w : World) : Calls Try.prog 30 #[.agg #[.int .i64 a, .int .i64 b, .int .i64 c]] w fun e w' => e = .returned (.agg #[.int .i64 a, .int .i64 b, .int .i64 c]) ∧ Below w.heap.size w w' := by
  go_enter Try.func30, Try.ntmps30
  go_wp2
  go_returns
  exact ⟨rfl, by (repeat' (first | (with_reducible exact Below.refl _ _) | (with_reducible refine Below.alloc ?_ ?_ _) | (with_reducible refine Below.drew ?_) | (with_reducible refine below_drewN' ?_ _) | (with_reducible refine Below.setCell ?_ ?_ _) | (with_reducible refine Below.trans ?_ (Below.mono (by assumption) ?_)) | go_size))⟩
theorem eqPoint_same (x y : Int) (w : World) : Calls Try.prog 60 #[.agg #[.int .i64 x, .int .i64 y], .agg #[.int .i64 x, .int .i64 y]] w fun e w' => e = .returned (.bool true) ∧ Below w.heap.size w w' := by
  go_enter Try.func60, Try.ntmps60
  go_wp2
  refine wp_loop_rounds 3 ?_
  repeat any_goals (rw [rounds_succ]; go_wp2; try (go_quiet (fail); go_wp2))
  go_returns
  exact ⟨rfl, by (repeat' (first | (with_reducible exact Below.refl _ _) | (with_reducible refine Below.alloc ?_ ?_ _) | (with_reducible refine Below.drew ?_) | (with_reducible refine below_drewN' ?_ _) | (with_reducible refine Below.setCell ?_ ?_ _) | (with_reducible refine Below.trans ?_ (Below.mono (by assumption) ?_)) | go_size))⟩
theorem eqCorner_same (a b c d : Int) (w : World) : Calls Try.prog 39 #[.agg #[.int .i64 a, .int .i64 b, .int .i64 c, .int .i64 d], .agg #[.int .i64 a, .int .i64 b, .int .i64 c, .int .i64 d]] w fun e w' => e = .returned (.bool true) ∧ Below w.heap.size w w' := by
  go_enter Try.func39, Try.ntmps39
  go_wp2_with (first | (go_at_call 60; (with_reducible refine (eqPoint_same _ _ _).mono ?_); rintro e w1 ⟨rfl, hb1⟩; obtain ⟨hc1, hf1, hz1, hn1⟩ := bstep 2 w hb1 (by go_size)))
  go_returns
  exact ⟨rfl, by (repeat' (first | (with_reducible exact Below.refl _ _) | (with_reducible refine Below.alloc ?_ ?_ _) | (with_reducible refine Below.drew ?_) | (with_reducible refine below_drewN' ?_ _) | (with_reducible refine Below.setCell ?_ ?_ _) | (with_reducible refine Below.trans ?_ (Below.mono (by assumption) ?_)) | go_size))⟩
theorem isNumber_any (n : Int) (w : World) : Calls Try.prog 47 #[.int .i64 n] w fun e w' => e = .returned (.bool (numB n)) ∧ w = w' := by
  go_enter Try.func47, Try.ntmps47
  go_wp2_with (first | (go_at_call 51; (with_reducible refine (in_any _ _ _ _).mono ?_); rintro e w' ⟨rfl, rfl⟩))
  go_returns
  exact ⟨rfl, rfl⟩
theorem IsTriple_any (a b c : Int) (w : World) : Calls Try.prog 20 #[.agg #[.int .i64 a, .int .i64 b, .int .i64 c]] w fun e w' => e = .returned (.bool (tripB a b c)) ∧ Below w.heap.size w w' := by
  have hq := neqTriple_run
  go_enter Try.func20, Try.ntmps20
  go_wp2_with (first | (go_at_call 47; (with_reducible refine (isNumber_any _ _).mono ?_); rintro e w' ⟨rfl, rfl⟩))
  all_goals
    go_returns
    exact ⟨ret_bool (by simp [tripB, *]), by (repeat' (first | (with_reducible exact Below.refl _ _) | (with_reducible refine Below.alloc ?_ ?_ _) | (with_reducible refine Below.drew ?_) | (with_reducible refine below_drewN' ?_ _) | (with_reducible refine Below.setCell ?_ ?_ _) | (with_reducible refine Below.trans ?_ (Below.mono (by assumption) ?_)) | go_size))⟩
theorem l07Is_any (a b c : Int) (w : World) : Calls Try.prog 46 #[.agg #[.int .i64 a, .int .i64 b, .int .i64 c]] w fun e w' => e = .returned (.bool (tripB a b c)) ∧ Below w.heap.size w w' := by
  obtain ⟨p, hp⟩ : ∃ p, inB a 0 1000000 = p := ⟨_, rfl⟩
  obtain ⟨q, hq⟩ : ∃ q, inB b 0 1000000 = q := ⟨_, rfl⟩
  obtain ⟨r, hr⟩ : ∃ r, inB c 0 1000000 = r := ⟨_, rfl⟩
  have ca := fun W => l01In_any a 0 1000000 W
  have cb := fun W => l01In_any b 0 1000000 W
  have cc := fun W => l01In_any c 0 1000000 W
  rw [hp] at ca
  rw [hq] at cb
  rw [hr] at cc
  have HA := Lib.hid ca
  have HB := Lib.hid cb
  have HC := Lib.hid cc
  have HP := Lib.hid hp
  have HQ := Lib.hid hq
  have HR := Lib.hid hr
  clear ca cb cc hp hq hr
  cases p <;> cases q <;> cases r
  all_goals
    have hq := neqTriple_run
    go_enter Try.func46, Try.ntmps46
    go_wp2
    refine wp_loop_rounds 4 ?_
    repeat any_goals (rw [rounds_succ]; go_wp2_with (first | (go_at_call 57; (with_reducible refine (HA.out _).mono ?_); rintro e w' ⟨rfl, rfl⟩) | (go_at_call 57; (with_reducible refine (HB.out _).mono ?_); rintro e w' ⟨rfl, rfl⟩) | (go_at_call 57; (with_reducible refine (HC.out _).mono ?_); rintro e w' ⟨rfl, rfl⟩)))
    go_returns
    exact ⟨ret_bool (by simp [tripB, numB, HP.out, HQ.out, HR.out]), by (repeat' (first | (with_reducible exact Below.refl _ _) | (with_reducible refine Below.alloc ?_ ?_ _) | (with_reducible refine Below.drew ?_) | (with_reducible refine below_drewN' ?_ _) | (with_reducible refine Below.setCell ?_ ?_ _) | (with_reducible refine Below.trans ?_ (Below.mono (by assumption) ?_)) | go_size))⟩
theorem specIsTriple_any (a b c : Int) (w : World) : Calls Try.prog 18 #[.agg #[.int .i64 a, .int .i64 b, .int .i64 c]] w fun e w' => e = .returned (.bool (tripB a b c)) ∧ Below w.heap.size w w' := by
  go_enter Try.func18, Try.ntmps18
  go_wp2_with (first | (go_at_call 46; (with_reducible refine (l07Is_any _ _ _ _).mono ?_); rintro e w1 ⟨rfl, hb1⟩; obtain ⟨hc1, hf1, hz1, hn1⟩ := bstep 1 w hb1 (by go_size)))
  go_returns
  exact ⟨rfl, by (repeat' (first | (with_reducible exact Below.refl _ _) | (with_reducible refine Below.alloc ?_ ?_ _) | (with_reducible refine Below.drew ?_) | (with_reducible refine below_drewN' ?_ _) | (with_reducible refine Below.setCell ?_ ?_ _) | (with_reducible refine Below.trans ?_ (Below.mono (by assumption) ?_)) | go_size))⟩
theorem implGcdOfTriple_any (a b c : Int) (w : World) (z : Bool) (hz : tripB a b c = z) : Calls Try.prog 34 #[.agg #[.int .i64 a, .int .i64 b, .int .i64 c]] w fun e w' => e = .returned (.tuple #[.int .i64 (if z then gcdG (gcdG a b) c else 0), .int .i64 (if z then 0 else 1)]) ∧ Below w.heap.size w w' := by
  have hc := fun W => IsTriple_any a b c W
  rw [hz] at hc
  have HC := Lib.hid hc
  clear hc hz
  cases z
  · go_enter Try.func34, Try.ntmps34
    go_wp2_with (first | (go_at_call 20; (with_reducible refine (HC.out _).mono ?_); rintro e w1 ⟨rfl, hb1⟩; obtain ⟨hc1, hf1, hz1, hn1⟩ := bstep 1 w hb1 (by go_size)))
    go_returns
    exact ⟨rfl, by (repeat' (first | (with_reducible exact Below.refl _ _) | (with_reducible refine Below.alloc ?_ ?_ _) | (with_reducible refine Below.drew ?_) | (with_reducible refine below_drewN' ?_ _) | (with_reducible refine Below.setCell ?_ ?_ _) | (with_reducible refine Below.trans ?_ (Below.mono (by assumption) ?_)) | go_size))⟩
  · go_enter Try.func34, Try.ntmps34
    go_wp2_with (first | (go_at_call 20; (with_reducible refine (HC.out _).mono ?_); rintro e w1 ⟨rfl, hb1⟩; obtain ⟨hc1, hf1, hz1, hn1⟩ := bstep 1 w hb1 (by go_size)))
    (refine wp_region_beyond (w.heap.size + 1) (by kernel_rfl) (by kernel_rfl) (by go_size) (fun hBe => ?_); (repeat (first | go_big_quiet_step ((first | (go_at_call 62; exact beyond_of (gcd_any _ _ _)))) | quiet_step ((first | (go_at_call 62; exact beyond_of (gcd_any _ _ _)))))); refine wpQuiet_nil ?_; clear hBe; intro w1 hb1; obtain ⟨hc1, hf1, hz1, hn1⟩ := bstep 1 w hb1 (by go_size))
    go_wp2
    go_returns
    exact ⟨rfl, by (repeat' (first | (with_reducible exact Below.refl _ _) | (with_reducible refine Below.alloc ?_ ?_ _) | (with_reducible refine Below.drew ?_) | (with_reducible refine below_drewN' ?_ _) | (with_reducible refine Below.setCell ?_ ?_ _) | (with_reducible refine Below.trans ?_ (Below.mono (by assumption) ?_)) | go_size))⟩
theorem specGcdOfTriple_any (a b c : Int) (w : World) (z : Bool) (hz : tripB a b c = z) : Calls Try.prog 33 #[.agg #[.int .i64 a, .int .i64 b, .int .i64 c]] w fun e w' => e = .returned (.tuple #[.int .i64 (if z then gcdG (gcdG a b) c else 0), .int .i64 (if z then 0 else 1)]) ∧ Below w.heap.size w w' := by
  have hc := fun W => l07Is_any a b c W
  rw [hz] at hc
  have HC := Lib.hid hc
  clear hc hz
  cases z
  · go_enter Try.func33, Try.ntmps33
    go_wp2_with (first | (go_at_call 46; (with_reducible refine (HC.out _).mono ?_); rintro e w1 ⟨rfl, hb1⟩; obtain ⟨hc1, hf1, hz1, hn1⟩ := bstep 1 w hb1 (by go_size)))
    go_returns
    exact ⟨rfl, by (repeat' (first | (with_reducible exact Below.refl _ _) | (with_reducible refine Below.alloc ?_ ?_ _) | (with_reducible refine Below.drew ?_) | (with_reducible refine below_drewN' ?_ _) | (with_reducible refine Below.setCell ?_ ?_ _) | (with_reducible refine Below.trans ?_ (Below.mono (by assumption) ?_)) | go_size))⟩
  · go_enter Try.func33, Try.ntmps33
    go_wp2_with (first | (go_at_call 46; (with_reducible refine (HC.out _).mono ?_); rintro e w1 ⟨rfl, hb1⟩; obtain ⟨hc1, hf1, hz1, hn1⟩ := bstep 1 w hb1 (by go_size)))
    (refine wp_region_beyond (w.heap.size + 1) (by kernel_rfl) (by kernel_rfl) (by go_size) (fun hBe => ?_); (repeat (first | go_big_quiet_step ((first | (go_at_call 61; exact beyond_same (l01Gcd_any _ _ _)))) | quiet_step ((first | (go_at_call 61; exact beyond_same (l01Gcd_any _ _ _)))))); refine wpQuiet_nil ?_; clear hBe; intro w1 hb1; obtain ⟨hc1, hf1, hz1, hn1⟩ := bstep 1 w hb1 (by go_size))
    go_wp2
    go_returns
    exact ⟨rfl, by (repeat' (first | (with_reducible exact Below.refl _ _) | (with_reducible refine Below.alloc ?_ ?_ _) | (with_reducible refine Below.drew ?_) | (with_reducible refine below_drewN' ?_ _) | (with_reducible refine Below.setCell ?_ ?_ _) | (with_reducible refine Below.trans ?_ (Below.mono (by assumption) ?_)) | go_size))⟩
theorem IsFraction_any (x y : Int) (w : World) : Calls Try.prog 25 #[.agg #[.int .i64 x, .int .i64 y]] w fun e w' => e = .returned (.bool (fracB x y)) ∧ Below w.heap.size w w' := by
  go_enter Try.func25, Try.ntmps25
  go_wp2_with (first | (go_at_call 17; (with_reducible refine (IsPoint_any _ _ _).mono ?_); rintro e w1 ⟨rfl, hb1⟩; obtain ⟨hc1, hf1, hz1, hn1⟩ := bstep 1 w hb1 (by go_size)) | (go_at_call 53; (with_reducible refine (isPrimitive_any _ _ _).mono ?_); rintro e w1 ⟨rfl, hb1⟩; obtain ⟨hc1, hf1, hz1, hn1⟩ := bstep 1 w hb1 (by go_size)))
  all_goals
    go_returns
    exact ⟨ret_bool (by first | (simp [fracB, *]; done) | (have h0 : y = 0 := (by omega); subst h0; simp_all [fracB]; done) | (simp_all [fracB]; done) | (simp_all [fracB]; omega)), by (repeat' (first | (with_reducible exact Below.refl _ _) | (with_reducible refine Below.alloc ?_ ?_ _) | (with_reducible refine Below.drew ?_) | (with_reducible refine below_drewN' ?_ _) | (with_reducible refine Below.setCell ?_ ?_ _) | (with_reducible refine Below.trans ?_ (Below.mono (by assumption) ?_)) | go_size))⟩
theorem l05Is_any (x y : Int) (w : World) : Calls Try.prog 52 #[.agg #[.int .i64 x, .int .i64 y]] w fun e w' => e = .returned (.bool (fracB x y)) ∧ Below w.heap.size w w' := by
  go_enter Try.func52, Try.ntmps52
  go_wp2_with (first | (go_at_call 44; (with_reducible refine (l01Is_any _ _ _).mono ?_); rintro e w1 ⟨rfl, hb1⟩; obtain ⟨hc1, hf1, hz1, hn1⟩ := bstep 1 w hb1 (by go_size)) | (go_at_call 61; (with_reducible refine (l01Gcd_any _ _ _).mono ?_); rintro e w' ⟨rfl, rfl⟩))
  all_goals
    go_returns
    exact ⟨ret_bool (by first | (simp [fracB, *]; done) | (have h0 : y = 0 := (by omega); subst h0; simp_all [fracB]; done) | (simp_all [fracB]; done) | (simp_all [fracB]; omega)), by (repeat' (first | (with_reducible exact Below.refl _ _) | (with_reducible refine Below.alloc ?_ ?_ _) | (with_reducible refine Below.drew ?_) | (with_reducible refine below_drewN' ?_ _) | (with_reducible refine Below.setCell ?_ ?_ _) | (with_reducible refine Below.trans ?_ (Below.mono (by assumption) ?_)) | go_size))⟩
theorem specIsFraction_any (x y : Int) (w : World) : Calls Try.prog 24 #[.agg #[.int .i64 x, .int .i64 y]] w fun e w' => e = .returned (.bool (fracB x y)) ∧ Below w.heap.size w w' := by
  go_enter Try.func24, Try.ntmps24
  go_wp2_with (first | (go_at_call 52; (with_reducible refine (l05Is_any _ _ _).mono ?_); rintro e w1 ⟨rfl, hb1⟩; obtain ⟨hc1, hf1, hz1, hn1⟩ := bstep 1 w hb1 (by go_size)))
  go_returns
  exact ⟨rfl, by (repeat' (first | (with_reducible exact Below.refl _ _) | (with_reducible refine Below.alloc ?_ ?_ _) | (with_reducible refine Below.drew ?_) | (with_reducible refine below_drewN' ?_ _) | (with_reducible refine Below.setCell ?_ ?_ _) | (with_reducible refine Below.trans ?_ (Below.mono (by assumption) ?_)) | go_size))⟩
theorem IsAngle_any (x y u v : Int) (w : World) : Calls Try.prog 43 #[.agg #[.int .i64 x, .int .i64 y], .agg #[.int .i64 u, .int .i64 v]] w fun e w' => e = .returned (.bool (angB x y u v)) ∧ Below w.heap.size w w' := by
  go_enter Try.func43, Try.ntmps43
  go_wp2_with (first | (go_at_call 56; (with_reducible refine (points2_any _ _ _ x y u v _ ?_ ?_ ?_ ?_).mono ?_); (iterate 4 (focus (go_simp; done))); rintro e w1 ⟨rfl, hb1⟩; obtain ⟨hc1, hf1, hz1, hn1⟩ := bstep 2 w hb1 (by go_size)) | (go_at_call 53; (with_reducible refine (isPrimitive_any _ _ _).mono ?_); rintro e w1 ⟨rfl, hb1⟩; obtain ⟨hc1, hf1, hz1, hn1⟩ := bstep 2 w hb1 (by go_size)) | (go_at_call 65; (with_reducible refine (det_any _ _ _ _ _).mono ?_); rintro e w1 ⟨rfl, hb1⟩; obtain ⟨hc1, hf1, hz1, hn1⟩ := bstep 2 w hb1 (by go_size)))
  all_goals
    go_returns
    exact ⟨ret_bool (by simp [angB, *]), by (repeat' (first | (with_reducible exact Below.refl _ _) | (with_reducible refine Below.alloc ?_ ?_ _) | (with_reducible refine Below.drew ?_) | (with_reducible refine below_drewN' ?_ _) | (with_reducible refine Below.setCell ?_ ?_ _) | (with_reducible refine Below.trans ?_ (Below.mono (by assumption) ?_)) | go_size))⟩
theorem l03Is_any (x y u v : Int) (w : World) : Calls Try.prog 70 #[.agg #[.int .i64 x, .int .i64 y], .agg #[.int .i64 u, .int .i64 v]] w fun e w' => e = .returned (.bool (angB x y u v)) ∧ Below w.heap.size w w' := by
  go_enter Try.func70, Try.ntmps70
  go_wp2_with (first | (go_at_call 44; (with_reducible refine (l01Is_any _ _ _).mono ?_); rintro e w1 ⟨rfl, hb1⟩; obtain ⟨hc1, hf1, hz1, hn1⟩ := bstep 2 w hb1 (by go_size)) | (go_at_call 61; (with_reducible refine (l01Gcd_any _ _ _).mono ?_); rintro e w' ⟨rfl, rfl⟩) | (go_at_call 64; (with_reducible refine (l01Det_any _ _ _ _ _).mono ?_); rintro e w1 ⟨rfl, hb1⟩; obtain ⟨hc1, hf1, hz1, hn1⟩ := bstep 2 w hb1 (by go_size)))
  all_goals
    go_returns
    exact ⟨ret_bool (by simp [angB, ppB, *]), by (repeat' (first | (with_reducible exact Below.refl _ _) | (with_reducible refine Below.alloc ?_ ?_ _) | (with_reducible refine Below.drew ?_) | (with_reducible refine below_drewN' ?_ _) | (with_reducible refine Below.setCell ?_ ?_ _) | (with_reducible refine Below.trans ?_ (Below.mono (by assumption) ?_)) | go_size))⟩
theorem specIsAngle_any (x y u v : Int) (w : World) : Calls Try.prog 42 #[.agg #[.int .i64 x, .int .i64 y], .agg #[.int .i64 u, .int .i64 v]] w fun e w' => e = .returned (.bool (angB x y u v)) ∧ Below w.heap.size w w' := by
  go_enter Try.func42, Try.ntmps42
  go_wp2_with (first | (go_at_call 70; (with_reducible refine (l03Is_any _ _ _ _ _).mono ?_); rintro e w1 ⟨rfl, hb1⟩; obtain ⟨hc1, hf1, hz1, hn1⟩ := bstep 2 w hb1 (by go_size)))
  go_returns
  exact ⟨rfl, by (repeat' (first | (with_reducible exact Below.refl _ _) | (with_reducible refine Below.alloc ?_ ?_ _) | (with_reducible refine Below.drew ?_) | (with_reducible refine below_drewN' ?_ _) | (with_reducible refine Below.setCell ?_ ?_ _) | (with_reducible refine Below.trans ?_ (Below.mono (by assumption) ?_)) | go_size))⟩
theorem toMatrix_any (a b c d : Int) (w : World) : Calls Try.prog 27 #[.agg #[.int .i64 a, .int .i64 b, .int .i64 c, .int .i64 d]] w fun e w' => e = .returned (.agg #[.int .i64 a, .int .i64 b, .int .i64 c, .int .i64 d]) ∧ Below w.heap.size w w' := by
  go_enter Try.func27, Try.ntmps27
  go_wp2
  refine wp_loop_rounds 3 ?_
  repeat any_goals (rw [rounds_succ]; go_wp2_with (first | (go_at_call 55; (with_reducible refine (toInt64A2_any _ _ _).mono ?_); rintro e w1 ⟨rfl, hb1⟩; obtain ⟨hc1, hf1, hz1, hn1⟩ := bstep 3 w hb1 (by go_size))))
  refine bodyPost_ret (v := .agg #[.int .i64 a, .int .i64 b, .int .i64 c, .int .i64 d]) (by simp [results, Try.results27, go_sem, *]) rfl ?_
  exact ⟨rfl, by (repeat' (first | (with_reducible exact Below.refl _ _) | (with_reducible refine Below.alloc ?_ ?_ _) | (with_reducible refine Below.drew ?_) | (with_reducible refine below_drewN' ?_ _) | (with_reducible refine Below.setCell ?_ ?_ _) | (with_reducible refine Below.trans ?_ (Below.mono (by assumption) ?_)) | go_size))⟩
theorem IsMatrix_any (a b c d : Int) (w : World) : Calls Try.prog 28 #[.agg #[.int .i64 a, .int .i64 b, .int .i64 c, .int .i64 d]] w fun e w' => e = .returned (.bool (ppB a b c d)) ∧ Below w.heap.size w w' := by
  go_enter Try.func28, Try.ntmps28
  go_wp2_with (first | (go_at_call 56; (with_reducible refine (points2_any _ _ _ a b c d _ ?_ ?_ ?_ ?_).mono ?_); (iterate 4 (focus (go_simp; done))); rintro e w1 ⟨rfl, hb1⟩; obtain ⟨hc1, hf1, hz1, hn1⟩ := bstep 1 w hb1 (by go_size)))
  go_returns
  exact ⟨rfl, by (repeat' (first | (with_reducible exact Below.refl _ _) | (with_reducible refine Below.alloc ?_ ?_ _) | (with_reducible refine Below.drew ?_) | (with_reducible refine below_drewN' ?_ _) | (with_reducible refine Below.setCell ?_ ?_ _) | (with_reducible refine Below.trans ?_ (Below.mono (by assumption) ?_)) | go_size))⟩
theorem l01Matrix_any (a b c d : Int) (w : World) : Calls Try.prog 54 #[.agg #[.int .i64 a, .int .i64 b, .int .i64 c, .int .i64 d]] w fun e w' => e = .returned (.bool (ppB a b c d)) ∧ Below w.heap.size w w' := by
  go_enter Try.func54, Try.ntmps54
  go_wp2_with (first | (go_at_call 71; (with_reducible refine (l01Fits_any _ _).mono ?_); rintro e w' ⟨rfl, rfl⟩))
  all_goals
    go_returns
    exact ⟨ret_bool (by simp [ppB, ptB, *]), by (repeat' (first | (with_reducible exact Below.refl _ _) | (with_reducible refine Below.alloc ?_ ?_ _) | (with_reducible refine Below.drew ?_) | (with_reducible refine below_drewN' ?_ _) | (with_reducible refine Below.setCell ?_ ?_ _) | (with_reducible refine Below.trans ?_ (Below.mono (by assumption) ?_)) | go_size))⟩
theorem specIsMatrix_any (a b c d : Int) (w : World) : Calls Try.prog 26 #[.agg #[.int .i64 a, .int .i64 b, .int .i64 c, .int .i64 d]] w fun e w' => e = .returned (.bool (ppB a b c d)) ∧ Below w.heap.size w w' := by
  go_enter Try.func26, Try.ntmps26
  go_wp2_with (first | (go_at_call 54; (with_reducible refine (l01Matrix_any _ _ _ _ _).mono ?_); rintro e w1 ⟨rfl, hb1⟩; obtain ⟨hc1, hf1, hz1, hn1⟩ := bstep 1 w hb1 (by go_size)))
  go_returns
  exact ⟨rfl, by (repeat' (first | (with_reducible exact Below.refl _ _) | (with_reducible refine Below.alloc ?_ ?_ _) | (with_reducible refine Below.drew ?_) | (with_reducible refine below_drewN' ?_ _) | (with_reducible refine Below.setCell ?_ ?_ _) | (with_reducible refine Below.trans ?_ (Below.mono (by assumption) ?_)) | go_size))⟩
theorem mdet_any (a b c d : Int) (w : World) : Calls Try.prog 69 #[.agg #[.int .i64 a, .int .i64 b, .int .i64 c, .int .i64 d]] w fun e w' => e = .returned (.int .i64 (detG a b c d)) ∧ Below w.heap.size w w' := by
  go_enter Try.func69, Try.ntmps69
  go_wp2_with (first | (go_at_call 65; (with_reducible refine (det_any _ _ _ _ _).mono ?_); rintro e w1 ⟨rfl, hb1⟩; obtain ⟨hc1, hf1, hz1, hn1⟩ := bstep 1 w hb1 (by go_size)))
  go_returns
  exact ⟨rfl, by (repeat' (first | (with_reducible exact Below.refl _ _) | (with_reducible refine Below.alloc ?_ ?_ _) | (with_reducible refine Below.drew ?_) | (with_reducible refine below_drewN' ?_ _) | (with_reducible refine Below.setCell ?_ ?_ _) | (with_reducible refine Below.trans ?_ (Below.mono (by assumption) ?_)) | go_size))⟩
theorem l01DetOf_any (a b c d : Int) (w : World) : Calls Try.prog 68 #[.agg #[.int .i64 a, .int .i64 b, .int .i64 c, .int .i64 d]] w fun e w' => e = .returned (.int .i64 (detG a b c d)) ∧ Below w.heap.size w w' := by
  go_enter Try.func68, Try.ntmps68
  go_wp2
  go_returns
  exact ⟨rfl, by (repeat' (first | (with_reducible exact Below.refl _ _) | (with_reducible refine Below.alloc ?_ ?_ _) | (with_reducible refine Below.drew ?_) | (with_reducible refine below_drewN' ?_ _) | (with_reducible refine Below.setCell ?_ ?_ _) | (with_reducible refine Below.trans ?_ (Below.mono (by assumption) ?_)) | go_size))⟩
theorem implDetOfMatrix_any (a b c d : Int) (w : World) (z : Bool) (hz : ppB a b c d = z) : Calls Try.prog 41 #[.agg #[.int .i64 a, .int .i64 b, .int .i64 c, .int .i64 d]] w fun e w' => e = .returned (.tuple #[.int .i64 (if z then detG a b c d else 0), .int .i64 (if z then 0 else 1)]) ∧ Below w.heap.size w w' := by
  have hc := fun W => IsMatrix_any a b c d W
  rw [hz] at hc
  have HC := Lib.hid hc
  clear hc hz
  cases z
  all_goals
    go_enter Try.func41, Try.ntmps41
    go_wp2_with (first | (go_at_call 28; (with_reducible refine (HC.out _).mono ?_); rintro e w1 ⟨rfl, hb1⟩; obtain ⟨hc1, hf1, hz1, hn1⟩ := bstep 1 w hb1 (by go_size)) | (go_at_call 69; (with_reducible refine (mdet_any _ _ _ _ _).mono ?_); rintro e w1 ⟨rfl, hb1⟩; obtain ⟨hc1, hf1, hz1, hn1⟩ := bstep 1 w hb1 (by go_size)))
    go_returns
    exact ⟨rfl, by (repeat' (first | (with_reducible exact Below.refl _ _) | (with_reducible refine Below.alloc ?_ ?_ _) | (with_reducible refine Below.drew ?_) | (with_reducible refine below_drewN' ?_ _) | (with_reducible refine Below.setCell ?_ ?_ _) | (with_reducible refine Below.trans ?_ (Below.mono (by assumption) ?_)) | go_size))⟩
theorem specDetOfMatrix_any (a b c d : Int) (w : World) (z : Bool) (hz : ppB a b c d = z) : Calls Try.prog 40 #[.agg #[.int .i64 a, .int .i64 b, .int .i64 c, .int .i64 d]] w fun e w' => e = .returned (.tuple #[.int .i64 (if z then detG a b c d else 0), .int .i64 (if z then 0 else 1)]) ∧ Below w.heap.size w w' := by
  have hc := fun W => l01Matrix_any a b c d W
  rw [hz] at hc
  have HC := Lib.hid hc
  clear hc hz
  cases z
  all_goals
    go_enter Try.func40, Try.ntmps40
    go_wp2_with (first | (go_at_call 54; (with_reducible refine (HC.out _).mono ?_); rintro e w1 ⟨rfl, hb1⟩; obtain ⟨hc1, hf1, hz1, hn1⟩ := bstep 1 w hb1 (by go_size)) | (go_at_call 68; (with_reducible refine (l01DetOf_any _ _ _ _ _).mono ?_); rintro e w1 ⟨rfl, hb1⟩; obtain ⟨hc1, hf1, hz1, hn1⟩ := bstep 1 w hb1 (by go_size)))
    go_returns
    exact ⟨rfl, by (repeat' (first | (with_reducible exact Below.refl _ _) | (with_reducible refine Below.alloc ?_ ?_ _) | (with_reducible refine Below.drew ?_) | (with_reducible refine below_drewN' ?_ _) | (with_reducible refine Below.setCell ?_ ?_ _) | (with_reducible refine Below.trans ?_ (Below.mono (by assumption) ?_)) | go_size))⟩
theorem Spot1_any (x : Int) (w : World) : Calls Try.prog 50 #[.int .i64 x] w fun e w' => e = .returned (.bool (!spotN x)) ∧ w = w' := by
  go_enter Try.func50, Try.ntmps50
  go_wp2_with (first | (go_at_call 51; (with_reducible refine (in_any _ _ _ _).mono ?_); rintro e w' ⟨rfl, rfl⟩))
  go_returns
  exact ⟨rfl, rfl⟩
theorem IndexFuncSpot_any (A : Option Addr) (n c : Nat) (xs : List Int) (w : World) (h : ISl w A n xs) (hn : n ≤ 281474976710656) :
    Calls Try.prog 72 #[.slice A n c, .func (.func 50) #[] #[]] w fun e w' => (∃ v : Int, (0 ≤ v ↔ allI spotN xs = false) ∧ e = .returned (.int .i64 v)) ∧ w = w' := by
  obtain ⟨rfl, hx⟩ := h
  go_enter Try.func72, Try.ntmps72
  go_wp2
  go_loop [8] (fun i => ∃ k : Nat, k ≤ xs.length ∧ i = .int .i64 k ∧ ∀ j, j < k → spotN (xs[j]?.getD 0) = true) (fun i => xs.length - (intOf i).toNat)
  case atStart => exact ⟨0, Nat.zero_le _, rfl, fun j hj => absurd hj (by omega)⟩
  case round =>
    obtain ⟨k, hk, rfl, hall⟩ := hrel
    have HA := Lib.hid hall
    clear hall
    by_cases hlt : k < xs.length
    · obtain ⟨b, off, rfl, hb, hr⟩ := hx (by omega)
      have h1 := hr k hlt
      obtain ⟨x, hp⟩ : ∃ p, xs[k]?.getD 0 = p := ⟨_, rfl⟩
      rw [hp] at h1
      have HP := Lib.hid hp
      clear hp hr hx hb
      obtain ⟨z, hz⟩ : ∃ z, spotN x = z := ⟨_, rfl⟩
      have hcon := fun W => Spot1_any x W
      rw [hz] at hcon
      have HZ := Lib.hid hz
      have HC := Lib.hid hcon
      clear hz hcon
      cases z
      · go_wp2_with (first | (go_at_call 50; (with_reducible refine (HC.out _).mono ?_); rintro e w' ⟨rfl, rfl⟩))
        go_returns
        exact ⟨⟨k, ⟨fun _ => all_false hlt (by rw [HP.out]; exact HZ.out), fun _ => by omega⟩, rfl⟩, rfl⟩
      · go_wp2_with (first | (go_at_call 50; (with_reducible refine (HC.out _).mono ?_); rintro e w' ⟨rfl, rfl⟩))
        go_round
        case rel =>
          refine ⟨k + 1, by omega, by go_num, fun j hj => ?_⟩
          by_cases hjk : j < k
          · exact HA.out j hjk
          · obtain rfl : j = k := by omega
            rw [HP.out]
            exact HZ.out
        case measure => simp [intOf]; omega
    · go_wp2
      go_returns
      exact ⟨⟨-1, ⟨fun h => absurd h (by omega), fun h => by rw [all_true fun j hj => HA.out j (by omega)] at h; cases h⟩, rfl⟩, rfl⟩
theorem ContainsSpot_any (A : Option Addr) (n c : Nat) (xs : List Int) (w : World) (h : ISl w A n xs) (hn : n ≤ 281474976710656) :
    Calls Try.prog 49 #[.slice A n c, .func (.func 50) #[] #[]] w fun e w' => e = .returned (.bool (!allI spotN xs)) ∧ w = w' := by
  have H := Lib.hid h
  have HN := Lib.hid hn
  clear h hn
  go_enter Try.func49, Try.ntmps49
  go_wp2_with (first | (go_at_call 72; (with_reducible refine (IndexFuncSpot_any _ _ _ xs _ H.out HN.out).mono ?_); rintro e w1 ⟨⟨v, hv, rfl⟩, rfl⟩; have HV := Lib.hid hv; clear hv))
  go_returns
  refine ⟨ret_bool ?_, rfl⟩
  have hv := HV.out
  cases ha : allI spotN xs <;> simp_all
theorem IsSpot_any (a b c : Int) (w : World) : Calls Try.prog 23 #[.agg #[.int .i64 a, .int .i64 b, .int .i64 c]] w fun e w' => e = .returned (.bool (spotB a b c)) ∧ Below w.heap.size w w' := by
  go_enter Try.func23, Try.ntmps23
  go_wp2_with (first | (go_at_call 49; (with_reducible refine (ContainsSpot_any _ _ _ [a, b, c] _ (isl3 ?_ ?_ ?_) (by omega)).mono ?_); (iterate 3 (focus (go_simp; done))); rintro e w1 ⟨rfl, rfl⟩))
  go_returns
  exact ⟨ret_bool (by simp [spotB, allI, Bool.and_assoc]), by (repeat' (first | (with_reducible exact Below.refl _ _) | (with_reducible refine Below.alloc ?_ ?_ _) | (with_reducible refine Below.drew ?_) | (with_reducible refine below_drewN' ?_ _) | (with_reducible refine Below.setCell ?_ ?_ _) | (with_reducible refine Below.trans ?_ (Below.mono (by assumption) ?_)) | go_size))⟩
theorem l08Spot_any (a b c : Int) (w : World) : Calls Try.prog 48 #[.agg #[.int .i64 a, .int .i64 b, .int .i64 c]] w fun e w' => e = .returned (.bool (spotB a b c)) ∧ Below w.heap.size w w' := by
  obtain ⟨p, hp⟩ : ∃ p, inB a (-20) 20 = p := ⟨_, rfl⟩
  obtain ⟨q, hq⟩ : ∃ q, inB b (-20) 20 = q := ⟨_, rfl⟩
  obtain ⟨r, hr⟩ : ∃ r, inB c (-20) 20 = r := ⟨_, rfl⟩
  have ca := fun W => l01In_any a (-20) 20 W
  have cb := fun W => l01In_any b (-20) 20 W
  have cc := fun W => l01In_any c (-20) 20 W
  rw [hp] at ca
  rw [hq] at cb
  rw [hr] at cc
  have HA := Lib.hid ca
  have HB := Lib.hid cb
  have HC := Lib.hid cc
  have HP := Lib.hid hp
  have HQ := Lib.hid hq
  have HR := Lib.hid hr
  clear ca cb cc hp hq hr
  cases p <;> cases q <;> cases r
  all_goals
    go_enter Try.func48, Try.ntmps48
    go_wp2
    refine wp_loop_rounds 4 ?_
    repeat any_goals (rw [rounds_succ]; go_wp2_with (first | (go_at_call 57; (with_reducible refine (HA.out _).mono ?_); rintro e w' ⟨rfl, rfl⟩) | (go_at_call 57; (with_reducible refine (HB.out _).mono ?_); rintro e w' ⟨rfl, rfl⟩) | (go_at_call 57; (with_reducible refine (HC.out _).mono ?_); rintro e w' ⟨rfl, rfl⟩)))
    go_returns
    exact ⟨ret_bool (by simp [spotB, spotN, HP.out, HQ.out, HR.out]), by (repeat' (first | (with_reducible exact Below.refl _ _) | (with_reducible refine Below.alloc ?_ ?_ _) | (with_reducible refine Below.drew ?_) | (with_reducible refine below_drewN' ?_ _) | (with_reducible refine Below.setCell ?_ ?_ _) | (with_reducible refine Below.trans ?_ (Below.mono (by assumption) ?_)) | go_size))⟩
theorem specIsSpot_any (a b c : Int) (w : World) : Calls Try.prog 21 #[.agg #[.int .i64 a, .int .i64 b, .int .i64 c]] w fun e w' => e = .returned (.bool (spotB a b c)) ∧ Below w.heap.size w w' := by
  go_enter Try.func21, Try.ntmps21
  go_wp2_with (first | (go_at_call 48; (with_reducible refine (l08Spot_any _ _ _ _).mono ?_); rintro e w1 ⟨rfl, hb1⟩; obtain ⟨hc1, hf1, hz1, hn1⟩ := bstep 1 w hb1 (by go_size)))
  go_returns
  exact ⟨rfl, by (repeat' (first | (with_reducible exact Below.refl _ _) | (with_reducible refine Below.alloc ?_ ?_ _) | (with_reducible refine Below.drew ?_) | (with_reducible refine below_drewN' ?_ _) | (with_reducible refine Below.setCell ?_ ?_ _) | (with_reducible refine Below.trans ?_ (Below.mono (by assumption) ?_)) | go_size))⟩
theorem eqTriangle_same (a b c d p q : Int) (w : World) : Calls Try.prog 32 #[.agg #[.int .i64 a, .int .i64 b, .int .i64 c, .int .i64 d, .int .i64 p, .int .i64 q], .agg #[.int .i64 a, .int .i64 b, .int .i64 c, .int .i64 d, .int .i64 p, .int .i64 q]] w fun e w' => e = .returned (.bool true) ∧ Below w.heap.size w w' := by
  go_enter Try.func32, Try.ntmps32
  go_wp2
  refine wp_loop_rounds 4 ?_
  repeat any_goals (rw [rounds_succ]; go_wp2; try ((refine wp_region_beyond (w.heap.size + 2) (by kernel_rfl) (by kernel_rfl) (by go_size) (fun hBe => ?_); (repeat (first | go_big_quiet_step ((first | (go_at_call 60; exact beyond_of (eqPoint_same _ _ _)))) | quiet_step ((first | (go_at_call 60; exact beyond_of (eqPoint_same _ _ _)))))); refine wpQuiet_nil ?_; clear hBe; intro w1 hb1; obtain ⟨hc1, hf1, hz1, hn1⟩ := bstep 2 w hb1 (by go_size)); go_wp2))
  go_returns
  exact ⟨rfl, by (repeat' (first | (with_reducible exact Below.refl _ _) | (with_reducible refine Below.alloc ?_ ?_ _) | (with_reducible refine Below.drew ?_) | (with_reducible refine below_drewN' ?_ _) | (with_reducible refine Below.setCell ?_ ?_ _) | (with_reducible refine Below.trans ?_ (Below.mono (by assumption) ?_)) | go_size))⟩
theorem triangle_any (l p h : Int) (w : World) : Calls Try.prog 59 #[.agg #[.int .i64 l, .int .i64 p, .int .i64 h]] w fun e w' => e = .returned (.agg #[.int .i64 0, .int .i64 0, .int .i64 l, .int .i64 0, .int .i64 p, .int .i64 h]) ∧ Below w.heap.size w w' := by
  go_enter Try.func59, Try.ntmps59
  go_wp2
  go_returns
  exact ⟨rfl, by (repeat' (first | (with_reducible exact Below.refl _ _) | (with_reducible refine Below.alloc ?_ ?_ _) | (with_reducible refine Below.drew ?_) | (with_reducible refine below_drewN' ?_ _) | (with_reducible refine Below.setCell ?_ ?_ _) | (with_reducible refine Below.trans ?_ (Below.mono (by assumption) ?_)) | go_size))⟩
theorem l04Of_any (l p h : Int) (w : World) : Calls Try.prog 58 #[.agg #[.int .i64 l, .int .i64 p, .int .i64 h]] w fun e w' => e = .returned (.agg #[.int .i64 0, .int .i64 0, .int .i64 l, .int .i64 0, .int .i64 p, .int .i64 h]) ∧ Below w.heap.size w w' := by
  go_enter Try.func58, Try.ntmps58
  go_wp2
  go_returns
  exact ⟨rfl, by (repeat' (first | (with_reducible exact Below.refl _ _) | (with_reducible refine Below.alloc ?_ ?_ _) | (with_reducible refine Below.drew ?_) | (with_reducible refine below_drewN' ?_ _) | (with_reducible refine Below.setCell ?_ ?_ _) | (with_reducible refine Below.trans ?_ (Below.mono (by assumption) ?_)) | go_size))⟩
theorem implTriangleOf_any (l p h : Int) (w : World) (z : Bool) (hz : triB l p h = z) : Calls Try.prog 31 #[.agg #[.int .i64 l, .int .i64 p, .int .i64 h]] w fun e w' => e = .returned (.tuple #[(if z then .agg #[.int .i64 0, .int .i64 0, .int .i64 l, .int .i64 0, .int .i64 p, .int .i64 h] else .agg #[.int .i64 0, .int .i64 0, .int .i64 0, .int .i64 0, .int .i64 0, .int .i64 0]), .int .i64 (if z then 0 else 2)]) ∧ Below w.heap.size w w' := by
  have HZ := Lib.hid hz
  clear hz
  obtain ⟨p1, hp1⟩ : ∃ zz, inB l 1 1000 = zz := ⟨_, rfl⟩; have cc1 := fun W => in_any l 1 1000 W; rw [hp1] at cc1; have C1 := Lib.hid cc1; have P1 := Lib.hid hp1; clear cc1 hp1
  obtain ⟨p2, hp2⟩ : ∃ zz, inB h 1 1000 = zz := ⟨_, rfl⟩; have cc2 := fun W => in_any h 1 1000 W; rw [hp2] at cc2; have C2 := Lib.hid cc2; have P2 := Lib.hid hp2; clear cc2 hp2
  obtain ⟨p3, hp3⟩ : ∃ zz, inB p 0 (wrap64 (h - 1)) = zz := ⟨_, rfl⟩; have cc3 := fun W => in_any p 0 (wrap64 (h - 1)) W; rw [hp3] at cc3; have C3 := Lib.hid cc3; have P3 := Lib.hid hp3; clear cc3 hp3
  cases p1 <;> cases p2 <;> cases p3
  all_goals
    have hz := HZ.out
    simp [triB, P1.out, P2.out, P3.out] at hz
    subst hz
    clear HZ P1 P2 P3
    go_enter Try.func31, Try.ntmps31
    go_wp2_with (first | (go_at_call 51; (with_reducible refine (C1.out _).mono ?_); rintro e w' ⟨rfl, rfl⟩) | (go_at_call 51; (with_reducible refine (C2.out _).mono ?_); rintro e w' ⟨rfl, rfl⟩) | (go_at_call 51; (with_reducible refine (C3.out _).mono ?_); rintro e w' ⟨rfl, rfl⟩) | (go_at_call 59; (with_reducible refine (triangle_any _ _ _ _).mono ?_); rintro e w1 ⟨rfl, hb1⟩; obtain ⟨hc1, hf1, hz1, hn1⟩ := bstep 2 w hb1 (by go_size)))
    refine bodyPost_ret (by simp [results, Try.results31, go_sem, *]; try rfl) rfl ?_
    exact ⟨rfl, by (repeat' (first | (with_reducible exact Below.refl _ _) | (with_reducible refine Below.alloc ?_ ?_ _) | (with_reducible refine Below.drew ?_) | (with_reducible refine below_drewN' ?_ _) | (with_reducible refine Below.setCell ?_ ?_ _) | (with_reducible refine Below.trans ?_ (Below.mono (by assumption) ?_)) | go_size))⟩
theorem specTriangleOf_any (l p h : Int) (w : World) (z : Bool) (hz : triB l p h = z) : Calls Try.prog 29 #[.agg #[.int .i64 l, .int .i64 p, .int .i64 h]] w fun e w' => e = .returned (.tuple #[(if z then .agg #[.int .i64 0, .int .i64 0, .int .i64 l, .int .i64 0, .int .i64 p, .int .i64 h] else .agg #[.int .i64 0, .int .i64 0, .int .i64 0, .int .i64 0, .int .i64 0, .int .i64 0]), .int .i64 (if z then 0 else 2)]) ∧ Below w.heap.size w w' := by
  have HZ := Lib.hid hz
  clear hz
  obtain ⟨p1, hp1⟩ : ∃ zz, inB l 1 1000 = zz := ⟨_, rfl⟩; have cc1 := fun W => l01In_any l 1 1000 W; rw [hp1] at cc1; have C1 := Lib.hid cc1; have P1 := Lib.hid hp1; clear cc1 hp1
  obtain ⟨p2, hp2⟩ : ∃ zz, inB h 1 1000 = zz := ⟨_, rfl⟩; have cc2 := fun W => l01In_any h 1 1000 W; rw [hp2] at cc2; have C2 := Lib.hid cc2; have P2 := Lib.hid hp2; clear cc2 hp2
  obtain ⟨p3, hp3⟩ : ∃ zz, inB p 0 (wrap64 (h - 1)) = zz := ⟨_, rfl⟩; have cc3 := fun W => l01In_any p 0 (wrap64 (h - 1)) W; rw [hp3] at cc3; have C3 := Lib.hid cc3; have P3 := Lib.hid hp3; clear cc3 hp3
  cases p1 <;> cases p2 <;> cases p3
  all_goals
    have hz := HZ.out
    simp [triB, P1.out, P2.out, P3.out] at hz
    subst hz
    clear HZ P1 P2 P3
    go_enter Try.func29, Try.ntmps29
    go_wp2_with (first | (go_at_call 57; (with_reducible refine (C1.out _).mono ?_); rintro e w' ⟨rfl, rfl⟩) | (go_at_call 57; (with_reducible refine (C2.out _).mono ?_); rintro e w' ⟨rfl, rfl⟩) | (go_at_call 57; (with_reducible refine (C3.out _).mono ?_); rintro e w' ⟨rfl, rfl⟩) | (go_at_call 58; (with_reducible refine (l04Of_any _ _ _ _).mono ?_); rintro e w1 ⟨rfl, hb1⟩; obtain ⟨hc1, hf1, hz1, hn1⟩ := bstep 2 w hb1 (by go_size)))
    refine bodyPost_ret (by simp [results, Try.results29, go_sem, *]; try rfl) rfl ?_
    exact ⟨rfl, by (repeat' (first | (with_reducible exact Below.refl _ _) | (with_reducible refine Below.alloc ?_ ?_ _) | (with_reducible refine Below.drew ?_) | (with_reducible refine below_drewN' ?_ _) | (with_reducible refine Below.setCell ?_ ?_ _) | (with_reducible refine Below.trans ?_ (Below.mono (by assumption) ?_)) | go_size))⟩
theorem tangent_any (s c : Int) (w : World) : Calls Try.prog 67 #[.int .i64 s, .int .i64 c] w fun e w' => e = .returned (.agg #[.int .i64 1, .int .i64 0, .int .i64 c, .int .i64 s]) ∧ Below w.heap.size w w' := by
  go_enter Try.func67, Try.ntmps67
  go_wp2
  go_returns
  exact ⟨rfl, by (repeat' (first | (with_reducible exact Below.refl _ _) | (with_reducible refine Below.alloc ?_ ?_ _) | (with_reducible refine Below.drew ?_) | (with_reducible refine below_drewN' ?_ _) | (with_reducible refine Below.setCell ?_ ?_ _) | (with_reducible refine Below.trans ?_ (Below.mono (by assumption) ?_)) | go_size))⟩
theorem l02Normal_any (s c : Int) (w : World) : Calls Try.prog 66 #[.int .i64 s, .int .i64 c] w fun e w' => e = .returned (.agg #[.int .i64 1, .int .i64 0, .int .i64 c, .int .i64 s]) ∧ Below w.heap.size w w' := by
  go_enter Try.func66, Try.ntmps66
  go_wp2
  go_returns
  exact ⟨rfl, by (repeat' (first | (with_reducible exact Below.refl _ _) | (with_reducible refine Below.alloc ?_ ?_ _) | (with_reducible refine Below.drew ?_) | (with_reducible refine below_drewN' ?_ _) | (with_reducible refine Below.setCell ?_ ?_ _) | (with_reducible refine Below.trans ?_ (Below.mono (by assumption) ?_)) | go_size))⟩
theorem implCornerOfTangent_any (s c : Int) (w : World) (z : Bool) (hz : tanB s c = z) : Calls Try.prog 38 #[.int .i64 s, .int .i64 c] w fun e w' => e = .returned (.tuple #[(if z then .agg #[.int .i64 1, .int .i64 0, .int .i64 c, .int .i64 s] else .agg #[.int .i64 0, .int .i64 0, .int .i64 0, .int .i64 0]), .int .i64 (if z then 0 else 2)]) ∧ Below w.heap.size w w' := by
  have HZ := Lib.hid hz
  clear hz
  obtain ⟨p1, hp1⟩ : ∃ zz, inB s 1 1000000 = zz := ⟨_, rfl⟩; have cc1 := fun W => in_any s 1 1000000 W; rw [hp1] at cc1; have C1 := Lib.hid cc1; have P1 := Lib.hid hp1; clear cc1 hp1
  obtain ⟨p2, hp2⟩ : ∃ zz, inB c 1 s = zz := ⟨_, rfl⟩; have cc2 := fun W => in_any c 1 s W; rw [hp2] at cc2; have C2 := Lib.hid cc2; have P2 := Lib.hid hp2; clear cc2 hp2
  obtain ⟨p3, hp3⟩ : ∃ zz, (gcdG s c != 1) = zz := ⟨_, rfl⟩
  cases p1 <;> cases p2 <;> cases p3
  all_goals
    have hz := HZ.out
    have hq : (gcdG s c == 1) = !(gcdG s c != 1) := by simp [bne]
    rw [tanB, P1.out, P2.out, hq, hp3] at hz
    simp at hz
    subst hz
    clear HZ P1 P2 hq
    go_enter Try.func38, Try.ntmps38
    go_wp2_with (first | (go_at_call 51; (with_reducible refine (C1.out _).mono ?_); rintro e w' ⟨rfl, rfl⟩) | (go_at_call 51; (with_reducible refine (C2.out _).mono ?_); rintro e w' ⟨rfl, rfl⟩) | (go_at_call 62; (with_reducible refine (gcd_any _ _ _).mono ?_); rintro e w1 ⟨rfl, hb1⟩; obtain ⟨hc1, hf1, hz1, hn1⟩ := bstep 1 w hb1 (by go_size)) | (go_at_call 67; (with_reducible refine (tangent_any _ _ _).mono ?_); rintro e w1 ⟨rfl, hb1⟩; obtain ⟨hc1, hf1, hz1, hn1⟩ := bstep 1 w hb1 (by go_size)))
    refine bodyPost_ret (by simp [results, Try.results38, go_sem, *]; try rfl) rfl ?_
    exact ⟨rfl, by (repeat' (first | (with_reducible exact Below.refl _ _) | (with_reducible refine Below.alloc ?_ ?_ _) | (with_reducible refine Below.drew ?_) | (with_reducible refine below_drewN' ?_ _) | (with_reducible refine Below.setCell ?_ ?_ _) | (with_reducible refine Below.trans ?_ (Below.mono (by assumption) ?_)) | go_size))⟩
theorem specCornerOfTangent_any (s c : Int) (w : World) (z : Bool) (hz : tanB s c = z) : Calls Try.prog 37 #[.int .i64 s, .int .i64 c] w fun e w' => e = .returned (.tuple #[(if z then .agg #[.int .i64 1, .int .i64 0, .int .i64 c, .int .i64 s] else .agg #[.int .i64 0, .int .i64 0, .int .i64 0, .int .i64 0]), .int .i64 (if z then 0 else 2)]) ∧ Below w.heap.size w w' := by
  have HZ := Lib.hid hz
  clear hz
  obtain ⟨p1, hp1⟩ : ∃ zz, inB s 1 1000000 = zz := ⟨_, rfl⟩; have cc1 := fun W => l01In_any s 1 1000000 W; rw [hp1] at cc1; have C1 := Lib.hid cc1; have P1 := Lib.hid hp1; clear cc1 hp1
  obtain ⟨p2, hp2⟩ : ∃ zz, inB c 1 s = zz := ⟨_, rfl⟩; have cc2 := fun W => l01In_any c 1 s W; rw [hp2] at cc2; have C2 := Lib.hid cc2; have P2 := Lib.hid hp2; clear cc2 hp2
  obtain ⟨p3, hp3⟩ : ∃ zz, (gcdG s c != 1) = zz := ⟨_, rfl⟩
  cases p1 <;> cases p2 <;> cases p3
  all_goals
    have hz := HZ.out
    have hq : (gcdG s c == 1) = !(gcdG s c != 1) := by simp [bne]
    rw [tanB, P1.out, P2.out, hq, hp3] at hz
    simp at hz
    subst hz
    clear HZ P1 P2 hq
    go_enter Try.func37, Try.ntmps37
    go_wp2_with (first | (go_at_call 57; (with_reducible refine (C1.out _).mono ?_); rintro e w' ⟨rfl, rfl⟩) | (go_at_call 57; (with_reducible refine (C2.out _).mono ?_); rintro e w' ⟨rfl, rfl⟩) | (go_at_call 61; (with_reducible refine (l01Gcd_any _ _ _).mono ?_); rintro e w' ⟨rfl, rfl⟩) | (go_at_call 66; (with_reducible refine (l02Normal_any _ _ _).mono ?_); rintro e w1 ⟨rfl, hb1⟩; obtain ⟨hc1, hf1, hz1, hn1⟩ := bstep 1 w hb1 (by go_size)))
    refine bodyPost_ret (by simp [results, Try.results37, go_sem, *]; try rfl) rfl ?_
    exact ⟨rfl, by (repeat' (first | (with_reducible exact Below.refl _ _) | (with_reducible refine Below.alloc ?_ ?_ _) | (with_reducible refine Below.drew ?_) | (with_reducible refine below_drewN' ?_ _) | (with_reducible refine Below.setCell ?_ ?_ _) | (with_reducible refine Below.trans ?_ (Below.mono (by assumption) ?_)) | go_size))⟩
end Go.Proofs.Ytpgeiikmcemnkaa
