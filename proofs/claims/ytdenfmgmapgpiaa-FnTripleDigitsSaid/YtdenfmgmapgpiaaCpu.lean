/-
  Contracts of functions on corners, angles, fractions, matrices, triples and spots. No condition but what stands in each.
-/
import Derived.Test.YtdenfmgmapgpiaaCpt
namespace Go.Proofs.Ytdenfmgmapgpiaa
open Go.RowKit
set_option maxHeartbeats 400000
set_option maxRecDepth 100000 in
theorem neqTriple_run (w : World) (a b c x y z : Int) : (binOp .neq 25 (.agg #[.int .i64 a, .int .i64 b, .int .i64 c]) (.agg #[.int .i64 x, .int .i64 y, .int .i64 z])).run Try.prog w = .ok (.bool (!(a == x && b == y && c == z))) w :=
  run_neq3 w Try.underlying25 rfl Try.underlying2 (by kernel_rfl) Try.isAgg2 a b c x y z
set_option maxRecDepth 100000 in
theorem eqlTriple_run (w : World) (a b c x y z : Int) : (binOp .eql 25 (.agg #[.int .i64 a, .int .i64 b, .int .i64 c]) (.agg #[.int .i64 x, .int .i64 y, .int .i64 z])).run Try.prog w = .ok (.bool (a == x && b == y && c == z)) w :=
  run_eql3 w Try.underlying25 rfl Try.underlying2 (by kernel_rfl) Try.isAgg2 a b c x y z
theorem isNumber_any (n : Int) (w : World) : Calls Try.prog 52 #[.int .i64 n] w fun e w' => e = .returned (.bool (numB n)) ∧ w = w' := by
  go_enter Try.func52, Try.ntmps52
  go_wp2_with (first | (go_at_call 85; (with_reducible refine (in_any _ _ _ _).mono ?_); rintro e w' ⟨rfl, rfl⟩))
  go_returns
  exact ⟨rfl, rfl⟩
theorem IsTriple_any (a b c : Int) (w : World) : Calls Try.prog 27 #[.agg #[.int .i64 a, .int .i64 b, .int .i64 c]] w fun e w' => e = .returned (.bool (tripB a b c)) ∧ Below w.heap.size w w' := by
  have hq := neqTriple_run
  go_enter Try.func27, Try.ntmps27
  go_wp2_with (first | (go_at_call 52; (with_reducible refine (isNumber_any _ _).mono ?_); rintro e w' ⟨rfl, rfl⟩))
  all_goals
    go_returns
    exact ⟨ret_bool (by simp [tripB, *]), by (repeat' (first | (with_reducible exact Below.refl _ _) | (with_reducible refine Below.alloc ?_ ?_ _) | (with_reducible refine Below.drew ?_) | (with_reducible refine below_drewN' ?_ _) | (with_reducible refine Below.setCell ?_ ?_ _) | (with_reducible refine Below.trans ?_ (Below.mono (by assumption) ?_)) | go_size))⟩
theorem l07Is_any (a b c : Int) (w : World) : Calls Try.prog 48 #[.agg #[.int .i64 a, .int .i64 b, .int .i64 c]] w fun e w' => e = .returned (.bool (tripB a b c)) ∧ Below w.heap.size w w' := by
  obtain ⟨p, hp⟩ : ∃ p, inB a 0 1000000 = p := ⟨_, rfl⟩
  obtain ⟨q, hq⟩ : ∃ q, inB b 0 1000000 = q := ⟨_, rfl⟩
  obtain ⟨r, hr⟩ : ∃ r, inB c 0 1000000 = r := ⟨_, rfl⟩
  have ca := fun W => l01In_any a 0 1000000 W
  have cb := fun W => l01In_any b 0 1000000 W
  have cc := fun W => l01In_any c 0 1000000 W
  rw [hp] at ca
  rw [hq] at cb
  rw [hr] at cc
  have HA := Lib.hid ca
  have HB := Lib.hid cb
  have HC := Lib.hid cc
  have HP := Lib.hid hp
  have HQ := Lib.hid hq
  have HR := Lib.hid hr
  clear ca cb cc hp hq hr
  cases p <;> cases q <;> cases r
  all_goals
    have hq := neqTriple_run
    go_enter Try.func48, Try.ntmps48
    go_wp2
    refine wp_loop_rounds 4 ?_
    repeat any_goals (rw [rounds_succ]; go_wp2_with (first | (go_at_call 57; (with_reducible refine (HA.out _).mono ?_); rintro e w' ⟨rfl, rfl⟩) | (go_at_call 57; (with_reducible refine (HB.out _).mono ?_); rintro e w' ⟨rfl, rfl⟩) | (go_at_call 57; (with_reducible refine (HC.out _).mono ?_); rintro e w' ⟨rfl, rfl⟩)))
    go_returns
    exact ⟨ret_bool (by simp [tripB, numB, HP.out, HQ.out, HR.out]), by (repeat' (first | (with_reducible exact Below.refl _ _) | (with_reducible refine Below.alloc ?_ ?_ _) | (with_reducible refine Below.drew ?_) | (with_reducible refine below_drewN' ?_ _) | (with_reducible refine Below.setCell ?_ ?_ _) | (with_reducible refine Below.trans ?_ (Below.mono (by assumption) ?_)) | go_size))⟩
theorem specIsTriple_any (a b c : Int) (w : World) : Calls Try.prog 28 #[.agg #[.int .i64 a, .int .i64 b, .int .i64 c]] w fun e w' => e = .returned (.bool (tripB a b c)) ∧ Below w.heap.size w w' := by
  go_enter Try.func28, Try.ntmps28
  go_wp2_with (first | (go_at_call 48; (with_reducible refine (l07Is_any _ _ _ _).mono ?_); rintro e w1 ⟨rfl, hb1⟩; obtain ⟨hc1, hf1, hz1, hn1⟩ := bstep 1 w hb1 (by go_size)))
  go_returns
  exact ⟨rfl, by (repeat' (first | (with_reducible exact Below.refl _ _) | (with_reducible refine Below.alloc ?_ ?_ _) | (with_reducible refine Below.drew ?_) | (with_reducible refine below_drewN' ?_ _) | (with_reducible refine Below.setCell ?_ ?_ _) | (with_reducible refine Below.trans ?_ (Below.mono (by assumption) ?_)) | go_size))⟩
theorem implGcdOfTriple_any (a b c : Int) (w : World) (z : Bool) (hz : tripB a b c = z) : Calls Try.prog 16 #[.agg #[.int .i64 a, .int .i64 b, .int .i64 c]] w fun e w' => e = .returned (.tuple #[.int .i64 (if z then gcdG (gcdG a b) c else 0), .int .i64 (if z then 0 else 1)]) ∧ Below w.heap.size w w' := by
  have hc := fun W => IsTriple_any a b c W
  rw [hz] at hc
  have HC := Lib.hid hc
  clear hc hz
  cases z
  · go_enter Try.func16, Try.ntmps16
    go_wp2_with (first | (go_at_call 27; (with_reducible refine (HC.out _).mono ?_); rintro e w1 ⟨rfl, hb1⟩; obtain ⟨hc1, hf1, hz1, hn1⟩ := bstep 1 w hb1 (by go_size)))
    go_returns
    exact ⟨rfl, by (repeat' (first | (with_reducible exact Below.refl _ _) | (with_reducible refine Below.alloc ?_ ?_ _) | (with_reducible refine Below.drew ?_) | (with_reducible refine below_drewN' ?_ _) | (with_reducible refine Below.setCell ?_ ?_ _) | (with_reducible refine Below.trans ?_ (Below.mono (by assumption) ?_)) | go_size))⟩
  · go_enter Try.func16, Try.ntmps16
    go_wp2_with (first | (go_at_call 27; (with_reducible refine (HC.out _).mono ?_); rintro e w1 ⟨rfl, hb1⟩; obtain ⟨hc1, hf1, hz1, hn1⟩ := bstep 1 w hb1 (by go_size)))
    (refine wp_region_beyond (w.heap.size + 1) (by kernel_rfl) (by kernel_rfl) (by go_size) (fun hBe => ?_); (repeat (first | go_big_quiet_step ((first | (go_at_call 61; exact beyond_of (gcd_any _ _ _)))) | quiet_step ((first | (go_at_call 61; exact beyond_of (gcd_any _ _ _)))))); refine wpQuiet_nil ?_; clear hBe; intro w1 hb1; obtain ⟨hc1, hf1, hz1, hn1⟩ := bstep 1 w hb1 (by go_size))
    go_wp2
    go_returns
    exact ⟨rfl, by (repeat' (first | (with_reducible exact Below.refl _ _) | (with_reducible refine Below.alloc ?_ ?_ _) | (with_reducible refine Below.drew ?_) | (with_reducible refine below_drewN' ?_ _) | (with_reducible refine Below.setCell ?_ ?_ _) | (with_reducible refine Below.trans ?_ (Below.mono (by assumption) ?_)) | go_size))⟩
theorem specGcdOfTriple_any (a b c : Int) (w : World) (z : Bool) (hz : tripB a b c = z) : Calls Try.prog 25 #[.agg #[.int .i64 a, .int .i64 b, .int .i64 c]] w fun e w' => e = .returned (.tuple #[.int .i64 (if z then gcdG (gcdG a b) c else 0), .int .i64 (if z then 0 else 1)]) ∧ Below w.heap.size w w' := by
  have hc := fun W => l07Is_any a b c W
  rw [hz] at hc
  have HC := Lib.hid hc
  clear hc hz
  cases z
  · go_enter Try.func25, Try.ntmps25
    go_wp2_with (first | (go_at_call 48; (with_reducible refine (HC.out _).mono ?_); rintro e w1 ⟨rfl, hb1⟩; obtain ⟨hc1, hf1, hz1, hn1⟩ := bstep 1 w hb1 (by go_size)))
    go_returns
    exact ⟨rfl, by (repeat' (first | (with_reducible exact Below.refl _ _) | (with_reducible refine Below.alloc ?_ ?_ _) | (with_reducible refine Below.drew ?_) | (with_reducible refine below_drewN' ?_ _) | (with_reducible refine Below.setCell ?_ ?_ _) | (with_reducible refine Below.trans ?_ (Below.mono (by assumption) ?_)) | go_size))⟩
  · go_enter Try.func25, Try.ntmps25
    go_wp2_with (first | (go_at_call 48; (with_reducible refine (HC.out _).mono ?_); rintro e w1 ⟨rfl, hb1⟩; obtain ⟨hc1, hf1, hz1, hn1⟩ := bstep 1 w hb1 (by go_size)))
    (refine wp_region_beyond (w.heap.size + 1) (by kernel_rfl) (by kernel_rfl) (by go_size) (fun hBe => ?_); (repeat (first | go_big_quiet_step ((first | (go_at_call 70; exact beyond_same (l01Gcd_any _ _ _)))) | quiet_step ((first | (go_at_call 70; exact beyond_same (l01Gcd_any _ _ _)))))); refine wpQuiet_nil ?_; clear hBe; intro w1 hb1; obtain ⟨hc1, hf1, hz1, hn1⟩ := bstep 1 w hb1 (by go_size))
    go_wp2
    go_returns
    exact ⟨rfl, by (repeat' (first | (with_reducible exact Below.refl _ _) | (with_reducible refine Below.alloc ?_ ?_ _) | (with_reducible refine Below.drew ?_) | (with_reducible refine below_drewN' ?_ _) | (with_reducible refine Below.setCell ?_ ?_ _) | (with_reducible refine Below.trans ?_ (Below.mono (by assumption) ?_)) | go_size))⟩
theorem Num1_any (x : Int) (w : World) : Calls Try.prog 94 #[.int .i64 x] w fun e w' => e = .returned (.bool (!numB x)) ∧ w = w' := by
  go_enter Try.func94, Try.ntmps94
  go_wp2_with (first | (go_at_call 52; (with_reducible refine (isNumber_any _ _).mono ?_); rintro e w' ⟨rfl, rfl⟩))
  go_returns
  exact ⟨rfl, rfl⟩
theorem IndexFuncNum_any (A : Option Addr) (n c : Nat) (xs : List Int) (w : World) (h : ISl w A n xs) (hn : n ≤ 281474976710656) :
    Calls Try.prog 98 #[.slice A n c, .func (.func 94) #[] #[]] w fun e w' => (∃ v : Int, (0 ≤ v ↔ allI numB xs = false) ∧ e = .returned (.int .i64 v)) ∧ w = w' := by
  obtain ⟨rfl, hx⟩ := h
  go_enter Try.func98, Try.ntmps98
  go_wp2
  go_loop [8] (fun i => ∃ k : Nat, k ≤ xs.length ∧ i = .int .i64 k ∧ ∀ j, j < k → numB (xs[j]?.getD 0) = true) (fun i => xs.length - (intOf i).toNat)
  case atStart => exact ⟨0, Nat.zero_le _, rfl, fun j hj => absurd hj (by omega)⟩
  case round =>
    obtain ⟨k, hk, rfl, hall⟩ := hrel
    have HA := Lib.hid hall
    clear hall
    by_cases hlt : k < xs.length
    · obtain ⟨b, off, rfl, hb, hr⟩ := hx (by omega)
      have h1 := hr k hlt
      obtain ⟨x, hp⟩ : ∃ p, xs[k]?.getD 0 = p := ⟨_, rfl⟩
      rw [hp] at h1
      have HP := Lib.hid hp
      clear hp hr hx hb
      obtain ⟨z, hz⟩ : ∃ z, numB x = z := ⟨_, rfl⟩
      have hcon := fun W => Num1_any x W
      rw [hz] at hcon
      have HZ := Lib.hid hz
      have HC := Lib.hid hcon
      clear hz hcon
      cases z
      · go_wp2_with (first | (go_at_call 94; (with_reducible refine (HC.out _).mono ?_); rintro e w' ⟨rfl, rfl⟩))
        go_returns
        exact ⟨⟨k, ⟨fun _ => all_false hlt (by rw [HP.out]; exact HZ.out), fun _ => by omega⟩, rfl⟩, rfl⟩
      · go_wp2_with (first | (go_at_call 94; (with_reducible refine (HC.out _).mono ?_); rintro e w' ⟨rfl, rfl⟩))
        go_round
        case rel =>
          refine ⟨k + 1, by omega, by go_num, fun j hj => ?_⟩
          by_cases hjk : j < k
          · exact HA.out j hjk
          · obtain rfl : j = k := by omega
            rw [HP.out]
            exact HZ.out
        case measure => simp [intOf]; omega
    · go_wp2
      go_returns
      exact ⟨⟨-1, ⟨fun h => absurd h (by omega), fun h => by rw [all_true fun j hj => HA.out j (by omega)] at h; cases h⟩, rfl⟩, rfl⟩
theorem ContainsNum_any (A : Option Addr) (n c : Nat) (xs : List Int) (w : World) (h : ISl w A n xs) (hn : n ≤ 281474976710656) :
    Calls Try.prog 93 #[.slice A n c, .func (.func 94) #[] #[]] w fun e w' => e = .returned (.bool (!allI numB xs)) ∧ w = w' := by
  have H := Lib.hid h
  have HN := Lib.hid hn
  clear h hn
  go_enter Try.func93, Try.ntmps93
  go_wp2_with (first | (go_at_call 98; (with_reducible refine (IndexFuncNum_any _ _ _ xs _ H.out HN.out).mono ?_); rintro e w1 ⟨⟨v, hv, rfl⟩, rfl⟩; have HV := Lib.hid hv; clear hv))
  go_returns
  refine ⟨ret_bool ?_, rfl⟩
  have hv := HV.out
  cases ha : allI numB xs <;> simp_all
end Go.Proofs.Ytdenfmgmapgpiaa
