/-
  Contracts of functions on corners, angles, fractions, matrices, triples and spots. No condition but what stands in each.
-/
import Derived.Test.YtoldicmobenhaaaCpt
namespace Go.Proofs.Ytoldicmobenhaaa
open Go.RowKit
set_option maxHeartbeats 400000
set_option maxRecDepth 100000 in
theorem eqlSpot_run (w : World) (a b c x y z : Int) : (binOp .eql 25 (.agg #[.int .i64 a, .int .i64 b, .int .i64 c]) (.agg #[.int .i64 x, .int .i64 y, .int .i64 z])).run Try.prog w = .ok (.bool (a == x && b == y && c == z)) w :=
  run_eql3 w Try.underlying25 rfl Try.underlying2 (by kernel_rfl) Try.isAgg2 a b c x y z
set_option maxRecDepth 100000 in
theorem eqlPoint_run (w : World) (a b x y : Int) : (binOp .eql 60 (.agg #[.int .i64 a, .int .i64 b]) (.agg #[.int .i64 x, .int .i64 y])).run Try.prog w = .ok (.bool (a == x && b == y)) w :=
  run_eql2 w Try.underlying60 rfl Try.underlying2 (by kernel_rfl) Try.isAgg2 a b x y
theorem toSpot_any (a b c : Int) (w : World) : Calls Try.prog 16 #[.agg #[.int .i64 a, .int .i64 b, .int .i64 c]] w fun e w' => e = .returned (.agg #[.int .i64 a, .int .i64 b, .int .i64 c]) ∧ Below w.heap.size w w' := by
  go_enter Try.func16, Try.ntmps16
  go_wp2
  go_rounds 4
  go_returns
  exact ⟨rfl, by (repeat' (first | (with_reducible exact Below.refl _ _) | (with_reducible refine Below.alloc ?_ ?_ _) | (with_reducible refine Below.drew ?_) | (with_reducible refine below_drewN' ?_ _) | (with_reducible refine Below.setCell ?_ ?_ _) | (with_reducible refine Below.trans ?_ (Below.mono (by assumption) ?_)) | go_size))⟩
theorem eqPoint_same (x y : Int) (w : World) : Calls Try.prog 83 #[.agg #[.int .i64 x, .int .i64 y], .agg #[.int .i64 x, .int .i64 y]] w fun e w' => e = .returned (.bool true) ∧ Below w.heap.size w w' := by
  go_enter Try.func83, Try.ntmps83
  go_wp2
  refine wp_loop_rounds 3 ?_
  repeat any_goals (rw [rounds_succ]; go_wp2; try (go_quiet (fail); go_wp2))
  go_returns
  exact ⟨rfl, by (repeat' (first | (with_reducible exact Below.refl _ _) | (with_reducible refine Below.alloc ?_ ?_ _) | (with_reducible refine Below.drew ?_) | (with_reducible refine below_drewN' ?_ _) | (with_reducible refine Below.setCell ?_ ?_ _) | (with_reducible refine Below.trans ?_ (Below.mono (by assumption) ?_)) | go_size))⟩
theorem eqCorner_same (a b c d : Int) (w : World) : Calls Try.prog 44 #[.agg #[.int .i64 a, .int .i64 b, .int .i64 c, .int .i64 d], .agg #[.int .i64 a, .int .i64 b, .int .i64 c, .int .i64 d]] w fun e w' => e = .returned (.bool true) ∧ Below w.heap.size w w' := by
  go_enter Try.func44, Try.ntmps44
  go_wp2_with (first | (go_at_call 83; (with_reducible refine (eqPoint_same _ _ _).mono ?_); rintro e w1 ⟨rfl, hb1⟩; obtain ⟨hc1, hf1, hz1, hn1⟩ := bstep 2 w hb1 (by go_size)))
  go_returns
  exact ⟨rfl, by (repeat' (first | (with_reducible exact Below.refl _ _) | (with_reducible refine Below.alloc ?_ ?_ _) | (with_reducible refine Below.drew ?_) | (with_reducible refine below_drewN' ?_ _) | (with_reducible refine Below.setCell ?_ ?_ _) | (with_reducible refine Below.trans ?_ (Below.mono (by assumption) ?_)) | go_size))⟩
theorem Spot1_any (x : Int) (w : World) : Calls Try.prog 89 #[.int .i64 x] w fun e w' => e = .returned (.bool (!spotN x)) ∧ w = w' := by
  go_enter Try.func89, Try.ntmps89
  go_wp2_with (first | (go_at_call 76; (with_reducible refine (in_any _ _ _ _).mono ?_); rintro e w' ⟨rfl, rfl⟩))
  go_returns
  exact ⟨rfl, rfl⟩
theorem IndexFuncSpot_any (A : Option Addr) (n c : Nat) (xs : List Int) (w : World) (h : ISl w A n xs) (hn : n ≤ 281474976710656) :
    Calls Try.prog 97 #[.slice A n c, .func (.func 89) #[] #[]] w fun e w' => (∃ v : Int, (0 ≤ v ↔ allI spotN xs = false) ∧ e = .returned (.int .i64 v)) ∧ w = w' := by
  obtain ⟨rfl, hx⟩ := h
  go_enter Try.func97, Try.ntmps97
  go_wp2
  go_loop [8] (fun i => ∃ k : Nat, k ≤ xs.length ∧ i = .int .i64 k ∧ ∀ j, j < k → spotN (xs[j]?.getD 0) = true) (fun i => xs.length - (intOf i).toNat)
  case atStart => exact ⟨0, Nat.zero_le _, rfl, fun j hj => absurd hj (by omega)⟩
  case round =>
    obtain ⟨k, hk, rfl, hall⟩ := hrel
    have HA := Lib.hid hall
    clear hall
    by_cases hlt : k < xs.length
    · obtain ⟨b, off, rfl, hb, hr⟩ := hx (by omega)
      have h1 := hr k hlt
      obtain ⟨x, hp⟩ : ∃ p, xs[k]?.getD 0 = p := ⟨_, rfl⟩
      rw [hp] at h1
      have HP := Lib.hid hp
      clear hp hr hx hb
      obtain ⟨z, hz⟩ : ∃ z, spotN x = z := ⟨_, rfl⟩
      have hcon := fun W => Spot1_any x W
      rw [hz] at hcon
      have HZ := Lib.hid hz
      have HC := Lib.hid hcon
      clear hz hcon
      cases z
      · go_wp2_with (first | (go_at_call 89; (with_reducible refine (HC.out _).mono ?_); rintro e w' ⟨rfl, rfl⟩))
        go_returns
        exact ⟨⟨k, ⟨fun _ => all_false hlt (by rw [HP.out]; exact HZ.out), fun _ => by omega⟩, rfl⟩, rfl⟩
      · go_wp2_with (first | (go_at_call 89; (with_reducible refine (HC.out _).mono ?_); rintro e w' ⟨rfl, rfl⟩))
        go_round
        case rel =>
          refine ⟨k + 1, by omega, by go_num, fun j hj => ?_⟩
          by_cases hjk : j < k
          · exact HA.out j hjk
          · obtain rfl : j = k := by omega
            rw [HP.out]
            exact HZ.out
        case measure => simp [intOf]; omega
    · go_wp2
      go_returns
      exact ⟨⟨-1, ⟨fun h => absurd h (by omega), fun h => by rw [all_true fun j hj => HA.out j (by omega)] at h; cases h⟩, rfl⟩, rfl⟩
theorem ContainsSpot_any (A : Option Addr) (n c : Nat) (xs : List Int) (w : World) (h : ISl w A n xs) (hn : n ≤ 281474976710656) :
    Calls Try.prog 80 #[.slice A n c, .func (.func 89) #[] #[]] w fun e w' => e = .returned (.bool (!allI spotN xs)) ∧ w = w' := by
  have H := Lib.hid h
  have HN := Lib.hid hn
  clear h hn
  go_enter Try.func80, Try.ntmps80
  go_wp2_with (first | (go_at_call 97; (with_reducible refine (IndexFuncSpot_any _ _ _ xs _ H.out HN.out).mono ?_); rintro e w1 ⟨⟨v, hv, rfl⟩, rfl⟩; have HV := Lib.hid hv; clear hv))
  go_returns
  refine ⟨ret_bool ?_, rfl⟩
  have hv := HV.out
  cases ha : allI spotN xs <;> simp_all
theorem Co1_any (x : Int) (w : World) : Calls Try.prog 81 #[.int .i64 x] w fun e w' => e = .returned (.bool (!coB x)) ∧ w = w' := by
  go_enter Try.func81, Try.ntmps81
  go_wp2_with (first | (go_at_call 77; (with_reducible refine (isCoord_any _ _).mono ?_); rintro e w' ⟨rfl, rfl⟩))
  go_returns
  exact ⟨rfl, rfl⟩
theorem IndexFuncCo_any (A : Option Addr) (n c : Nat) (xs : List Int) (w : World) (h : ISl w A n xs) (hn : n ≤ 281474976710656) :
    Calls Try.prog 97 #[.slice A n c, .func (.func 81) #[] #[]] w fun e w' => (∃ v : Int, (0 ≤ v ↔ allI coB xs = false) ∧ e = .returned (.int .i64 v)) ∧ w = w' := by
  obtain ⟨rfl, hx⟩ := h
  go_enter Try.func97, Try.ntmps97
  go_wp2
  go_loop [8] (fun i => ∃ k : Nat, k ≤ xs.length ∧ i = .int .i64 k ∧ ∀ j, j < k → coB (xs[j]?.getD 0) = true) (fun i => xs.length - (intOf i).toNat)
  case atStart => exact ⟨0, Nat.zero_le _, rfl, fun j hj => absurd hj (by omega)⟩
  case round =>
    obtain ⟨k, hk, rfl, hall⟩ := hrel
    have HA := Lib.hid hall
    clear hall
    by_cases hlt : k < xs.length
    · obtain ⟨b, off, rfl, hb, hr⟩ := hx (by omega)
      have h1 := hr k hlt
      obtain ⟨x, hp⟩ : ∃ p, xs[k]?.getD 0 = p := ⟨_, rfl⟩
      rw [hp] at h1
      have HP := Lib.hid hp
      clear hp hr hx hb
      obtain ⟨z, hz⟩ : ∃ z, coB x = z := ⟨_, rfl⟩
      have hcon := fun W => Co1_any x W
      rw [hz] at hcon
      have HZ := Lib.hid hz
      have HC := Lib.hid hcon
      clear hz hcon
      cases z
      · go_wp2_with (first | (go_at_call 81; (with_reducible refine (HC.out _).mono ?_); rintro e w' ⟨rfl, rfl⟩))
        go_returns
        exact ⟨⟨k, ⟨fun _ => all_false hlt (by rw [HP.out]; exact HZ.out), fun _ => by omega⟩, rfl⟩, rfl⟩
      · go_wp2_with (first | (go_at_call 81; (with_reducible refine (HC.out _).mono ?_); rintro e w' ⟨rfl, rfl⟩))
        go_round
        case rel =>
          refine ⟨k + 1, by omega, by go_num, fun j hj => ?_⟩
          by_cases hjk : j < k
          · exact HA.out j hjk
          · obtain rfl : j = k := by omega
            rw [HP.out]
            exact HZ.out
        case measure => simp [intOf]; omega
    · go_wp2
      go_returns
      exact ⟨⟨-1, ⟨fun h => absurd h (by omega), fun h => by rw [all_true fun j hj => HA.out j (by omega)] at h; cases h⟩, rfl⟩, rfl⟩
theorem ContainsCo_any (A : Option Addr) (n c : Nat) (xs : List Int) (w : World) (h : ISl w A n xs) (hn : n ≤ 281474976710656) :
    Calls Try.prog 80 #[.slice A n c, .func (.func 81) #[] #[]] w fun e w' => e = .returned (.bool (!allI coB xs)) ∧ w = w' := by
  have H := Lib.hid h
  have HN := Lib.hid hn
  clear h hn
  go_enter Try.func80, Try.ntmps80
  go_wp2_with (first | (go_at_call 97; (with_reducible refine (IndexFuncCo_any _ _ _ xs _ H.out HN.out).mono ?_); rintro e w1 ⟨⟨v, hv, rfl⟩, rfl⟩; have HV := Lib.hid hv; clear hv))
  go_returns
  refine ⟨ret_bool ?_, rfl⟩
  have hv := HV.out
  cases ha : allI coB xs <;> simp_all
theorem IsSpot_any (a b c : Int) (w : World) : Calls Try.prog 52 #[.agg #[.int .i64 a, .int .i64 b, .int .i64 c]] w fun e w' => e = .returned (.bool (spotB a b c)) ∧ Below w.heap.size w w' := by
  go_enter Try.func52, Try.ntmps52
  go_wp2_with (first | (go_at_call 80; (with_reducible refine (ContainsSpot_any _ _ _ [a, b, c] _ (isl3 ?_ ?_ ?_) (by omega)).mono ?_); (iterate 3 (focus (go_simp; done))); rintro e w1 ⟨rfl, rfl⟩))
  go_returns
  exact ⟨ret_bool (by simp [spotB, allI, Bool.and_assoc]), by (repeat' (first | (with_reducible exact Below.refl _ _) | (with_reducible refine Below.alloc ?_ ?_ _) | (with_reducible refine Below.drew ?_) | (with_reducible refine below_drewN' ?_ _) | (with_reducible refine Below.setCell ?_ ?_ _) | (with_reducible refine Below.trans ?_ (Below.mono (by assumption) ?_)) | go_size))⟩
theorem l08Spot_any (a b c : Int) (w : World) : Calls Try.prog 50 #[.agg #[.int .i64 a, .int .i64 b, .int .i64 c]] w fun e w' => e = .returned (.bool (spotB a b c)) ∧ Below w.heap.size w w' := by
  obtain ⟨p, hp⟩ : ∃ p, inB a (-20) 20 = p := ⟨_, rfl⟩
  obtain ⟨q, hq⟩ : ∃ q, inB b (-20) 20 = q := ⟨_, rfl⟩
  obtain ⟨r, hr⟩ : ∃ r, inB c (-20) 20 = r := ⟨_, rfl⟩
  have ca := fun W => l01In_any a (-20) 20 W
  have cb := fun W => l01In_any b (-20) 20 W
  have cc := fun W => l01In_any c (-20) 20 W
  rw [hp] at ca
  rw [hq] at cb
  rw [hr] at cc
  have HA := Lib.hid ca
  have HB := Lib.hid cb
  have HC := Lib.hid cc
  have HP := Lib.hid hp
  have HQ := Lib.hid hq
  have HR := Lib.hid hr
  clear ca cb cc hp hq hr
  cases p <;> cases q <;> cases r
  all_goals
    go_enter Try.func50, Try.ntmps50
    go_wp2
    refine wp_loop_rounds 4 ?_
    repeat any_goals (rw [rounds_succ]; go_wp2_with (first | (go_at_call 70; (with_reducible refine (HA.out _).mono ?_); rintro e w' ⟨rfl, rfl⟩) | (go_at_call 70; (with_reducible refine (HB.out _).mono ?_); rintro e w' ⟨rfl, rfl⟩) | (go_at_call 70; (with_reducible refine (HC.out _).mono ?_); rintro e w' ⟨rfl, rfl⟩)))
    go_returns
    exact ⟨ret_bool (by simp [spotB, spotN, HP.out, HQ.out, HR.out]), by (repeat' (first | (with_reducible exact Below.refl _ _) | (with_reducible refine Below.alloc ?_ ?_ _) | (with_reducible refine Below.drew ?_) | (with_reducible refine below_drewN' ?_ _) | (with_reducible refine Below.setCell ?_ ?_ _) | (with_reducible refine Below.trans ?_ (Below.mono (by assumption) ?_)) | go_size))⟩
end Go.Proofs.Ytoldicmobenhaaa
