/-
  Contracts of the functions on points: what each call returns, and that nothing that lay before has turned. No condition but the bounds that stand in each.
-/
import Derived.Test.YtkibdpadampmcaaChecked
import Derived.Test.YtkibdpadampmcaaBase
namespace Go.Proofs.Ytkibdpadampmcaa
open Go.RowKit
set_option maxHeartbeats 400000
theorem toPoint_any (x y : Int) (w : World) : Calls Try.prog 16 #[.agg #[.int .i64 x, .int .i64 y]] w fun e w' => e = .returned (.agg #[.int .i64 x, .int .i64 y]) ∧ Below w.heap.size w w' := by
  go_enter Try.func16, Try.ntmps16
  go_wp2
  go_rounds 3
  go_returns
  exact ⟨rfl, by (repeat' (first | (with_reducible exact Below.refl _ _) | (with_reducible refine Below.alloc ?_ ?_ _) | (with_reducible refine Below.drew ?_) | (with_reducible refine below_drewN' ?_ _) | (with_reducible refine Below.setCell ?_ ?_ _) | (with_reducible refine Below.trans ?_ (Below.mono (by assumption) ?_)) | go_size))⟩
theorem in_any (n a b : Int) (w : World) : Calls Try.prog 94 #[.int .i64 n, .int .i64 a, .int .i64 b] w fun e w' => e = .returned (.bool (inB n a b)) ∧ w = w' := by
  go_enter Try.func94, Try.ntmps94
  go_wp2
  all_goals
    go_returns
    exact ⟨ret_bool (by simp [inB, *]; try omega), rfl⟩
theorem l01In_any (n a b : Int) (w : World) : Calls Try.prog 93 #[.int .i64 n, .int .i64 a, .int .i64 b] w fun e w' => e = .returned (.bool (inB n a b)) ∧ w = w' := by
  go_enter Try.func93, Try.ntmps93
  go_wp2
  all_goals
    go_returns
    exact ⟨ret_bool (by simp [inB, *]; try omega), rfl⟩
theorem isCoord_any (n : Int) (w : World) : Calls Try.prog 57 #[.int .i64 n] w fun e w' => e = .returned (.bool (coB n)) ∧ w = w' := by
  go_enter Try.func57, Try.ntmps57
  go_wp2_with (first | (go_at_call 94; (with_reducible refine (in_any _ _ _ _).mono ?_); rintro e w' ⟨rfl, rfl⟩))
  go_returns
  exact ⟨rfl, rfl⟩
theorem l01Fits_any (n : Int) (w : World) : Calls Try.prog 54 #[.int .i64 n] w fun e w' => e = .returned (.bool (coB n)) ∧ w = w' := by
  go_enter Try.func54, Try.ntmps54
  go_wp2_with (first | (go_at_call 93; (with_reducible refine (l01In_any _ _ _ _).mono ?_); rintro e w' ⟨rfl, rfl⟩))
  go_returns
  exact ⟨rfl, rfl⟩
theorem IsPoint_any (x y : Int) (w : World) : Calls Try.prog 52 #[.agg #[.int .i64 x, .int .i64 y]] w fun e w' => e = .returned (.bool (ptB x y)) ∧ Below w.heap.size w w' := by
  go_enter Try.func52, Try.ntmps52
  go_wp2_with (first | (go_at_call 57; (with_reducible refine (isCoord_any _ _).mono ?_); rintro e w' ⟨rfl, rfl⟩))
  all_goals
    go_returns
    exact ⟨ret_bool (by simp [ptB, *]), by (repeat' (first | (with_reducible exact Below.refl _ _) | (with_reducible refine Below.alloc ?_ ?_ _) | (with_reducible refine Below.drew ?_) | (with_reducible refine below_drewN' ?_ _) | (with_reducible refine Below.setCell ?_ ?_ _) | (with_reducible refine Below.trans ?_ (Below.mono (by assumption) ?_)) | go_size))⟩
theorem l01Is_any (x y : Int) (w : World) : Calls Try.prog 50 #[.agg #[.int .i64 x, .int .i64 y]] w fun e w' => e = .returned (.bool (ptB x y)) ∧ Below w.heap.size w w' := by
  go_enter Try.func50, Try.ntmps50
  go_wp2_with (first | (go_at_call 54; (with_reducible refine (l01Fits_any _ _).mono ?_); rintro e w' ⟨rfl, rfl⟩))
  all_goals
    go_returns
    exact ⟨ret_bool (by simp [ptB, *]), by (repeat' (first | (with_reducible exact Below.refl _ _) | (with_reducible refine Below.alloc ?_ ?_ _) | (with_reducible refine Below.drew ?_) | (with_reducible refine below_drewN' ?_ _) | (with_reducible refine Below.setCell ?_ ?_ _) | (with_reducible refine Below.trans ?_ (Below.mono (by assumption) ?_)) | go_size))⟩
theorem size_any (n : Int) (w : World) : Calls Try.prog 89 #[.int .i64 n] w fun e w' => e = .returned (.int .i64 (sizeG n)) ∧ w = w' := by
  go_enter Try.func89, Try.ntmps89
  go_wp2
  all_goals
    go_returns
    exact ⟨ret_i64 (by unfold sizeG; omega), rfl⟩
theorem l01Gcd_any (a b : Int) (w : World) : Calls Try.prog 83 #[.int .i64 a, .int .i64 b] w fun e w' => e = .returned (.int .i64 (gcdG a b)) ∧ w = w' := by
  go_enter Try.func83, Try.ntmps83
  go_wp2
  go_loop [0, 1, 5] (fun p q _ => ∃ x y : Int, p = .int .i64 x ∧ q = .int .i64 y ∧ gcdZ x y = gcdZ a b) (fun _ q _ => (intOf q).natAbs)
  case atStart => exact ⟨a, b, rfl, rfl, rfl⟩
  case round =>
    obtain ⟨x, y, rfl, rfl, hg⟩ := hrel
    have H := Lib.hid hg
    clear hg
    by_cases hy : y = 0
    · subst hy
      have hd : ((0 : Int) != 0) = false := rfl
      go_wp2
      all_goals
        go_returns
        exact ⟨ret_i64 (by unfold gcdG sizeG; rw [← H.out, gcdZ_zero]; omega), rfl⟩
    · have hd : (y != 0) = true := by simp [hy]
      go_wp2
      exact ⟨⟨_, _, rfl, rfl, (gcdZ_step hy).symm.trans H.out⟩, gcdZ_lt hy⟩
theorem gcd_any (a b : Int) (w : World) : Calls Try.prog 92 #[.int .i64 a, .int .i64 b] w fun e w' => e = .returned (.int .i64 (gcdG a b)) ∧ Below w.heap.size w w' := by
  go_enter Try.func92, Try.ntmps92
  go_wp2
  go_loopw [0, 1] (fun p q wr => Below w.heap.size w wr ∧ ∃ x y : Int, p = .int .i64 x ∧ q = .int .i64 y ∧ gcdZ x y = gcdZ a b) (fun _ q _ => (intOf q).natAbs)
  case atStart => exact ⟨Below.refl _ _, a, b, rfl, rfl, rfl⟩
  case round =>
    obtain ⟨hB, x, y, rfl, rfl, hg⟩ := hrel
    have H := Lib.hid hg
    clear hg
    by_cases hy : y = 0
    · subst hy
      have hd : ((0 : Int) != 0) = false := rfl
      go_wp2_with (first | (go_at_call 89; (with_reducible refine (size_any _ _).mono ?_); rintro e w' ⟨rfl, rfl⟩))
      all_goals
        go_returns
        exact ⟨ret_i64 (by unfold gcdG; rw [← H.out, gcdZ_zero]), hB⟩
    · have hd : (y != 0) = true := by simp [hy]
      go_wp2
      go_quiet (fail)
      go_wp2
      go_roundw
      case rel => exact ⟨below_drewN' hB _, _, _, rfl, rfl, (gcdZ_step hy).symm.trans H.out⟩
      case measure => exact gcdZ_lt hy
theorem det_any (x y u v : Int) (w : World) : Calls Try.prog 75 #[.agg #[.int .i64 x, .int .i64 y], .agg #[.int .i64 u, .int .i64 v]] w fun e w' => e = .returned (.int .i64 (detG x y u v)) ∧ Below w.heap.size w w' := by
  go_enter Try.func75, Try.ntmps75
  go_wp2
  go_returns
  exact ⟨rfl, by (repeat' (first | (with_reducible exact Below.refl _ _) | (with_reducible refine Below.alloc ?_ ?_ _) | (with_reducible refine Below.drew ?_) | (with_reducible refine below_drewN' ?_ _) | (with_reducible refine Below.setCell ?_ ?_ _) | (with_reducible refine Below.trans ?_ (Below.mono (by assumption) ?_)) | go_size))⟩
theorem l01Det_any (x y u v : Int) (w : World) : Calls Try.prog 96 #[.agg #[.int .i64 x, .int .i64 y], .agg #[.int .i64 u, .int .i64 v]] w fun e w' => e = .returned (.int .i64 (detG x y u v)) ∧ Below w.heap.size w w' := by
  go_enter Try.func96, Try.ntmps96
  go_wp2
  go_returns
  exact ⟨rfl, by (repeat' (first | (with_reducible exact Below.refl _ _) | (with_reducible refine Below.alloc ?_ ?_ _) | (with_reducible refine Below.drew ?_) | (with_reducible refine below_drewN' ?_ _) | (with_reducible refine Below.setCell ?_ ?_ _) | (with_reducible refine Below.trans ?_ (Below.mono (by assumption) ?_)) | go_size))⟩
theorem length_any (x y : Int) (w : World) : Calls Try.prog 49 #[.agg #[.int .i64 x, .int .i64 y]] w fun e w' => e = .returned (.int .i64 (gcdG x y)) ∧ Below w.heap.size w w' := by
  go_enter Try.func49, Try.ntmps49
  go_wp2_with (first | (go_at_call 92; (with_reducible refine (gcd_any _ _ _).mono ?_); rintro e w1 ⟨rfl, hb1⟩; obtain ⟨hc1, hf1, hz1, hn1⟩ := bstep 1 w hb1 (by go_size)))
  go_returns
  exact ⟨rfl, by (repeat' (first | (with_reducible exact Below.refl _ _) | (with_reducible refine Below.alloc ?_ ?_ _) | (with_reducible refine Below.drew ?_) | (with_reducible refine below_drewN' ?_ _) | (with_reducible refine Below.setCell ?_ ?_ _) | (with_reducible refine Below.trans ?_ (Below.mono (by assumption) ?_)) | go_size))⟩
theorem isPrimitive_any (x y : Int) (w : World) : Calls Try.prog 74 #[.agg #[.int .i64 x, .int .i64 y]] w fun e w' => e = .returned (.bool (gcdG x y == 1)) ∧ Below w.heap.size w w' := by
  go_enter Try.func74, Try.ntmps74
  go_wp2_with (first | (go_at_call 49; (with_reducible refine (length_any _ _ _).mono ?_); rintro e w1 ⟨rfl, hb1⟩; obtain ⟨hc1, hf1, hz1, hn1⟩ := bstep 1 w hb1 (by go_size)))
  go_returns
  exact ⟨rfl, by (repeat' (first | (with_reducible exact Below.refl _ _) | (with_reducible refine Below.alloc ?_ ?_ _) | (with_reducible refine Below.drew ?_) | (with_reducible refine below_drewN' ?_ _) | (with_reducible refine Below.setCell ?_ ?_ _) | (with_reducible refine Below.trans ?_ (Below.mono (by assumption) ?_)) | go_size))⟩
theorem points1_any (x y : Int) (w : World) : Calls Try.prog 91 #[.agg #[.int .i64 x, .int .i64 y]] w fun e w' => e = .returned (.bool (!ptB x y)) ∧ Below w.heap.size w w' := by
  go_enter Try.func91, Try.ntmps91
  go_wp2_with (first | (go_at_call 52; (with_reducible refine (IsPoint_any _ _ _).mono ?_); rintro e w1 ⟨rfl, hb1⟩; obtain ⟨hc1, hf1, hz1, hn1⟩ := bstep 1 w hb1 (by go_size)))
  go_returns
  exact ⟨rfl, by (repeat' (first | (with_reducible exact Below.refl _ _) | (with_reducible refine Below.alloc ?_ ?_ _) | (with_reducible refine Below.drew ?_) | (with_reducible refine below_drewN' ?_ _) | (with_reducible refine Below.setCell ?_ ?_ _) | (with_reducible refine Below.trans ?_ (Below.mono (by assumption) ?_)) | go_size))⟩
theorem IndexFuncP_any (A : Option Addr) (n c : Nat) (xs : List (Int × Int)) (w : World) (h : PSl w A n xs) (hn : n ≤ 281474976710656) :
    Calls Try.prog 98 #[.slice A n c, .func (.func 91) #[] #[]] w fun e w' => (∃ v : Int, (0 ≤ v ↔ allP xs = false) ∧ e = .returned (.int .i64 v)) ∧ Below w.heap.size w w' := by
  obtain ⟨rfl, hx⟩ := h
  go_enter Try.func98, Try.ntmps98
  go_wp2
  go_loopw [8] (fun i wr => Below w.heap.size w wr ∧ ∃ k : Nat, k ≤ xs.length ∧ i = .int .i64 k ∧ ∀ j, j < k → ptB (xs[j]?.getD (0, 0)).1 (xs[j]?.getD (0, 0)).2 = true) (fun i _ => xs.length - (intOf i).toNat)
  case atStart => exact ⟨Below.refl _ _, 0, Nat.zero_le _, rfl, fun j hj => absurd hj (by omega)⟩
  case round =>
    obtain ⟨hB, k, hk, rfl, hall⟩ := hrel
    have HA := Lib.hid hall
    clear hall
    by_cases hlt : k < xs.length
    · obtain ⟨b, off, rfl, hb, hr⟩ := hx (by omega)
      have h1 := cell_keep hB (hr k hlt).1
      have h2 := cell_keep hB (hr k hlt).2
      obtain ⟨⟨x, y⟩, hp⟩ : ∃ p, xs[k]?.getD (0, 0) = p := ⟨_, rfl⟩
      rw [hp] at h1 h2
      have HP := Lib.hid hp
      clear hp hr hx hb
      obtain ⟨z, hz⟩ : ∃ z, ptB x y = z := ⟨_, rfl⟩
      have hcon := fun W => points1_any x y W
      rw [hz] at hcon
      have HZ := Lib.hid hz
      have HC := Lib.hid hcon
      clear hz hcon
      cases z
      · go_wp2_with (first | (go_at_call 91; (with_reducible refine (HC.out _).mono ?_); rintro e w1 ⟨rfl, hb1⟩))
        go_returns
        exact ⟨⟨k, ⟨fun _ => allP_false hlt (by rw [HP.out]; exact HZ.out), fun _ => by omega⟩, rfl⟩, hB.trans (hb1.mono hB.size)⟩
      · go_wp2_with (first | (go_at_call 91; (with_reducible refine (HC.out _).mono ?_); rintro e w1 ⟨rfl, hb1⟩))
        go_roundw
        case rel =>
          refine ⟨hB.trans (hb1.mono hB.size), k + 1, by omega, by go_num, fun j hj => ?_⟩
          by_cases hjk : j < k
          · exact HA.out j hjk
          · obtain rfl : j = k := by omega
            rw [HP.out]
            exact HZ.out
        case measure => simp [intOf]; omega
    · go_wp2
      go_returns
      exact ⟨⟨-1, ⟨fun h => absurd h (by omega), fun h => by rw [allP_true fun j hj => HA.out j (by omega)] at h; cases h⟩, rfl⟩, hB⟩
theorem ContainsP_any (A : Option Addr) (n c : Nat) (xs : List (Int × Int)) (w : World) (h : PSl w A n xs) (hn : n ≤ 281474976710656) :
    Calls Try.prog 90 #[.slice A n c, .func (.func 91) #[] #[]] w fun e w' => e = .returned (.bool (!allP xs)) ∧ Below w.heap.size w w' := by
  have H := Lib.hid h
  have HN := Lib.hid hn
  clear h hn
  go_enter Try.func90, Try.ntmps90
  go_wp2_with (first | (go_at_call 98; (with_reducible refine (IndexFuncP_any _ _ _ xs _ H.out HN.out).mono ?_); rintro e w1 ⟨⟨v, hv, rfl⟩, hb1⟩; have HV := Lib.hid hv; clear hv))
  go_returns
  refine ⟨ret_bool ?_, hb1⟩
  have hv := HV.out
  cases ha : allP xs <;> simp_all
theorem points_any (A : Option Addr) (n c : Nat) (xs : List (Int × Int)) (w : World) (h : PSl w A n xs) (hn : n ≤ 281474976710656) :
    Calls Try.prog 47 #[.slice A n c] w fun e w' => e = .returned (.bool (allP xs)) ∧ Below w.heap.size w w' := by
  have H := Lib.hid h
  have HN := Lib.hid hn
  clear h hn
  go_enter Try.func47, Try.ntmps47
  go_wp2_with (first | (go_at_call 90; (with_reducible refine (ContainsP_any _ _ _ xs _ H.out HN.out).mono ?_); rintro e w1 ⟨rfl, hb1⟩))
  go_returns
  exact ⟨ret_bool (by simp), hb1⟩
theorem l01Code_any (A : Option Addr) (n c : Nat) (xs : List (Int × Int)) (w : World) (z : Bool) (h : PSl w A n xs) (hn : n ≤ 281474976710656) (hz : allP xs = z) :
    Calls Try.prog 45 #[.slice A n c] w fun e w' => e = .returned (.int .i64 (if z then 0 else 1)) ∧ Below w.heap.size w w' := by
  obtain ⟨rfl, hx⟩ := h
  have HZ := Lib.hid hz
  clear hz
  go_enter Try.func45, Try.ntmps45
  go_wp2
  go_loopw [3] (fun i wr => Below w.heap.size w wr ∧ ∃ k : Nat, k ≤ xs.length ∧ i = .int .i64 k ∧ ∀ j, j < k → ptB (xs[j]?.getD (0, 0)).1 (xs[j]?.getD (0, 0)).2 = true) (fun i _ => xs.length - (intOf i).toNat)
  case atStart => exact ⟨Below.refl _ _, 0, Nat.zero_le _, rfl, fun j hj => absurd hj (by omega)⟩
  case round =>
    obtain ⟨hB, k, hk, rfl, hall⟩ := hrel
    have HA := Lib.hid hall
    clear hall
    by_cases hlt : k < xs.length
    · obtain ⟨b, off, rfl, hb, hr⟩ := hx (by omega)
      have h1 := cell_keep hB (hr k hlt).1
      have h2 := cell_keep hB (hr k hlt).2
      obtain ⟨⟨x, y⟩, hp⟩ : ∃ p, xs[k]?.getD (0, 0) = p := ⟨_, rfl⟩
      rw [hp] at h1 h2
      have HP := Lib.hid hp
      clear hp hr hx hb
      obtain ⟨q, hq⟩ : ∃ z, ptB x y = z := ⟨_, rfl⟩
      have hcon := fun W => l01Is_any x y W
      rw [hq] at hcon
      have HQ := Lib.hid hq
      have HC := Lib.hid hcon
      clear hq hcon
      cases q
      · obtain rfl : z = false := by rw [← HZ.out]; exact allP_false hlt (by rw [HP.out]; exact HQ.out)
        go_wp2_with (first | (go_at_call 50; (with_reducible refine (HC.out _).mono ?_); rintro e w1 ⟨rfl, hb1⟩))
        go_returns
        exact ⟨rfl, hB.trans (hb1.mono hB.size)⟩
      · go_wp2_with (first | (go_at_call 50; (with_reducible refine (HC.out _).mono ?_); rintro e w1 ⟨rfl, hb1⟩))
        go_roundw
        case rel =>
          refine ⟨hB.trans (hb1.mono hB.size), k + 1, by omega, by go_num, fun j hj => ?_⟩
          by_cases hjk : j < k
          · exact HA.out j hjk
          · obtain rfl : j = k := by omega
            rw [HP.out]
            exact HQ.out
        case measure => simp [intOf]; omega
    · obtain rfl : z = true := by rw [← HZ.out]; exact allP_true fun j hj => HA.out j (by omega)
      go_wp2
      go_returns
      exact ⟨rfl, hB⟩
end Go.Proofs.Ytkibdpadampmcaa
