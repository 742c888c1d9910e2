/-
  Contracts of the functions on points: what each call returns, and that nothing that lay before has turned. No condition but the bounds that stand in each.
-/
import Derived.Test.YtajjoihfccnfhaaDoorChecked
import Derived.Test.YtajjoihfccnfhaaDoorBase
namespace Go.Proofs.YtajjoihfccnfhaaDoor
open Go.RowKit
set_option maxHeartbeats 400000
theorem toPoint_any (x y : Int) (w : World) : Calls Tryd.prog 11 #[.agg #[.int .i64 x, .int .i64 y]] w fun e w' => e = .returned (.agg #[.int .i64 x, .int .i64 y]) ∧ Below w.heap.size w w' := by
  go_enter Tryd.func11, Tryd.ntmps11
  go_wp2
  go_rounds 3
  go_returns
  exact ⟨rfl, by (repeat' (first | (with_reducible exact Below.refl _ _) | (with_reducible refine Below.alloc ?_ ?_ _) | (with_reducible refine Below.drew ?_) | (with_reducible refine below_drewN' ?_ _) | (with_reducible refine Below.setCell ?_ ?_ _) | (with_reducible refine Below.trans ?_ (Below.mono (by assumption) ?_)) | go_size))⟩
theorem in_any (n a b : Int) (w : World) : Calls Tryd.prog 86 #[.int .i64 n, .int .i64 a, .int .i64 b] w fun e w' => e = .returned (.bool (inB n a b)) ∧ w = w' := by
  go_enter Tryd.func86, Tryd.ntmps86
  go_wp2
  all_goals
    go_returns
    exact ⟨ret_bool (by simp [inB, *]; try omega), rfl⟩
theorem l01In_any (n a b : Int) (w : World) : Calls Tryd.prog 85 #[.int .i64 n, .int .i64 a, .int .i64 b] w fun e w' => e = .returned (.bool (inB n a b)) ∧ w = w' := by
  go_enter Tryd.func85, Tryd.ntmps85
  go_wp2
  all_goals
    go_returns
    exact ⟨ret_bool (by simp [inB, *]; try omega), rfl⟩
theorem isCoord_any (n : Int) (w : World) : Calls Tryd.prog 62 #[.int .i64 n] w fun e w' => e = .returned (.bool (coB n)) ∧ w = w' := by
  go_enter Tryd.func62, Tryd.ntmps62
  go_wp2_with (first | (go_at_call 86; (with_reducible refine (in_any _ _ _ _).mono ?_); rintro e w' ⟨rfl, rfl⟩))
  go_returns
  exact ⟨rfl, rfl⟩
theorem l01Fits_any (n : Int) (w : World) : Calls Tryd.prog 60 #[.int .i64 n] w fun e w' => e = .returned (.bool (coB n)) ∧ w = w' := by
  go_enter Tryd.func60, Tryd.ntmps60
  go_wp2_with (first | (go_at_call 85; (with_reducible refine (l01In_any _ _ _ _).mono ?_); rintro e w' ⟨rfl, rfl⟩))
  go_returns
  exact ⟨rfl, rfl⟩
theorem IsPoint_any (x y : Int) (w : World) : Calls Tryd.prog 37 #[.agg #[.int .i64 x, .int .i64 y]] w fun e w' => e = .returned (.bool (ptB x y)) ∧ Below w.heap.size w w' := by
  go_enter Tryd.func37, Tryd.ntmps37
  go_wp2_with (first | (go_at_call 62; (with_reducible refine (isCoord_any _ _).mono ?_); rintro e w' ⟨rfl, rfl⟩))
  all_goals
    go_returns
    exact ⟨ret_bool (by simp [ptB, *]), by (repeat' (first | (with_reducible exact Below.refl _ _) | (with_reducible refine Below.alloc ?_ ?_ _) | (with_reducible refine Below.drew ?_) | (with_reducible refine below_drewN' ?_ _) | (with_reducible refine Below.setCell ?_ ?_ _) | (with_reducible refine Below.trans ?_ (Below.mono (by assumption) ?_)) | go_size))⟩
theorem l01Is_any (x y : Int) (w : World) : Calls Tryd.prog 35 #[.agg #[.int .i64 x, .int .i64 y]] w fun e w' => e = .returned (.bool (ptB x y)) ∧ Below w.heap.size w w' := by
  go_enter Tryd.func35, Tryd.ntmps35
  go_wp2_with (first | (go_at_call 60; (with_reducible refine (l01Fits_any _ _).mono ?_); rintro e w' ⟨rfl, rfl⟩))
  all_goals
    go_returns
    exact ⟨ret_bool (by simp [ptB, *]), by (repeat' (first | (with_reducible exact Below.refl _ _) | (with_reducible refine Below.alloc ?_ ?_ _) | (with_reducible refine Below.drew ?_) | (with_reducible refine below_drewN' ?_ _) | (with_reducible refine Below.setCell ?_ ?_ _) | (with_reducible refine Below.trans ?_ (Below.mono (by assumption) ?_)) | go_size))⟩
theorem points1_any (x y : Int) (w : World) : Calls Tryd.prog 72 #[.agg #[.int .i64 x, .int .i64 y]] w fun e w' => e = .returned (.bool (!ptB x y)) ∧ Below w.heap.size w w' := by
  go_enter Tryd.func72, Tryd.ntmps72
  go_wp2_with (first | (go_at_call 37; (with_reducible refine (IsPoint_any _ _ _).mono ?_); rintro e w1 ⟨rfl, hb1⟩; obtain ⟨hc1, hf1, hz1, hn1⟩ := bstep 1 w hb1 (by go_size)))
  go_returns
  exact ⟨rfl, by (repeat' (first | (with_reducible exact Below.refl _ _) | (with_reducible refine Below.alloc ?_ ?_ _) | (with_reducible refine Below.drew ?_) | (with_reducible refine below_drewN' ?_ _) | (with_reducible refine Below.setCell ?_ ?_ _) | (with_reducible refine Below.trans ?_ (Below.mono (by assumption) ?_)) | go_size))⟩
theorem IndexFuncP_any (A : Option Addr) (n c : Nat) (xs : List (Int × Int)) (w : World) (h : PSl w A n xs) (hn : n ≤ 281474976710656) :
    Calls Tryd.prog 90 #[.slice A n c, .func (.func 72) #[] #[]] w fun e w' => (∃ v : Int, (0 ≤ v ↔ allP xs = false) ∧ e = .returned (.int .i64 v)) ∧ Below w.heap.size w w' := by
  obtain ⟨rfl, hx⟩ := h
  go_enter Tryd.func90, Tryd.ntmps90
  go_wp2
  go_loopw [8] (fun i wr => Below w.heap.size w wr ∧ ∃ k : Nat, k ≤ xs.length ∧ i = .int .i64 k ∧ ∀ j, j < k → ptB (xs[j]?.getD (0, 0)).1 (xs[j]?.getD (0, 0)).2 = true) (fun i _ => xs.length - (intOf i).toNat)
  case atStart => exact ⟨Below.refl _ _, 0, Nat.zero_le _, rfl, fun j hj => absurd hj (by omega)⟩
  case round =>
    obtain ⟨hB, k, hk, rfl, hall⟩ := hrel
    have HA := Lib.hid hall
    clear hall
    by_cases hlt : k < xs.length
    · obtain ⟨b, off, rfl, hb, hr⟩ := hx (by omega)
      have h1 := cell_keep hB (hr k hlt).1
      have h2 := cell_keep hB (hr k hlt).2
      obtain ⟨⟨x, y⟩, hp⟩ : ∃ p, xs[k]?.getD (0, 0) = p := ⟨_, rfl⟩
      rw [hp] at h1 h2
      have HP := Lib.hid hp
      clear hp hr hx hb
      obtain ⟨z, hz⟩ : ∃ z, ptB x y = z := ⟨_, rfl⟩
      have hcon := fun W => points1_any x y W
      rw [hz] at hcon
      have HZ := Lib.hid hz
      have HC := Lib.hid hcon
      clear hz hcon
      cases z
      · go_wp2_with (first | (go_at_call 72; (with_reducible refine (HC.out _).mono ?_); rintro e w1 ⟨rfl, hb1⟩))
        go_returns
        exact ⟨⟨k, ⟨fun _ => allP_false hlt (by rw [HP.out]; exact HZ.out), fun _ => by omega⟩, rfl⟩, hB.trans (hb1.mono hB.size)⟩
      · go_wp2_with (first | (go_at_call 72; (with_reducible refine (HC.out _).mono ?_); rintro e w1 ⟨rfl, hb1⟩))
        go_roundw
        case rel =>
          refine ⟨hB.trans (hb1.mono hB.size), k + 1, by omega, by go_num, fun j hj => ?_⟩
          by_cases hjk : j < k
          · exact HA.out j hjk
          · obtain rfl : j = k := by omega
            rw [HP.out]
            exact HZ.out
        case measure => simp [intOf]; omega
    · go_wp2
      go_returns
      exact ⟨⟨-1, ⟨fun h => absurd h (by omega), fun h => by rw [allP_true fun j hj => HA.out j (by omega)] at h; cases h⟩, rfl⟩, hB⟩
theorem ContainsP_any (A : Option Addr) (n c : Nat) (xs : List (Int × Int)) (w : World) (h : PSl w A n xs) (hn : n ≤ 281474976710656) :
    Calls Tryd.prog 71 #[.slice A n c, .func (.func 72) #[] #[]] w fun e w' => e = .returned (.bool (!allP xs)) ∧ Below w.heap.size w w' := by
  have H := Lib.hid h
  have HN := Lib.hid hn
  clear h hn
  go_enter Tryd.func71, Tryd.ntmps71
  go_wp2_with (first | (go_at_call 90; (with_reducible refine (IndexFuncP_any _ _ _ xs _ H.out HN.out).mono ?_); rintro e w1 ⟨⟨v, hv, rfl⟩, hb1⟩; have HV := Lib.hid hv; clear hv))
  go_returns
  refine ⟨ret_bool ?_, hb1⟩
  have hv := HV.out
  cases ha : allP xs <;> simp_all
theorem points_any (A : Option Addr) (n c : Nat) (xs : List (Int × Int)) (w : World) (h : PSl w A n xs) (hn : n ≤ 281474976710656) :
    Calls Tryd.prog 50 #[.slice A n c] w fun e w' => e = .returned (.bool (allP xs)) ∧ Below w.heap.size w w' := by
  have H := Lib.hid h
  have HN := Lib.hid hn
  clear h hn
  go_enter Tryd.func50, Tryd.ntmps50
  go_wp2_with (first | (go_at_call 71; (with_reducible refine (ContainsP_any _ _ _ xs _ H.out HN.out).mono ?_); rintro e w1 ⟨rfl, hb1⟩))
  go_returns
  exact ⟨ret_bool (by simp), hb1⟩
theorem l01Code_any (A : Option Addr) (n c : Nat) (xs : List (Int × Int)) (w : World) (z : Bool) (h : PSl w A n xs) (hn : n ≤ 281474976710656) (hz : allP xs = z) :
    Calls Tryd.prog 70 #[.slice A n c] w fun e w' => e = .returned (.int .i64 (if z then 0 else 1)) ∧ Below w.heap.size w w' := by
  obtain ⟨rfl, hx⟩ := h
  have HZ := Lib.hid hz
  clear hz
  go_enter Tryd.func70, Tryd.ntmps70
  go_wp2
  go_loopw [3] (fun i wr => Below w.heap.size w wr ∧ ∃ k : Nat, k ≤ xs.length ∧ i = .int .i64 k ∧ ∀ j, j < k → ptB (xs[j]?.getD (0, 0)).1 (xs[j]?.getD (0, 0)).2 = true) (fun i _ => xs.length - (intOf i).toNat)
  case atStart => exact ⟨Below.refl _ _, 0, Nat.zero_le _, rfl, fun j hj => absurd hj (by omega)⟩
  case round =>
    obtain ⟨hB, k, hk, rfl, hall⟩ := hrel
    have HA := Lib.hid hall
    clear hall
    by_cases hlt : k < xs.length
    · obtain ⟨b, off, rfl, hb, hr⟩ := hx (by omega)
      have h1 := cell_keep hB (hr k hlt).1
      have h2 := cell_keep hB (hr k hlt).2
      obtain ⟨⟨x, y⟩, hp⟩ : ∃ p, xs[k]?.getD (0, 0) = p := ⟨_, rfl⟩
      rw [hp] at h1 h2
      have HP := Lib.hid hp
      clear hp hr hx hb
      obtain ⟨q, hq⟩ : ∃ z, ptB x y = z := ⟨_, rfl⟩
      have hcon := fun W => l01Is_any x y W
      rw [hq] at hcon
      have HQ := Lib.hid hq
      have HC := Lib.hid hcon
      clear hq hcon
      cases q
      · obtain rfl : z = false := by rw [← HZ.out]; exact allP_false hlt (by rw [HP.out]; exact HQ.out)
        go_wp2_with (first | (go_at_call 35; (with_reducible refine (HC.out _).mono ?_); rintro e w1 ⟨rfl, hb1⟩))
        go_returns
        exact ⟨rfl, hB.trans (hb1.mono hB.size)⟩
      · go_wp2_with (first | (go_at_call 35; (with_reducible refine (HC.out _).mono ?_); rintro e w1 ⟨rfl, hb1⟩))
        go_roundw
        case rel =>
          refine ⟨hB.trans (hb1.mono hB.size), k + 1, by omega, by go_num, fun j hj => ?_⟩
          by_cases hjk : j < k
          · exact HA.out j hjk
          · obtain rfl : j = k := by omega
            rw [HP.out]
            exact HQ.out
        case measure => simp [intOf]; omega
    · obtain rfl : z = true := by rw [← HZ.out]; exact allP_true fun j hj => HA.out j (by omega)
      go_wp2
      go_returns
      exact ⟨rfl, hB⟩
end Go.Proofs.YtajjoihfccnfhaaDoor
