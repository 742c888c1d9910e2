/-
  Contracts of the functions on points: what each call returns, and that nothing that lay before has turned. No condition but the bounds that stand in each.
-/
import Derived.Test.YtajjoihfccnfhaaChecked
import Derived.Test.YtajjoihfccnfhaaBase
namespace Go.Proofs.Ytajjoihfccnfhaa
open Go.RowKit
set_option maxHeartbeats 400000
theorem in_any (n a b : Int) (w : World) : Calls Try.prog 14 #[.int .i64 n, .int .i64 a, .int .i64 b] w fun e w' => e = .returned (.bool (inB n a b)) ∧ w = w' := by
  go_enter Try.func14, Try.ntmps14
  go_wp2
  all_goals
    go_returns
    exact ⟨ret_bool (by simp [inB, *]; try omega), rfl⟩
theorem l01In_any (n a b : Int) (w : World) : Calls Try.prog 13 #[.int .i64 n, .int .i64 a, .int .i64 b] w fun e w' => e = .returned (.bool (inB n a b)) ∧ w = w' := by
  go_enter Try.func13, Try.ntmps13
  go_wp2
  all_goals
    go_returns
    exact ⟨ret_bool (by simp [inB, *]; try omega), rfl⟩
theorem isCoord_any (n : Int) (w : World) : Calls Try.prog 44 #[.int .i64 n] w fun e w' => e = .returned (.bool (coB n)) ∧ w = w' := by
  go_enter Try.func44, Try.ntmps44
  go_wp2_with (first | (go_at_call 14; (with_reducible refine (in_any _ _ _ _).mono ?_); rintro e w' ⟨rfl, rfl⟩))
  go_returns
  exact ⟨rfl, rfl⟩
theorem l01Fits_any (n : Int) (w : World) : Calls Try.prog 30 #[.int .i64 n] w fun e w' => e = .returned (.bool (coB n)) ∧ w = w' := by
  go_enter Try.func30, Try.ntmps30
  go_wp2_with (first | (go_at_call 13; (with_reducible refine (l01In_any _ _ _ _).mono ?_); rintro e w' ⟨rfl, rfl⟩))
  go_returns
  exact ⟨rfl, rfl⟩
theorem IsPoint_any (x y : Int) (w : World) : Calls Try.prog 41 #[.agg #[.int .i64 x, .int .i64 y]] w fun e w' => e = .returned (.bool (ptB x y)) ∧ Below w.heap.size w w' := by
  go_enter Try.func41, Try.ntmps41
  go_wp2_with (first | (go_at_call 44; (with_reducible refine (isCoord_any _ _).mono ?_); rintro e w' ⟨rfl, rfl⟩))
  all_goals
    go_returns
    exact ⟨ret_bool (by simp [ptB, *]), by (repeat' (first | (with_reducible exact Below.refl _ _) | (with_reducible refine Below.alloc ?_ ?_ _) | (with_reducible refine Below.drew ?_) | (with_reducible refine below_drewN' ?_ _) | (with_reducible refine Below.setCell ?_ ?_ _) | (with_reducible refine Below.trans ?_ (Below.mono (by assumption) ?_)) | go_size))⟩
theorem points1_any (x y : Int) (w : World) : Calls Try.prog 40 #[.agg #[.int .i64 x, .int .i64 y]] w fun e w' => e = .returned (.bool (!ptB x y)) ∧ Below w.heap.size w w' := by
  go_enter Try.func40, Try.ntmps40
  go_wp2_with (first | (go_at_call 41; (with_reducible refine (IsPoint_any _ _ _).mono ?_); rintro e w1 ⟨rfl, hb1⟩; obtain ⟨hc1, hf1, hz1, hn1⟩ := bstep 1 w hb1 (by go_size)))
  go_returns
  exact ⟨rfl, by (repeat' (first | (with_reducible exact Below.refl _ _) | (with_reducible refine Below.alloc ?_ ?_ _) | (with_reducible refine Below.drew ?_) | (with_reducible refine below_drewN' ?_ _) | (with_reducible refine Below.setCell ?_ ?_ _) | (with_reducible refine Below.trans ?_ (Below.mono (by assumption) ?_)) | go_size))⟩
theorem IndexFuncP_any (A : Option Addr) (n c : Nat) (xs : List (Int × Int)) (w : World) (h : PSl w A n xs) (hn : n ≤ 281474976710656) :
    Calls Try.prog 43 #[.slice A n c, .func (.func 40) #[] #[]] w fun e w' => (∃ v : Int, (0 ≤ v ↔ allP xs = false) ∧ e = .returned (.int .i64 v)) ∧ Below w.heap.size w w' := by
  obtain ⟨rfl, hx⟩ := h
  go_enter Try.func43, Try.ntmps43
  go_wp2
  go_loopw [8] (fun i wr => Below w.heap.size w wr ∧ ∃ k : Nat, k ≤ xs.length ∧ i = .int .i64 k ∧ ∀ j, j < k → ptB (xs[j]?.getD (0, 0)).1 (xs[j]?.getD (0, 0)).2 = true) (fun i _ => xs.length - (intOf i).toNat)
  case atStart => exact ⟨Below.refl _ _, 0, Nat.zero_le _, rfl, fun j hj => absurd hj (by omega)⟩
  case round =>
    obtain ⟨hB, k, hk, rfl, hall⟩ := hrel
    have HA := Lib.hid hall
    clear hall
    by_cases hlt : k < xs.length
    · obtain ⟨b, off, rfl, hb, hr⟩ := hx (by omega)
      have h1 := cell_keep hB (hr k hlt).1
      have h2 := cell_keep hB (hr k hlt).2
      obtain ⟨⟨x, y⟩, hp⟩ : ∃ p, xs[k]?.getD (0, 0) = p := ⟨_, rfl⟩
      rw [hp] at h1 h2
      have HP := Lib.hid hp
      clear hp hr hx hb
      obtain ⟨z, hz⟩ : ∃ z, ptB x y = z := ⟨_, rfl⟩
      have hcon := fun W => points1_any x y W
      rw [hz] at hcon
      have HZ := Lib.hid hz
      have HC := Lib.hid hcon
      clear hz hcon
      cases z
      · go_wp2_with (first | (go_at_call 40; (with_reducible refine (HC.out _).mono ?_); rintro e w1 ⟨rfl, hb1⟩))
        go_returns
        exact ⟨⟨k, ⟨fun _ => allP_false hlt (by rw [HP.out]; exact HZ.out), fun _ => by omega⟩, rfl⟩, hB.trans (hb1.mono hB.size)⟩
      · go_wp2_with (first | (go_at_call 40; (with_reducible refine (HC.out _).mono ?_); rintro e w1 ⟨rfl, hb1⟩))
        go_roundw
        case rel =>
          refine ⟨hB.trans (hb1.mono hB.size), k + 1, by omega, by go_num, fun j hj => ?_⟩
          by_cases hjk : j < k
          · exact HA.out j hjk
          · obtain rfl : j = k := by omega
            rw [HP.out]
            exact HZ.out
        case measure => simp [intOf]; omega
    · go_wp2
      go_returns
      exact ⟨⟨-1, ⟨fun h => absurd h (by omega), fun h => by rw [allP_true fun j hj => HA.out j (by omega)] at h; cases h⟩, rfl⟩, hB⟩
theorem ContainsP_any (A : Option Addr) (n c : Nat) (xs : List (Int × Int)) (w : World) (h : PSl w A n xs) (hn : n ≤ 281474976710656) :
    Calls Try.prog 39 #[.slice A n c, .func (.func 40) #[] #[]] w fun e w' => e = .returned (.bool (!allP xs)) ∧ Below w.heap.size w w' := by
  have H := Lib.hid h
  have HN := Lib.hid hn
  clear h hn
  go_enter Try.func39, Try.ntmps39
  go_wp2_with (first | (go_at_call 43; (with_reducible refine (IndexFuncP_any _ _ _ xs _ H.out HN.out).mono ?_); rintro e w1 ⟨⟨v, hv, rfl⟩, hb1⟩; have HV := Lib.hid hv; clear hv))
  go_returns
  refine ⟨ret_bool ?_, hb1⟩
  have hv := HV.out
  cases ha : allP xs <;> simp_all
theorem points_any (A : Option Addr) (n c : Nat) (xs : List (Int × Int)) (w : World) (h : PSl w A n xs) (hn : n ≤ 281474976710656) :
    Calls Try.prog 31 #[.slice A n c] w fun e w' => e = .returned (.bool (allP xs)) ∧ Below w.heap.size w w' := by
  have H := Lib.hid h
  have HN := Lib.hid hn
  clear h hn
  go_enter Try.func31, Try.ntmps31
  go_wp2_with (first | (go_at_call 39; (with_reducible refine (ContainsP_any _ _ _ xs _ H.out HN.out).mono ?_); rintro e w1 ⟨rfl, hb1⟩))
  go_returns
  exact ⟨ret_bool (by simp), hb1⟩
end Go.Proofs.Ytajjoihfccnfhaa
