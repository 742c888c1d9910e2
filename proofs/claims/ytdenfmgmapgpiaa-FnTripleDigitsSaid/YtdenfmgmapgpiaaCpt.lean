/-
  Contracts of the functions on points: what each call returns, and that nothing that lay before has turned. No condition but the bounds that stand in each.
-/
import Derived.Test.YtdenfmgmapgpiaaChecked
import Derived.Test.YtdenfmgmapgpiaaBase
namespace Go.Proofs.Ytdenfmgmapgpiaa
open Go.RowKit
set_option maxHeartbeats 400000
theorem in_any (n a b : Int) (w : World) : Calls Try.prog 85 #[.int .i64 n, .int .i64 a, .int .i64 b] w fun e w' => e = .returned (.bool (inB n a b)) ∧ w = w' := by
  go_enter Try.func85, Try.ntmps85
  go_wp2
  all_goals
    go_returns
    exact ⟨ret_bool (by simp [inB, *]; try omega), rfl⟩
theorem l01In_any (n a b : Int) (w : World) : Calls Try.prog 57 #[.int .i64 n, .int .i64 a, .int .i64 b] w fun e w' => e = .returned (.bool (inB n a b)) ∧ w = w' := by
  go_enter Try.func57, Try.ntmps57
  go_wp2
  all_goals
    go_returns
    exact ⟨ret_bool (by simp [inB, *]; try omega), rfl⟩
theorem size_any (n : Int) (w : World) : Calls Try.prog 91 #[.int .i64 n] w fun e w' => e = .returned (.int .i64 (sizeG n)) ∧ w = w' := by
  go_enter Try.func91, Try.ntmps91
  go_wp2
  all_goals
    go_returns
    exact ⟨ret_i64 (by unfold sizeG; omega), rfl⟩
theorem l01Gcd_any (a b : Int) (w : World) : Calls Try.prog 70 #[.int .i64 a, .int .i64 b] w fun e w' => e = .returned (.int .i64 (gcdG a b)) ∧ w = w' := by
  go_enter Try.func70, Try.ntmps70
  go_wp2
  go_loop [0, 1, 5] (fun p q _ => ∃ x y : Int, p = .int .i64 x ∧ q = .int .i64 y ∧ gcdZ x y = gcdZ a b) (fun _ q _ => (intOf q).natAbs)
  case atStart => exact ⟨a, b, rfl, rfl, rfl⟩
  case round =>
    obtain ⟨x, y, rfl, rfl, hg⟩ := hrel
    have H := Lib.hid hg
    clear hg
    by_cases hy : y = 0
    · subst hy
      have hd : ((0 : Int) != 0) = false := rfl
      go_wp2
      all_goals
        go_returns
        exact ⟨ret_i64 (by unfold gcdG sizeG; rw [← H.out, gcdZ_zero]; omega), rfl⟩
    · have hd : (y != 0) = true := by simp [hy]
      go_wp2
      exact ⟨⟨_, _, rfl, rfl, (gcdZ_step hy).symm.trans H.out⟩, gcdZ_lt hy⟩
theorem gcd_any (a b : Int) (w : World) : Calls Try.prog 61 #[.int .i64 a, .int .i64 b] w fun e w' => e = .returned (.int .i64 (gcdG a b)) ∧ Below w.heap.size w w' := by
  go_enter Try.func61, Try.ntmps61
  go_wp2
  go_loopw [0, 1] (fun p q wr => Below w.heap.size w wr ∧ ∃ x y : Int, p = .int .i64 x ∧ q = .int .i64 y ∧ gcdZ x y = gcdZ a b) (fun _ q _ => (intOf q).natAbs)
  case atStart => exact ⟨Below.refl _ _, a, b, rfl, rfl, rfl⟩
  case round =>
    obtain ⟨hB, x, y, rfl, rfl, hg⟩ := hrel
    have H := Lib.hid hg
    clear hg
    by_cases hy : y = 0
    · subst hy
      have hd : ((0 : Int) != 0) = false := rfl
      go_wp2_with (first | (go_at_call 91; (with_reducible refine (size_any _ _).mono ?_); rintro e w' ⟨rfl, rfl⟩))
      all_goals
        go_returns
        exact ⟨ret_i64 (by unfold gcdG; rw [← H.out, gcdZ_zero]), hB⟩
    · have hd : (y != 0) = true := by simp [hy]
      go_wp2
      go_quiet (fail)
      go_wp2
      go_roundw
      case rel => exact ⟨below_drewN' hB _, _, _, rfl, rfl, (gcdZ_step hy).symm.trans H.out⟩
      case measure => exact gcdZ_lt hy
end Go.Proofs.Ytdenfmgmapgpiaa
