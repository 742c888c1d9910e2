/-
  Contracts of the functions on points: what each call returns, and that nothing that lay before has turned. No condition but the bounds that stand in each.
-/
import Derived.Test.YtabdkjciajjkiaaChecked
import Derived.Test.YtabdkjciajjkiaaBase
namespace Go.Proofs.Ytabdkjciajjkiaa
open Go.RowKit
set_option maxHeartbeats 400000
theorem in_any (n a b : Int) (w : World) : Calls Try.prog 83 #[.int .i64 n, .int .i64 a, .int .i64 b] w fun e w' => e = .returned (.bool (inB n a b)) ∧ w = w' := by
  go_enter Try.func83, Try.ntmps83
  go_wp2
  all_goals
    go_returns
    exact ⟨ret_bool (by simp [inB, *]; try omega), rfl⟩
theorem l01In_any (n a b : Int) (w : World) : Calls Try.prog 61 #[.int .i64 n, .int .i64 a, .int .i64 b] w fun e w' => e = .returned (.bool (inB n a b)) ∧ w = w' := by
  go_enter Try.func61, Try.ntmps61
  go_wp2
  all_goals
    go_returns
    exact ⟨ret_bool (by simp [inB, *]; try omega), rfl⟩
end Go.Proofs.Ytabdkjciajjkiaa
