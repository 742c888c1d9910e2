/-
  The walk of the law of words of periods: the call returns true, and nothing that lay before has turned. Condition: none but the row's reach.
-/
import Derived.Test.YtajjoihfccnfhaaCwp
namespace Go.Proofs.Ytajjoihfccnfhaa
open Go.RowKit
set_option maxHeartbeats 400000
theorem FnExactWordOfPeriod_walk (A : Option Addr) (n c : Nat) (xs : List Int) (w : World) (h0 : ISl w A n xs ∧ (∀ z ∈ xs, -9223372036854775808 ≤ z ∧ z ≤ 9223372036854775807) ∧ n ≤ c ∧ c ≤ maxLen) :
    Calls Try.prog 3 #[.slice A n c] w fun e w' => e = .returned (.bool true) ∧ Below w.heap.size w w' := by
  have h := h0.1
  clear h0
  have HH := Lib.hid h
  clear h
  by_cases hn : n ≤ 1048576
  · have hni : ¬ (1048576 < (n : Int)) := by omega
    have hs := fun A n c W (h : ISl W A n xs) (hn : n ≤ 1048576) => specWop_any A n c xs W h hn
    have hi := fun A n c W (h : ISl W A n xs) (hn : n ≤ 1048576) => implWop_any A n c xs W h hn
    obtain ⟨⟨s, cd⟩, hR⟩ : ∃ R, wopR xs = R := ⟨_, rfl⟩
    rw [hR] at hs hi
    dsimp only at hs hi
    have HS := Lib.hid hs
    have HI := Lib.hid hi
    clear hs hi hR
    go_enter Try.func3, Try.ntmps3
    go_wp2_with fail
    refine (toInt64S_anyc A n c xs _ HH.out hn).mono ?_
    rintro e w1 ⟨⟨A1, rfl, hI1, _⟩, hb1⟩
    have k1 := hb1
    go_wp2_with fail
    refine (HS.out A1 n n _ hI1 hn).mono ?_
    rintro e w2 ⟨rfl, hb2⟩
    have k2 := k1.trans (hb2.mono k1.size)
    go_wp2_with fail
    refine (toInt64S_anyc A n c xs _ (HH.out.keep k2) hn).mono ?_
    rintro e w3 ⟨⟨A3, rfl, hI3, _⟩, hb3⟩
    have k3 := k2.trans (hb3.mono k2.size)
    go_wp2_with fail
    refine (HI.out A3 n n _ hI3 hn).mono ?_
    rintro e w4 ⟨rfl, hb4⟩
    have k4 := k3.trans (hb4.mono k3.size)
    go_wp2_with fail
    refine (toInt64S_anyc A n c xs _ (HH.out.keep k4) hn).mono ?_
    rintro e w5 ⟨⟨A5, rfl, hI5, _⟩, hb5⟩
    have k5 := k4.trans (hb5.mono k4.size)
    go_wp2_with fail
    refine (eqInt64S_same A3 A5 n n n xs _ ((hI3.keep hb4).keep hb5) hI5 (by omega)).mono ?_
    rintro e w6 ⟨rfl, hb6⟩
    have k6 := k5.trans (hb6.mono k5.size)
    go_wp2
    go_returns
    exact ⟨rfl, k6⟩
  · have hni : 1048576 < (n : Int) := by omega
    go_enter Try.func3, Try.ntmps3
    go_wp2
    go_returns
    exact ⟨rfl, Below.refl _ _⟩
end Go.Proofs.Ytajjoihfccnfhaa
