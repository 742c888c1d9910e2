/-
  Comparisons of lists, off the library's own code. Condition: what stands in each.
-/
import Derived.Test.YtajjoihfccnfhaaDoorCqb
import Derived.Test.YtajjoihfccnfhaaDoorShg
namespace Go.Proofs.YtajjoihfccnfhaaDoor
open Go.RowKit
set_option maxHeartbeats 1000000
def cmpI (a b : Int) : Int := if a < b then -1 else if b < a then 1 else 0
theorem cmp_any (a b : Int) (w : World) : Calls Tryd.prog 96 #[.int .i64 a, .int .i64 b] w fun e w' => e = .returned (.int .i64 (cmpI a b)) ∧ Below w.heap.size w w' := by
  have hn : ∀ (x : Int) (W : World), Calls Tryd.prog 119 #[.int .i64 x] W fun e w' => e = .returned (.bool false) ∧ w' = W := fun x W => by
    go_enter Tryd.func119, Tryd.ntmps119
    go_wp2
    go_returns
    exact ⟨by simp, rfl⟩
  have HN := Lib.hid hn
  clear hn
  unfold cmpI
  by_cases h1 : a < b
  · rw [if_pos h1]
    go_enter Tryd.func96, Tryd.ntmps96
    go_wp2_with (go_at_call 119; (with_reducible refine (HN.out _ _).mono ?_); rintro e w1 ⟨rfl, rfl⟩)
    go_returns
    exact ⟨rfl, Below.refl _ _⟩
  · rw [if_neg h1]
    by_cases h2 : b < a
    · rw [if_pos h2]
      have h2' : a > b := h2
      go_enter Tryd.func96, Tryd.ntmps96
      go_wp2_with (go_at_call 119; (with_reducible refine (HN.out _ _).mono ?_); rintro e w1 ⟨rfl, rfl⟩)
      go_returns
      exact ⟨rfl, Below.refl _ _⟩
    · rw [if_neg h2]
      have h2' : ¬ a > b := h2
      go_enter Tryd.func96, Tryd.ntmps96
      go_wp2_with (go_at_call 119; (with_reducible refine (HN.out _ _).mono ?_); rintro e w1 ⟨rfl, rfl⟩)
      go_returns
      exact ⟨rfl, Below.refl _ _⟩
theorem compare_any (A A' : Option Addr) (n c c' : Nat) (xs ys : List Int) (w : World) (h : ISl w A n xs) (h' : ISl w A' n ys) (hn : n ≤ 1048576) : Calls Tryd.prog 78 #[.slice A n c, .slice A' n c'] w fun e w' =>
    (∃ r : Int, e = .returned (.int .i64 r) ∧ decide (r < 0) = ltI xs ys) ∧ Below w.heap.size w w' := by
  obtain ⟨rfl, hx⟩ := h
  have hx' := h'.2
  have hyl := h'.1
  have hno := @ltI_all xs ys hyl
  have hyes := fun k => @ltI_at xs ys k
  obtain ⟨R, hR⟩ : ∃ R, ltI xs ys = R := ⟨_, rfl⟩
  rw [hR] at hno hyes ⊢
  have HN := Lib.hid hno
  have HY := Lib.hid hyes
  have HYL := Lib.hid hyl
  clear h' hno hyes hR hyl
  go_enter Tryd.func78, Tryd.ntmps78
  go_wp2
  go_loopw [11] (fun i wr => Below w.heap.size w wr ∧ ∃ k : Nat, k ≤ xs.length ∧ i = .int .i64 k ∧ ∀ j, j < k → xs[j]?.getD 0 = ys[j]?.getD 0) (fun i _ => xs.length - (intOf i).toNat)
  case atStart => exact ⟨Below.refl _ _, 0, Nat.zero_le _, rfl, fun j hj => absurd hj (Nat.not_lt_zero _)⟩
  case round =>
    obtain ⟨hB, k, hk, rfl, hall⟩ := hrel
    have HA := Lib.hid hall
    clear hall
    by_cases hlt : k < xs.length
    · obtain ⟨b, off, rfl, hb, hr⟩ := hx (by omega)
      obtain ⟨b', off', rfl, hb', hr'⟩ := hx' (by omega)
      have h1 := cell_keep hB (hr k hlt)
      have h2 := cell_keep hB (hr' k (by rw [← HYL.out]; exact hlt))
      have hy := HY.out k HA.out hlt (by rw [← HYL.out]; exact hlt)
      obtain ⟨x, hp⟩ : ∃ p, xs[k]?.getD 0 = p := ⟨_, rfl⟩
      obtain ⟨y, hp'⟩ : ∃ p, ys[k]?.getD 0 = p := ⟨_, rfl⟩
      rw [hp] at h1 hy
      rw [hp'] at h2 hy
      have HP := Lib.hid (hp.trans (Eq.refl x))
      have HP' := Lib.hid (hp'.trans (Eq.refl y))
      have hc := fun W => cmp_any x y W
      clear hp hp' hr hx hb hr' hx' hb'
      have hi0 : (0 : Int) ≤ (k : Int) := by omega
      have hi1 : (k : Int) < (xs.length : Int) := by omega
      have hi2 : ¬ (k : Int) ≥ (xs.length : Int) := by omega
      by_cases he : x = y
      · subst he
        have e0 : cmpI x x = 0 := by simp [cmpI]
        rw [e0] at hc
        have HC := Lib.hid hc
        clear hy hc e0
        go_wp2_with (first | (go_at_call 96; (with_reducible refine (HC.out _).mono ?_); rintro e w1 ⟨rfl, hb1⟩; have hbs := hb1.size))
        go_roundw
        case rel =>
          refine ⟨by have hBs := hB.size; exact hB.trans (hb1.mono hBs), k + 1, by omega, by go_num, fun j hj => ?_⟩
          rcases Nat.lt_or_ge j k with h | h
          · exact HA.out j h
          · obtain rfl : j = k := by omega
            exact HP.out.trans HP'.out.symm
        case measure => simp [intOf]; omega
      · have hyy := hy he
        obtain ⟨r, hr⟩ : ∃ r, cmpI x y = r := ⟨_, rfl⟩
        have hr0 : (r != 0) = true ∧ decide (r < 0) = R := by
          rw [hyy, ← hr]
          unfold cmpI
          by_cases g1 : x < y
          · rw [if_pos g1]
            exact ⟨rfl, by simp [g1]⟩
          · rw [if_neg g1, if_pos (by omega)]
            exact ⟨rfl, by simp [g1]⟩
        rw [hr] at hc
        obtain ⟨hq, hd⟩ := hr0
        have HC := Lib.hid hc
        have HD := Lib.hid hd
        clear hy hc hr hyy hd
        go_wp2_with (first | (go_at_call 96; (with_reducible refine (HC.out _).mono ?_); rintro e w1 ⟨rfl, hb1⟩; have hbs := hb1.size))
        go_returns
        exact ⟨⟨_, rfl, HD.out⟩, by have hBs := hB.size; exact hB.trans (hb1.mono hBs)⟩
    · obtain rfl : k = xs.length := by omega
      have hd := HN.out HA.out
      have HD := Lib.hid hd
      clear hd
      go_wp2
      go_returns
      exact ⟨⟨_, rfl, by rw [HD.out]; rfl⟩, hB⟩
end Go.Proofs.YtajjoihfccnfhaaDoor
