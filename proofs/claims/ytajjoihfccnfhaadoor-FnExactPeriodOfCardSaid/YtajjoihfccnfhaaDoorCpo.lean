/-
  Periods, by the model: both letters, turned lists, the least list. Condition: what stands in each.
-/
import Derived.Test.YtajjoihfccnfhaaDoorPpo
import Derived.Test.YtajjoihfccnfhaaDoorCwd
import Derived.Test.YtajjoihfccnfhaaDoorCsl
import Derived.Test.YtajjoihfccnfhaaDoorHk
import Derived.Lib.SlicesS
import Derived.Deep.AppendLies
import Derived.Deep.RegionHeld3
import Derived.Deep.DeepMust
import Derived.Deep.CutRange
import Derived.Deep.DeepCutAuto
import Derived.Laws.OwnMore
namespace Go.Proofs.YtajjoihfccnfhaaDoor
open Go.RowKit
set_option maxHeartbeats 1000000
/-- Not all letters of a word are one letter. -/
def bothB (l : List UInt8) : Bool := l.any fun c => decide (c ≠ l[0]?.getD 0)
theorem both_yes {s : ByteArray} {k : Nat} (hk : k < s.size) (h0 : 0 < s.size) (h : ¬ s[k] = s[0]) : bothB s.data.toList = true := by
  have hlen : s.data.toList.length = s.size := Array.length_toList
  refine List.any_eq_true.2 ⟨s[k], List.getElem_mem (l := s.data.toList) (by rw [hlen]; exact hk), decide_eq_true ?_⟩
  rw [List.getElem?_eq_getElem (by rw [hlen]; exact h0)]
  exact h
theorem both_no {s : ByteArray} (h : ∀ j (hj : j < s.size) (h0 : 0 < s.size), s[j] = s[0]) : bothB s.data.toList = false := by
  have hlen : s.data.toList.length = s.size := Array.length_toList
  refine List.any_eq_false.2 fun c hc => ?_
  obtain ⟨j, hj, rfl⟩ := List.getElem_of_mem hc
  rw [hlen] at hj
  have := h j hj (by omega)
  rw [List.getElem?_eq_getElem (by rw [hlen]; omega)]
  exact fun h => of_decide_eq_true h this
theorem both_any (s : ByteArray) (hs : s.size ≤ 1048576) (w : World) : Calls Tryd.prog 52 #[.string s] w fun e w' => e = .returned (.bool (bothB s.data.toList)) ∧ Below w.heap.size w w' := by
  have hno := @both_no s
  have hyes := fun k => @both_yes s k
  obtain ⟨R, hR⟩ : ∃ R, bothB s.data.toList = R := ⟨_, rfl⟩
  rw [hR] at hno hyes ⊢
  have HN := Lib.hid hno
  have HY := Lib.hid hyes
  clear hno hyes hR
  go_enter Tryd.func52, Tryd.ntmps52
  go_wp2
  go_loopw [3] (fun i wr => ∃ k : Nat, i = .int .i64 k ∧ 1 ≤ k ∧ (k ≤ s.size ∨ k = 1) ∧ (∀ j (hj : j < s.size) (h0 : 0 < s.size), j < k → s[j] = s[0]) ∧ Below w.heap.size w wr) (fun i _ => s.size - (intOf i).toNat)
  case atStart => exact ⟨1, rfl, by omega, .inr rfl, fun j hj h0 h1 => (by cases (show j = 0 by omega); rfl), Below.refl _ _⟩
  case round =>
    obtain ⟨k, rfl, hk1, hk, hall, hB⟩ := hrel
    have HA := Lib.hid hall
    clear hall
    by_cases hlt : k < s.size
    · have hin : (k : Int) < (s.size : Int) := by omega
      have h0 : 0 < s.size := by omega
      by_cases he : s[k] = s[0]
      · have hq : ((s[k].toNat : Int) != (s[0].toNat : Int)) = false := by rw [he]; simp
        have HE := Lib.hid he
        clear he
        go_wp2
        go_quiet (fail)
        go_wp2
        refine ⟨⟨k + 1, by go_num, by omega, .inl (by omega), fun j hj h1 h2 => ?_, below_drewN' hB _⟩, by simp [intOf]; omega⟩
        rcases Nat.lt_or_ge j k with h | h
        · exact HA.out j hj h1 h
        · obtain rfl : j = k := by omega
          exact HE.out
      · have hq : ((s[k].toNat : Int) != (s[0].toNat : Int)) = true := by
          have : ¬ (s[k].toNat : Int) = (s[0].toNat : Int) := fun h => he (by apply UInt8.toNat_inj.1; omega)
          simpa using this
        obtain rfl := HY.out k hlt h0 he
        clear he
        go_wp2
        go_quiet (fail)
        go_wp2
        go_returns
        exact ⟨rfl, below_drewN' hB _⟩
    · obtain rfl := HN.out fun j hj h0 => HA.out j hj h0 (by omega)
      go_wp2
      go_returns
      exact ⟨rfl, hB⟩
theorem ltI_at : ∀ {xs ys : List Int} {k : Nat}, (∀ j, j < k → xs[j]?.getD 0 = ys[j]?.getD 0) → k < xs.length → k < ys.length → xs[k]?.getD 0 ≠ ys[k]?.getD 0 → ltI xs ys = decide (xs[k]?.getD 0 < ys[k]?.getD 0)
  | x :: xs, y :: ys, 0, _, _, _, hne => by
    simp only [List.getElem?_cons_zero, Option.getD_some] at hne ⊢
    simp [ltI, hne]
  | x :: xs, y :: ys, k + 1, h, h1, h2, hne => by
    have e := h 0 (by omega)
    simp only [List.getElem?_cons_zero, Option.getD_some] at e
    subst e
    simp only [List.getElem?_cons_succ] at hne ⊢
    simp only [ltI, if_pos]
    exact ltI_at (fun j hj => by simpa using h (j + 1) (by omega)) (by simpa using h1) (by simpa using h2) hne
  | [], _, _, _, h1, _, _ => absurd h1 (by simp)
  | _ :: _, [], _, _, _, h2, _ => absurd h2 (by simp)
theorem ltI_all {xs ys : List Int} (hl : xs.length = ys.length) (h : ∀ j, j < xs.length → xs[j]?.getD 0 = ys[j]?.getD 0) : ltI xs ys = false := by
  have : xs = ys := List.ext_getElem hl fun j h1 h2 => by
    have := h j h1
    rw [List.getElem?_eq_getElem h1, List.getElem?_eq_getElem h2] at this
    simpa using this
  rw [this]
  exact ltI_self _
theorem less_any (A A' : Option Addr) (n c c' : Nat) (xs ys : List Int) (w : World) (h : ISl w A n xs) (h' : ISl w A' n ys) (hn : n ≤ 1048576) : Calls Tryd.prog 75 #[.slice A n c, .slice A' n c'] w fun e w' => e = .returned (.bool (ltI xs ys)) ∧ Below w.heap.size w w' := by
  obtain ⟨rfl, hx⟩ := h
  have hx' := h'.2
  have hyl := h'.1
  have hno := @ltI_all xs ys hyl
  have hyes := fun k => @ltI_at xs ys k
  obtain ⟨R, hR⟩ : ∃ R, ltI xs ys = R := ⟨_, rfl⟩
  rw [hR] at hno hyes ⊢
  have HN := Lib.hid hno
  have HY := Lib.hid hyes
  clear h' hno hyes hR
  go_enter Tryd.func75, Tryd.ntmps75
  go_wp2
  go_loopw [5] (fun i wr => Below w.heap.size w wr ∧ ∃ k : Nat, k ≤ xs.length ∧ i = .int .i64 k ∧ ∀ j, j < k → xs[j]?.getD 0 = ys[j]?.getD 0) (fun i _ => xs.length - (intOf i).toNat)
  case atStart => exact ⟨Below.refl _ _, 0, Nat.zero_le _, rfl, fun j hj => absurd hj (Nat.not_lt_zero _)⟩
  case round =>
    obtain ⟨hB, k, hk, rfl, hall⟩ := hrel
    have HA := Lib.hid hall
    clear hall
    by_cases hlt : k < xs.length
    · obtain ⟨b, off, rfl, hb, hr⟩ := hx (by omega)
      obtain ⟨b', off', rfl, hb', hr'⟩ := hx' (by omega)
      have h1 := cell_keep hB (hr k hlt)
      have h2 := cell_keep hB (hr' k (by omega))
      have hy := HY.out k HA.out hlt (by omega)
      obtain ⟨x, hp⟩ : ∃ p, xs[k]?.getD 0 = p := ⟨_, rfl⟩
      obtain ⟨y, hp'⟩ : ∃ p, ys[k]?.getD 0 = p := ⟨_, rfl⟩
      rw [hp] at h1 hy
      rw [hp'] at h2 hy
      have HP := Lib.hid (hp.trans (Eq.refl x))
      have HP' := Lib.hid (hp'.trans (Eq.refl y))
      clear hp hp' hr hx hb hr' hx' hb'
      have hi0 : (0 : Int) ≤ (k : Int) := by omega
      have hi1 : (k : Int) < (xs.length : Int) := by omega
      by_cases he : x = y
      · subst he
        clear hy
        go_wp2
        go_quiet (fail)
        go_wp2
        go_roundw
        case rel =>
          refine ⟨by (repeat' (first | (with_reducible exact Below.refl _ _) | (with_reducible refine Below.alloc ?_ ?_ _) | (with_reducible refine Below.drew ?_) | (with_reducible refine below_drewN' ?_ _) | (with_reducible refine Below.setCell ?_ ?_ _) | (with_reducible refine Below.trans ?_ (Below.mono (by assumption) ?_)) | go_size)), k + 1, by omega, by go_num, fun j hj => ?_⟩
          rcases Nat.lt_or_ge j k with h | h
          · exact HA.out j h
          · obtain rfl : j = k := by omega
            exact HP.out.trans HP'.out.symm
        case measure => simp [intOf]; omega
      · have hyy := hy he
        subst hyy
        have hnb : (x != y) = true := by simpa using he
        clear hy
        go_wp2
        go_quiet (fail)
        go_wp2
        go_quiet (fail)
        go_wp2
        go_returns
        exact ⟨rfl, by (repeat' (first | (with_reducible exact Below.refl _ _) | (with_reducible refine Below.alloc ?_ ?_ _) | (with_reducible refine Below.drew ?_) | (with_reducible refine below_drewN' ?_ _) | (with_reducible refine Below.setCell ?_ ?_ _) | (with_reducible refine Below.trans ?_ (Below.mono (by assumption) ?_)) | go_size))⟩
    · obtain rfl : k = xs.length := by omega
      obtain rfl := HN.out HA.out
      go_wp2
      go_returns
      exact ⟨rfl, hB⟩
end Go.Proofs.YtajjoihfccnfhaaDoor
