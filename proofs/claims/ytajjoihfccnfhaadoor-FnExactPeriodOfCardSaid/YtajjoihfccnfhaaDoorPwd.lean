/-
  Plain laws of words of two letters, and of their turns. No condition but what stands in each.
-/
import Derived.Test.YtajjoihfccnfhaaDoorBase
import Derived.Lib.SlTrimSet
import Derived.Lib.IndexMore
import Derived.Lib.SlicesS
namespace Go.Proofs.YtajjoihfccnfhaaDoor
open Go.RowKit
set_option maxHeartbeats 400000
def letB (c : UInt8) : Bool := c == 76 || c == 82
theorem letB_iff {c : UInt8} : letB c = true ↔ c = 76 ∨ c = 82 := by simp [letB]
def wordB (l : List UInt8) : Bool := decide (l.length ≤ 200) && l.all letB
theorem wordB_iff {l : List UInt8} : wordB l = true ↔ l.length ≤ 200 ∧ ∀ c ∈ l, c = 76 ∨ c = 82 := by
  unfold wordB
  rw [Bool.and_eq_true, decide_eq_true_iff, List.all_eq_true]
  exact and_congr_right fun _ => forall_congr' fun c => imp_congr_right fun _ => letB_iff
theorem letB_set (c : UInt8) : ([76, 82] : List UInt8).contains c = letB c := by
  unfold letB
  simp only [List.contains_cons, List.contains_nil, Bool.or_false]
theorem dropWhile_nil {p : UInt8 → Bool} : ∀ {l : List UInt8}, l.dropWhile p = [] → l.all p = true
  | [], _ => rfl
  | a :: l, h => by
    rw [List.dropWhile_cons] at h
    split at h
    · rename_i ha
      rw [List.all_cons, ha, dropWhile_nil h]
      rfl
    · cases h
theorem nil_dropWhile {p : UInt8 → Bool} : ∀ {l : List UInt8}, l.all p = true → l.dropWhile p = []
  | [], _ => rfl
  | a :: l, h => by
    rw [List.all_cons, Bool.and_eq_true] at h
    rw [List.dropWhile_cons, if_pos h.1]
    exact nil_dropWhile h.2
theorem all_rest {p : UInt8 → Bool} : ∀ {l : List UInt8}, (l.dropWhile p).all p = true → l.all p = true
  | [], _ => rfl
  | a :: l, h => by
    rw [List.dropWhile_cons] at h
    by_cases ha : p a = true
    · rw [if_pos ha] at h
      rw [List.all_cons, ha, all_rest h]
      rfl
    · rw [if_neg ha] at h
      exact h
theorem trim_word (l : List UInt8) : Lib.trimS l [76, 82] = [] ↔ l.all letB = true := by
  have hp : (fun c => ([76, 82] : List UInt8).contains c) = letB := funext letB_set
  unfold Lib.trimS Lib.trimLeftS Lib.trimRightS
  rw [hp]
  constructor
  · intro h
    have h1 := dropWhile_nil h
    rw [List.all_reverse] at h1
    have h2 := all_rest h1
    rw [List.all_reverse] at h2
    exact h2
  · intro h
    rw [nil_dropWhile (l := l.reverse) (by rw [List.all_reverse]; exact h)]
    rfl
/-- A text turned by k places. -/
def rot (v : List UInt8) (k : Nat) : List UInt8 := v.drop k ++ v.take k
theorem rot_zero (v : List UInt8) : rot v 0 = v := by simp [rot]
theorem rot_full (v : List UInt8) : rot v v.length = v := by simp [rot]
theorem occ_rot {v w : List UInt8} (h : w.length = v.length) {i : Nat} (hi : i ≤ v.length) : Lib.occAt (v ++ v) w i = true ↔ rot v i = w := by
  unfold Lib.occAt rot
  have hd : (v ++ v).drop i = v.drop i ++ v := by
    rw [List.drop_append, show i - v.length = 0 by omega, List.drop_zero]
  rw [List.isPrefixOf_iff_prefix, List.prefix_iff_eq_take, hd, List.take_append, List.length_drop, h]
  have h1 : List.take v.length (List.drop i v) = List.drop i v := List.take_of_length_le (by rw [List.length_drop]; omega)
  rw [h1, show v.length - (v.length - i) = i by omega]
  exact eq_comm
theorem turn_iff {v w : List UInt8} (h : w.length = v.length) : Lib.contains (v ++ v) w = true ↔ ∃ k, k ≤ v.length ∧ rot v k = w := by
  unfold Lib.contains
  rw [decide_eq_true_iff]
  constructor
  · intro h0
    rcases Lib.index_spec (v ++ v) w with ⟨h1, _⟩ | ⟨i, h1, h2, h3, _⟩
    · omega
    · rcases Lib.occAt_room h3 with h' | h'
      · rw [List.length_append] at h'
        have hi : i ≤ v.length := by omega
        exact ⟨i, hi, (occ_rot h hi).1 h3⟩
      · subst h'
        exact ⟨0, Nat.zero_le _, by rw [rot_zero]; exact List.eq_nil_of_length_eq_zero h.symm⟩
  · rintro ⟨k, hk, hr⟩
    rcases Lib.index_spec (v ++ v) w with ⟨_, h2⟩ | ⟨i, h1, _⟩
    · have := h2 k (by rw [List.length_append]; omega)
      rw [(occ_rot h hk).2 hr] at this
      cases this
    · omega
def turnR (v w : List UInt8) : Bool × Int := if wordB v && wordB w then (decide (v.length = w.length) && Lib.contains (v ++ v) w, 0) else (false, 2)
theorem turn_same (v : List UInt8) : (decide (v.length = v.length) && Lib.contains (v ++ v) v) = true := by
  rw [decide_eq_true rfl, (turn_iff rfl).2 ⟨0, Nat.zero_le _, rot_zero v⟩]
  rfl
theorem turn_long {v w : List UInt8} (h : ¬ v.length = w.length) : (decide (v.length = w.length) && Lib.contains (v ++ v) w) = false := by
  rw [decide_eq_false h]
  rfl
theorem turn_hit {v w : List UInt8} (h : v.length = w.length) {k : Nat} (hk : k < v.length) (hr : rot v k = w) : (decide (v.length = w.length) && Lib.contains (v ++ v) w) = true := by
  rw [decide_eq_true h, (turn_iff h.symm).2 ⟨k, by omega, hr⟩]
  rfl
theorem turn_miss {v w : List UInt8} (h : v.length = w.length) (hne : v ≠ w) (hr : ∀ k, k < v.length → rot v k ≠ w) : (decide (v.length = w.length) && Lib.contains (v ++ v) w) = false := by
  rw [Bool.and_eq_false_iff]
  refine .inr ?_
  cases hc : Lib.contains (v ++ v) w with
  | false => rfl
  | true =>
    obtain ⟨k, hk, hkr⟩ := (turn_iff h.symm).1 hc
    rcases Nat.lt_or_ge k v.length with h1 | h1
    · exact absurd hkr (hr k h1)
    · obtain rfl : k = v.length := by omega
      rw [rot_full] at hkr
      exact absurd hkr hne
end Go.Proofs.YtajjoihfccnfhaaDoor
