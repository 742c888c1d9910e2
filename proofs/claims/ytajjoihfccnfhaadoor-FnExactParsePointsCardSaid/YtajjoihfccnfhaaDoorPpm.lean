/-
  Plain laws of lists of points in texts. No condition but what stands in each.
-/
import Derived.Test.YtajjoihfccnfhaaDoorCpr
import Derived.Lib.Split
namespace Go.Proofs.YtajjoihfccnfhaaDoor
open Go.RowKit
set_option maxHeartbeats 400000
theorem index_no (c : UInt8) : ∀ (l : List UInt8), c ∉ l → Lib.index l [c] = -1
  | [], _ => rfl
  | b :: l, h => by
    rw [List.mem_cons, not_or] at h
    have hb : ¬ ([c].isPrefixOf (b :: l) = true) := by
      simp only [List.isPrefixOf, Bool.and_true, beq_iff_eq]
      exact h.1
    unfold Lib.index
    rw [if_neg hb, index_no c l h.2, if_pos (by decide)]
theorem splitK_zero (c : UInt8) (l : List UInt8) : Lib.splitK [c] 0 0 l = [l] := rfl
theorem splitK_no (c : UInt8) (l : List UInt8) (h : c ∉ l) : ∀ k, Lib.splitK [c] 0 k l = [l]
  | 0 => rfl
  | k + 1 => by
    unfold Lib.splitK
    rw [index_no c l h, if_pos (by decide)]
theorem splitK_mid (c : UInt8) (l r : List UInt8) (h : c ∉ l) (k : Nat) : Lib.splitK [c] 0 (k + 1) (l ++ c :: r) = l :: Lib.splitK [c] 0 k r := by
  have hm : ¬ (((l.length : Int) == -1) = true) := by
    simp only [beq_iff_eq]
    omega
  rw [Lib.splitK, index_mid c r l h, if_neg hm, Int.toNat_natCast, Nat.add_zero, List.take_left]
  congr 2
  show List.drop (l.length + 1) (l ++ c :: r) = r
  rw [List.drop_append, List.drop_eq_nil_of_le (by omega), Nat.add_sub_cancel_left]
  rfl
theorem splitGo_one (c : UInt8) (l : List UInt8) (h : c ∉ l) : splitGo c [] l = [l] := by rw [splitGo_no c l [] h, List.nil_append]
theorem splitGo_len (c : UInt8) : ∀ (l acc : List UInt8), (splitGo c acc l).length ≤ l.length + 1
  | [], _ => Nat.le_refl _
  | x :: r, acc => by
    rw [splitGo_cons]
    split
    · have := splitGo_len c r []
      simp only [List.length_cons]
      omega
    · have := splitGo_len c r (acc ++ [x])
      simp only [List.length_cons]
      omega
theorem splitK_few (c : UInt8) : ∀ (k : Nat) (l : List UInt8), (splitGo c [] l).length ≤ k + 1 → Lib.splitK [c] 0 k l = splitGo c [] l := by
  intro k
  induction k with
  | zero =>
    intro l h
    by_cases hc : c ∈ l
    · obtain ⟨a, r, rfl, ha⟩ := List.eq_append_cons_of_mem hc
      rw [splitGo_mid c r a [] ha] at h
      have := List.length_pos_iff.2 (splitGo_ne c r [])
      simp only [List.length_cons] at h
      omega
    · rw [splitGo_one c l hc, splitK_zero]
  | succ k ih =>
    intro l h
    by_cases hc : c ∈ l
    · obtain ⟨a, r, rfl, ha⟩ := List.eq_append_cons_of_mem hc
      rw [splitGo_mid c r a [] ha] at h ⊢
      rw [splitK_mid c a r ha, ih r (by simp only [List.length_cons] at h; omega), List.nil_append]
    · rw [splitGo_one c l hc, splitK_no c l hc]
theorem splitK_many (c : UInt8) : ∀ (k : Nat) (l : List UInt8), k + 1 < (splitGo c [] l).length → (Lib.splitK [c] 0 k l).length = k + 1 := by
  intro k
  induction k with
  | zero => intro l _; rfl
  | succ k ih =>
    intro l h
    by_cases hc : c ∈ l
    · obtain ⟨a, r, rfl, ha⟩ := List.eq_append_cons_of_mem hc
      rw [splitGo_mid c r a [] ha] at h
      rw [splitK_mid c a r ha, List.length_cons, ih r (by simp only [List.length_cons] at h; omega)]
    · rw [splitGo_one c l hc] at h
      simp only [List.length_singleton] at h
      omega
/-- The parts that strings.SplitN gives. -/
def qs (s : ByteArray) : List (List UInt8) := (Lib.splitB ⟨#[59]⟩ 0 (min 101 (s.size + 1) - 1) s).map (·.data.toList)
theorem qs_or (s : ByteArray) : qs s = splitGo 59 [] s.data.toList ∨ (100 < (splitGo 59 [] s.data.toList).length ∧ 100 < (qs s).length) := by
  have hlen : s.data.toList.length = s.size := Array.length_toList
  have hq : qs s = Lib.splitK [59] 0 (min 101 (s.size + 1) - 1) s.data.toList := Lib.splitB_data _ _ _ _
  have hl := splitGo_len 59 s.data.toList []
  rw [hq]
  by_cases h : (splitGo 59 [] s.data.toList).length ≤ (min 101 (s.size + 1) - 1) + 1
  · exact .inl (splitK_few 59 _ _ h)
  · have := splitK_many 59 (min 101 (s.size + 1) - 1) s.data.toList (by omega)
    exact .inr ⟨by omega, by omega⟩
theorem splitK_size (c : UInt8) : ∀ (k : Nat) (l p : List UInt8), p ∈ Lib.splitK [c] 0 k l → p.length ≤ l.length
  | 0, l, p, h => by
    rw [splitK_zero, List.mem_singleton] at h
    subst h
    exact Nat.le_refl _
  | k + 1, l, p, h => by
    unfold Lib.splitK at h
    split at h
    · rw [List.mem_singleton] at h
      subst h
      exact Nat.le_refl _
    · rcases List.mem_cons.1 h with h | h
      · subst h
        rw [List.length_take]
        omega
      · have := splitK_size c k _ p h
        rw [List.length_drop] at this
        omega
theorem splitGo_size (c : UInt8) : ∀ (l acc p : List UInt8), p ∈ splitGo c acc l → p.length ≤ acc.length + l.length
  | [], acc, p, h => by
    rcases List.mem_cons.1 h with h | h
    · subst h
      exact Nat.le_add_right _ _
    · cases h
  | x :: r, acc, p, h => by
    rw [splitGo_cons] at h
    split at h
    · rcases List.mem_cons.1 h with h | h
      · subst h
        exact Nat.le_add_right _ _
      · have := splitGo_size c r [] p h
        simp only [List.length_nil, List.length_cons] at this ⊢
        omega
    · have := splitGo_size c r _ p h
      simp only [List.length_append, List.length_cons, List.length_nil] at this ⊢
      omega
theorem qs_size (s : ByteArray) (j : Nat) (h : j < (qs s).length) : (qs s)[j].length ≤ s.size := by
  have hlen : s.data.toList.length = s.size := Array.length_toList
  have hq : qs s = Lib.splitK [59] 0 (min 101 (s.size + 1) - 1) s.data.toList := Lib.splitB_data _ _ _ _
  have := splitK_size 59 (min 101 (s.size + 1) - 1) s.data.toList (qs s)[j] (by rw [← hq]; exact List.getElem_mem h)
  omega
theorem qs_le (s : ByteArray) : (qs s).length ≤ 101 := by
  have := Lib.splitB_length_le ⟨#[59]⟩ 0 (min 101 (s.size + 1) - 1) s
  unfold qs
  rw [List.length_map]
  omega
def readAll : List (List UInt8) → Option (List (Int × Int))
  | [] => some []
  | p :: r => match readV p, readAll r with
    | some a, some b => some (a :: b)
    | _, _ => none
theorem readAll_cons (p : List UInt8) (r : List (List UInt8)) : readAll (p :: r) = match readV p, readAll r with
    | some a, some b => some (a :: b)
    | _, _ => none := rfl
theorem readAll_bad1 {p : List UInt8} (h : readV p = none) : ∀ (a r : List (List UInt8)), readAll (a ++ p :: r) = none
  | [], r => by rw [List.nil_append, readAll_cons, h]
  | q :: a, r => by
    rw [List.cons_append, readAll_cons, readAll_bad1 h a r]
    split
    · rename_i h2
      cases h2
    · rfl
theorem readAll_snoc {p : List UInt8} {t : Int × Int} (h : readV p = some t) : ∀ (a : List (List UInt8)) (xs : List (Int × Int)), readAll a = some xs → readAll (a ++ [p]) = some (xs ++ [t])
  | [], xs, e => by
    obtain rfl : [] = xs := Option.some.inj e
    rw [List.nil_append, readAll_cons, h]
    rfl
  | q :: a, xs, e => by
    rw [readAll_cons] at e
    rw [List.cons_append, readAll_cons]
    split at e
    · rename_i u v hu hv
      obtain rfl := Option.some.inj e
      rw [hu, readAll_snoc h a v hv]
      rfl
    · cases e
theorem readAll_len : ∀ (ps : List (List UInt8)) (xs : List (Int × Int)), readAll ps = some xs → xs.length = ps.length
  | [], xs, e => by
    obtain rfl : [] = xs := Option.some.inj e
    rfl
  | q :: a, xs, e => by
    rw [readAll_cons] at e
    split at e
    · rename_i u v hu hv
      obtain rfl := Option.some.inj e
      rw [List.length_cons, List.length_cons, readAll_len a v hv]
    · cases e
theorem readAll_take {ps : List (List UInt8)} {j : Nat} (h : j < ps.length) {xs : List (Int × Int)} {t : Int × Int} (h1 : readAll (ps.take j) = some xs) (h2 : readV ps[j] = some t) : readAll (ps.take (j + 1)) = some (xs ++ [t]) := by
  rw [List.take_add_one, List.getElem?_eq_getElem h]
  exact readAll_snoc h2 _ _ h1
theorem readAll_bad {ps : List (List UInt8)} {j : Nat} (h : j < ps.length) (h2 : readV ps[j] = none) : readAll ps = none := by
  have e : ps = ps.take j ++ ps[j] :: ps.drop (j + 1) := by rw [List.getElem_cons_drop, List.take_append_drop]
  rw [e]
  exact readAll_bad1 h2 _ _
/-- What reading a list of points returns: the points, and the code. -/
def psR (l : List UInt8) : List (Int × Int) × Int := if l = [] then ([], 0) else match readAll (splitGo 59 [] l) with
  | some xs => if xs.length ≤ 100 then (xs, 0) else ([], 6)
  | none => ([], 6)
theorem psR_nil : psR [] = ([], 0) := rfl
theorem psR_big {l : List UInt8} (h : 100 < (splitGo 59 [] l).length) : psR l = ([], 6) := by
  unfold psR
  rw [if_neg (by rintro rfl; exact absurd h (by decide))]
  cases e : readAll (splitGo 59 [] l) with
  | none => rfl
  | some xs =>
    have := readAll_len _ _ e
    dsimp only
    rw [if_neg (by omega)]
theorem psR_bad {l : List UInt8} (hl : l ≠ []) (h : readAll (splitGo 59 [] l) = none) : psR l = ([], 6) := by
  unfold psR
  rw [if_neg hl, h]
theorem psR_ok {l : List UInt8} (hl : l ≠ []) {xs : List (Int × Int)} (h : readAll (splitGo 59 [] l) = some xs) (h2 : xs.length ≤ 100) : psR l = (xs, 0) := by
  unfold psR
  rw [if_neg hl, h]
  dsimp only
  rw [if_pos h2]
theorem psR_len (l : List UInt8) : (psR l).1.length ≤ 100 := by
  unfold psR
  split
  · exact Nat.zero_le _
  · split
    · split
      · assumption
      · exact Nat.zero_le _
    · exact Nat.zero_le _
theorem qs_bad {s : ByteArray} (hl : s.data.toList ≠ []) {j : Nat} (h : j < (qs s).length) (h2 : readV (qs s)[j] = none) : psR s.data.toList = ([], 6) := by
  rcases qs_or s with e | ⟨e, _⟩
  · refine psR_bad hl ?_
    rw [← e]
    exact readAll_bad h h2
  · exact psR_big e
theorem qs_many {s : ByteArray} (h : 100 < (qs s).length) : psR s.data.toList = ([], 6) := by
  rcases qs_or s with e | ⟨e, _⟩
  · rw [e] at h
    exact psR_big h
  · exact psR_big e
theorem qs_ok {s : ByteArray} (hl : s.data.toList ≠ []) {xs : List (Int × Int)} (h : readAll (qs s) = some xs) (h2 : xs.length ≤ 100) : psR s.data.toList = (xs, 0) := by
  rcases qs_or s with e | ⟨_, e⟩
  · rw [e] at h
    exact psR_ok hl h h2
  · have := readAll_len _ _ h
    omega
end Go.Proofs.YtajjoihfccnfhaaDoor
