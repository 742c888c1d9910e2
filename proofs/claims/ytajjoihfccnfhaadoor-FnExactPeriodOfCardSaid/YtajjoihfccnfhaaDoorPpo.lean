/-
  Plain laws of periods: lengths of runs, read from any start of a run of R, turned by an even number of places to the least list. No condition but what stands in each.
-/
import Derived.Test.YtajjoihfccnfhaaDoorBase
namespace Go.Proofs.YtajjoihfccnfhaaDoor
open Go.RowKit
set_option maxHeartbeats 400000
/-- The lengths of the runs of the first places of a row. -/
def runF (f : Nat → UInt8) : Nat → List Int
  | 0 => []
  | i + 1 => if i = 0 ∨ f i ≠ f (i - 1) then runF f i ++ [1] else (runF f i).dropLast ++ [(runF f i).getLast?.getD 0 + 1]
theorem runF_succ (f : Nat → UInt8) (i : Nat) : runF f (i + 1) = if i = 0 ∨ f i ≠ f (i - 1) then runF f i ++ [1] else (runF f i).dropLast ++ [(runF f i).getLast?.getD 0 + 1] := rfl
theorem runF_ne (f : Nat → UInt8) : ∀ {i : Nat}, 0 < i → runF f i ≠ []
  | i + 1, _ => by
    rw [runF_succ]
    split <;> simp
theorem last_cat (A : List Int) {B : List Int} (h : B ≠ []) : (A ++ B).dropLast ++ [(A ++ B).getLast?.getD 0 + 1] = A ++ (B.dropLast ++ [B.getLast?.getD 0 + 1]) := by
  obtain ⟨B', x, rfl⟩ : ∃ B' x, B = B' ++ [x] := ⟨B.dropLast, B.getLast h, (List.dropLast_concat_getLast h).symm⟩
  rw [← List.append_assoc, List.dropLast_concat, List.dropLast_concat, List.getLast?_concat, List.getLast?_concat, List.append_assoc]
theorem runF_cat {u : Nat → UInt8} {m : Nat} (hm : 0 < m) (hd : u m ≠ u (m - 1)) : ∀ j : Nat, runF u (m + j) = runF u m ++ runF (fun i => u (m + i)) j
  | 0 => by rw [Nat.add_zero, runF, List.append_nil]
  | j + 1 => by
    have ih := runF_cat hm hd j
    rw [show m + (j + 1) = (m + j) + 1 by omega, runF_succ u (m + j), runF_succ (fun i => u (m + i)) j]
    by_cases hj : j = 0
    · subst hj
      rw [if_pos (.inr hd), if_pos (.inl rfl), ih, List.append_assoc]
    · have e1 : m + j - 1 = m + (j - 1) := by omega
      have hne := runF_ne (fun i => u (m + i)) (i := j) (by omega)
      by_cases hq : u (m + j) ≠ u (m + (j - 1))
      · rw [if_pos (.inr (by rw [e1]; exact hq)), if_pos (.inr hq), ih, List.append_assoc]
      · rw [if_neg (fun h => h.elim (fun h => by omega) (fun h => hq (by rw [e1] at h; exact h))), if_neg (fun h => h.elim hj hq), ih, last_cat _ hne]
theorem runF_odd {u : Nat → UInt8} (hu : ∀ i, u i = 76 ∨ u i = 82) : ∀ i : Nat, ((runF u (i + 1)).length % 2 = 1 ↔ u i = u 0)
  | 0 => by simp [runF]
  | i + 1 => by
    have ih := runF_odd hu i
    have hne := runF_ne u (i := i + 1) (by omega)
    have hlen : 0 < (runF u (i + 1)).length := List.length_pos_iff.2 hne
    rw [runF_succ]
    by_cases hq : u (i + 1) ≠ u i
    · rw [if_pos (.inr hq), List.length_append, List.length_singleton]
      have h0 := hu 0
      have h1 := hu i
      have h2 := hu (i + 1)
      constructor
      · intro h
        have h3 : ¬ u i = u 0 := fun e => by have := ih.2 e; omega
        rcases h0 with h0 | h0 <;> rcases h1 with h1 | h1 <;> rcases h2 with h2 | h2 <;> simp_all
      · intro h
        have h3 : ¬ (runF u (i + 1)).length % 2 = 1 := fun e => hq (by rw [h, ih.1 e])
        omega
    · have hq' : u (i + 1) = u i := Decidable.not_not.1 hq
      rw [if_neg (fun h => h.elim (fun h => by omega) hq), List.length_append, List.length_singleton, List.length_dropLast, hq', ← ih]
      rw [show (runF u (i + 1)).length - 1 + 1 = (runF u (i + 1)).length by omega]
/-- A list comes ahead of another one. -/
def ltI : List Int → List Int → Bool
  | a :: xs, b :: bs => if a = b then ltI xs bs else decide (a < b)
  | _, _ => false
theorem ltI_self : ∀ l : List Int, ltI l l = false
  | [] => rfl
  | a :: l => by simp [ltI, ltI_self l]
theorem ltI_trans : ∀ {a b c : List Int}, ltI a b = true → ltI b c = true → ltI a c = true
  | a :: xs, b :: bs, c :: cs, h1, h2 => by
    simp only [ltI] at h1 h2 ⊢
    by_cases e1 : a = b
    · subst e1
      rw [if_pos rfl] at h1
      by_cases e2 : a = c
      · subst e2
        rw [if_pos rfl] at h2 ⊢
        exact ltI_trans h1 h2
      · rw [if_neg e2] at h2 ⊢
        exact h2
    · rw [if_neg e1] at h1
      have h1' := of_decide_eq_true h1
      by_cases e2 : b = c
      · subst e2
        rw [if_neg e1]
        exact h1
      · rw [if_neg e2] at h2
        have h2' := of_decide_eq_true h2
        rw [if_neg (by omega)]
        exact decide_eq_true (by omega)
  | [], _, _, h1, _ => by simp [ltI] at h1
  | _ :: _, [], _, h1, _ => by simp [ltI] at h1
  | _ :: _, _ :: _, [], _, h2 => by simp [ltI] at h2
theorem ltI_eq : ∀ {a b : List Int}, a.length = b.length → ltI a b = false → ltI b a = false → a = b
  | [], [], _, _, _ => rfl
  | a :: xs, b :: bs, hl, h1, h2 => by
    simp only [ltI] at h1 h2
    by_cases e : a = b
    · subst e
      rw [if_pos rfl] at h1 h2
      rw [ltI_eq (by simpa using hl) h1 h2]
    · rw [if_neg e] at h1
      rw [if_neg (fun h => e h.symm)] at h2
      have h1' := of_decide_eq_false h1
      have h2' := of_decide_eq_false h2
      omega
  | [], _ :: _, hl, _, _ => by simp at hl
  | _ :: _, [], hl, _, _ => by simp at hl
def rotI (l : List Int) (k : Nat) : List Int := l.drop k ++ l.take k
theorem rotI_zero (l : List Int) : rotI l 0 = l := by simp [rotI]
theorem rotI_len {l : List Int} {k : Nat} (h : k ≤ l.length) : (rotI l k).length = l.length := by
  unfold rotI
  rw [List.length_append, List.length_drop, List.length_take]
  omega
/-- The least turn by an even number of places, of the first j. -/
def bestI (l : List Int) : Nat → List Int
  | 0 => l
  | j + 1 => if ltI (rotI l (2 * j)) (bestI l j) = true then rotI l (2 * j) else bestI l j
theorem bestI_one (l : List Int) : bestI l 1 = l := by
  unfold bestI
  rw [rotI_zero]
  simp [bestI, ltI_self]
theorem bestI_at (l : List Int) : ∀ j : Nat, 0 < j → ∃ i, i < j ∧ bestI l j = rotI l (2 * i)
  | j + 1, _ => by
    unfold bestI
    split
    · exact ⟨j, by omega, rfl⟩
    · rcases Nat.eq_zero_or_pos j with rfl | hj
      · exact ⟨0, by omega, by simp [bestI, rotI_zero]⟩
      · obtain ⟨i, hi, e⟩ := bestI_at l j hj
        exact ⟨i, by omega, e⟩
theorem bestI_least (l : List Int) : ∀ j i : Nat, i < j → ltI (rotI l (2 * i)) (bestI l j) = false
  | j + 1, i, hi => by
    unfold bestI
    split
    · rename_i h
      rcases Nat.lt_or_ge i j with h1 | h1
      · cases e : ltI (rotI l (2 * i)) (rotI l (2 * j)) with
        | false => rfl
        | true => exact absurd (ltI_trans e h) (by rw [bestI_least l j i h1]; decide)
      · obtain rfl : i = j := by omega
        exact ltI_self _
    · rename_i h
      rcases Nat.lt_or_ge i j with h1 | h1
      · exact bestI_least l j i h1
      · obtain rfl : i = j := by omega
        simpa using h
theorem rot_swap1 (A B : List Int) {k : Nat} (hk : k ≤ A.length) : rotI (A ++ B) k = rotI (B ++ A) (B.length + k) := by
  unfold rotI
  rw [List.drop_append_of_le_length hk, List.take_append_of_le_length hk, List.drop_append, List.take_append, List.drop_of_length_le (l := B) (by omega), List.take_of_length_le (l := B) (by omega), show B.length + k - B.length = k by omega, List.nil_append, List.append_assoc]
theorem rot_swap2 (A B : List Int) {k : Nat} (hk : k ≤ B.length) : rotI (A ++ B) (A.length + k) = rotI (B ++ A) k := (rot_swap1 B A hk).symm
theorem best_swap {A B : List Int} {p q : Nat} (hA : A.length = 2 * p) (hB : B.length = 2 * q) (hpq : 0 < p + q) : bestI (A ++ B) (p + q) = bestI (B ++ A) (p + q) := by
  have key : ∀ (A B : List Int) (p q : Nat), A.length = 2 * p → B.length = 2 * q → 0 < p + q → ltI (bestI (A ++ B) (p + q)) (bestI (B ++ A) (p + q)) = false ∧ (bestI (A ++ B) (p + q)).length = A.length + B.length := by
    intro A B p q hA hB hpq
    obtain ⟨i, hi, e⟩ := bestI_at (A ++ B) (p + q) hpq
    refine ⟨?_, by rw [e, rotI_len (by rw [List.length_append]; omega), List.length_append]⟩
    rw [e]
    rcases Nat.lt_or_ge i p with h | h
    · rw [rot_swap1 A B (by omega), show B.length + 2 * i = 2 * (q + i) by omega]
      exact bestI_least _ _ _ (by omega)
    · have := rot_swap2 A B (k := 2 * (i - p)) (by omega)
      rw [show A.length + 2 * (i - p) = 2 * i by omega] at this
      rw [this]
      exact bestI_least _ _ _ (by omega)
  have h1 := key A B p q hA hB hpq
  have h2 := key B A q p hB hA (by omega)
  rw [Nat.add_comm q p] at h2
  exact ltI_eq (by rw [h1.2, h2.2]; omega) h1.1 h2.1
/-- The letter at a place of a word, read around. -/
def ltr (l : List UInt8) (s i : Nat) : UInt8 := l[(s + i) % l.length]?.getD 0
/-- A run of R begins at a place. -/
def good (l : List UInt8) (s : Nat) : Prop := s < l.length ∧ ltr l s 0 = 82 ∧ ltr l s (l.length - 1) = 76
def perL (l : List UInt8) (s : Nat) : List Int := bestI (runF (ltr l s) l.length) ((runF (ltr l s) l.length).length / 2)
theorem ltr_mem {l : List UInt8} (h : ∀ c ∈ l, c = 76 ∨ c = 82) (hn : 0 < l.length) (s i : Nat) : ltr l s i = 76 ∨ ltr l s i = 82 := by
  unfold ltr
  have hm := Nat.mod_lt (s + i) hn
  rw [List.getElem?_eq_getElem hm]
  exact h _ (List.getElem_mem hm)
theorem runs_even {l : List UInt8} (h : ∀ c ∈ l, c = 76 ∨ c = 82) {s : Nat} (hs : good l s) : (runF (ltr l s) l.length).length % 2 = 0 ∧ 0 < (runF (ltr l s) l.length).length := by
  obtain ⟨h0, h1, h2⟩ := hs
  have ho := runF_odd (ltr_mem h (by omega) s) (l.length - 1)
  rw [show l.length - 1 + 1 = l.length by omega, h1, h2] at ho
  have : ¬ (runF (ltr l s) l.length).length % 2 = 1 := fun e => absurd (ho.1 e) (by decide)
  exact ⟨by omega, List.length_pos_iff.2 (runF_ne _ (by omega))⟩
theorem perL_shift {l : List UInt8} (h : ∀ c ∈ l, c = 76 ∨ c = 82) {s s' : Nat} (hs : good l s) (hs' : good l s') (hlt : s < s') : perL l s = perL l s' := by
  have hE := runs_even h hs
  have hE' := runs_even h hs'
  have hu := ltr_mem h (by have := hs.1; omega) s
  obtain ⟨h0, h1, h2⟩ := hs
  obtain ⟨h0', h1', h2'⟩ := hs'
  obtain ⟨m, hm⟩ : ∃ m, s' = s + m := ⟨s' - s, by omega⟩
  have hsh : ∀ i, ltr l s' i = ltr l s (m + i) := fun i => by unfold ltr; rw [hm, show s + m + i = s + (m + i) by omega]
  have hper : ∀ i, ltr l s (l.length + i) = ltr l s i := fun i => by unfold ltr; rw [show s + (l.length + i) = s + i + l.length by omega, Nat.add_mod_right]
  have hum : ltr l s m = 82 := (hsh 0).symm.trans h1'
  have hum1 : ltr l s (m - 1) = 76 := by
    rw [← h2', hsh, show m + (l.length - 1) = l.length + (m - 1) by omega, hper]
  have c1 := runF_cat (u := ltr l s) (m := m) (by omega) (by rw [hum, hum1]; decide) (l.length - m)
  rw [show m + (l.length - m) = l.length by omega] at c1
  have ef : (fun i => ltr l s (m + i)) = ltr l s' := funext fun i => (hsh i).symm
  rw [ef] at c1
  have hn0 : ltr l s' (l.length - m) = 82 := by rw [hsh, show m + (l.length - m) = l.length + 0 by omega, hper]; exact h1
  have hn1 : ltr l s' (l.length - m - 1) = 76 := by rw [hsh, show m + (l.length - m - 1) = l.length - 1 by omega]; exact h2
  have c2 := runF_cat (u := ltr l s') (m := l.length - m) (by omega) (by rw [hn0, hn1]; decide) m
  rw [show l.length - m + m = l.length by omega] at c2
  have ef2 : (fun i => ltr l s' (l.length - m + i)) = ltr l s := funext fun i => by rw [hsh, show m + (l.length - m + i) = l.length + i by omega, hper]
  rw [ef2] at c2
  have hA := runF_odd hu (m - 1)
  rw [show m - 1 + 1 = m by omega, hum1, h1] at hA
  have hA0 : ¬ (runF (ltr l s) m).length % 2 = 1 := fun e => absurd (hA.1 e) (by decide)
  obtain ⟨A, hAe⟩ : ∃ A, runF (ltr l s) m = A := ⟨_, rfl⟩
  obtain ⟨B, hBe⟩ : ∃ B, runF (ltr l s') (l.length - m) = B := ⟨_, rfl⟩
  rw [hAe, hBe] at c1 c2
  rw [hAe] at hA0
  unfold perL
  rw [c1] at hE ⊢
  rw [c2]
  rw [List.length_append] at hE
  have hl : (A ++ B).length / 2 = A.length / 2 + B.length / 2 := by rw [List.length_append]; omega
  have hl' : (B ++ A).length / 2 = A.length / 2 + B.length / 2 := by rw [List.length_append]; omega
  rw [hl, hl']
  exact best_swap (by omega) (by omega) (by omega)
theorem perL_same {l : List UInt8} (h : ∀ c ∈ l, c = 76 ∨ c = 82) {s s' : Nat} (hs : good l s) (hs' : good l s') : perL l s = perL l s' := by
  rcases Nat.lt_trichotomy s s' with h1 | h1 | h1
  · exact perL_shift h hs hs' h1
  · rw [h1]
  · exact (perL_shift h hs' hs h1).symm
end Go.Proofs.YtajjoihfccnfhaaDoor
