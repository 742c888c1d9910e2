/-
  Plain laws: where a search finds a run of R in a word written twice. No condition but what stands in each.
-/
import Derived.Test.YtajjoihfccnfhaaDoorCqd
namespace Go.Proofs.YtajjoihfccnfhaaDoor
open Go.RowKit
set_option maxHeartbeats 400000
theorem runF_congr {f g : Nat → UInt8} : ∀ {i : Nat}, (∀ j, j < i → f j = g j) → runF f i = runF g i
  | 0, _ => rfl
  | i + 1, h => by
    rw [runF_succ, runF_succ, runF_congr (i := i) fun j hj => h j (by omega), h i (by omega), h (i - 1) (by omega)]
theorem occ_iff (ll : List UInt8) (p : Nat) : Lib.occAt ll [76, 82] p = true ↔ ll[p]? = some 76 ∧ ll[p + 1]? = some 82 := by
  unfold Lib.occAt
  have h0 : ll[p]? = (ll.drop p)[0]? := by rw [List.getElem?_drop, Nat.add_zero]
  have h1 : ll[p + 1]? = (ll.drop p)[1]? := by rw [List.getElem?_drop]
  rw [h0, h1]
  match ll.drop p with
  | [] => simp
  | [a] => simp [List.isPrefixOf]
  | a :: b :: r =>
    simp [List.isPrefixOf]
    constructor <;> (rintro ⟨h1, h2⟩; exact ⟨h1.symm, h2.symm⟩)
theorem dbl {l : List UInt8} {q : Nat} (h : q < l.length + l.length) : (l ++ l)[q]? = l[q % l.length]? := by
  rcases Nat.lt_or_ge q l.length with h1 | h1
  · rw [List.getElem?_append_left h1, Nat.mod_eq_of_lt h1]
  · rw [List.getElem?_append_right h1, Nat.mod_eq_sub_mod h1, Nat.mod_eq_of_lt (by omega)]
theorem ltr_opt {l : List UInt8} {s i : Nat} (hn : 0 < l.length) : l[(s + i) % l.length]? = some (ltr l s i) := by
  unfold ltr
  rw [List.getElem?_eq_getElem (Nat.mod_lt _ hn)]
  rfl
theorem find_run {l : List UInt8} {g : Nat} (hg : good l g) : ∃ i : Nat, Lib.index (l ++ l) [76, 82] = (i : Int) ∧ i + 1 ≤ l.length ∧ good l ((i + 1) % l.length) ∧ ∀ j, j < l.length → (l ++ l)[i + 1 + j]? = some (ltr l ((i + 1) % l.length) j) := by
  obtain ⟨hgl, h0, h1⟩ := hg
  have hn : 0 < l.length := by omega
  have hlen : (l ++ l).length = l.length + l.length := List.length_append
  have hp : Lib.occAt (l ++ l) [76, 82] (g + l.length - 1) = true ∨ (0 < g ∧ Lib.occAt (l ++ l) [76, 82] (g - 1) = true) := by
    rcases Nat.eq_zero_or_pos g with rfl | hg0
    · refine .inl ((occ_iff _ _).2 ⟨?_, ?_⟩)
      · rw [dbl (by omega), show 0 + l.length - 1 = 0 + (l.length - 1) by omega, ltr_opt hn, h1]
      · rw [dbl (by omega), show 0 + l.length - 1 + 1 = 0 + 0 + l.length by omega, Nat.add_mod_right, ltr_opt hn, h0]
    · refine .inr ⟨hg0, (occ_iff _ _).2 ⟨?_, ?_⟩⟩
      · rw [dbl (by omega), show (g - 1) % l.length = (g + (l.length - 1)) % l.length by rw [show g + (l.length - 1) = g - 1 + l.length by omega, Nat.add_mod_right], ltr_opt hn, h1]
      · rw [dbl (by omega), show g - 1 + 1 = g + 0 by omega, ltr_opt hn, h0]
  obtain ⟨p, hpl, hpo⟩ : ∃ p, p < l.length ∧ Lib.occAt (l ++ l) [76, 82] p = true := by
    rcases hp with h | ⟨hg0, h⟩
    · rcases Nat.eq_zero_or_pos g with rfl | hg0
      · exact ⟨0 + l.length - 1, by omega, h⟩
      · have h2 := (occ_iff _ _).1 h
        refine ⟨g - 1, by omega, (occ_iff _ _).2 ⟨?_, ?_⟩⟩
        · rw [dbl (by omega), show (g - 1) % l.length = (g + (l.length - 1)) % l.length by rw [show g + (l.length - 1) = g - 1 + l.length by omega, Nat.add_mod_right], ltr_opt hn, h1]
        · rw [dbl (by omega), show g - 1 + 1 = g + 0 by omega, ltr_opt hn, h0]
    · exact ⟨g - 1, by omega, h⟩
  rcases Lib.index_spec (l ++ l) [76, 82] with ⟨_, h2⟩ | ⟨i, h2, _, h3, h4⟩
  · have := h2 p (by omega)
    rw [hpo] at this
    cases this
  · have hip : i ≤ p := by
      rcases Nat.lt_or_ge p i with h | h
      · have := h4 p h
        rw [hpo] at this
        cases this
      · exact h
    obtain ⟨e0, e1⟩ := (occ_iff _ _).1 h3
    have hall : ∀ j, j < l.length → (l ++ l)[i + 1 + j]? = some (ltr l ((i + 1) % l.length) j) := fun j hj => by
      rw [dbl (by omega), ← ltr_opt hn, Nat.mod_add_mod]
    refine ⟨i, h2, by omega, ⟨Nat.mod_lt _ hn, ?_, ?_⟩, hall⟩
    · have := hall 0 hn
      rw [Nat.add_zero, e1] at this
      exact (Option.some.inj this).symm
    · have e2 : ltr l ((i + 1) % l.length) (l.length - 1) = 76 := by
        have := @ltr_opt l ((i + 1) % l.length) (l.length - 1) hn
        rw [Nat.mod_add_mod, show i + 1 + (l.length - 1) = i + l.length by omega, Nat.add_mod_right, ← dbl (by omega), e0] at this
        exact (Option.some.inj this).symm
      exact e2
end Go.Proofs.YtajjoihfccnfhaaDoor
