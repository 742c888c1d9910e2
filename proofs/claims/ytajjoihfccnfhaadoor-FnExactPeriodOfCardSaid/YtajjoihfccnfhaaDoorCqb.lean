/-
  Periods, by the model: the answer. Condition: the size.
-/
import Derived.Test.YtajjoihfccnfhaaDoorCqa
namespace Go.Proofs.YtajjoihfccnfhaaDoor
open Go.RowKit
set_option maxHeartbeats 1000000
theorem step_up {v : Nat → UInt8} (hv : ∀ i, v i = 76 ∨ v i = 82) (h0 : v 0 = 76) : ∀ D : Nat, v D = 82 → ∃ d, 0 < d ∧ v d = 82 ∧ v (d - 1) = 76
  | 0, h => by rw [h0] at h; cases h
  | D + 1, h => by
    rcases hv D with h1 | h1
    · exact ⟨D + 1, by omega, h, by rw [Nat.add_sub_cancel]; exact h1⟩
    · exact step_up hv h0 D h1
theorem good_ex {l : List UInt8} (hw : ∀ c ∈ l, c = 76 ∨ c = 82) (hb : bothB l = true) : ∃ g, good l g := by
  obtain ⟨c, hc, hne⟩ := List.any_eq_true.1 hb
  have hne := of_decide_eq_true hne
  obtain ⟨i, hi, rfl⟩ := List.getElem_of_mem hc
  rw [List.getElem?_eq_getElem (show 0 < l.length by omega), Option.getD_some] at hne
  have hat : ∀ j k (hk : k < l.length), j % l.length = k → ltr l 0 j = l[k] := fun j k hk e => by
    unfold ltr
    rw [Nat.zero_add, e, List.getElem?_eq_getElem hk]
    rfl
  -- a place of L, and a place of R
  obtain ⟨j, k, hj, hk, ej, ek⟩ : ∃ j k, ∃ (hj : j < l.length) (hk : k < l.length), l[j] = 76 ∧ l[k] = 82 := by
    rcases hw l[i] (List.getElem_mem hi) with h1 | h1 <;> rcases hw l[0] (List.getElem_mem (by omega)) with h2 | h2
    · exact absurd (h1.trans h2.symm) hne
    · exact ⟨i, 0, hi, by omega, h1, h2⟩
    · exact ⟨0, i, by omega, hi, h2, h1⟩
    · exact absurd (h1.trans h2.symm) hne
  have hm := ltr_mem hw (show 0 < l.length by omega) j
  have v0 : ltr l j 0 = 76 := by
    unfold ltr
    rw [Nat.add_zero, Nat.mod_eq_of_lt hj, List.getElem?_eq_getElem hj]
    exact ej
  have vD : ltr l j (k + l.length - j) = 82 := by
    unfold ltr
    rw [show j + (k + l.length - j) = k + l.length by omega, Nat.add_mod_right, Nat.mod_eq_of_lt hk, List.getElem?_eq_getElem hk]
    exact ek
  obtain ⟨d, hd, h1, h2⟩ := step_up hm v0 _ vD
  refine ⟨(j + d) % l.length, Nat.mod_lt _ (by omega), ?_, ?_⟩
  · rw [← h1]
    unfold ltr
    rw [Nat.add_zero, Nat.mod_mod]
  · rw [← h2]
    unfold ltr
    rw [Nat.mod_add_mod, show j + d + (l.length - 1) = j + (d - 1) + l.length by omega, Nat.add_mod_right]
open Classical in
noncomputable def perV (l : List UInt8) : List Int := if h : ∃ g, good l g then perL l (Classical.choose h) else []
theorem perV_eq {l : List UInt8} (hw : ∀ c ∈ l, c = 76 ∨ c = 82) {g : Nat} (hg : good l g) : perL l g = perV l := by
  unfold perV
  rw [dif_pos ⟨g, hg⟩]
  exact perL_same hw hg (Classical.choose_spec (⟨g, hg⟩ : ∃ g, good l g))
noncomputable def perR (l : List UInt8) : List Int × Int := if wordB l = true then (if bothB l = true then (perV l, 0) else ([], 5)) else ([], 2)
/-- What both programs answer. -/
def PerP (R : List Int × Int) (w : World) (e : Ending) (w' : World) : Prop := ∃ A c, e = .returned (.tuple #[.slice A R.1.length c, .int .i64 R.2]) ∧ ISl w' A R.1.length R.1 ∧ WSl w.heap.size w' A R.1.length
theorem isl_nil (w : World) : ISl w none 0 [] := ⟨rfl, fun h => absurd h (by omega)⟩
theorem wsl_nil (B : Nat) (w : World) : WSl B w none 0 := fun h => absurd h (by omega)
theorem specPer_any (s : ByteArray) (hs : s.size ≤ 1048576) (w : World) : Calls Tryd.prog 23 #[.string s] w fun e w' => PerP (perR s.data.toList) w e w' ∧ Below w.heap.size w w' := by
  have hlen : s.data.toList.length = s.size := Array.length_toList
  have hl := fun W => letters_any s hs W
  have hb := fun W => both_any s hs W
  unfold perR
  cases e1 : wordB s.data.toList
  · rw [if_neg (by decide)]
    rw [e1] at hl
    have HL := Lib.hid hl
    clear hl hb e1 hlen
    go_enter Tryd.func23, Tryd.ntmps23
    go_wp2_with (first | (go_at_call 39; go_must ((with_reducible refine (HL.out _).mono ?_)); rintro e w1 ⟨rfl, hb1⟩; have hbs := hb1.size))
    refine bodyPost_ret (by simp [results, Tryd.results23, go_sem, *]; try rfl) rfl ?_
    exact ⟨⟨none, 0, rfl, isl_nil _, wsl_nil _ _⟩, by (repeat' (first | (with_reducible exact Below.refl _ _) | (with_reducible refine Below.alloc ?_ ?_ _) | (with_reducible refine Below.drew ?_) | (with_reducible refine below_drewN' ?_ _) | (with_reducible refine Below.setCell ?_ ?_ _) | (with_reducible refine Below.trans ?_ (Below.mono (by assumption) ?_)) | go_size))⟩
  · rw [if_pos rfl]
    have hwd := wordB_iff.1 e1
    rw [e1] at hl
    have HL := Lib.hid hl
    cases e2 : bothB s.data.toList
    · rw [if_neg (by decide)]
      rw [e2] at hb
      have HB := Lib.hid hb
      clear hl hb e1 e2 hlen hwd
      go_enter Tryd.func23, Tryd.ntmps23
      go_wp2_with (first
        | (go_at_call 39; go_must ((with_reducible refine (HL.out _).mono ?_)); rintro e w1 ⟨rfl, hb1⟩; have hbs := hb1.size)
        | (go_at_call 52; go_must ((with_reducible refine (HB.out _).mono ?_)); rintro e w2 ⟨rfl, hb2⟩; have hbs2 := hb2.size))
      refine bodyPost_ret (by simp [results, Tryd.results23, go_sem, *]; try rfl) rfl ?_
      exact ⟨⟨none, 0, rfl, isl_nil _, wsl_nil _ _⟩, by (repeat' (first | (with_reducible exact Below.refl _ _) | (with_reducible refine Below.alloc ?_ ?_ _) | (with_reducible refine Below.drew ?_) | (with_reducible refine below_drewN' ?_ _) | (with_reducible refine Below.setCell ?_ ?_ _) | (with_reducible refine Below.trans ?_ (Below.mono (by assumption) ?_)) | go_size))⟩
    · rw [if_pos rfl]
      rw [e2] at hb
      have HB := Lib.hid hb
      obtain ⟨g, hg⟩ := good_ex hwd.2 e2
      have hp := fun W => per_any s g (by have := hwd.1; omega) hwd.2 hg W
      rw [perV_eq hwd.2 hg] at hp
      obtain ⟨R, hR⟩ : ∃ R, perV s.data.toList = R := ⟨_, rfl⟩
      rw [hR] at hp ⊢
      have HP := Lib.hid hp
      clear hl hb e1 e2 hlen hwd hp hR hg
      go_enter Tryd.func23, Tryd.ntmps23
      go_wp2_with (first
        | (go_at_call 39; go_must ((with_reducible refine (HL.out _).mono ?_)); rintro e w1 ⟨rfl, hb1⟩; have hbs := hb1.size)
        | (go_at_call 52; go_must ((with_reducible refine (HB.out _).mono ?_)); rintro e w2 ⟨rfl, hb2⟩; have hbs2 := hb2.size)
        | (go_at_call 53; go_must ((with_reducible refine (HP.out _).mono ?_)); rintro e w3 ⟨⟨v, rfl, hv⟩, hb3⟩; have hbs3 := hb3.size; have HV := Lib.hid hv; clear hv))
      refine bodyPost_ret (by simp [results, Tryd.results23, go_sem, *]; try rfl) rfl ?_
      obtain ⟨A, c, rfl, h1, h2⟩ := owns_irow HV.out rfl
      exact ⟨⟨A, c, rfl, h1, fun hn => by
        obtain ⟨b, off, ea, ha, hb⟩ := h2 hn
        exact ⟨b, off, ea, by omega, hb⟩⟩, by (repeat' (first | (with_reducible exact Below.refl _ _) | (with_reducible refine Below.alloc ?_ ?_ _) | (with_reducible refine Below.drew ?_) | (with_reducible refine below_drewN' ?_ _) | (with_reducible refine Below.setCell ?_ ?_ _) | (with_reducible refine Below.trans ?_ (Below.mono (by assumption) ?_)) | go_size))⟩
end Go.Proofs.YtajjoihfccnfhaaDoor
