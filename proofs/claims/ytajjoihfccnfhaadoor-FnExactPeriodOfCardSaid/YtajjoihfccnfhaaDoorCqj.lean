/-
  Periods, by the program: the answer. Condition: the size, and what the library reads.
-/
import Derived.Test.YtajjoihfccnfhaaDoorCqi
namespace Go.Proofs.YtajjoihfccnfhaaDoor
open Go.RowKit
set_option maxHeartbeats 1000000
theorem byte_mem (c : UInt8) : ∀ l : List UInt8, decide (0 ≤ Lib.indexByte l c) = l.contains c
  | [] => by simp [Lib.indexByte]
  | b :: l => by
    have ih := byte_mem c l
    unfold Lib.indexByte
    rw [List.contains_cons]
    by_cases h : b = c
    · subst h
      simp
    · rw [if_neg (by simpa using h), ← ih, show (c == b) = false by simpa using fun e => h e.symm, Bool.false_or]
      have hge : -1 ≤ Lib.indexByte l c := by
        clear ih
        induction l with
        | nil => simp [Lib.indexByte]
        | cons a l ih =>
          unfold Lib.indexByte
          split
          · omega
          · split <;> omega
      by_cases h2 : Lib.indexByte l c = -1
      · simp [h2]
      · rw [if_neg (by simpa using h2)]
        exact decide_eq_decide.2 (by omega)
theorem both_iff {l : List UInt8} (hw : ∀ c ∈ l, c = 76 ∨ c = 82) : (l.contains 76 && l.contains 82) = bothB l := by
  cases hb : bothB l with
  | true =>
    obtain ⟨g, hgl, h0, h1⟩ := good_ex hw hb
    have hm : ∀ i, ltr l g i ∈ l := fun i => by
      have := @ltr_opt l g i (by omega)
      exact List.mem_of_getElem? this
    have m0 := hm 0
    have m1 := hm (l.length - 1)
    rw [h0] at m0
    rw [h1] at m1
    simp [m0, m1]
  | false =>
    cases hc : (l.contains 76 && l.contains 82) with
    | false => rfl
    | true =>
      simp only [Bool.and_eq_true, List.contains_iff_mem] at hc
      have hall := List.any_eq_false.1 hb
      have e1 := hall _ hc.1
      have e2 := hall _ hc.2
      simp only [decide_eq_true_eq, Decidable.not_not, ne_eq] at e1 e2
      rw [← e2] at e1
      exact absurd e1 (by decide)
theorem implPer_any (s : ByteArray) (hs : s.size ≤ 1048576) (w : World) (hm : MaxHere w) : Calls Tryd.prog 24 #[.string s] w fun e w' => PerP (perR s.data.toList) w e w' ∧ Below w.heap.size w w' := by
  have hl := fun W => isWord_any s hs W
  have hL : ∀ W, Calls Tryd.prog 47 #[.string s, .string ⟨#[76]⟩] W fun e w' => e = .returned (.bool (s.data.toList.contains 76)) ∧ w' = W := fun W => by
    have := Tryd.strings_Contains_one s 76 W
    rw [byte_mem] at this
    exact this
  have hR : ∀ W, Calls Tryd.prog 47 #[.string s, .string ⟨#[82]⟩] W fun e w' => e = .returned (.bool (s.data.toList.contains 82)) ∧ w' = W := fun W => by
    have := Tryd.strings_Contains_one s 82 W
    rw [byte_mem] at this
    exact this
  unfold perR
  cases e1 : wordB s.data.toList
  · rw [if_neg (by decide)]
    rw [e1] at hl
    have HL := Lib.hid hl
    clear hl hL hR e1 hm
    go_enter Tryd.func24, Tryd.ntmps24
    go_wp2_with (first | (go_at_call 41; go_must ((with_reducible refine (HL.out _).mono ?_)); rintro e w1 ⟨rfl, hb1⟩; have hbs := hb1.size))
    refine bodyPost_ret (by simp [results, Tryd.results24, go_sem, *]; try rfl) rfl ?_
    exact ⟨⟨none, 0, rfl, isl_nil _, wsl_nil _ _⟩, by (repeat' (first | (with_reducible exact Below.refl _ _) | (with_reducible refine Below.alloc ?_ ?_ _) | (with_reducible refine Below.drew ?_) | (with_reducible refine below_drewN' ?_ _) | (with_reducible refine Below.setCell ?_ ?_ _) | (with_reducible refine Below.trans ?_ (Below.mono (by assumption) ?_)) | go_size))⟩
  · rw [if_pos rfl]
    have hwd := wordB_iff.1 e1
    rw [e1] at hl
    have hbo := both_iff hwd.2
    have hgx := fun h => good_ex hwd.2 h
    rw [← hbo] at hgx ⊢
    obtain ⟨p, hp⟩ : ∃ p, s.data.toList.contains 76 = p := ⟨_, rfl⟩
    obtain ⟨q, hq⟩ : ∃ q, s.data.toList.contains 82 = q := ⟨_, rfl⟩
    rw [hp] at hL
    rw [hq] at hR
    rw [hp, hq] at hgx ⊢
    have HL := Lib.hid hl
    have HP := Lib.hid hL
    have HQ := Lib.hid hR
    have HM := Lib.hid hm
    clear hbo hp hq hl hL hR hm
    cases p <;> cases q
    case true.true =>
      rw [if_pos (show (true && true) = true from rfl)]
      obtain ⟨g, hg⟩ := hgx rfl
      have hp := fun W hW => iper_any s g (by have := hwd.1; have hlen : s.data.toList.length = s.size := Array.length_toList; omega) hwd.2 hg W hW
      rw [perV_eq hwd.2 hg] at hp
      obtain ⟨R, hR⟩ : ∃ R, perV s.data.toList = R := ⟨_, rfl⟩
      rw [hR] at hp ⊢
      have HE := Lib.hid hp
      clear hp hR hg hgx hwd e1
      go_enter Tryd.func24, Tryd.ntmps24
      go_wp2_with (first
        | (go_at_call 41; go_must ((with_reducible refine (HL.out _).mono ?_)); rintro e w1 ⟨rfl, hb1⟩; have hbs := hb1.size)
        | (go_at_call_of 47 (Value.string ⟨#[76]⟩); (with_reducible refine (HP.out _).mono ?_); rintro e w2 ⟨rfl, rfl⟩)
        | (go_at_call_of 47 (Value.string ⟨#[82]⟩); (with_reducible refine (HQ.out _).mono ?_); rintro e w2 ⟨rfl, rfl⟩)
        | (go_at_call 54; go_must ((with_reducible refine (HE.out _ ?_).mono ?_)); (focus exact (HM.out.keep (by assumption))); rintro e w3 ⟨⟨v, rfl, hv⟩, hb3⟩; have hbs3 := hb3.size; have HV := Lib.hid hv; clear hv))
      refine bodyPost_ret (by simp [results, Tryd.results24, go_sem, *]; try rfl) rfl ?_
      obtain ⟨A, c, rfl, h1, h2⟩ := owns_irow HV.out rfl
      exact ⟨⟨A, c, rfl, h1, fun hn => by
        obtain ⟨b, off, ea, ha, hb⟩ := h2 hn
        exact ⟨b, off, ea, by omega, hb⟩⟩, by (repeat' (first | (with_reducible exact Below.refl _ _) | (with_reducible refine Below.alloc ?_ ?_ _) | (with_reducible refine Below.drew ?_) | (with_reducible refine below_drewN' ?_ _) | (with_reducible refine Below.setCell ?_ ?_ _) | (with_reducible refine Below.trans ?_ (Below.mono (by assumption) ?_)) | go_size))⟩
    all_goals
      rw [if_neg (by decide)]
      clear hgx hwd e1
      go_enter Tryd.func24, Tryd.ntmps24
      go_wp2_with (first
        | (go_at_call 41; go_must ((with_reducible refine (HL.out _).mono ?_)); rintro e w1 ⟨rfl, hb1⟩; have hbs := hb1.size)
        | (go_at_call 47; (with_reducible refine (HP.out _).mono ?_); rintro e w2 ⟨rfl, rfl⟩)
        | (go_at_call 47; (with_reducible refine (HQ.out _).mono ?_); rintro e w2 ⟨rfl, rfl⟩))
      refine bodyPost_ret (by simp [results, Tryd.results24, go_sem, *]; try rfl) rfl ?_
      exact ⟨⟨none, 0, rfl, isl_nil _, wsl_nil _ _⟩, by (repeat' (first | (with_reducible exact Below.refl _ _) | (with_reducible refine Below.alloc ?_ ?_ _) | (with_reducible refine Below.drew ?_) | (with_reducible refine below_drewN' ?_ _) | (with_reducible refine Below.setCell ?_ ?_ _) | (with_reducible refine Below.trans ?_ (Below.mono (by assumption) ?_)) | go_size))⟩
end Go.Proofs.YtajjoihfccnfhaaDoor
