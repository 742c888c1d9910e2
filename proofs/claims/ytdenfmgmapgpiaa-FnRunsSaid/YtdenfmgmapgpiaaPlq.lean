/-
  Plain laws of runs, put together for the law of runs: no program in sight. No condition but what stands in each.
-/
import Derived.Test.YtdenfmgmapgpiaaPlr
import Derived.Test.YtdenfmgmapgpiaaPlm
import Derived.Test.YtdenfmgmapgpiaaCrt
import Derived.Test.YtdenfmgmapgpiaaCsa
namespace Go.Proofs.Ytdenfmgmapgpiaa
theorem runs_pack {a b c rule n : Int} {xs : List (Int × Int × Int)} (h : runR a b c rule n = (xs, 0)) :
    ∃ p q s : Int, xs[xs.length - 1]?.getD (0, 0, 0) = (p, q, s) ∧ (1 ≤ xs.length ∧ xs.length ≤ 301) ∧ tripB a b c = true ∧ tripB p q s = true ∧ gcdG (gcdG p q) s = gcdG (gcdG a b) c ∧ (endR p q s rule).2 = 0 ∧
      ((lenRun a b c rule).2 = 0 → (endR p q s rule).1 = decide ((lenRun a b c rule).1 ≤ n) ∧ ¬ (lenRun a b c rule).1 < (xs.length : Int) - 1) ∧
      ((matR a b c rule n).2 = 0 → appSq ((matR a b c rule n).1 0) ((matR a b c rule n).1 1) ((matR a b c rule n).1 2) ((matR a b c rule n).1 3) ((matR a b c rule n).1 4) ((matR a b c rule n).1 5) ((matR a b c rule n).1 6) ((matR a b c rule n).1 7) ((matR a b c rule n).1 8) p q s = (a, b, c, 0)) := by
  have h2 : code2 a b c rule n = 0 := by
    unfold runR at h
    split at h
    · assumption
    · exact congrArg Prod.snd h
  have hx : xs = runL rule n.toNat a b c := by
    unfold runR at h
    rw [if_pos h2] at h
    exact (congrArg Prod.fst h).symm
  obtain ⟨hc, hn0, hn1⟩ := code2_bd h2
  have hL := runL_len rule n.toNat a b c
  obtain ⟨⟨p, q, s⟩, hl⟩ : ∃ r, lastN rule n.toNat a b c = r := ⟨_, rfl⟩
  have hf := lastN_facts n.toNat hc
  rw [hl] at hf
  dsimp only at hf
  obtain ⟨hc1, hg⟩ := hf
  have ht := (codeR_zero hc).1.1
  have ht1 := (codeR_zero hc1).1.1
  have he : endR p q s rule = (endB q s rule, 0) := by unfold endR; rw [if_pos hc1]
  refine ⟨p, q, s, ?_, ⟨by rw [hx]; exact hL.1, by rw [hx]; omega⟩, ht, ht1, hg, by rw [he], fun h0 => ?_, fun h0 => ?_⟩
  · rw [← hl, hx]
    unfold lastN
    rw [List.getLast?_eq_getElem?]
  · unfold lenRun at h0 ⊢
    rw [if_pos hc] at h0 ⊢
    split at h0
    · rename_i hok
      rw [if_pos hok, he]
      have hr := run_ended n.toNat 300 a b c (by omega) (by rw [← okN_300]; exact hok)
      unfold okN at hr
      rw [hl] at hr
      dsimp only at hr ⊢
      obtain ⟨r1, r2⟩ := hr
      refine ⟨?_, ?_⟩
      · rw [Bool.eq_iff_iff, r1]
        simp only [decide_eq_true_eq]
        omega
      · rw [hx]
        omega
    · cases h0
  · have hm := matR_facts h2 h0
    rw [hl] at hm
    dsimp only at hm
    obtain ⟨m1, m2⟩ := hm
    have hM := okM_iff.1 m1
    generalize (matR a b c rule n).1 = M at m1 m2 hM
    have d0 := m2 0 (by omega)
    have d1 := m2 1 (by omega)
    have d2 := m2 2 (by omega)
    simp [dotM] at d0 d1 d2
    unfold appSq
    unfold okM at m1
    rw [if_pos ht1, if_pos m1]
    have e0 : dot3 (M 0) (M 1) (M 2) p q s = a := d0
    have e1 : dot3 (M 3) (M 4) (M 5) p q s = b := d1
    have e2 : dot3 (M 6) (M 7) (M 8) p q s = c := d2
    rw [e0, e1, e2, if_pos ht, if_neg]
    intro hz
    unfold tripB at ht
    simp only [Bool.and_eq_true] at ht hz
    simp [hz.1.1, hz.1.2, hz.2] at ht
theorem lenRun_bd (a b c rule : Int) : 0 ≤ (lenRun a b c rule).1 ∧ (lenRun a b c rule).1 ≤ 300 := by
  have h := runL_len rule 300 a b c
  unfold lenRun
  split
  · split
    · dsimp only; omega
    · exact ⟨by dsimp only; omega, by dsimp only; omega⟩
  · exact ⟨by dsimp only; omega, by dsimp only; omega⟩
theorem step_pack {a b c rule : Int} (h : (lenRun a b c rule).2 = 0) (hl : 0 < (lenRun a b c rule).1) :
    (stepR a b c rule).2.2.2 = 0 ∧ (lenRun (stepR a b c rule).1 (stepR a b c rule).2.1 (stepR a b c rule).2.2.1 rule).2 = 0 ∧ (lenRun (stepR a b c rule).1 (stepR a b c rule).2.1 (stepR a b c rule).2.2.1 rule).1 = (lenRun a b c rule).1 - 1 := by
  unfold lenRun at h hl
  split at h
  · rename_i hc
    rw [if_pos hc] at hl
    split at h
    · rename_i hok
      rw [if_pos hok] at hl
      dsimp only at hl
      obtain ⟨he, ho, hs⟩ := run_step hok (by omega)
      have hf := (step_facts hc he).1
      have e1 : stepR a b c rule = ((stepG a b c rule).1, (stepG a b c rule).2.1, (stepG a b c rule).2.2, 0) := by unfold stepR; rw [if_pos hc]
      rw [e1]
      dsimp only
      unfold lenRun
      rw [if_pos hf, if_pos ho, if_pos hc, if_pos hok]
      refine ⟨rfl, rfl, ?_⟩
      dsimp only
      omega
    · cases h
  · rename_i hc
    exact (hc h).elim
end Go.Proofs.Ytdenfmgmapgpiaa
