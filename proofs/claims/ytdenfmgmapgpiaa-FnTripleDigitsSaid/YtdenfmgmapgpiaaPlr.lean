/-
  Plain laws of runs of triples: common divisors, ends, lengths. No condition but what stands in each.
-/
import Derived.Test.YtdenfmgmapgpiaaCro
import Derived.Test.YtdenfmgmapgpiaaCrt
namespace Go.Proofs.Ytdenfmgmapgpiaa
open Go.RowKit
set_option maxHeartbeats 1000000
def g3 (a b c : Int) : Int := gcdG (gcdG a b) c
def n3 (a b c : Int) : Nat := Nat.gcd (Nat.gcd a.natAbs b.natAbs) c.natAbs
theorem g3_eq {a b c : Int} (h : tripB a b c = true) : g3 a b c = (n3 a b c : Int) := by
  obtain ⟨ha, hb, hc, _⟩ := tripB_iff.1 h
  have hg : gcdG a b = (Nat.gcd a.natAbs b.natAbs : Int) := gcdG_eq (by omega) (by omega)
  have hle : Nat.gcd a.natAbs b.natAbs ≤ 1000000 := by
    rcases Nat.eq_zero_or_pos a.natAbs with h0 | h0
    · rw [h0, Nat.gcd_zero_left]; omega
    · exact Nat.le_trans (Nat.gcd_le_left _ h0) (by omega)
  unfold g3 n3
  rw [hg, gcdG_eq (by omega) (by omega)]
  rfl
theorem gcd_r1 (a b c : Nat) : Nat.gcd (Nat.gcd a b) c = Nat.gcd (Nat.gcd a c) b := by rw [Nat.gcd_assoc, Nat.gcd_comm b c, ← Nat.gcd_assoc]
theorem gcd_r2 (a b c : Nat) : Nat.gcd (Nat.gcd a b) c = Nat.gcd (Nat.gcd b a) c := by rw [Nat.gcd_comm a b]
theorem n3_swap12 (a b c : Int) : n3 b a c = n3 a b c := gcd_r2 _ _ _
theorem n3_swap23 (a b c : Int) : n3 a c b = n3 a b c := gcd_r1 _ _ _
theorem n3_sub1 {a b : Int} (c : Int) (hb : 0 ≤ b) (h : b ≤ a) : n3 (a - b) b c = n3 a b c := by
  unfold n3
  have e : (a - b).natAbs = a.natAbs - b.natAbs := by omega
  rw [e, Nat.gcd_sub_self_left (by omega)]
theorem made_facts {a b c rule : Int} (hc : codeR a b c rule = 0) (he : endB b c rule = false) : tripB (madeG a b c rule).1 (madeG a b c rule).2.1 (madeG a b c rule).2.2 = true ∧ g3 (madeG a b c rule).1 (madeG a b c rule).2.1 (madeG a b c rule).2.2 = g3 a b c := by
  obtain ⟨⟨ht, hs⟩, _⟩ := codeR_zero hc
  have hab := sortedB_iff.1 hs
  have h3 := tripB_iff.1 ht
  obtain ⟨ha, hb, hc', hz⟩ := h3
  have key : tripB (madeG a b c rule).1 (madeG a b c rule).2.1 (madeG a b c rule).2.2 = true ∧ n3 (madeG a b c rule).1 (madeG a b c rule).2.1 (madeG a b c rule).2.2 = n3 a b c := by
    have w1 : wrap64 (a - b) = a - b := by unfold wrap64; omega
    have w2 : wrap64 (a - c) = a - c := by unfold wrap64; omega
    have w3 : wrap64 (b - c) = b - c := by unfold wrap64; omega
    rcases rule_cases rule with rfl | rfl | rfl | ⟨_, _, _, g0, g1, g2⟩
    · rw [show madeG a b c 0 = (wrap64 (a - b), b, c) from rfl, w1]
      have hb0 : ¬ b = 0 := by simpa [endB] using he
      exact ⟨tripB_iff.2 (by dsimp only; omega), n3_sub1 c hb.1 hab.1⟩
    · rw [show madeG a b c 1 = (wrap64 (a - c), b, c) from rfl, w2]
      have hb0 : ¬ c = 0 := by simpa [endB] using he
      refine ⟨tripB_iff.2 (by dsimp only; omega), ?_⟩
      show n3 (a - c) b c = n3 a b c
      rw [← n3_swap23 (a - c) b c, n3_sub1 b hc'.1 (by omega), n3_swap23]
    · rw [show madeG a b c 2 = (wrap64 (a - b), wrap64 (b - c), c) from rfl, w1, w3]
      have hb0 : ¬ b = 0 := by simpa [endB] using he
      refine ⟨tripB_iff.2 (by dsimp only; omega), ?_⟩
      show n3 (a - b) (b - c) c = n3 a b c
      rw [← n3_swap12, ← n3_swap23, n3_sub1 _ hc'.1 hab.2, n3_swap23, n3_swap12, n3_sub1 _ hb.1 hab.1]
    · rw [show madeG a b c rule = (wrap64 (a - c), wrap64 (b - c), c) from by simp [madeG, g0, g1, g2], w2, w3]
      have hb0 : ¬ c = 0 := by simpa [endB, g0, g2] using he
      refine ⟨tripB_iff.2 (by dsimp only; omega), ?_⟩
      show n3 (a - c) (b - c) c = n3 a b c
      rw [← n3_swap12, ← n3_swap23, n3_sub1 _ hc'.1 hab.2, n3_swap23, n3_swap12, ← n3_swap23, n3_sub1 _ hc'.1 (by omega), n3_swap23]
  exact ⟨key.1, by rw [g3_eq key.1, g3_eq ht, key.2]⟩
theorem sort_facts {a b c : Int} (h : tripB a b c = true) : tripB (sort3 a b c).1 (sort3 a b c).2.1 (sort3 a b c).2.2 = true ∧ sortedB (sort3 a b c).1 (sort3 a b c).2.1 (sort3 a b c).2.2 = true ∧ g3 (sort3 a b c).1 (sort3 a b c).2.1 (sort3 a b c).2.2 = g3 a b c := by
  have h3 := tripB_iff.1 h
  have key : tripB (sort3 a b c).1 (sort3 a b c).2.1 (sort3 a b c).2.2 = true ∧ sortedB (sort3 a b c).1 (sort3 a b c).2.1 (sort3 a b c).2.2 = true ∧ n3 (sort3 a b c).1 (sort3 a b c).2.1 (sort3 a b c).2.2 = n3 a b c := by
    rcases ord3_cases a b c with ⟨h, _, hs⟩ | ⟨h, _, hs⟩ | ⟨h, _, hs⟩ | ⟨_, ⟨⟩⟩ | ⟨_, ⟨⟩⟩ | ⟨h, _, hs⟩ | ⟨h, _, hs⟩ | ⟨h, _, hs⟩ <;> rw [hs] <;> refine ⟨tripB_iff.2 (by dsimp only; omega), sortedB_iff.2 (by dsimp only; omega), ?_⟩ <;> dsimp only
    · rw [← n3_swap12 c b a, ← n3_swap23 b c a, ← n3_swap12 b a c]
    · rw [← n3_swap23 b c a, ← n3_swap12 b a c]
    · rw [← n3_swap12]
    · rw [← n3_swap12 c a b, ← n3_swap23 a c b]
    · rw [n3_swap23]
  exact ⟨key.1, key.2.1, by rw [g3_eq key.1, g3_eq h, key.2.2]⟩
theorem sort3_id {a b c : Int} (h : sortedB a b c = true) : sort3 a b c = (a, b, c) := by
  have hs := sort3_self a b c
  rw [h] at hs
  simp only [Bool.and_eq_true, beq_iff_eq] at hs
  obtain ⟨⟨h1, h2⟩, h3⟩ := hs
  obtain ⟨⟨x, y, z⟩, hr⟩ : ∃ r, sort3 a b c = r := ⟨_, rfl⟩
  rw [hr] at h1 h2 h3 ⊢
  simp only at h1 h2 h3
  rw [h1, h2, h3]
theorem codeR_of {a b c rule : Int} (h1 : tripB a b c = true) (h2 : sortedB a b c = true) (h3 : inB rule 0 3 = true) : codeR a b c rule = 0 := by simp [codeR, h1, h2, h3]
theorem step_facts {a b c rule : Int} (hc : codeR a b c rule = 0) (he : endB b c rule = false) : codeR (stepG a b c rule).1 (stepG a b c rule).2.1 (stepG a b c rule).2.2 rule = 0 ∧ g3 (stepG a b c rule).1 (stepG a b c rule).2.1 (stepG a b c rule).2.2 = g3 a b c := by
  obtain ⟨h1, h2⟩ := made_facts hc he
  obtain ⟨h3, h4, h5⟩ := sort_facts h1
  exact ⟨codeR_of h3 h4 (codeR_zero hc).2, h5.trans h2⟩
theorem runL_all {rule : Int} : ∀ (n : Nat) (a b c : Int), codeR a b c rule = 0 → ∀ t ∈ runL rule n a b c, codeR t.1 t.2.1 t.2.2 rule = 0 ∧ g3 t.1 t.2.1 t.2.2 = g3 a b c := by
  intro n
  induction n with
  | zero => intro a b c h t ht; simp [runL] at ht; subst ht; exact ⟨h, rfl⟩
  | succ n ih =>
    intro a b c h t ht
    rw [runL] at ht
    split at ht
    · simp at ht; subst ht; exact ⟨h, rfl⟩
    · rename_i he
      rcases List.mem_cons.1 ht with rfl | ht
      · exact ⟨h, rfl⟩
      · obtain ⟨h1, h2⟩ := step_facts h (by simpa using he)
        obtain ⟨h3, h4⟩ := ih _ _ _ h1 t ht
        exact ⟨h3, h4.trans h2⟩
/-- The last of a run. -/
def lastN (rule : Int) (n : Nat) (a b c : Int) : Int × Int × Int := (runL rule n a b c).getLast?.getD (0, 0, 0)
def okN (rule : Int) (n : Nat) (a b c : Int) : Bool := endB (lastN rule n a b c).2.1 (lastN rule n a b c).2.2 rule
theorem lastN_zero (rule a b c : Int) : lastN rule 0 a b c = (a, b, c) := rfl
theorem lastN_end {rule b c : Int} (n : Nat) (a : Int) (h : endB b c rule = true) : lastN rule n a b c = (a, b, c) ∧ runL rule n a b c = [(a, b, c)] := by
  cases n with
  | zero => exact ⟨rfl, rfl⟩
  | succ n => unfold lastN; rw [runL, if_pos h]; exact ⟨rfl, rfl⟩
theorem runL_next {rule b c : Int} (n : Nat) (a : Int) (h : endB b c rule = false) : runL rule (n + 1) a b c = (a, b, c) :: runL rule n (stepG a b c rule).1 (stepG a b c rule).2.1 (stepG a b c rule).2.2 := by rw [runL, if_neg (by rw [h]; decide)]
theorem lastN_next {rule b c : Int} (n : Nat) (a : Int) (h : endB b c rule = false) : lastN rule (n + 1) a b c = lastN rule n (stepG a b c rule).1 (stepG a b c rule).2.1 (stepG a b c rule).2.2 := by
  unfold lastN
  rw [runL_next n a h]
  obtain ⟨q, x, y, z, h1, _⟩ := runL_last rule n (stepG a b c rule).1 (stepG a b c rule).2.1 (stepG a b c rule).2.2
  rw [h1]
  rw [← List.cons_append, List.getLast?_concat, List.getLast?_concat]
theorem lastN_mem (rule : Int) (n : Nat) (a b c : Int) : lastN rule n a b c ∈ runL rule n a b c := by
  unfold lastN
  obtain ⟨q, x, y, z, h1, _⟩ := runL_last rule n a b c
  rw [h1]; simp
theorem lastN_facts {rule a b c : Int} (n : Nat) (h : codeR a b c rule = 0) : codeR (lastN rule n a b c).1 (lastN rule n a b c).2.1 (lastN rule n a b c).2.2 rule = 0 ∧ g3 (lastN rule n a b c).1 (lastN rule n a b c).2.1 (lastN rule n a b c).2.2 = g3 a b c :=
  runL_all n a b c h _ (lastN_mem rule n a b c)
theorem runL_pos (rule : Int) (n : Nat) (a b c : Int) : 1 ≤ (runL rule n a b c).length := (runL_len rule n a b c).1
theorem run_ended {rule : Int} : ∀ (n m : Nat) (a b c : Int), n ≤ m → okN rule m a b c = true → (okN rule n a b c = true ↔ (runL rule m a b c).length ≤ n + 1) ∧ (runL rule n a b c).length ≤ (runL rule m a b c).length := by
  intro n
  induction n with
  | zero =>
    intro m a b c _ hm
    cases he : endB b c rule with
    | true =>
      have h1 := lastN_end m a he
      rw [h1.2]
      exact ⟨⟨fun _ => by simp, fun _ => by unfold okN; rw [lastN_zero]; exact he⟩, by simp [runL]⟩
    | false =>
      cases m with
      | zero => unfold okN at hm; rw [lastN_zero] at hm; dsimp only at hm; rw [he] at hm; cases hm
      | succ m =>
        rw [runL_next m a he]
        have := runL_pos rule m (stepG a b c rule).1 (stepG a b c rule).2.1 (stepG a b c rule).2.2
        refine ⟨⟨fun h => ?_, fun h => ?_⟩, by simp [runL]⟩
        · unfold okN at h; rw [lastN_zero] at h; dsimp only at h; rw [he] at h; cases h
        · simp only [List.length_cons] at h; omega
  | succ n ih =>
    intro m a b c hnm hm
    cases he : endB b c rule with
    | true =>
      have h1 := lastN_end m a he
      have h2 := lastN_end (n + 1) a he
      rw [h1.2, h2.2]
      exact ⟨⟨fun _ => by simp, fun _ => by unfold okN; rw [h2.1]; exact he⟩, Nat.le_refl _⟩
    | false =>
      obtain ⟨m, rfl⟩ : ∃ k, m = k + 1 := ⟨m - 1, by omega⟩
      have hm' : okN rule m (stepG a b c rule).1 (stepG a b c rule).2.1 (stepG a b c rule).2.2 = true := by
        unfold okN at hm ⊢
        rwa [lastN_next m a he] at hm
      obtain ⟨h1, h2⟩ := ih m _ _ _ (by omega) hm'
      rw [runL_next m a he, runL_next n a he]
      simp only [List.length_cons]
      refine ⟨?_, by omega⟩
      rw [show okN rule (n + 1) a b c = okN rule n (stepG a b c rule).1 (stepG a b c rule).2.1 (stepG a b c rule).2.2 from by unfold okN; rw [lastN_next n a he], h1]
      omega
theorem runL_stable {rule : Int} : ∀ (m : Nat) (a b c : Int), okN rule m a b c = true → runL rule (m + 1) a b c = runL rule m a b c := by
  intro m
  induction m with
  | zero =>
    intro a b c h
    unfold okN at h; rw [lastN_zero] at h
    rw [(lastN_end 1 a h).2]; rfl
  | succ m ih =>
    intro a b c h
    cases he : endB b c rule with
    | true => rw [(lastN_end (m + 1) a he).2, (lastN_end (m + 1 + 1) a he).2]
    | false =>
      have h' : okN rule m (stepG a b c rule).1 (stepG a b c rule).2.1 (stepG a b c rule).2.2 = true := by
        unfold okN at h ⊢
        rwa [lastN_next m a he] at h
      rw [runL_next m a he, runL_next (m + 1) a he, ih _ _ _ h']
theorem run_step {rule a b c : Int} (hk : okR rule a b c = true) (hl : 1 < (runL rule 300 a b c).length) : endB b c rule = false ∧ okR rule (stepG a b c rule).1 (stepG a b c rule).2.1 (stepG a b c rule).2.2 = true ∧ (runL rule 300 (stepG a b c rule).1 (stepG a b c rule).2.1 (stepG a b c rule).2.2).length + 1 = (runL rule 300 a b c).length := by
  cases he : endB b c rule with
  | true => rw [(lastN_end 300 a he).2] at hl; simp at hl
  | false =>
    have hk' : okN rule 299 (stepG a b c rule).1 (stepG a b c rule).2.1 (stepG a b c rule).2.2 = true := by
      have : okN rule 300 a b c = true := hk
      unfold okN at this ⊢
      rwa [lastN_next 299 a he] at this
    have hs := runL_stable 299 _ _ _ hk'
    refine ⟨rfl, ?_, ?_⟩
    · show okN rule 300 _ _ _ = true
      unfold okN lastN
      rw [hs]
      exact hk'
    · rw [runL_next 299 a he, hs]; rfl
theorem okN_300 (rule a b c : Int) : okR rule a b c = okN rule 300 a b c := rfl
end Go.Proofs.Ytdenfmgmapgpiaa
