/-
  Plain laws of the matrices of runs. No condition but what stands in each.
-/
import Derived.Test.YtdenfmgmapgpiaaPlr
import Derived.Test.YtdenfmgmapgpiaaCsq
namespace Go.Proofs.Ytdenfmgmapgpiaa
open Go.RowKit
set_option maxHeartbeats 1000000
def okM (M : Nat → Int) : Bool := sqB (M 0) (M 1) (M 2) (M 3) (M 4) (M 5) (M 6) (M 7) (M 8)
theorem okM_iff {M : Nat → Int} : okM M = true ↔ ∀ n, n < 9 → 0 ≤ M n ∧ M n ≤ 1000000 := by
  simp only [okM, sqB, Bool.and_eq_true, rowB_iff]
  refine ⟨fun h n hn => ?_, fun h => ?_⟩
  · rcases n9 hn with rfl | rfl | rfl | rfl | rfl | rfl | rfl | rfl | rfl <;> omega
  · have h0 := h 0 (by omega); have h1 := h 1 (by omega); have h2 := h 2 (by omega); have h3 := h 3 (by omega); have h4 := h 4 (by omega)
    have h5 := h 5 (by omega); have h6 := h 6 (by omega); have h7 := h 7 (by omega); have h8 := h 8 (by omega)
    omega
def ownM (rule : Int) : Nat → Int := if rule = 0 then sq9 1 1 0 0 1 0 0 0 1 else if rule = 1 then sq9 1 0 1 0 1 0 0 0 1 else if rule = 2 then sq9 1 1 1 0 1 1 0 0 1 else sq9 1 0 1 0 1 1 0 0 1
def ordG (a b c rule : Int) : Int × Int × Int := ord3 (madeG a b c rule).1 (madeG a b c rule).2.1 (madeG a b c rule).2.2
def perm9 (M : Nat → Int) (x y z : Int) : Nat → Int := sq9 (M x.toNat) (M y.toNat) (M z.toNat) (M (3 + x.toNat)) (M (3 + y.toNat)) (M (3 + z.toNat)) (M (6 + x.toNat)) (M (6 + y.toNat)) (M (6 + z.toNat))
def stM (a b c rule : Int) : Nat → Int := perm9 (ownM rule) (ordG a b c rule).1 (ordG a b c rule).2.1 (ordG a b c rule).2.2
def id9 : Nat → Int := sq9 1 0 0 0 1 0 0 0 1
def zero9 : Nat → Int := sq9 0 0 0 0 0 0 0 0 0
def matL (rule : Int) : Nat → (Nat → Int) → Int → Int → Int → (Nat → Int) × Int
  | 0, M, _, _, _ => (M, 0)
  | n + 1, M, a, b, c => if endB b c rule = true then (M, 0) else
      if okM (full9 M (stM a b c rule)) = true then matL rule n (full9 M (stM a b c rule)) (stepG a b c rule).1 (stepG a b c rule).2.1 (stepG a b c rule).2.2 else (zero9, 3)
def matR (a b c rule n : Int) : (Nat → Int) × Int := if code2 a b c rule n = 0 then matL rule n.toNat id9 a b c else (zero9, code2 a b c rule n)
def dotM (M : Nat → Int) (r : Nat) (x y z : Int) : Int := M (r * 3) * x + M (r * 3 + 1) * y + M (r * 3 + 2) * z
theorem stM_bd (a b c rule : Int) : ∀ n, n < 9 → 0 ≤ stM a b c rule n ∧ stM a b c rule n ≤ 1 := by
  intro n hn
  have ho : ∀ k, k < 9 → 0 ≤ ownM rule k ∧ ownM rule k ≤ 1 := by
    intro k hk
    rcases rule_cases rule with rfl | rfl | rfl | ⟨_, _, _, g0, g1, g2⟩
    · rcases n9 hk with rfl | rfl | rfl | rfl | rfl | rfl | rfl | rfl | rfl <;> decide
    · rcases n9 hk with rfl | rfl | rfl | rfl | rfl | rfl | rfl | rfl | rfl <;> decide
    · rcases n9 hk with rfl | rfl | rfl | rfl | rfl | rfl | rfl | rfl | rfl <;> decide
    · simp only [ownM, g0, g1, g2, if_false]
      rcases n9 hk with rfl | rfl | rfl | rfl | rfl | rfl | rfl | rfl | rfl <;> decide
  have hp : ((ordG a b c rule).1.toNat < 3 ∧ (ordG a b c rule).2.1.toNat < 3 ∧ (ordG a b c rule).2.2.toNat < 3) := by
    unfold ordG
    rcases ord3_cases (madeG a b c rule).1 (madeG a b c rule).2.1 (madeG a b c rule).2.2 with ⟨_, h, _⟩ | ⟨_, h, _⟩ | ⟨_, h, _⟩ | ⟨_, ⟨⟩⟩ | ⟨_, ⟨⟩⟩ | ⟨_, h, _⟩ | ⟨_, h, _⟩ | ⟨_, h, _⟩ <;> rw [h] <;> decide
  unfold stM perm9
  rcases n9 hn with rfl | rfl | rfl | rfl | rfl | rfl | rfl | rfl | rfl <;> exact ho _ (by omega)
theorem mul01 {m s : Int} (hm : 0 ≤ m ∧ m ≤ 1000000) (hs : 0 ≤ s ∧ s ≤ 1) : 0 ≤ m * s ∧ m * s ≤ 1000000 := by
  rcases (show s = 0 ∨ s = 1 by omega) with rfl | rfl <;> omega
theorem full9_eq {M S : Nat → Int} (hM : okM M = true) (hS : ∀ n, n < 9 → 0 ≤ S n ∧ S n ≤ 1) {r c : Nat} (hr : r < 3) (hc : c < 3) :
    full9 M S (r * 3 + c) = M (r * 3) * S c + M (r * 3 + 1) * S (3 + c) + M (r * 3 + 2) * S (6 + c) := by
  have hb := okM_iff.1 hM
  have e1 : (r * 3 + c) / 3 = r := by omega
  have e2 : (r * 3 + c) % 3 = c := by omega
  have b0 := mul01 (hb (r * 3) (by omega)) (hS c (by omega))
  have b1 := mul01 (hb (r * 3 + 1) (by omega)) (hS (3 + c) (by omega))
  have b2 := mul01 (hb (r * 3 + 2) (by omega)) (hS (6 + c) (by omega))
  unfold full9
  rw [e1, e2]
  simp only [part9, Nat.add_zero, Nat.zero_mul, Nat.zero_add, Nat.one_mul]
  rw [show 2 * 3 + c = 6 + c by omega]
  generalize M (r * 3) * S c = p at *
  generalize M (r * 3 + 1) * S (3 + c) = q at *
  generalize M (r * 3 + 2) * S (6 + c) = s at *
  unfold wrap64
  omega
theorem st_dot {a b c rule : Int} (hc : codeR a b c rule = 0) (he : endB b c rule = false) :
    dotM (stM a b c rule) 0 (stepG a b c rule).1 (stepG a b c rule).2.1 (stepG a b c rule).2.2 = a ∧ dotM (stM a b c rule) 1 (stepG a b c rule).1 (stepG a b c rule).2.1 (stepG a b c rule).2.2 = b ∧ dotM (stM a b c rule) 2 (stepG a b c rule).1 (stepG a b c rule).2.1 (stepG a b c rule).2.2 = c := by
  obtain ⟨⟨ht, hs⟩, _⟩ := codeR_zero hc
  have hab := sortedB_iff.1 hs
  obtain ⟨ha, hb, hc', hz⟩ := tripB_iff.1 ht
  have w1 : wrap64 (a - b) = a - b := by unfold wrap64; omega
  have w2 : wrap64 (a - c) = a - c := by unfold wrap64; omega
  have w3 : wrap64 (b - c) = b - c := by unfold wrap64; omega
  unfold stM stepG ordG
  rcases rule_cases rule with rfl | rfl | rfl | ⟨_, _, _, g0, g1, g2⟩
  · rw [show madeG a b c 0 = (wrap64 (a - b), b, c) from rfl, w1]
    dsimp only
    rcases ord3_cases (a - b) b c with ⟨_, h, hs⟩ | ⟨_, h, hs⟩ | ⟨_, h, hs⟩ | ⟨_, ⟨⟩⟩ | ⟨_, ⟨⟩⟩ | ⟨_, h, hs⟩ | ⟨_, h, hs⟩ | ⟨_, h, hs⟩ <;> rw [h, hs] <;> simp [dotM, perm9, ownM, sq9] <;> omega
  · rw [show madeG a b c 1 = (wrap64 (a - c), b, c) from rfl, w2]
    dsimp only
    rcases ord3_cases (a - c) b c with ⟨_, h, hs⟩ | ⟨_, h, hs⟩ | ⟨_, h, hs⟩ | ⟨_, ⟨⟩⟩ | ⟨_, ⟨⟩⟩ | ⟨_, h, hs⟩ | ⟨_, h, hs⟩ | ⟨_, h, hs⟩ <;> rw [h, hs] <;> simp [dotM, perm9, ownM, sq9] <;> omega
  · rw [show madeG a b c 2 = (wrap64 (a - b), wrap64 (b - c), c) from rfl, w1, w3]
    dsimp only
    rcases ord3_cases (a - b) (b - c) c with ⟨_, h, hs⟩ | ⟨_, h, hs⟩ | ⟨_, h, hs⟩ | ⟨_, ⟨⟩⟩ | ⟨_, ⟨⟩⟩ | ⟨_, h, hs⟩ | ⟨_, h, hs⟩ | ⟨_, h, hs⟩ <;> rw [h, hs] <;> simp [dotM, perm9, ownM, sq9] <;> omega
  · rw [show madeG a b c rule = (wrap64 (a - c), wrap64 (b - c), c) from by simp [madeG, g0, g1, g2], w2, w3]
    dsimp only
    rcases ord3_cases (a - c) (b - c) c with ⟨_, h, hs⟩ | ⟨_, h, hs⟩ | ⟨_, h, hs⟩ | ⟨_, ⟨⟩⟩ | ⟨_, ⟨⟩⟩ | ⟨_, h, hs⟩ | ⟨_, h, hs⟩ | ⟨_, h, hs⟩ <;> rw [h, hs] <;> simp [dotM, perm9, ownM, sq9, g0, g1, g2] <;> omega
theorem mat_assoc (m0 m1 m2 s0 s1 s2 s3 s4 s5 s6 s7 s8 x y z : Int) :
    (m0 * s0 + m1 * s3 + m2 * s6) * x + (m0 * s1 + m1 * s4 + m2 * s7) * y + (m0 * s2 + m1 * s5 + m2 * s8) * z = m0 * (s0 * x + s1 * y + s2 * z) + m1 * (s3 * x + s4 * y + s5 * z) + m2 * (s6 * x + s7 * y + s8 * z) := by
  simp only [Int.add_mul, Int.mul_add, Int.mul_assoc]
  omega
theorem dot_full {M S : Nat → Int} (hM : okM M = true) (hS : ∀ n, n < 9 → 0 ≤ S n ∧ S n ≤ 1) {r : Nat} (hr : r < 3) (x y z : Int) :
    dotM (full9 M S) r x y z = dotM M r (dotM S 0 x y z) (dotM S 1 x y z) (dotM S 2 x y z) := by
  unfold dotM
  have f0 := full9_eq hM hS hr (show 0 < 3 by omega)
  have f1 := full9_eq hM hS hr (show 1 < 3 by omega)
  have f2 := full9_eq hM hS hr (show 2 < 3 by omega)
  rw [Nat.add_zero] at f0
  rw [f0, f1, f2]
  exact mat_assoc _ _ _ _ _ _ _ _ _ _ _ _ _ _ _
theorem matL_facts {rule : Int} (T : Nat → Int) : ∀ (n : Nat) (M : Nat → Int) (a b c : Int), codeR a b c rule = 0 → okM M = true → (∀ r, r < 3 → dotM M r a b c = T r) → (matL rule n M a b c).2 = 0 →
    okM (matL rule n M a b c).1 = true ∧ ∀ r, r < 3 → dotM (matL rule n M a b c).1 r (lastN rule n a b c).1 (lastN rule n a b c).2.1 (lastN rule n a b c).2.2 = T r := by
  intro n
  induction n with
  | zero => intro M a b c _ hM hT _; exact ⟨hM, hT⟩
  | succ n ih =>
    intro M a b c hc hM hT h0
    rw [matL] at h0 ⊢
    cases he : endB b c rule with
    | true =>
      rw [if_pos rfl, (lastN_end (n + 1) a he).1]
      exact ⟨hM, hT⟩
    | false =>
      rw [he, if_neg (by decide)] at h0
      rw [if_neg (by decide)]
      split at h0
      · rename_i hok
        rw [if_pos hok, lastN_next n a he]
        refine ih _ _ _ _ (step_facts hc he).1 hok (fun r hr => ?_) h0
        rw [dot_full hM (stM_bd a b c rule) hr]
        obtain ⟨e0, e1, e2⟩ := st_dot hc he
        rw [e0, e1, e2]
        exact hT r hr
      · cases h0
theorem matR_facts {a b c rule n : Int} (h2 : code2 a b c rule n = 0) (h0 : (matR a b c rule n).2 = 0) :
    okM (matR a b c rule n).1 = true ∧ ∀ r, r < 3 → dotM (matR a b c rule n).1 r (lastN rule n.toNat a b c).1 (lastN rule n.toNat a b c).2.1 (lastN rule n.toNat a b c).2.2 = [a, b, c][r]?.getD 0 := by
  unfold matR at h0 ⊢
  rw [if_pos h2] at h0 ⊢
  refine matL_facts (fun r => [a, b, c][r]?.getD 0) n.toNat id9 a b c (code2_bd h2).1 (by decide) (fun r hr => ?_) h0
  rcases (show r = 0 ∨ r = 1 ∨ r = 2 by omega) with rfl | rfl | rfl <;> simp [dotM, id9, sq9]
end Go.Proofs.Ytdenfmgmapgpiaa
