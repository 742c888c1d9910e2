/-
  Plain laws of digits of triples and of the shortest rule. No condition but what stands in each.
-/
import Derived.Test.YtdenfmgmapgpiaaPlr
namespace Go.Proofs.Ytdenfmgmapgpiaa
open Go.RowKit
set_option maxHeartbeats 1000000
theorem numB_iff {n : Int} : numB n = true ↔ 0 ≤ n ∧ n ≤ 1000000 := by simp [numB, inB_iff]
def dgA (d r p : Int) : Int := wrap64 (p + wrap64 (d * r))
def foldD : List (Int × Int) → Int → Int → Int → Int × Int × Int × Bool
  | [], p, q, r => (p, q, r, true)
  | d :: l, p, q, r => if (numB (dgA d.1 r p) && numB (dgA d.2 r q)) = true then foldD l r (dgA d.1 r p) (dgA d.2 r q) else (0, 0, 0, false)
def foldS : List (Int × Int) → Int → Int → Int → Int × Int × Int × Bool
  | [], p, q, r => (p, q, r, true)
  | d :: l, p, q, r => if tripB r (dgA d.1 r p) (dgA d.2 r q) = true then foldS l r (dgA d.1 r p) (dgA d.2 r q) else (0, 0, 0, false)
theorem foldD_snoc (d : Int × Int) : ∀ (l : List (Int × Int)) (p0 q0 r0 p q r : Int), foldD l p0 q0 r0 = (p, q, r, true) →
    foldD (l ++ [d]) p0 q0 r0 = if (numB (dgA d.1 r p) && numB (dgA d.2 r q)) = true then (r, dgA d.1 r p, dgA d.2 r q, true) else (0, 0, 0, false)
  | [], p0, q0, r0, p, q, r, h => by cases h; rfl
  | b :: l, p0, q0, r0, p, q, r, h => by
    rw [foldD] at h
    rw [List.cons_append, foldD]
    split at h
    · rename_i hc
      rw [if_pos hc]
      exact foldD_snoc d l _ _ _ p q r h
    · cases h
theorem foldD_fail (l2 : List (Int × Int)) : ∀ (l : List (Int × Int)) (p0 q0 r0 : Int), foldD l p0 q0 r0 = (0, 0, 0, false) → foldD (l ++ l2) p0 q0 r0 = (0, 0, 0, false)
  | [], p0, q0, r0, h => by cases h
  | b :: l, p0, q0, r0, h => by
    rw [foldD] at h
    rw [List.cons_append, foldD]
    split at h
    · rename_i hc
      rw [if_pos hc]
      exact foldD_fail l2 l _ _ _ h
    · rename_i hc
      rw [if_neg hc]
theorem foldS_snoc (d : Int × Int) : ∀ (l : List (Int × Int)) (p0 q0 r0 p q r : Int), foldS l p0 q0 r0 = (p, q, r, true) →
    foldS (l ++ [d]) p0 q0 r0 = if tripB r (dgA d.1 r p) (dgA d.2 r q) = true then (r, dgA d.1 r p, dgA d.2 r q, true) else (0, 0, 0, false)
  | [], p0, q0, r0, p, q, r, h => by cases h; rfl
  | b :: l, p0, q0, r0, p, q, r, h => by
    rw [foldS] at h
    rw [List.cons_append, foldS]
    split at h
    · rename_i hc
      rw [if_pos hc]
      exact foldS_snoc d l _ _ _ p q r h
    · cases h
theorem foldS_fail (l2 : List (Int × Int)) : ∀ (l : List (Int × Int)) (p0 q0 r0 : Int), foldS l p0 q0 r0 = (0, 0, 0, false) → foldS (l ++ l2) p0 q0 r0 = (0, 0, 0, false)
  | [], p0, q0, r0, h => by cases h
  | b :: l, p0, q0, r0, h => by
    rw [foldS] at h
    rw [List.cons_append, foldS]
    split at h
    · rename_i hc
      rw [if_pos hc]
      exact foldS_fail l2 l _ _ _ h
    · rename_i hc
      rw [if_neg hc]
theorem mul_bd12 {a x : Int} (ha : 0 ≤ a ∧ a ≤ 1000000) (hx : 0 ≤ x ∧ x ≤ 1000000) : 0 ≤ a * x ∧ a * x ≤ 1000000000000 :=
  ⟨Int.mul_nonneg ha.1 hx.1, Int.mul_le_mul (by omega : a ≤ 1000000) (by omega : x ≤ 1000000) (by omega) (by omega)⟩
theorem dgA_eq {d r p : Int} (hd : numB d = true) (hr : numB r = true) (hp : numB p = true) : dgA d r p = p + d * r := by
  have h1 := numB_iff.1 hd
  have h2 := numB_iff.1 hr
  have h3 := numB_iff.1 hp
  have h4 := mul_bd12 h1 h2
  unfold dgA wrap64
  generalize d * r = m at *
  omega
theorem trip_num {a b c : Int} (h : tripB a b c = true) : numB a = true ∧ numB b = true ∧ numB c = true := by
  obtain ⟨h1, h2, h3, _⟩ := tripB_iff.1 h
  exact ⟨numB_iff.2 h1, numB_iff.2 h2, numB_iff.2 h3⟩
theorem trip_dig {p q r d e : Int} (h : tripB p q r = true) (hd : numB d = true) (he : numB e = true) : tripB r (dgA d r p) (dgA e r q) = (numB (dgA d r p) && numB (dgA e r q)) := by
  obtain ⟨hp, hq, hr⟩ := trip_num h
  have h1 := tripB_iff.1 h
  have h5 := mul_bd12 (numB_iff.1 hd) (numB_iff.1 hr)
  have h6 := mul_bd12 (numB_iff.1 he) (numB_iff.1 hr)
  rw [dgA_eq hd hr hp, dgA_eq he hr hq, Bool.eq_iff_iff, Bool.and_eq_true, tripB_iff, numB_iff, numB_iff]
  have e1 : r = 0 → d * r = 0 := fun h => by rw [h, Int.mul_zero]
  have e2 : r = 0 → e * r = 0 := fun h => by rw [h, Int.mul_zero]
  generalize d * r = m at *
  generalize e * r = n at *
  omega
theorem foldDS : ∀ (l : List (Int × Int)) (p q r : Int), tripB p q r = true → (∀ d ∈ l, numB d.1 = true ∧ numB d.2 = true) → foldD l p q r = foldS l p q r
  | [], _, _, _, _, _ => rfl
  | d :: l, p, q, r, h, hd => by
    obtain ⟨h1, h2⟩ := hd d List.mem_cons_self
    rw [foldD, foldS, trip_dig h h1 h2]
    split
    · rename_i hc
      refine foldDS l _ _ _ ?_ fun d hd' => hd d (List.mem_cons_of_mem _ hd')
      rw [trip_dig h h1 h2]; exact hc
    · rfl
def okD (d : List Int) : Bool := d.length == 2 && (numB (d[0]?.getD 0) && numB (d[1]?.getD 0))
def okDs (ds : List (List Int)) : Bool := ds.all okD
def pairD (d : List Int) : Int × Int := (d[0]?.getD 0, d[1]?.getD 0)
def todR (ds : List (List Int)) (p q r : Int) : Int × Int × Int × Int :=
  if tripB p q r = true then
    (if (p == 0 && decide ((ds.length : Int) ≤ 60) && okDs ds) = true then
      (if (foldD (ds.map pairD).reverse p q r).2.2.2 = true then ((foldD (ds.map pairD).reverse p q r).1, (foldD (ds.map pairD).reverse p q r).2.1, (foldD (ds.map pairD).reverse p q r).2.2.1, 0) else (0, 0, 0, 3))
     else (0, 0, 0, 2))
  else (0, 0, 0, 1)
/-! ### Digits -/
def digL : Nat → Int → Int → Int → Option (List (Int × Int) × Int × Int × Int)
  | 0, x, y, z => if 0 < x then none else some ([], x, y, z)
  | n + 1, x, y, z => if 0 < x then (digL n (y.tmod x) (z.tmod x) x).map (fun r => ((y.tdiv x, z.tdiv x) :: r.1, r.2)) else some ([], x, y, z)
def digR (a b c : Int) : List (Int × Int) × (Int × Int × Int) × Int :=
  if tripB a b c = true then (if a = 0 then ([], (0, 0, 0), 2) else match digL 60 a b c with | some r => (r.1, r.2, 0) | none => ([], (0, 0, 0), 3)) else ([], (0, 0, 0), 1)
theorem dig_trip {x y z : Int} (h : tripB x y z = true) (hx : 0 < x) : tripB (y.tmod x) (z.tmod x) x = true ∧ numB (y.tdiv x) = true ∧ numB (z.tdiv x) = true := by
  obtain ⟨h1, h2, h3, _⟩ := tripB_iff.1 h
  have a1 := Int.tmod_nonneg x h2.1
  have a2 := Int.tmod_lt_of_pos y hx
  have a3 := Int.tmod_nonneg x h3.1
  have a4 := Int.tmod_lt_of_pos z hx
  have a5 := Int.tdiv_nonneg h2.1 h1.1
  have a6 := Int.tdiv_nonneg h3.1 h1.1
  have a7 := Int.tdiv_le_self x h2.1
  have a8 := Int.tdiv_le_self x h3.1
  exact ⟨tripB_iff.2 (by omega), numB_iff.2 (by omega), numB_iff.2 (by omega)⟩
theorem dig_back {x y z : Int} (h : tripB x y z = true) (hx : 0 < x) : dgA (y.tdiv x) x (y.tmod x) = y ∧ dgA (z.tdiv x) x (z.tmod x) = z := by
  obtain ⟨t, n1, n2⟩ := dig_trip h hx
  obtain ⟨m1, m2, m3⟩ := trip_num t
  rw [dgA_eq n1 m3 m1, dgA_eq n2 m3 m2]
  exact ⟨by have := Int.mul_tdiv_add_tmod y x; rw [Int.mul_comm] at this; omega, by have := Int.mul_tdiv_add_tmod z x; rw [Int.mul_comm] at this; omega⟩
theorem digL_facts : ∀ (n : Nat) (x y z : Int), tripB x y z = true → ∀ ds e f g, digL n x y z = some (ds, e, f, g) →
    e = 0 ∧ tripB e f g = true ∧ ds.length ≤ n ∧ (∀ d ∈ ds, numB d.1 = true ∧ numB d.2 = true) ∧ foldD ds.reverse e f g = (x, y, z, true) := by
  intro n
  induction n with
  | zero =>
    intro x y z h ds e f g hd
    rw [digL] at hd
    split at hd
    · cases hd
    · cases hd
      have := (tripB_iff.1 h).1
      exact ⟨by omega, h, Nat.le_refl _, fun d hd => (List.not_mem_nil hd).elim, rfl⟩
  | succ n ih =>
    intro x y z h ds e f g hd
    rw [digL] at hd
    split at hd
    · rename_i hx
      obtain ⟨⟨ds', e', f', g'⟩, h1, h2⟩ := Option.map_eq_some_iff.1 hd
      cases h2
      obtain ⟨t, n1, n2⟩ := dig_trip h hx
      obtain ⟨i1, i2, i3, i4, i5⟩ := ih _ _ _ t _ _ _ _ h1
      obtain ⟨b1, b2⟩ := dig_back h hx
      obtain ⟨m1, m2, m3⟩ := trip_num h
      refine ⟨i1, i2, by simpa using i3, fun d hd => ?_, ?_⟩
      · rcases List.mem_cons.1 hd with rfl | hd
        · exact ⟨n1, n2⟩
        · exact i4 d hd
      · rw [List.reverse_cons, foldD_snoc _ _ _ _ _ _ _ _ i5]
        dsimp only
        rw [b1, b2, m2, m3]
        rfl
    · cases hd
      have := (tripB_iff.1 h).1
      exact ⟨by omega, h, by simp, fun d hd => (List.not_mem_nil hd).elim, rfl⟩
def rowsD (ds : List (Int × Int)) : List (List Int) := ds.map fun d => [d.1, d.2]
theorem rowsD_pair (ds : List (Int × Int)) : (rowsD ds).map pairD = ds := by
  simp [rowsD, pairD, Function.comp_def]
theorem dig_round {a b c : Int} (h : (digR a b c).2.2 = 0) : (digR a b c).2.1.1 = 0 ∧ todR (rowsD (digR a b c).1) (digR a b c).2.1.1 (digR a b c).2.1.2.1 (digR a b c).2.1.2.2 = (a, b, c, 0) := by
  unfold digR at h ⊢
  split at h
  · rename_i ht
    rw [if_pos ht]
    split at h
    · cases h
    · rename_i ha
      rw [if_neg ha]
      revert h
      cases hd : digL 60 a b c with
      | none => intro h; cases h
      | some r =>
        intro _
        obtain ⟨ds, e, f, g⟩ := r
        obtain ⟨i1, i2, i3, i4, i5⟩ := digL_facts 60 a b c ht ds e f g hd
        dsimp only
        refine ⟨i1, ?_⟩
        have hok : okDs (rowsD ds) = true := by
          unfold okDs rowsD
          rw [List.all_eq_true]
          intro d hd
          obtain ⟨p, hp, rfl⟩ := List.mem_map.1 hd
          obtain ⟨n1, n2⟩ := i4 p hp
          simp [okD, n1, n2]
        have hlen : ((rowsD ds).length : Int) ≤ 60 := by
          simp [rowsD]; omega
        unfold todR
        rw [i2, if_pos rfl, rowsD_pair, i5, hok, i1]
        simp [hlen]
  · cases h
theorem pickR_least (a b c : Int) : ∀ k : Nat, (0 ≤ (pickR a b c k).1 → okR (pickR a b c k).1 a b c = true ∧ (pickR a b c k).2 = ((runL (pickR a b c k).1 300 a b c).length : Int) - 1) ∧ ∀ j : Nat, j < k → okR (j : Int) a b c = true → 0 ≤ (pickR a b c k).1 ∧ (pickR a b c k).2 ≤ ((runL (j : Int) 300 a b c).length : Int) - 1
  | 0 => ⟨fun h => absurd h (by simp [pickR]), fun j hj => absurd hj (by omega)⟩
  | k + 1 => by
    obtain ⟨h1, h2⟩ := pickR_least a b c k
    have hb := pickR_bd a b c k
    have hl := runL_len (k : Int) 300 a b c
    rw [pickR]
    by_cases hc : okR (k : Int) a b c = true ∧ ((runL (k : Int) 300 a b c).length : Int) - 1 < (pickR a b c k).2
    · rw [if_pos hc]
      refine ⟨fun _ => ⟨hc.1, rfl⟩, fun j hj hok => ?_⟩
      rcases Nat.lt_or_ge j k with hjk | hjk
      · have := (h2 j hjk hok).2
        exact ⟨by dsimp only; omega, by dsimp only; omega⟩
      · obtain rfl : j = k := by omega
        exact ⟨by dsimp only; omega, Int.le_refl _⟩
    · rw [if_neg hc]
      refine ⟨h1, fun j hj hok => ?_⟩
      rcases Nat.lt_or_ge j k with hjk | hjk
      · exact h2 j hjk hok
      · obtain rfl : j = k := by omega
        have hnl : ¬ ((runL (j : Int) 300 a b c).length : Int) - 1 < (pickR a b c j).2 := fun h => hc ⟨hok, h⟩
        have hb3 := hb.2.2
        refine ⟨?_, by omega⟩
        rcases Int.lt_or_le (pickR a b c j).1 0 with h | h
        · have := hb3.1 h
          omega
        · exact h
theorem short_least {a b c : Int} (h : (shortR a b c).2 = 0) : (0 ≤ (shortR a b c).1 ∧ (shortR a b c).1 ≤ 3) ∧ (lenRun a b c (shortR a b c).1).2 = 0 ∧
    ∀ k : Int, 0 ≤ k → k < 4 → (lenRun a b c k).2 = 0 → (lenRun a b c (shortR a b c).1).1 ≤ (lenRun a b c k).1 := by
  unfold shortR at h ⊢
  split at h
  · rename_i hc
    rw [if_pos hc]
    split at h
    · cases h
    · rename_i hp
      rw [if_neg hp]
      obtain ⟨h1, h2⟩ := pickR_least a b c 4
      obtain ⟨⟨_, hb⟩, _⟩ := pickR_bd a b c 4
      have hp4 : (pickR a b c 4).1 ≤ 3 := by
        have hst : ∀ k : Nat, (pickR a b c k).1 < k := by
          intro k
          induction k with
          | zero => simp [pickR]
          | succ k ih => rw [pickR]; split <;> (try dsimp only) <;> omega
        have := hst 4
        omega
      obtain ⟨ho, hlen⟩ := h1 (by omega)
      have hcr := codeR_rule hc (rule := (pickR a b c 4).1) (by omega)
      have hL : lenRun a b c (pickR a b c 4).1 = (((runL (pickR a b c 4).1 300 a b c).length : Int) - 1, 0) := by unfold lenRun; rw [if_pos hcr, if_pos ho]
      dsimp only
      rw [hL]
      refine ⟨by omega, rfl, fun k hk0 hk4 hk => ?_⟩
      have hck := codeR_rule hc (rule := k) (by omega)
      obtain ⟨j, rfl⟩ := Int.eq_ofNat_of_zero_le hk0
      unfold lenRun at hk ⊢
      rw [if_pos hck] at hk ⊢
      split at hk
      · rename_i hok
        rw [if_pos hok]
        have := (h2 j (by omega) hok).2
        dsimp only
        omega
      · cases hk
  · rename_i hc
    exact absurd h hc
end Go.Proofs.Ytdenfmgmapgpiaa
