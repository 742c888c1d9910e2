/-
  Plain laws of texts of points: numerals and what is read out of them; parts between bytes. No condition but what stands in each.
-/
import Derived.Test.YtajjoihfccnfhaaDoorCtx
import Derived.Lib.Join
import Derived.Lib.ParseIntB
namespace Go.Proofs.YtajjoihfccnfhaaDoor
open Go.RowKit
set_option maxHeartbeats 400000
/-- The number that decimal digits spell behind n, or -1. -/
def numGo (n : Int) : List UInt8 → Int
  | [] => n
  | c :: r => if (c.toNat : Int) < 48 ∨ 57 < (c.toNat : Int) then -1 else numGo (n * 10 + ((c.toNat : Int) - 48)) r
/-- The number that at most nine decimal digits without leading zeros spell, or -1. -/
def numV (l : List UInt8) : Int := if l.length = 0 ∨ 9 < l.length ∨ (1 < l.length ∧ l[0]? = some 48) then -1 else numGo 0 l
def sgnV (l : List UInt8) : Int × Bool := if l.head? = some 45 then (-numV l.tail, decide (0 < numV l.tail)) else (numV l, decide (0 ≤ numV l))
theorem numGo_cons (n : Int) (c : UInt8) (r : List UInt8) : numGo n (c :: r) = if (c.toNat : Int) < 48 ∨ 57 < (c.toNat : Int) then -1 else numGo (n * 10 + ((c.toNat : Int) - 48)) r := rfl
theorem numGo_le : ∀ (l : List UInt8) (n : Int) (k : Nat), 0 ≤ n → n < 10 ^ k → numGo n l < 10 ^ (k + l.length) ∧ -1 ≤ numGo n l
  | [], n, k, h0, h => ⟨by show n < 10 ^ (k + 0); exact h, by show -1 ≤ n; omega⟩
  | c :: r, n, k, h0, h => by
    rw [numGo_cons]
    split
    · exact ⟨by have : (0 : Int) < 10 ^ (k + (c :: r).length) := Int.pow_pos (by decide); omega, by omega⟩
    · have := numGo_le r (n * 10 + ((c.toNat : Int) - 48)) (k + 1) (by omega) (by rw [Int.pow_succ]; omega)
      simpa [Nat.add_assoc, Nat.add_comm 1] using this
theorem numV_bd (l : List UInt8) : -1 ≤ numV l ∧ numV l < 1000000000 := by
  unfold numV
  split
  · omega
  · rename_i h
    have h9 : l.length ≤ 9 := by omega
    obtain ⟨h1, h2⟩ := numGo_le l 0 0 (by omega) (by decide)
    have h3 : (10 : Int) ^ (0 + l.length) ≤ 10 ^ 9 := by
      have h := Nat.pow_le_pow_right (n := 10) (by decide) (show 0 + l.length ≤ 9 by omega)
      have h2 := Int.ofNat_le.2 h
      rw [Int.natCast_pow, Int.natCast_pow] at h2
      exact h2
    exact ⟨h2, by have : (10 : Int) ^ 9 = 1000000000 := by decide
                  omega⟩
theorem sgnV_bd (l : List UInt8) : -1000000000 < (sgnV l).1 ∧ (sgnV l).1 < 1000000000 := by
  unfold sgnV
  split
  · have := numV_bd l.tail
    dsimp only
    omega
  · have := numV_bd l
    dsimp only
    omega
theorem dgt_toNat {k : Nat} (h : k < 10) : (UInt8.ofNat (48 + k)).toNat = 48 + k := by
  rw [UInt8.toNat_ofNat']
  omega
theorem numGo_app : ∀ (l r : List UInt8) (n : Int), 0 ≤ n → 0 ≤ numGo n l → numGo n (l ++ r) = numGo (numGo n l) r
  | [], r, n, _, _ => rfl
  | c :: l, r, n, h0, h => by
    rw [List.cons_append, numGo_cons, numGo_cons]
    rw [numGo_cons] at h
    by_cases hc : (c.toNat : Int) < 48 ∨ 57 < (c.toNat : Int)
    · rw [if_pos hc] at h; omega
    · rw [if_neg hc] at h
      rw [if_neg hc, if_neg hc]
      exact numGo_app l r _ (by omega) h
theorem numGo_bad : ∀ (l r : List UInt8) (n : Int), 0 ≤ n → numGo n l < 0 → numGo n (l ++ r) = -1
  | [], r, n, h0, h => by have : n < 0 := h; omega
  | c :: l, r, n, h0, h => by
    rw [List.cons_append, numGo_cons]
    rw [numGo_cons] at h
    by_cases hc : (c.toNat : Int) < 48 ∨ 57 < (c.toNat : Int)
    · rw [if_pos hc]
    · rw [if_neg hc] at h ⊢
      exact numGo_bad l r _ (by omega) h
theorem numGo_dec (u : Nat) : numGo 0 (Lib.decDigits u) = u := by
  induction u using Nat.strongRecOn with
  | _ u ih =>
    by_cases h : u < 10
    · rw [Lib.decDigits, dif_pos h, numGo_cons, dgt_toNat h, if_neg (by omega)]
      show (0 : Int) * 10 + _ = _
      omega
    · have e := ih (u / 10) (by omega)
      rw [Lib.decDigits, dif_neg h, numGo_app _ _ _ (by omega) (by rw [e]; omega), e, numGo_cons, dgt_toNat (Nat.mod_lt _ (by omega)), if_neg (by omega)]
      show ((u / 10 : Nat) : Int) * 10 + _ = _
      omega
theorem numGo_inv : ∀ (k : Nat) (l : List UInt8), l.length = k + 1 → (1 < l.length → l.head? ≠ some 48) → 0 ≤ numGo 0 l → l = Lib.decDigits (numGo 0 l).toNat
  | 0, l, hl, _, hn => by
    match l, hl with
    | [c], _ =>
      rw [numGo_cons] at hn ⊢
      by_cases hc : (c.toNat : Int) < 48 ∨ 57 < (c.toNat : Int)
      · rw [if_pos hc] at hn; omega
      · rw [if_neg hc]
        show [c] = Lib.decDigits ((0 : Int) * 10 + ((c.toNat : Int) - 48)).toNat
        rw [show ((0 : Int) * 10 + ((c.toNat : Int) - 48)).toNat = c.toNat - 48 by omega, Lib.decDigits_one (by omega), show 48 + (c.toNat - 48) = c.toNat by omega, UInt8.ofNat_toNat]
  | k + 1, l, hl, hh, hn => by
    have hne : l ≠ [] := by intro h; rw [h] at hl; cases hl
    obtain ⟨l', c, rfl⟩ : ∃ l' c, l = l' ++ [c] := ⟨l.dropLast, l.getLast hne, (List.dropLast_concat_getLast hne).symm⟩
    have hl' : l'.length = k + 1 := by simpa using hl
    have hne' : l' ≠ [] := by intro h; rw [h] at hl'; cases hl'
    have hhd : (l' ++ [c]).head? = l'.head? := by cases l' with | nil => exact absurd rfl hne' | cons a b => rfl
    have h48 : l'.head? ≠ some 48 := by rw [← hhd]; exact hh (by rw [hl]; omega)
    by_cases h0 : 0 ≤ numGo 0 l'
    · have ih := numGo_inv k l' hl' (fun _ => h48) h0
      rw [numGo_app _ _ _ (by omega) h0] at hn ⊢
      obtain ⟨u, hu⟩ : ∃ u : Nat, numGo 0 l' = u := ⟨(numGo 0 l').toNat, by omega⟩
      rw [hu] at hn ih ⊢
      rw [Int.toNat_natCast] at ih
      have hu0 : 1 ≤ u := by
        rcases Nat.eq_zero_or_pos u with h | h
        · subst h
          rw [ih, Lib.decDigits_one (by omega)] at h48
          exact absurd rfl h48
        · exact h
      rw [numGo_cons] at hn ⊢
      by_cases hc : (c.toNat : Int) < 48 ∨ 57 < (c.toNat : Int)
      · rw [if_pos hc] at hn; omega
      · rw [if_neg hc]
        show l' ++ [c] = Lib.decDigits ((u : Int) * 10 + ((c.toNat : Int) - 48)).toNat
        obtain ⟨d, hd⟩ : ∃ d : Nat, c.toNat = 48 + d := ⟨c.toNat - 48, by omega⟩
        have hcd : c = UInt8.ofNat (48 + d) := by rw [← hd, UInt8.ofNat_toNat]
        have hd9 : d < 10 := by omega
        rw [show ((u : Int) * 10 + ((c.toNat : Int) - 48)).toNat = u * 10 + d by omega, Lib.decDigits, dif_neg (by omega), show (u * 10 + d) / 10 = u by omega, show (u * 10 + d) % 10 = d by omega, ← ih, ← hcd]
    · rw [numGo_bad _ _ _ (by omega) (by omega)] at hn; omega
theorem dec_head (u : Nat) : 1 ≤ u → (Lib.decDigits u).head? ≠ some 48 := by
  induction u using Nat.strongRecOn with
  | _ u ih =>
    intro h1
    by_cases h : u < 10
    · rw [Lib.decDigits_one h]
      intro e
      have e2 : UInt8.ofNat (48 + u) = 48 := Option.some.inj e
      have e3 := congrArg UInt8.toNat e2
      rw [dgt_toNat h] at e3
      have : (48 : UInt8).toNat = 48 := rfl
      omega
    · have hi := ih (u / 10) (by omega) (by omega)
      have hlen : 1 ≤ (Lib.decDigits (u / 10)).length := by rw [Lib.decDigits_length]; exact Lib.nDigits_pos _
      rw [Lib.decDigits, dif_neg h]
      cases e : Lib.decDigits (u / 10) with
      | nil => rw [e] at hlen; cases hlen
      | cons a b => rw [e] at hi; exact hi
theorem dec_mem (u : Nat) : ∀ c, c ∈ Lib.decDigits u → 48 ≤ c.toNat ∧ c.toNat ≤ 57 := by
  induction u using Nat.strongRecOn with
  | _ u ih =>
    intro c hc
    by_cases h : u < 10
    · rw [Lib.decDigits_one h, List.mem_singleton] at hc
      subst hc
      rw [dgt_toNat h]
      omega
    · rw [Lib.decDigits, dif_neg h, List.mem_append] at hc
      rcases hc with hc | hc
      · exact ih (u / 10) (by omega) c hc
      · rw [List.mem_singleton] at hc
        subst hc
        rw [dgt_toNat (Nat.mod_lt _ (by omega))]
        omega
theorem numV_inv {l : List UInt8} (h : 0 ≤ numV l) : l = Lib.decDigits (numV l).toNat := by
  unfold numV at h ⊢
  by_cases hc : l.length = 0 ∨ 9 < l.length ∨ (1 < l.length ∧ l[0]? = some 48)
  · rw [if_pos hc] at h; omega
  · rw [if_neg hc] at h ⊢
    exact numGo_inv (l.length - 1) l (by omega) (fun h1 e => hc (.inr (.inr ⟨h1, by rw [← List.head?_eq_getElem?]; exact e⟩))) h
theorem numV_dec {u : Nat} (h : u < 1000000000) : numV (Lib.decDigits u) = u := by
  unfold numV
  have h1 := Lib.nDigits_pos u
  have h2 := nDigits_le 8 u (by omega)
  rw [if_neg, numGo_dec]
  rw [Lib.decDigits_length, ← List.head?_eq_getElem?]
  rintro (h | h | ⟨h, e⟩)
  · omega
  · omega
  · by_cases h0 : u = 0
    · subst h0
      rw [Lib.nDigits_small (by omega)] at h
      omega
    · exact dec_head u (by omega) e
theorem dec_no (u : Nat) {c : UInt8} (hc : ¬ (48 ≤ c.toNat ∧ c.toNat ≤ 57)) : c ∉ Lib.decDigits u := fun h => hc (dec_mem u c h)
theorem itoa_no (n : Int) {c : UInt8} (hc : ¬ (48 ≤ c.toNat ∧ c.toNat ≤ 57)) (h45 : c ≠ 45) : c ∉ Lib.itoa n := by
  unfold Lib.itoa
  split
  · intro h
    rcases List.mem_cons.1 h with h | h
    · exact h45 h
    · exact dec_no _ hc h
  · exact dec_no _ hc
theorem sgnV_inv {l : List UInt8} (h : (sgnV l).2 = true) : l = Lib.itoa (sgnV l).1 := by
  unfold sgnV at h ⊢
  by_cases hm : l.head? = some 45
  · rw [if_pos hm] at h ⊢
    have h1 : 0 < numV l.tail := of_decide_eq_true h
    have h2 := numV_inv (l := l.tail) (by omega)
    obtain ⟨u, hu⟩ : ∃ u : Nat, numV l.tail = u := ⟨(numV l.tail).toNat, by omega⟩
    dsimp only
    rw [hu] at h2 ⊢
    rw [Lib.itoa_neg u (by omega)]
    cases l with
    | nil => cases hm
    | cons a b =>
      obtain rfl : a = 45 := Option.some.inj hm
      exact congrArg _ h2
  · rw [if_neg hm] at h ⊢
    have h1 : 0 ≤ numV l := of_decide_eq_true h
    have h2 := numV_inv h1
    obtain ⟨u, hu⟩ : ∃ u : Nat, numV l = u := ⟨(numV l).toNat, by omega⟩
    dsimp only
    rw [hu] at h2 ⊢
    rw [Lib.itoa_nonneg]
    exact h2
theorem sgnV_itoa {n : Int} (h : -1000000 ≤ n ∧ n ≤ 1000000) : sgnV (Lib.itoa n) = (n, true) := by
  by_cases h0 : n < 0
  · obtain ⟨u, rfl⟩ : ∃ u : Nat, n = -(u : Int) := ⟨n.natAbs, by omega⟩
    rw [Lib.itoa_neg u (by omega)]
    unfold sgnV
    rw [if_pos (show (45 :: Lib.decDigits u).head? = some 45 from rfl)]
    show (-numV (Lib.decDigits u), decide (0 < numV (Lib.decDigits u))) = _
    rw [numV_dec (by omega), decide_eq_true (by omega)]
  · obtain ⟨u, rfl⟩ : ∃ u : Nat, n = (u : Int) := ⟨n.natAbs, by omega⟩
    rw [Lib.itoa_nonneg]
    unfold sgnV
    rw [if_neg, numV_dec (by omega), decide_eq_true (by omega)]
    intro e
    exact dec_no u (c := 45) (by decide) (List.mem_of_mem_head? (by rw [e]; rfl))
/-- The parts of a text between the bytes c, acc being what the first part has so far. -/
def splitGo (c : UInt8) (acc : List UInt8) : List UInt8 → List (List UInt8)
  | [] => [acc]
  | x :: r => if x = c then acc :: splitGo c [] r else splitGo c (acc ++ [x]) r
theorem splitGo_cons (c : UInt8) (acc : List UInt8) (x : UInt8) (r : List UInt8) : splitGo c acc (x :: r) = if x = c then acc :: splitGo c [] r else splitGo c (acc ++ [x]) r := rfl
theorem splitGo_ne (c : UInt8) : ∀ (l acc : List UInt8), splitGo c acc l ≠ []
  | [], acc => by intro h; cases h
  | x :: r, acc => by
    rw [splitGo_cons]
    split
    · intro h; cases h
    · exact splitGo_ne c r _
theorem splitGo_no (c : UInt8) : ∀ (l acc : List UInt8), c ∉ l → splitGo c acc l = [acc ++ l]
  | [], acc, _ => by rw [List.append_nil]; rfl
  | x :: r, acc, h => by
    rw [List.mem_cons, not_or] at h
    rw [splitGo_cons, if_neg (fun e => h.1 e.symm), splitGo_no c r _ h.2, List.append_assoc, List.singleton_append]
theorem splitGo_mid (c : UInt8) (r : List UInt8) : ∀ (l acc : List UInt8), c ∉ l → splitGo c acc (l ++ c :: r) = (acc ++ l) :: splitGo c [] r
  | [], acc, _ => by rw [List.append_nil, List.nil_append, splitGo_cons, if_pos rfl]
  | x :: l, acc, h => by
    rw [List.mem_cons, not_or] at h
    rw [List.cons_append, splitGo_cons, if_neg (fun e => h.1 e.symm), splitGo_mid c r l _ h.2, List.append_assoc, List.singleton_append]
theorem splitGo_join (c : UInt8) : ∀ (l acc : List UInt8), Lib.join (splitGo c acc l) [c] = acc ++ l
  | [], acc => by show Lib.join [acc] [c] = _; simp [Lib.join, List.intercalate]
  | x :: r, acc => by
    rw [splitGo_cons]
    by_cases h : x = c
    · subst h
      rw [if_pos rfl]
      have ih := splitGo_join x r []
      cases e : splitGo x [] r with
      | nil => exact absurd e (splitGo_ne _ _ _)
      | cons a b =>
        rw [e] at ih
        simp only [Lib.join, List.intercalate, List.intersperse_cons_cons, List.flatten_cons] at ih ⊢
        rw [ih]
        simp
    · rw [if_neg h, splitGo_join c r, List.append_assoc, List.singleton_append]
theorem splitGo_two {c : UInt8} {l a b : List UInt8} (h : splitGo c [] l = [a, b]) : l = a ++ [c] ++ b := by
  have := splitGo_join c l []
  rw [h, List.nil_append] at this
  rw [← this]
  simp [Lib.join, List.intercalate]
def ptL (x y : Int) : List UInt8 := Lib.itoa x ++ [44] ++ Lib.itoa y
/-- The point that a text spells. -/
def readV (l : List UInt8) : Option (Int × Int) := match splitGo 44 [] l with
  | [a, b] => if (sgnV a).2 = true ∧ (sgnV b).2 = true ∧ ptB (sgnV a).1 (sgnV b).1 = true then some ((sgnV a).1, (sgnV b).1) else none
  | _ => none
theorem readV_inv {l : List UInt8} {x y : Int} (h : readV l = some (x, y)) : ptB x y = true ∧ l = ptL x y := by
  unfold readV at h
  split at h
  · rename_i a b hs
    split at h
    · rename_i hc
      obtain ⟨h1, h2, h3⟩ := hc
      have e := Option.some.inj h
      obtain ⟨rfl, rfl⟩ := Prod.mk.inj e
      refine ⟨h3, ?_⟩
      rw [splitGo_two hs]
      unfold ptL
      rw [← sgnV_inv h1, ← sgnV_inv h2]
    · cases h
  · cases h
theorem readV_pt {x y : Int} (h : ptB x y = true) : readV (ptL x y) = some (x, y) := by
  have h' := h
  rw [ptB_iff] at h'
  have hs : splitGo 44 [] (ptL x y) = [Lib.itoa x, Lib.itoa y] := by
    unfold ptL
    rw [List.append_assoc, List.singleton_append, splitGo_mid _ _ _ _ (itoa_no x (by decide) (by decide)), splitGo_no _ _ _ (itoa_no y (by decide) (by decide)), List.nil_append, List.nil_append]
  unfold readV
  rw [hs]
  dsimp only
  rw [sgnV_itoa (by omega), sgnV_itoa (by omega)]
  rw [if_pos ⟨rfl, rfl, h⟩]
theorem pum_app (M : Nat) : ∀ (l r : List UInt8) (acc a : Nat), Lib.parseUintM M acc l = .ok a → Lib.parseUintM M acc (l ++ r) = Lib.parseUintM M a r
  | [], r, acc, a, h => by
    have e : acc = a := by injection h
    rw [e]
    rfl
  | c :: l, r, acc, a, h => by
    rw [List.cons_append]
    rw [Lib.parseUintM] at h ⊢
    split at h
    · rename_i h1
      rw [if_pos h1]
      split at h
      · cases h
      · rename_i h2
        rw [if_neg h2]
        split at h
        · cases h
        · rename_i h3
          rw [if_neg h3]
          exact pum_app M l r _ a h
    · cases h
theorem pum_dec (u : Nat) : u ≤ 1000000 → Lib.parseUintM (2 ^ 64 - 1) 0 (Lib.decDigits u) = .ok u := by
  induction u using Nat.strongRecOn with
  | _ u ih =>
    intro h1
    by_cases h : u < 10
    · rw [Lib.decDigits_one h, Lib.parseUintM, dgt_toNat h, if_pos (by omega), if_neg (by omega), if_neg (by omega), Lib.parseUintM]
      congr 1
      omega
    · rw [Lib.decDigits, dif_neg h, pum_app _ _ _ _ _ (ih (u / 10) (by omega) (by omega)), Lib.parseUintM, dgt_toNat (Nat.mod_lt _ (by omega)), if_pos (by omega), if_neg (by omega), if_neg (by omega), Lib.parseUintM]
      congr 1
      omega
theorem parse_itoa {n : Int} (h : -1000000 ≤ n ∧ n ≤ 1000000) : Lib.parseIntB 64 (Lib.itoa n) = .ok n := by
  by_cases h0 : n < 0
  · obtain ⟨u, rfl⟩ : ∃ u : Nat, n = -(u : Int) := ⟨n.natAbs, by omega⟩
    have hp := pum_dec u (by omega)
    have hne : Lib.decDigits u ≠ [] := by
      intro e
      have h1 := Lib.nDigits_pos u
      rw [← Lib.decDigits_length, e] at h1
      cases h1
    rw [Lib.itoa_neg u (by omega)]
    unfold Lib.parseIntB
    have e45 : (45 : UInt8).toNat = 45 := rfl
    dsimp only
    rw [if_pos (.inr e45), Lib.parseUintB, if_neg hne, hp]
    dsimp only
    rw [if_neg (by intro h; exact h.1 e45), if_neg (by intro h; have := h.2; omega), if_pos e45]
  · obtain ⟨u, rfl⟩ : ∃ u : Nat, n = (u : Int) := ⟨n.natAbs, by omega⟩
    have hp := pum_dec u (by omega)
    rw [Lib.itoa_nonneg]
    cases e : Lib.decDigits u with
    | nil =>
      have h1 := Lib.nDigits_pos u
      rw [← Lib.decDigits_length, e] at h1
      cases h1
    | cons c r =>
      have hc := dec_mem u c (by rw [e]; exact List.mem_cons_self ..)
      rw [e] at hp
      unfold Lib.parseIntB
      dsimp only
      rw [if_neg (by omega), Lib.parseUintB, if_neg (by intro h; cases h), hp]
      dsimp only
      rw [if_neg (by intro h; have := h.2; omega), if_neg (by intro h; have := h.1; omega), if_neg (by omega)]
/-- The number that strconv.ParseInt returns. -/
def pval (l : List UInt8) : Int := match Lib.parseIntB 64 l with
  | .ok v => v
  | .range => Lib.intSat 64 l
  | _ => 0
theorem pval_itoa {n : Int} (h : -1000000 ≤ n ∧ n ≤ 1000000) : pval (Lib.itoa n) = n := by unfold pval; rw [parse_itoa h]
end Go.Proofs.YtajjoihfccnfhaaDoor
