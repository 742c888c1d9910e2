/-
  Expansions of fractions: contracts. No condition but what stands in each.
-/
import Derived.Test.YtoldicmobenhaaaCsl
import Derived.Laws.AppendOwn
import Derived.Maps.AppendAt
namespace Go.Proofs.Ytoldicmobenhaaa
open Go.RowKit
set_option maxHeartbeats 1000000
theorem ediv_floor {a b : Int} (hb : 1 ≤ b) : (if a.tmod b ≠ 0 ∧ a < 0 then a.tdiv b - 1 else a.tdiv b) = a / b := by
  rw [Int.tdiv_eq_ediv]
  have hs : b.sign = 1 := Int.sign_eq_one_of_pos (by omega)
  rw [hs]
  have hd : a.tmod b = 0 ↔ b ∣ a := ⟨Int.dvd_of_tmod_eq_zero, Int.tmod_eq_zero_of_dvd⟩
  by_cases h0 : 0 ≤ a
  · rw [if_neg (by omega), if_pos (.inl h0)]; omega
  · by_cases hv : b ∣ a
    · rw [if_neg (by have := hd.2 hv; omega), if_pos (.inr hv)]; omega
    · rw [if_pos ⟨fun e => hv (hd.1 e), by omega⟩, if_neg (by simp [hv]; omega)]; omega
def expL (x y : Int) : List Int := if _h : y = 0 then [] else (x / y) :: expL y (x % y)
termination_by y.natAbs
decreasing_by
  have h1 := Int.emod_nonneg x _h
  have h2 := Int.emod_lt x _h
  omega
theorem expL_zero (x : Int) : expL x 0 = [] := by rw [expL]; simp
theorem expL_step {x y : Int} (h : y ≠ 0) : expL x y = (x / y) :: expL y (x % y) := by rw [expL]; simp [h]
theorem expL_len (n : Nat) : ∀ x y : Int, 0 ≤ y → y ≤ n → (expL x y).length ≤ n := by
  induction n with
  | zero => intro x y h1 h2; obtain rfl : y = 0 := by omega
            rw [expL_zero]; simp
  | succ n ih =>
    intro x y h1 h2
    by_cases h : y = 0
    · subst h; rw [expL_zero]; simp
    · rw [expL_step h]
      have h3 := Int.emod_nonneg x h
      have h4 := Int.emod_lt_of_pos x (show 0 < y by omega)
      have := ih y (x % y) h3 (by omega)
      simp; omega
theorem floor_any (a b : Int) (w : World) (hb : 1 ≤ b ∧ b ≤ 1000000) (ha : -1000000 ≤ a ∧ a ≤ 1000000) : Calls Try.prog 95 #[.int .i64 a, .int .i64 b] w fun e w' => e = .returned (.int .i64 (a / b)) ∧ w = w' := by
  have hf := @ediv_floor a b hb.1
  have hlo : -1000000 ≤ a.tdiv b := by
    have := Int.natAbs_tdiv_le_natAbs a b
    omega
  have hhi : a.tdiv b ≤ 1000000 := by
    have := Int.natAbs_tdiv_le_natAbs a b
    omega
  rw [← hf]
  clear hf
  have hb0 : decide (b < 0) = false := by simp; omega
  by_cases h0 : 0 ≤ a
  · have ha0 : decide (a < 0) = false := by simp; omega
    rw [if_neg (by omega)]
    go_enter Try.func95, Try.ntmps95
    go_wp2
    all_goals
      go_returns
      exact ⟨rfl, rfl⟩
  · have ha0 : decide (a < 0) = true := by simp; omega
    by_cases hm : a.tmod b = 0
    · rw [if_neg (by simp [hm])]
      have hm' : (a.tmod b != 0) = false := by simp [hm]
      go_enter Try.func95, Try.ntmps95
      go_wp2
      all_goals
        go_returns
        exact ⟨rfl, rfl⟩
    · rw [if_pos ⟨hm, by omega⟩]
      have hm' : (a.tmod b != 0) = true := by simp [hm]
      go_enter Try.func95, Try.ntmps95
      go_wp2
      all_goals
        go_returns
        exact ⟨rfl, rfl⟩
theorem l01Floor_any (a b : Int) (w : World) (hb : 1 ≤ b ∧ b ≤ 1000000) (ha : -1000000 ≤ a ∧ a ≤ 1000000) : Calls Try.prog 94 #[.int .i64 a, .int .i64 b] w fun e w' => e = .returned (.int .i64 (a / b)) ∧ w = w' := by
  have hf := @ediv_floor a b hb.1
  have hlo : -1000000 ≤ a.tdiv b := by
    have := Int.natAbs_tdiv_le_natAbs a b
    omega
  have hhi : a.tdiv b ≤ 1000000 := by
    have := Int.natAbs_tdiv_le_natAbs a b
    omega
  rw [← hf]
  clear hf
  have hb0 : decide (b < 0) = false := by simp; omega
  by_cases h0 : 0 ≤ a
  · have ha0 : decide (a < 0) = false := by simp; omega
    rw [if_neg (by omega)]
    go_enter Try.func94, Try.ntmps94
    go_wp2
    all_goals
      go_returns
      exact ⟨rfl, rfl⟩
  · have ha0 : decide (a < 0) = true := by simp; omega
    by_cases hm : a.tmod b = 0
    · rw [if_neg (by simp [hm])]
      have hm' : (a.tmod b != 0) = false := by simp [hm]
      go_enter Try.func94, Try.ntmps94
      go_wp2
      all_goals
        go_returns
        exact ⟨rfl, rfl⟩
    · rw [if_pos ⟨hm, by omega⟩]
      have hm' : (a.tmod b != 0) = true := by simp [hm]
      go_enter Try.func94, Try.ntmps94
      go_wp2
      all_goals
        go_returns
        exact ⟨rfl, rfl⟩
theorem infoI64 : (Try.prog.info? 2).map (fun i => (i.zero, i.size, i.bytes)) = some (some (.int .i64 0), 1, 8) := by kernel_rfl
/-- What a call hands back that made a row of whole numbers of its own. -/
theorem owns_ISl {w : World} {B : Nat} {T : TypeId} {v : Value} {xs : List Int} (h : w.ownsRow B T 1 v xs.length (xs.map (Value.int .i64))) : ∃ A c, v = .slice A xs.length c ∧ ISl w A xs.length xs ∧ WSl B w A xs.length := by
  have hcells := @World.ownsRow.cells w B T 1 v xs.length (xs.map (Value.int .i64)) h
  obtain ⟨_, ⟨rfl, h0⟩ | ⟨g, cap, cur, rfl, hB, hg, _, _, _, _⟩⟩ := h
  · rw [h0]
    exact ⟨none, 0, rfl, ⟨h0.symm, fun h => absurd h (by omega)⟩, fun h => absurd h (by omega)⟩
  · refine ⟨some ⟨g, 0, none⟩, cap, rfl, ⟨rfl, fun hn => ⟨g, 0, rfl, ?_, fun i hi => ?_⟩⟩, fun hn => ⟨g, 0, rfl, hB, ?_, fun i hi => ?_⟩⟩
    · rcases Nat.lt_or_ge g w.heap.size with hlt | hge
      · exact hlt
      · rw [Array.getElem?_eq_none hge] at hg; cases hg
    · have := hcells rfl i (.int .i64 (xs[i]?.getD 0)) (by simp [hi])
      rw [add_at] at this
      exact this
    · rcases Nat.lt_or_ge g w.heap.size with hlt | hge
      · exact hlt
      · rw [Array.getElem?_eq_none hge] at hg; cases hg
    · simp [World.frozen?, hg]
def ExpI (p q x y : Int) (pre : List Int) : Prop := pre ++ expL x y = expL p q ∧ (-1000000 ≤ x ∧ x ≤ 1000000) ∧ (0 ≤ y ∧ y ≤ 1000000) ∧ pre.length + y.natAbs ≤ 1000000
theorem ExpI.done {p q x : Int} {pre : List Int} (h : ExpI p q x 0 pre) : pre = expL p q := by have := h.1; rwa [expL_zero, List.append_nil] at this
theorem ExpI.next {p q x y k r : Int} {pre : List Int} (h : ExpI p q x y pre) (hy : ¬ y = 0) (hk : x / y = k) (hr : x % y = r) : ExpI p q y r (pre ++ [k]) := by
  obtain ⟨h1, h2, h3, h4⟩ := h
  have h5 := Int.emod_nonneg x hy
  have h6 := Int.emod_lt_of_pos x (show 0 < y by omega)
  rw [hr] at h5 h6
  refine ⟨?_, by omega, by omega, by simp; omega⟩
  rw [← h1, expL_step hy, hk, hr, List.append_assoc, List.singleton_append]
theorem expand_any (p q : Int) (w : World) (hp : -1000000 ≤ p ∧ p ≤ 1000000) (hq : 1 ≤ q ∧ q ≤ 1000000) : Calls Try.prog 73 #[.int .i64 p, .int .i64 q] w fun e w' =>
    (∃ v, e = .returned v ∧ w'.ownsRow w.heap.size 2 1 v (expL p q).length ((expL p q).map (Value.int .i64))) ∧ Below w.heap.size w w' := by
  obtain ⟨i0, hi, hz0, hz1, hz2⟩ := info_parts infoI64
  have h0 : ExpI p q p q [] := ⟨rfl, hp, by omega, by simp; omega⟩
  have H0 := Lib.hid h0
  clear h0 hp hq
  go_enter Try.func73, Try.ntmps73
  go_wp2
  go_loopw [0, 1, 5] (fun a b o wr => ∃ (x y : Int) (pre : List Int), a = .int .i64 x ∧ b = .int .i64 y ∧ ExpI p q x y pre ∧ wr.ownsRow w.heap.size 2 1 o pre.length (pre.map (Value.int .i64)) ∧ Below w.heap.size w wr) (fun a b o _ => (intOf b).natAbs)
  case atStart => exact ⟨p, q, [], rfl, rfl, H0.out, World.ownsRow_made _ _ _ (Nat.le_refl _) (by decide) rfl, by (repeat' (first | (with_reducible exact Below.refl _ _) | (with_reducible refine Below.alloc ?_ ?_ _) | (with_reducible refine Below.drew ?_) | (with_reducible refine below_drewN' ?_ _) | (with_reducible refine Below.setCell ?_ ?_ _) | (with_reducible refine Below.trans ?_ (Below.mono (by assumption) ?_)) | go_size))⟩
  case round =>
    obtain ⟨x, y, pre, rfl, rfl, hE, hown, hB⟩ := hrel
    clear H0
    have HE := Lib.hid hE
    clear hE
    by_cases hy : y = 0
    · subst hy
      have hd : ((0 : Int) != 0) = false := rfl
      go_wp2
      go_returns
      refine ⟨⟨_, rfl, ?_⟩, hB⟩
      rw [← HE.out.done]
      exact hown
    · have hd : (y != 0) = true := by simpa using hy
      have hb : 1 ≤ y ∧ y ≤ 1000000 := by have := HE.out.2.2.1; omega
      have ha := HE.out.2.1
      have hf := fun W => floor_any x y W hb ha
      obtain ⟨k, hk⟩ : ∃ k, x / y = k := ⟨_, rfl⟩
      obtain ⟨r, hr⟩ : ∃ r, x % y = r := ⟨_, rfl⟩
      have hr0 : 0 ≤ r ∧ r < y := by rw [← hr]; exact ⟨Int.emod_nonneg x hy, Int.emod_lt_of_pos x (by omega)⟩
      have hmul : k * y = x - r := by rw [← hk, ← hr]; have := Int.mul_ediv_add_emod x y; rw [Int.mul_comm]; omega
      have HN := Lib.hid (HE.out.next hy hk hr)
      rw [hk] at hf
      have HF := Lib.hid hf
      clear hf hk hr hy
      have hlen : pre.length ≤ 1000000 := by have := HE.out.2.2.2; omega
      go_wp2_with (first | (go_at_call 95; (with_reducible refine (HF.out _).mono ?_); rintro e w' ⟨rfl, rfl⟩) | (at_builtin; refine wpList_append_own _ rfl _ _ 44 rfl w.heap.size 2 i0 (.int .i64 0) 1 8 Try.underlying44 hi hz0 hz1 hz2 rfl (by decide) _ _ _ rfl (hown.alloc _) ⟨wr.heap.size, 0, none⟩ 1 1 [.int .i64 k] rfl rfl ?c1 ?c2 ?c3 ?c4 ?c5 ?_))
      case c1 => exact cell_one_new _ _ _
      case c2 => intro u hu; simp at hu; subst hu; rfl
      case c3 => unfold maxLen; omega
      case c4 => omega
      case c5 => have := hB.size; simp; omega
      intro v' w1 hown' hgrow _
      have hB' := (hB.alloc hB.size (.cells #[.int .i64 k] 2)).grown hgrow (by have := hB.size; simp; omega) (fun k e => (hown.lt k e).1)
      have hown2 : w1.ownsRow w.heap.size 2 1 v' (pre ++ [k]).length ((pre ++ [k]).map (Value.int .i64)) := by simpa using hown'
      have HW := Lib.hid hown2
      clear hown' hgrow hown hown2
      go_wp2
      go_roundw
      case rel => exact ⟨y, r, pre ++ [k], rfl, by go_num, HN.out, HW.out, hB'⟩
      case measure => simp [intOf]; omega
theorem l01Expand_any (p q : Int) (w : World) (hp : -1000000 ≤ p ∧ p ≤ 1000000) (hq : 1 ≤ q ∧ q ≤ 1000000) : Calls Try.prog 71 #[.int .i64 p, .int .i64 q] w fun e w' =>
    (∃ v, e = .returned v ∧ w'.ownsRow w.heap.size 2 1 v (expL p q).length ((expL p q).map (Value.int .i64))) ∧ Below w.heap.size w w' := by
  obtain ⟨i0, hi, hz0, hz1, hz2⟩ := info_parts infoI64
  have h0 : ExpI p q p q [] := ⟨rfl, hp, by omega, by simp; omega⟩
  have H0 := Lib.hid h0
  clear h0 hp hq
  go_enter Try.func71, Try.ntmps71
  go_wp2
  go_loopw [0, 1, 5] (fun a b o wr => ∃ (x y : Int) (pre : List Int), a = .int .i64 x ∧ b = .int .i64 y ∧ ExpI p q x y pre ∧ wr.ownsRow w.heap.size 2 1 o pre.length (pre.map (Value.int .i64)) ∧ Below w.heap.size w wr) (fun a b o _ => (intOf b).natAbs)
  case atStart => exact ⟨p, q, [], rfl, rfl, H0.out, World.ownsRow_made _ _ _ (Nat.le_refl _) (by decide) rfl, by (repeat' (first | (with_reducible exact Below.refl _ _) | (with_reducible refine Below.alloc ?_ ?_ _) | (with_reducible refine Below.drew ?_) | (with_reducible refine below_drewN' ?_ _) | (with_reducible refine Below.setCell ?_ ?_ _) | (with_reducible refine Below.trans ?_ (Below.mono (by assumption) ?_)) | go_size))⟩
  case round =>
    obtain ⟨x, y, pre, rfl, rfl, hE, hown, hB⟩ := hrel
    clear H0
    have HE := Lib.hid hE
    clear hE
    by_cases hy : y = 0
    · subst hy
      have hd : ((0 : Int) != 0) = false := rfl
      go_wp2
      go_returns
      refine ⟨⟨_, rfl, ?_⟩, hB⟩
      rw [← HE.out.done]
      exact hown
    · have hd : (y != 0) = true := by simpa using hy
      have hb : 1 ≤ y ∧ y ≤ 1000000 := by have := HE.out.2.2.1; omega
      have ha := HE.out.2.1
      have hf := fun W => l01Floor_any x y W hb ha
      obtain ⟨k, hk⟩ : ∃ k, x / y = k := ⟨_, rfl⟩
      obtain ⟨r, hr⟩ : ∃ r, x % y = r := ⟨_, rfl⟩
      have hr0 : 0 ≤ r ∧ r < y := by rw [← hr]; exact ⟨Int.emod_nonneg x hy, Int.emod_lt_of_pos x (by omega)⟩
      have hmul : k * y = x - r := by rw [← hk, ← hr]; have := Int.mul_ediv_add_emod x y; rw [Int.mul_comm]; omega
      have HN := Lib.hid (HE.out.next hy hk hr)
      rw [hk] at hf
      have HF := Lib.hid hf
      clear hf hk hr hy
      have hlen : pre.length ≤ 1000000 := by have := HE.out.2.2.2; omega
      go_wp2_with (first | (go_at_call 94; (with_reducible refine (HF.out _).mono ?_); rintro e w' ⟨rfl, rfl⟩) | (at_builtin; refine wpList_append_own _ rfl _ _ 44 rfl w.heap.size 2 i0 (.int .i64 0) 1 8 Try.underlying44 hi hz0 hz1 hz2 rfl (by decide) _ _ _ rfl (hown.alloc _) ⟨wr.heap.size, 0, none⟩ 1 1 [.int .i64 k] rfl rfl ?c1 ?c2 ?c3 ?c4 ?c5 ?_))
      case c1 => exact cell_one_new _ _ _
      case c2 => intro u hu; simp at hu; subst hu; rfl
      case c3 => unfold maxLen; omega
      case c4 => omega
      case c5 => have := hB.size; simp; omega
      intro v' w1 hown' hgrow _
      have hB' := (hB.alloc hB.size (.cells #[.int .i64 k] 2)).grown hgrow (by have := hB.size; simp; omega) (fun k e => (hown.lt k e).1)
      have hown2 : w1.ownsRow w.heap.size 2 1 v' (pre ++ [k]).length ((pre ++ [k]).map (Value.int .i64)) := by simpa using hown'
      have HW := Lib.hid hown2
      clear hown' hgrow hown hown2
      go_wp2
      go_roundw
      case rel => exact ⟨y, r, pre ++ [k], rfl, by go_num, HN.out, HW.out, hB'⟩
      case measure => simp [intOf]; omega
theorem ratioOk_any (p q : Int) (w : World) : Calls Try.prog 72 #[.int .i64 p, .int .i64 q] w fun e w' => e = .returned (.bool (coB p && inB q 1 1000000)) ∧ w = w' := by
  have h1 := fun W => isCoord_any p W
  have h2 := fun W => in_any q 1 1000000 W
  obtain ⟨y, ey⟩ : ∃ y, coB p = y := ⟨_, rfl⟩
  obtain ⟨z, ez⟩ : ∃ z, inB q 1 1000000 = z := ⟨_, rfl⟩
  rw [ey] at h1 ⊢
  rw [ez] at h2 ⊢
  have H1 := Lib.hid h1
  have H2 := Lib.hid h2
  clear h1 h2 ey ez
  cases y <;> cases z
  all_goals
    go_enter Try.func72, Try.ntmps72
    go_wp2_with (first | (go_at_call 77; (with_reducible refine (H1.out _).mono ?_); rintro e w' ⟨rfl, rfl⟩) | (go_at_call 76; (with_reducible refine (H2.out _).mono ?_); rintro e w' ⟨rfl, rfl⟩))
    go_returns
    exact ⟨rfl, rfl⟩
def expR (p q : Int) : List Int × Int := if (coB p && inB q 1 1000000) = true then (expL p q, 0) else ([], 2)
theorem expR_len (p q : Int) : (expR p q).1.length ≤ 281474976710656 := by
  unfold expR
  split
  · rename_i h
    simp only [Bool.and_eq_true, coB_iff, inB_iff] at h
    have := expL_len q.toNat p q (by omega) (by omega)
    dsimp only
    omega
  · simp
theorem implExpandFraction_any (p q : Int) (w : World) : Calls Try.prog 38 #[.int .i64 p, .int .i64 q] w fun e w' =>
    (∃ A c, e = .returned (.tuple #[.slice A (expR p q).1.length c, .int .i64 (expR p q).2]) ∧ ISl w' A (expR p q).1.length (expR p q).1 ∧ WSl w.heap.size w' A (expR p q).1.length) ∧ Below w.heap.size w w' := by
  have h1 := fun W => ratioOk_any p q W
  have h3 := fun (h : (coB p && inB q 1 1000000) = true) => (by simp only [Bool.and_eq_true, coB_iff, inB_iff] at h; exact h : (-1000000 ≤ p ∧ p ≤ 1000000) ∧ 1 ≤ q ∧ q ≤ 1000000)
  unfold expR
  obtain ⟨y, ey⟩ : ∃ y, (coB p && inB q 1 1000000) = y := ⟨_, rfl⟩
  rw [ey] at h1 h3 ⊢
  have H1 := Lib.hid h1
  have H3 := Lib.hid h3
  clear h1 ey h3
  cases y
  · rw [if_neg (by decide)]
    go_enter Try.func38, Try.ntmps38
    go_wp2_with (first | (go_at_call 72; (with_reducible refine (H1.out _).mono ?_); rintro e w' ⟨rfl, rfl⟩))
    go_returns
    exact ⟨⟨none, 0, rfl, ⟨rfl, fun h => absurd h (by simp)⟩, fun h => absurd h (by simp)⟩, by (repeat' (first | (with_reducible exact Below.refl _ _) | (with_reducible refine Below.alloc ?_ ?_ _) | (with_reducible refine Below.drew ?_) | (with_reducible refine below_drewN' ?_ _) | (with_reducible refine Below.setCell ?_ ?_ _) | (with_reducible refine Below.trans ?_ (Below.mono (by assumption) ?_)) | go_size))⟩
  · rw [if_pos rfl]
    have hpq := H3.out rfl
    clear H3
    go_enter Try.func38, Try.ntmps38
    go_wp2_with (first | (go_at_call 72; (with_reducible refine (H1.out _).mono ?_); rintro e w' ⟨rfl, rfl⟩) | (go_at_call 73; (with_reducible refine (expand_any _ _ _ hpq.1 hpq.2).mono ?_); rintro e w1 ⟨⟨v, rfl, hown⟩, hb1⟩; have HO := Lib.hid hown; clear hown))
    go_returns
    obtain ⟨A, c, rfl, hI, hW⟩ := owns_ISl HO.out
    exact ⟨⟨A, c, rfl, hI, hW⟩, hb1⟩
theorem specExpandFraction_any (p q : Int) (w : World) : Calls Try.prog 37 #[.int .i64 p, .int .i64 q] w fun e w' =>
    (∃ A c, e = .returned (.tuple #[.slice A (expR p q).1.length c, .int .i64 (expR p q).2]) ∧ ISl w' A (expR p q).1.length (expR p q).1 ∧ WSl w.heap.size w' A (expR p q).1.length) ∧ Below w.heap.size w w' := by
  have h1 := fun W => l01Fits_any p W
  have h2 := fun W => l01In_any q 1 1000000 W
  have h3 := fun (h : (coB p && inB q 1 1000000) = true) => (by simp only [Bool.and_eq_true, coB_iff, inB_iff] at h; exact h : (-1000000 ≤ p ∧ p ≤ 1000000) ∧ 1 ≤ q ∧ q ≤ 1000000)
  unfold expR
  obtain ⟨y, ey⟩ : ∃ y, coB p = y := ⟨_, rfl⟩
  obtain ⟨z, ez⟩ : ∃ z, inB q 1 1000000 = z := ⟨_, rfl⟩
  rw [ey] at h1 h3 ⊢
  rw [ez] at h2 h3 ⊢
  have H1 := Lib.hid h1
  have H2 := Lib.hid h2
  have H3 := Lib.hid h3
  clear h1 ey h3 h2 ez
  cases y <;> cases z
  · rw [if_neg (by decide)]
    go_enter Try.func37, Try.ntmps37
    go_wp2_with (first | (go_at_call 69; (with_reducible refine (H1.out _).mono ?_); rintro e w' ⟨rfl, rfl⟩) | (go_at_call 70; (with_reducible refine (H2.out _).mono ?_); rintro e w' ⟨rfl, rfl⟩))
    go_returns
    exact ⟨⟨none, 0, rfl, ⟨rfl, fun h => absurd h (by simp)⟩, fun h => absurd h (by simp)⟩, by (repeat' (first | (with_reducible exact Below.refl _ _) | (with_reducible refine Below.alloc ?_ ?_ _) | (with_reducible refine Below.drew ?_) | (with_reducible refine below_drewN' ?_ _) | (with_reducible refine Below.setCell ?_ ?_ _) | (with_reducible refine Below.trans ?_ (Below.mono (by assumption) ?_)) | go_size))⟩
  · rw [if_neg (by decide)]
    go_enter Try.func37, Try.ntmps37
    go_wp2_with (first | (go_at_call 69; (with_reducible refine (H1.out _).mono ?_); rintro e w' ⟨rfl, rfl⟩) | (go_at_call 70; (with_reducible refine (H2.out _).mono ?_); rintro e w' ⟨rfl, rfl⟩))
    go_returns
    exact ⟨⟨none, 0, rfl, ⟨rfl, fun h => absurd h (by simp)⟩, fun h => absurd h (by simp)⟩, by (repeat' (first | (with_reducible exact Below.refl _ _) | (with_reducible refine Below.alloc ?_ ?_ _) | (with_reducible refine Below.drew ?_) | (with_reducible refine below_drewN' ?_ _) | (with_reducible refine Below.setCell ?_ ?_ _) | (with_reducible refine Below.trans ?_ (Below.mono (by assumption) ?_)) | go_size))⟩
  · rw [if_neg (by decide)]
    go_enter Try.func37, Try.ntmps37
    go_wp2_with (first | (go_at_call 69; (with_reducible refine (H1.out _).mono ?_); rintro e w' ⟨rfl, rfl⟩) | (go_at_call 70; (with_reducible refine (H2.out _).mono ?_); rintro e w' ⟨rfl, rfl⟩))
    go_returns
    exact ⟨⟨none, 0, rfl, ⟨rfl, fun h => absurd h (by simp)⟩, fun h => absurd h (by simp)⟩, by (repeat' (first | (with_reducible exact Below.refl _ _) | (with_reducible refine Below.alloc ?_ ?_ _) | (with_reducible refine Below.drew ?_) | (with_reducible refine below_drewN' ?_ _) | (with_reducible refine Below.setCell ?_ ?_ _) | (with_reducible refine Below.trans ?_ (Below.mono (by assumption) ?_)) | go_size))⟩
  · rw [if_pos (by decide)]
    have hpq := H3.out rfl
    clear H3
    go_enter Try.func37, Try.ntmps37
    go_wp2_with (first | (go_at_call 69; (with_reducible refine (H1.out _).mono ?_); rintro e w' ⟨rfl, rfl⟩) | (go_at_call 70; (with_reducible refine (H2.out _).mono ?_); rintro e w' ⟨rfl, rfl⟩) | (go_at_call 71; (with_reducible refine (l01Expand_any _ _ _ hpq.1 hpq.2).mono ?_); rintro e w1 ⟨⟨v, rfl, hown⟩, hb1⟩; have HO := Lib.hid hown; clear hown))
    go_returns
    obtain ⟨A, c, rfl, hI, hW⟩ := owns_ISl HO.out
    exact ⟨⟨A, c, rfl, hI, hW⟩, hb1⟩
end Go.Proofs.Ytoldicmobenhaaa
