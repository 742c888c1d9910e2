/-
  The corner of an expansion: the program, the reference, the law. Condition: the rows' reach.
-/
import Derived.Test.YtoldicmobenhaaaCby
namespace Go.Proofs.Ytoldicmobenhaaa
open Go.RowKit Go.Shelf
set_option maxHeartbeats 2000000
theorem post_gen' {P : Program} {fn : Func} {R : Ending → World → Prop} {ex : Exit} {a : Act} {W : World} {G : World → Prop} (hF : G W) (h : ∀ w2, G w2 → bodyPost P fn R ex a w2) : bodyPost P fn R ex a W := h W hF
def cornB (xs : List Int) : Bool := decide (xs.length % 2 = 1) && decide (xs.length ≤ 60) && allI coB xs
def cornF (xs : List Int) : Int × Int × Int × Int × Int := if cornB xs = true then ofF xs else (0, 0, 0, 0, 2)
theorem cornF_2 {xs : List Int} (h : cornB xs = false) : cornF xs = (0, 0, 0, 0, 2) := by simp [cornF, h]
theorem cornF_o {xs : List Int} (h : cornB xs = true) : cornF xs = ofF xs := by simp [cornF, h]
theorem implCorner_any (A : Option Addr) (n c : Nat) (xs : List Int) (w : World) (h : ISl w A n xs) (hn : n ≤ 1048576) : Calls Try.prog 43 #[.slice A n c] w fun e w' =>
    e = .returned (.tuple #[.agg #[.int .i64 (cornF xs).1, .int .i64 (cornF xs).2.1, .int .i64 (cornF xs).2.2.1, .int .i64 (cornF xs).2.2.2.1], .int .i64 (cornF xs).2.2.2.2]) ∧ Below w.heap.size w w' := by
  have hnx := h.1
  have hC := fun W hW => ContainsCo_any A n c xs W hW (by omega)
  have f2 := @cornF_2 xs
  have fo := @cornF_o xs
  have hcb : cornB xs = (decide (n % 2 = 1) && decide (n ≤ 60) && allI coB xs) := by rw [cornB, hnx]
  rw [hcb] at f2 fo
  obtain ⟨z, hz⟩ : ∃ z, allI coB xs = z := ⟨_, rfl⟩
  rw [hz] at hC f2 fo
  obtain ⟨R, eR⟩ : ∃ R, cornF xs = R := ⟨_, rfl⟩
  rw [eR] at f2 fo ⊢
  have HH := Lib.hid h
  have F2 := Lib.hid f2
  have FO := Lib.hid fo
  have HC := Lib.hid hC
  have HN := Lib.hid hnx
  have HN2 := Lib.hid hn
  clear f2 fo eR hC hcb h hnx hz
  go_enter Try.func43, Try.ntmps43
  go_wp2_with fail
  refine (HC.out _ ?_).mono ?_
  · exact HH.out.keep (by (repeat' (first | (with_reducible exact Below.refl _ _) | (with_reducible refine Below.alloc ?_ ?_ _) | (with_reducible refine Below.drew ?_) | (with_reducible refine below_drewN' ?_ _) | (with_reducible refine Below.setCell ?_ ?_ _) | (with_reducible refine Below.trans ?_ (Below.mono (by assumption) ?_)) | go_size)))
  rintro e w1 ⟨rfl, rfl⟩
  cases z
  · obtain rfl := F2.out (by simp)
    go_wp2
    all_goals (first | (go_returns; exact ⟨rfl, by (repeat' (first | (with_reducible exact Below.refl _ _) | (with_reducible refine Below.alloc ?_ ?_ _) | (with_reducible refine Below.drew ?_) | (with_reducible refine below_drewN' ?_ _) | (with_reducible refine Below.setCell ?_ ?_ _) | (with_reducible refine Below.trans ?_ (Below.mono (by assumption) ?_)) | go_size))⟩) | go_goals)
  · rcases Nat.mod_two_eq_zero_or_one n with hm | hm
    · obtain rfl := F2.out (by simp [hm])
      have htm : (n : Int).tmod 2 = 0 := by rw [Int.tmod_eq_emod_of_nonneg (by omega)]; omega
      go_wp2
      all_goals (first | (go_returns; exact ⟨rfl, by (repeat' (first | (with_reducible exact Below.refl _ _) | (with_reducible refine Below.alloc ?_ ?_ _) | (with_reducible refine Below.drew ?_) | (with_reducible refine below_drewN' ?_ _) | (with_reducible refine Below.setCell ?_ ?_ _) | (with_reducible refine Below.trans ?_ (Below.mono (by assumption) ?_)) | go_size))⟩) | go_goals)
    · have htm : (n : Int).tmod 2 = 1 := by rw [Int.tmod_eq_emod_of_nonneg (by omega)]; omega
      by_cases h60 : n ≤ 60
      · have hRo := FO.out (by simp [hm, h60])
        clear FO F2
        have hi60 : ¬ (60 < (n : Int)) := by omega
        go_wp2_with fail
        have hof := fun W hW => ofList_any A n c xs W hW HN2.out (by omega)
        obtain ⟨⟨a1, a2, a3, a4, a5⟩, hR2⟩ : ∃ r, ofF xs = r := ⟨_, rfl⟩
        simp only [hR2] at hof hRo
        subst hRo
        clear hR2
        refine (hof _ (HH.out.keep (by (repeat' (first | (with_reducible exact Below.refl _ _) | (with_reducible refine Below.alloc ?_ ?_ _) | (with_reducible refine Below.drew ?_) | (with_reducible refine below_drewN' ?_ _) | (with_reducible refine Below.setCell ?_ ?_ _) | (with_reducible refine Below.trans ?_ (Below.mono (by assumption) ?_)) | go_size))))).mono ?_
        clear hof
        rintro e w2 ⟨rfl, hb2⟩
        have c0 : w2.cell? ⟨w.heap.size, 0, none⟩ = some (.int .i64 0) := cell_keep hb2 (by go_simp)
        have c1 : w2.cell? ⟨w.heap.size, 1, none⟩ = some (.int .i64 0) := cell_keep hb2 (by go_simp)
        have c2 : w2.cell? ⟨w.heap.size, 2, none⟩ = some (.int .i64 0) := cell_keep hb2 (by go_simp)
        have c3 : w2.cell? ⟨w.heap.size, 3, none⟩ = some (.int .i64 0) := cell_keep hb2 (by go_simp)
        have d0 : w2.frozen? ⟨w.heap.size, 0, none⟩ = false := (hb2.frozen (p := ⟨w.heap.size, 0, none⟩) (by simp)).trans (by go_simp)
        have d1 : w2.frozen? ⟨w.heap.size, 1, none⟩ = false := (hb2.frozen (p := ⟨w.heap.size, 1, none⟩) (by simp)).trans (by go_simp)
        have d2 : w2.frozen? ⟨w.heap.size, 2, none⟩ = false := (hb2.frozen (p := ⟨w.heap.size, 2, none⟩) (by simp)).trans (by go_simp)
        have d3 : w2.frozen? ⟨w.heap.size, 3, none⟩ = false := (hb2.frozen (p := ⟨w.heap.size, 3, none⟩) (by simp)).trans (by go_simp)
        have hb3 : Below w.heap.size w w2 := Below.trans (by (repeat' (first | (with_reducible exact Below.refl _ _) | (with_reducible refine Below.alloc ?_ ?_ _) | (with_reducible refine Below.drew ?_) | (with_reducible refine below_drewN' ?_ _) | (with_reducible refine Below.setCell ?_ ?_ _) | (with_reducible refine Below.trans ?_ (Below.mono (by assumption) ?_)) | go_size))) (hb2.mono (by simp))
        have HB := Lib.hid hb3
        clear hb3 hb2
        go_wp2
        refine post_gen' (G := fun W2 => Below w.heap.size w W2 ∧ W2.cell? ⟨w.heap.size, 0, none⟩ = some (.int .i64 a1) ∧ W2.cell? ⟨w.heap.size, 1, none⟩ = some (.int .i64 a2) ∧ W2.cell? ⟨w.heap.size, 2, none⟩ = some (.int .i64 a3) ∧ W2.cell? ⟨w.heap.size, 3, none⟩ = some (.int .i64 a4)) ⟨by (repeat' (first | (with_reducible exact HB.out) | (with_reducible refine below_beyond ?_ (Nat.le_refl _)))), by repeat' (first | (with_reducible assumption) | (with_reducible refine set_here0 ?_) | (with_reducible refine keep_seto (by decide) ?_) | (with_reducible refine keep_setx (by omega) ?_)), by repeat' (first | (with_reducible assumption) | (with_reducible refine set_here0 ?_) | (with_reducible refine keep_seto (by decide) ?_) | (with_reducible refine keep_setx (by omega) ?_)), by repeat' (first | (with_reducible assumption) | (with_reducible refine set_here0 ?_) | (with_reducible refine keep_seto (by decide) ?_) | (with_reducible refine keep_setx (by omega) ?_)), by repeat' (first | (with_reducible assumption) | (with_reducible refine set_here0 ?_) | (with_reducible refine keep_seto (by decide) ?_) | (with_reducible refine keep_setx (by omega) ?_))⟩ (fun W2 h2 => ?_)
        obtain ⟨hB2, g0, g1, g2, g3⟩ := h2
        refine bodyPost_ret (by simp [results, Try.f43, go_sem, g0, g1, g2, g3]) rfl ⟨rfl, hB2⟩
      · obtain rfl := F2.out (by simp [h60])
        have hi60 : 60 < (n : Int) := by omega
        go_wp2
        all_goals (first | (go_returns; exact ⟨rfl, by (repeat' (first | (with_reducible exact Below.refl _ _) | (with_reducible refine Below.alloc ?_ ?_ _) | (with_reducible refine Below.drew ?_) | (with_reducible refine below_drewN' ?_ _) | (with_reducible refine Below.setCell ?_ ?_ _) | (with_reducible refine Below.trans ?_ (Below.mono (by assumption) ?_)) | go_size))⟩) | go_goals)
theorem specOfList_any (A : Option Addr) (n c : Nat) (xs : List Int) (w : World) (h : ISl w A n xs) (hn : n ≤ 1048576) (h0 : 0 < n) : Calls Try.prog 79 #[.slice A n c] w fun e w' =>
    e = .returned (.tuple #[.agg #[.int .i64 (ofF xs).1, .int .i64 (ofF xs).2.1, .int .i64 (ofF xs).2.2.1, .int .i64 (ofF xs).2.2.2.1], .int .i64 (ofF xs).2.2.2.2]) ∧ Below w.heap.size w w' := by
  obtain ⟨rfl, hx⟩ := h
  obtain ⟨b, off, rfl, hb, hr⟩ := hx h0
  have hall := upto_bk_map xs
  have hpre := fun k hk => upto_bk_prefix xs (k := k) hk
  have f3 := @ofF_3 xs
  have f5 := @ofF_5 xs
  have f0 := @ofF_0 xs
  obtain ⟨R, eR⟩ : ∃ R, ofF xs = R := ⟨_, rfl⟩
  rw [eR] at f3 f5 f0 ⊢
  have HA := Lib.hid hall
  have HPR := Lib.hid hpre
  have F3 := Lib.hid f3
  have F5 := Lib.hid (fun (p q : Int) (h : foldC xs.reverse 1 0 = (p, q, true)) => f5 h)
  have F0 := Lib.hid (fun (p q : Int) (h : foldC xs.reverse 1 0 = (p, q, true)) => f0 h)
  have HR := Lib.hid hr
  clear eR f3 f5 f0 hr hx hall hpre
  go_enter Try.func79, Try.ntmps79
  go_wp2
  go_loopw [4, 5, 6] (fun pv qv i wr => ∃ (j : Nat) (p q : Int), j ≤ xs.length ∧ pv = .int .i64 p ∧ qv = .int .i64 q ∧ i = .int .i64 ((xs.length : Int) - 1 - j) ∧ foldC ((upto (bk xs) j).map (·.2)) 1 0 = (p, q, true) ∧
      (wr.cell? ⟨w.heap.size, 0, none⟩ = some (.int .i64 0) ∧ wr.cell? ⟨w.heap.size, 1, none⟩ = some (.int .i64 0) ∧ wr.cell? ⟨w.heap.size, 2, none⟩ = some (.int .i64 0) ∧ wr.cell? ⟨w.heap.size, 3, none⟩ = some (.int .i64 0)) ∧ (wr.frozen? ⟨w.heap.size, 0, none⟩ = false ∧ wr.frozen? ⟨w.heap.size, 1, none⟩ = false ∧ wr.frozen? ⟨w.heap.size, 2, none⟩ = false ∧ wr.frozen? ⟨w.heap.size, 3, none⟩ = false) ∧ Below w.heap.size w wr) (fun _ _ i _ => (intOf i + 1).toNat)
  case atStart => exact ⟨0, 1, 0, Nat.zero_le _, rfl, rfl, by congr 1; omega, rfl, by (repeat' apply And.intro) <;> go_simp, by (repeat' apply And.intro) <;> go_simp, by (repeat' (first | (with_reducible exact Below.refl _ _) | (with_reducible refine Below.alloc ?_ ?_ _) | (with_reducible refine Below.drew ?_) | (with_reducible refine below_drewN' ?_ _) | (with_reducible refine Below.setCell ?_ ?_ _) | (with_reducible refine Below.trans ?_ (Below.mono (by assumption) ?_)) | go_size))⟩
  case round =>
    obtain ⟨j, p, q, hj, rfl, rfl, rfl, hf, ⟨c0, c1, c2, c3⟩, ⟨d0, d1, d2, d3⟩, hB⟩ := hrel
    by_cases hlt : j < xs.length
    · obtain ⟨d, hd⟩ : ∃ d : Nat, d = xs.length - 1 - j := ⟨_, rfl⟩
      have hdi : (xs.length : Int) - 1 - j = (d : Int) := by omega
      have hdl : d < xs.length := by omega
      have h1 := cell_keep hB (HR.out d hdl)
      have hbk : (bk xs j).2 = xs[d]?.getD 0 := by rw [bk, hd]
      obtain ⟨x, hx⟩ : ∃ x, xs[d]?.getD 0 = x := ⟨_, rfl⟩
      rw [hx] at h1 hbk
      have hs := foldC_snoc x _ _ _ _ _ hf
      rw [show (upto (bk xs) j).map (·.2) ++ [x] = (upto (bk xs) (j + 1)).map (·.2) by rw [upto_succ _ j, List.map_append, ← hbk]; rfl] at hs
      obtain ⟨np, hnp⟩ : ∃ np, wrap64 (wrap64 (x * p) + q) = np := ⟨_, rfl⟩
      rw [hnp] at hs
      have hc1 := fun W => l01Fits_any np W
      obtain ⟨z1, hz1⟩ : ∃ z, coB np = z := ⟨_, rfl⟩
      rw [hz1] at hc1 hs
      have HS := Lib.hid hs
      have HC1 := Lib.hid hc1
      have HDI := Lib.hid hdi
      have HLT := Lib.hid hlt
      have HB := Lib.hid hB
      have hd0 : (0 : Int) ≤ (d : Int) := by omega
      have hd1 : (d : Int) < (xs.length : Int) := by omega
      rw [hdi]
      have hfail : foldC ((upto (bk xs) (j + 1)).map (·.2)) 1 0 = (0, 0, false) → R = (0, 0, 0, 0, 3) := fun hh => by
        obtain ⟨l2, hl2⟩ := HPR.out (j + 1) (by omega)
        have := foldC_fail l2 _ _ _ hh
        rw [hl2] at this
        exact F3.out this
      have HF := Lib.hid hfail
      clear hfail hs hc1 hz1 hf hbk hx hdi hd
      cases z1 <;> go_wp2_with (first | (go_at_call 69; (with_reducible refine (HC1.out _).mono ?_); rintro e w' ⟨rfl, rfl⟩))
      · obtain rfl := HF.out (by simpa using HS.out)
        refine post_gen' (G := fun W2 => Below w.heap.size w W2 ∧ W2.cell? ⟨w.heap.size, 0, none⟩ = some (.int .i64 0) ∧ W2.cell? ⟨w.heap.size, 1, none⟩ = some (.int .i64 0) ∧ W2.cell? ⟨w.heap.size, 2, none⟩ = some (.int .i64 0) ∧ W2.cell? ⟨w.heap.size, 3, none⟩ = some (.int .i64 0)) ⟨by (repeat' (first | (with_reducible exact HB.out) | (with_reducible refine below_beyond ?_ (Nat.le_refl _)))), by repeat' (first | (with_reducible assumption) | (with_reducible refine set_here0 ?_) | (with_reducible refine keep_seto (by decide) ?_) | (with_reducible refine keep_setx (by omega) ?_)), by repeat' (first | (with_reducible assumption) | (with_reducible refine set_here0 ?_) | (with_reducible refine keep_seto (by decide) ?_) | (with_reducible refine keep_setx (by omega) ?_)), by repeat' (first | (with_reducible assumption) | (with_reducible refine set_here0 ?_) | (with_reducible refine keep_seto (by decide) ?_) | (with_reducible refine keep_setx (by omega) ?_)), by repeat' (first | (with_reducible assumption) | (with_reducible refine set_here0 ?_) | (with_reducible refine keep_seto (by decide) ?_) | (with_reducible refine keep_setx (by omega) ?_))⟩ (fun W2 h2 => ?_)
        obtain ⟨hB2, g0, g1, g2, g3⟩ := h2
        refine bodyPost_ret (by simp [results, Try.f79, go_sem, g0, g1, g2, g3]) rfl ⟨rfl, hB2⟩
      · go_roundw
        case rel => exact ⟨j + 1, np, p, by have := HLT.out; omega, rfl, rfl, by rw [← HDI.out]; congr 1; omega, by simpa using HS.out, ⟨c0, c1, c2, c3⟩, ⟨d0, d1, d2, d3⟩, HB.out⟩
        case measure => simp [intOf]
    · obtain rfl : j = xs.length := by omega
      have hz : (xs.length : Int) - 1 - (xs.length : Int) = -1 := by omega
      rw [HA.out] at hf
      rw [hz]
      have f5 := F5.out _ _ hf
      have f0 := F0.out _ _ hf
      have HB := Lib.hid hB
      clear hB hf
      by_cases hp : p = 0
      · obtain rfl := f5 hp
        clear f0 f5
        go_wp2
        refine post_gen' (G := fun W2 => Below w.heap.size w W2 ∧ W2.cell? ⟨w.heap.size, 0, none⟩ = some (.int .i64 0) ∧ W2.cell? ⟨w.heap.size, 1, none⟩ = some (.int .i64 0) ∧ W2.cell? ⟨w.heap.size, 2, none⟩ = some (.int .i64 0) ∧ W2.cell? ⟨w.heap.size, 3, none⟩ = some (.int .i64 0)) ⟨by (repeat' (first | (with_reducible exact HB.out) | (with_reducible refine below_beyond ?_ (Nat.le_refl _)))), by repeat' (first | (with_reducible assumption) | (with_reducible refine set_here0 ?_) | (with_reducible refine keep_seto (by decide) ?_) | (with_reducible refine keep_setx (by omega) ?_)), by repeat' (first | (with_reducible assumption) | (with_reducible refine set_here0 ?_) | (with_reducible refine keep_seto (by decide) ?_) | (with_reducible refine keep_setx (by omega) ?_)), by repeat' (first | (with_reducible assumption) | (with_reducible refine set_here0 ?_) | (with_reducible refine keep_seto (by decide) ?_) | (with_reducible refine keep_setx (by omega) ?_)), by repeat' (first | (with_reducible assumption) | (with_reducible refine set_here0 ?_) | (with_reducible refine keep_seto (by decide) ?_) | (with_reducible refine keep_setx (by omega) ?_))⟩ (fun W2 h2 => ?_)
        obtain ⟨hB2, g0, g1, g2, g3⟩ := h2
        refine bodyPost_ret (by simp [results, Try.f79, go_sem, g0, g1, g2, g3]) rfl ⟨rfl, hB2⟩
      · obtain rfl := f0 hp
        clear f0 f5
        go_wp2
        refine post_gen' (G := fun W2 => Below w.heap.size w W2 ∧ W2.cell? ⟨w.heap.size, 0, none⟩ = some (.int .i64 1) ∧ W2.cell? ⟨w.heap.size, 1, none⟩ = some (.int .i64 0) ∧ W2.cell? ⟨w.heap.size, 2, none⟩ = some (.int .i64 q) ∧ W2.cell? ⟨w.heap.size, 3, none⟩ = some (.int .i64 p)) ⟨by (repeat' (first | (with_reducible exact HB.out) | (with_reducible refine below_beyond ?_ (Nat.le_refl _)))), by repeat' (first | (with_reducible assumption) | (with_reducible refine set_here0 ?_) | (with_reducible refine keep_seto (by decide) ?_) | (with_reducible refine keep_setx (by omega) ?_)), by repeat' (first | (with_reducible assumption) | (with_reducible refine set_here0 ?_) | (with_reducible refine keep_seto (by decide) ?_) | (with_reducible refine keep_setx (by omega) ?_)), by repeat' (first | (with_reducible assumption) | (with_reducible refine set_here0 ?_) | (with_reducible refine keep_seto (by decide) ?_) | (with_reducible refine keep_setx (by omega) ?_)), by repeat' (first | (with_reducible assumption) | (with_reducible refine set_here0 ?_) | (with_reducible refine keep_seto (by decide) ?_) | (with_reducible refine keep_setx (by omega) ?_))⟩ (fun W2 h2 => ?_)
        obtain ⟨hB2, g0, g1, g2, g3⟩ := h2
        refine bodyPost_ret (by simp [results, Try.f79, go_sem, g0, g1, g2, g3]) rfl ⟨rfl, hB2⟩
theorem specCorner_any (A : Option Addr) (n c : Nat) (xs : List Int) (w : World) (h : ISl w A n xs) (hn : n ≤ 1048576) : Calls Try.prog 42 #[.slice A n c] w fun e w' =>
    e = .returned (.tuple #[.agg #[.int .i64 (cornF xs).1, .int .i64 (cornF xs).2.1, .int .i64 (cornF xs).2.2.1, .int .i64 (cornF xs).2.2.2.1], .int .i64 (cornF xs).2.2.2.2]) ∧ Below w.heap.size w w' := by
  have hnx := h.1
  have f2 := @cornF_2 xs
  have fo := @cornF_o xs
  have hcb : cornB xs = (decide (n % 2 = 1) && decide (n ≤ 60) && allI coB xs) := by rw [cornB, hnx]
  rw [hcb] at f2 fo
  obtain ⟨R, eR⟩ : ∃ R, cornF xs = R := ⟨_, rfl⟩
  rw [eR] at f2 fo ⊢
  have HH := Lib.hid h
  have F2 := Lib.hid f2
  have FO := Lib.hid fo
  have HN := Lib.hid hnx
  have HN2 := Lib.hid hn
  clear f2 fo eR hcb h hnx
  go_enter Try.func42, Try.ntmps42
  rcases Nat.mod_two_eq_zero_or_one n with hm | hm
  · obtain rfl := F2.out (by simp [hm])
    have htm : (n : Int).tmod 2 = 0 := by rw [Int.tmod_eq_emod_of_nonneg (by omega)]; omega
    go_wp2
    all_goals (first | (go_returns; exact ⟨rfl, by (repeat' (first | (with_reducible exact Below.refl _ _) | (with_reducible refine Below.alloc ?_ ?_ _) | (with_reducible refine Below.drew ?_) | (with_reducible refine below_drewN' ?_ _) | (with_reducible refine Below.setCell ?_ ?_ _) | (with_reducible refine Below.trans ?_ (Below.mono (by assumption) ?_)) | go_size))⟩) | go_goals)
  · have htm : (n : Int).tmod 2 = 1 := by rw [Int.tmod_eq_emod_of_nonneg (by omega)]; omega
    by_cases h60 : n ≤ 60
    · have hi60 : ¬ (60 < (n : Int)) := by omega
      have hi61 : (n : Int) ≤ 60 := by omega
      have H60 := Lib.hid h60
      have HM := Lib.hid hm
      have h0 : 0 < n := by omega
      have H0 := Lib.hid h0
      obtain ⟨b, off, rfl, hb, hr⟩ := HH.out.2 h0
      have HR := Lib.hid hr
      clear hr
      go_wp2
      go_loopw [4] (fun i wr => (wr.cell? ⟨w.heap.size, 0, none⟩ = some (.int .i64 0) ∧ wr.cell? ⟨w.heap.size, 1, none⟩ = some (.int .i64 0) ∧ wr.cell? ⟨w.heap.size, 2, none⟩ = some (.int .i64 0) ∧ wr.cell? ⟨w.heap.size, 3, none⟩ = some (.int .i64 0)) ∧ (wr.frozen? ⟨w.heap.size, 0, none⟩ = false ∧ wr.frozen? ⟨w.heap.size, 1, none⟩ = false ∧ wr.frozen? ⟨w.heap.size, 2, none⟩ = false ∧ wr.frozen? ⟨w.heap.size, 3, none⟩ = false) ∧ Below w.heap.size w wr ∧ ∃ k : Nat, k ≤ n ∧ i = .int .i64 k ∧ ∀ j, j < k → coB (xs[j]?.getD 0) = true) (fun i _ => n - (intOf i).toNat)
      case atStart => exact ⟨by (repeat' apply And.intro) <;> go_simp, by (repeat' apply And.intro) <;> go_simp, by (repeat' (first | (with_reducible exact Below.refl _ _) | (with_reducible refine Below.alloc ?_ ?_ _) | (with_reducible refine Below.drew ?_) | (with_reducible refine below_drewN' ?_ _) | (with_reducible refine Below.setCell ?_ ?_ _) | (with_reducible refine Below.trans ?_ (Below.mono (by assumption) ?_)) | go_size)), 0, Nat.zero_le _, rfl, fun j hj => absurd hj (by omega)⟩
      case round =>
        obtain ⟨⟨c0, c1, c2, c3⟩, ⟨d0, d1, d2, d3⟩, hB, k, hk, rfl, hq⟩ := hrel
        by_cases hlt : k < n
        · have h1 := cell_keep hB (HR.out k (by rw [← HN.out]; exact hlt))
          obtain ⟨x, hp⟩ : ∃ p, xs[k]?.getD 0 = p := ⟨_, rfl⟩
          rw [hp] at h1
          have HQ := Lib.hid hq
          have HP := Lib.hid hp
          have HB := Lib.hid hB
          clear hp hq
          have hi0 : (0 : Int) ≤ (k : Int) := by omega
          have hi1 : (k : Int) < (n : Int) := by omega
          have hco := fun W => l01Fits_any x W
          obtain ⟨z, hz⟩ : ∃ z, coB x = z := ⟨_, rfl⟩
          rw [hz] at hco
          have HCO := Lib.hid hco
          have HZ := Lib.hid hz
          have HLT := Lib.hid hlt
          clear hco hz
          cases z <;> go_wp2_with (first | (go_at_call 69; (with_reducible refine (HCO.out _).mono ?_); rintro e w' ⟨rfl, rfl⟩))
          · obtain rfl := F2.out (by rw [all_false (k := k) (by rw [← HN.out]; exact HLT.out) (by rw [HP.out]; exact HZ.out)]; simp)
            refine post_gen' (G := fun W2 => Below w.heap.size w W2 ∧ W2.cell? ⟨w.heap.size, 0, none⟩ = some (.int .i64 0) ∧ W2.cell? ⟨w.heap.size, 1, none⟩ = some (.int .i64 0) ∧ W2.cell? ⟨w.heap.size, 2, none⟩ = some (.int .i64 0) ∧ W2.cell? ⟨w.heap.size, 3, none⟩ = some (.int .i64 0)) ⟨by (repeat' (first | (with_reducible exact HB.out) | (with_reducible refine below_beyond ?_ (Nat.le_refl _)))), by repeat' (first | (with_reducible assumption) | (with_reducible refine set_here0 ?_) | (with_reducible refine keep_seto (by decide) ?_) | (with_reducible refine keep_setx (by omega) ?_)), by repeat' (first | (with_reducible assumption) | (with_reducible refine set_here0 ?_) | (with_reducible refine keep_seto (by decide) ?_) | (with_reducible refine keep_setx (by omega) ?_)), by repeat' (first | (with_reducible assumption) | (with_reducible refine set_here0 ?_) | (with_reducible refine keep_seto (by decide) ?_) | (with_reducible refine keep_setx (by omega) ?_)), by repeat' (first | (with_reducible assumption) | (with_reducible refine set_here0 ?_) | (with_reducible refine keep_seto (by decide) ?_) | (with_reducible refine keep_setx (by omega) ?_))⟩ (fun W2 h2 => ?_)
            obtain ⟨hB2, g0, g1, g2, g3⟩ := h2
            refine bodyPost_ret (by simp [results, Try.f42, go_sem, g0, g1, g2, g3]) rfl ⟨rfl, hB2⟩
          · go_roundw
            case rel => exact ⟨⟨c0, c1, c2, c3⟩, ⟨d0, d1, d2, d3⟩, HB.out, k + 1, by have := HLT.out; omega, by go_num, fun j hj => by
              by_cases hjk : j < k
              · exact HQ.out j hjk
              · obtain rfl : j = k := by omega
                rw [HP.out]; exact HZ.out⟩
            case measure => simp [intOf]; omega
        · obtain rfl : k = n := by omega
          have hRo := FO.out (by rw [all_true (fun j hj => hq j (by rw [HN.out]; exact hj))]; simp [HM.out, H60.out])
          have hof := fun W hW => specOfList_any (some ⟨b, off, none⟩) k c xs W hW HN2.out H0.out
          obtain ⟨⟨a1, a2, a3, a4, a5⟩, hR2⟩ : ∃ r, ofF xs = r := ⟨_, rfl⟩
          simp only [hR2] at hof hRo
          subst hRo
          clear hR2 FO F2 hq
          go_wp2_with fail
          refine (hof _ (HH.out.keep hB)).mono ?_
          clear hof
          rintro e w2 ⟨rfl, hb2⟩
          have e0 := cell_keep hb2 c0
          have e1 := cell_keep hb2 c1
          have e2 := cell_keep hb2 c2
          have e3 := cell_keep hb2 c3
          have hwl : w.heap.size < wr.heap.size := World.block_lt_of_cell? wr _ c0
          have n0 := (hb2.frozen (p := ⟨w.heap.size, 0, none⟩) hwl).trans d0
          have n1 := (hb2.frozen (p := ⟨w.heap.size, 1, none⟩) hwl).trans d1
          have n2 := (hb2.frozen (p := ⟨w.heap.size, 2, none⟩) hwl).trans d2
          have n3 := (hb2.frozen (p := ⟨w.heap.size, 3, none⟩) hwl).trans d3
          have hlt2 : w.heap.size < w2.heap.size := Nat.lt_of_lt_of_le hwl hb2.size
          have hb3 : Below w.heap.size w w2 := hB.trans (hb2.mono hB.size)
          have hle2 : w.heap.size ≤ w2.heap.size := Nat.le_of_lt hlt2
          have HB := Lib.hid hb3
          clear c0 c1 c2 c3 d0 d1 d2 d3 hb2 hB hwl hb3
          go_wp2
          refine post_gen' (G := fun W2 => Below w.heap.size w W2 ∧ W2.cell? ⟨w.heap.size, 0, none⟩ = some (.int .i64 a1) ∧ W2.cell? ⟨w.heap.size, 1, none⟩ = some (.int .i64 a2) ∧ W2.cell? ⟨w.heap.size, 2, none⟩ = some (.int .i64 a3) ∧ W2.cell? ⟨w.heap.size, 3, none⟩ = some (.int .i64 a4)) ⟨by (repeat' (first | (with_reducible exact HB.out) | (with_reducible refine below_beyond ?_ (Nat.le_refl _)) | (with_reducible refine below_beyond ?_ (Nat.le_of_lt hlt2)) | (with_reducible refine Below.alloc ?_ (by simp only [World.size_setCell]; exact hle2) _))), by repeat' (first | (with_reducible assumption) | (with_reducible refine set_here0 ?_) | (with_reducible refine keep_seto (by decide) ?_) | (with_reducible refine keep_setx (by omega) ?_) | (with_reducible refine cell_al _ ?_)), by repeat' (first | (with_reducible assumption) | (with_reducible refine set_here0 ?_) | (with_reducible refine keep_seto (by decide) ?_) | (with_reducible refine keep_setx (by omega) ?_) | (with_reducible refine cell_al _ ?_)), by repeat' (first | (with_reducible assumption) | (with_reducible refine set_here0 ?_) | (with_reducible refine keep_seto (by decide) ?_) | (with_reducible refine keep_setx (by omega) ?_) | (with_reducible refine cell_al _ ?_)), by repeat' (first | (with_reducible assumption) | (with_reducible refine set_here0 ?_) | (with_reducible refine keep_seto (by decide) ?_) | (with_reducible refine keep_setx (by omega) ?_) | (with_reducible refine cell_al _ ?_))⟩ (fun W2 h2 => ?_)
          obtain ⟨hB2, g0, g1, g2, g3⟩ := h2
          refine bodyPost_ret (by simp [results, Try.f42, go_sem, g0, g1, g2, g3]) rfl ⟨rfl, hB2⟩
    · obtain rfl := F2.out (by simp [h60])
      have hi60 : 60 < (n : Int) := by omega
      go_wp2
      all_goals (first | (go_returns; exact ⟨rfl, by (repeat' (first | (with_reducible exact Below.refl _ _) | (with_reducible refine Below.alloc ?_ ?_ _) | (with_reducible refine Below.drew ?_) | (with_reducible refine below_drewN' ?_ _) | (with_reducible refine Below.setCell ?_ ?_ _) | (with_reducible refine Below.trans ?_ (Below.mono (by assumption) ?_)) | go_size))⟩) | go_goals)
theorem FnExactCornerOfExpansion_walk (A : Option Addr) (n c : Nat) (xs : List Int) (w : World) (h0 : ISl w A n xs ∧ (∀ z ∈ xs, -9223372036854775808 ≤ z ∧ z ≤ 9223372036854775807) ∧ n ≤ c ∧ c ≤ maxLen) :
    Calls Try.prog 13 #[.slice A n c] w fun e w' => e = .returned (.bool true) ∧ Below w.heap.size w w' := by
  have h := h0.1
  clear h0
  have HH := Lib.hid h
  clear h
  by_cases hn : n ≤ 1048576
  · have hni : ¬ (1048576 < (n : Int)) := by omega
    obtain ⟨⟨a1, a2, a3, a4, a5⟩, hR⟩ : ∃ R, cornF xs = R := ⟨_, rfl⟩
    have HR := Lib.hid hR
    clear hR
    go_enter Try.func13, Try.ntmps13
    go_wp2_with fail
    refine (toInt64S_any A n c xs _ HH.out hn).mono ?_
    rintro e w1 ⟨⟨A1, rfl, hI1⟩, hb1⟩
    have k1 := hb1
    go_wp2_with fail
    refine (specCorner_any A1 n n xs _ hI1 hn).mono ?_
    rintro e w2 ⟨rfl, hb2⟩
    rw [HR.out]
    have k2 := k1.trans (hb2.mono k1.size)
    have k2s := k2.size
    go_wp2_with fail
    refine (toInt64S_any A n c xs _ (HH.out.keep (k2.alloc k2s _)) hn).mono ?_
    rintro e w3 ⟨⟨A3, rfl, hI3⟩, hb3⟩
    have c0 : w3.cell? ⟨w2.heap.size, 0, none⟩ = some (.int .i64 a1) := cell_keep hb3 (by go_simp)
    have c1 : w3.cell? ⟨w2.heap.size, 1, none⟩ = some (.int .i64 a2) := cell_keep hb3 (by go_simp)
    have c2 : w3.cell? ⟨w2.heap.size, 2, none⟩ = some (.int .i64 a3) := cell_keep hb3 (by go_simp)
    have c3 : w3.cell? ⟨w2.heap.size, 3, none⟩ = some (.int .i64 a4) := cell_keep hb3 (by go_simp)
    have k3 : Below w.heap.size w w3 := (k2.alloc k2s _).trans (hb3.mono (by simp; omega))
    go_wp2_with fail
    refine (implCorner_any A3 n n xs _ hI3 hn).mono ?_
    rintro e w4 ⟨rfl, hb4⟩
    rw [HR.out]
    have j0 := cell_keep hb4 c0
    have j1 := cell_keep hb4 c1
    have j2 := cell_keep hb4 c2
    have j3 := cell_keep hb4 c3
    have k4 := k3.trans (hb4.mono k3.size)
    have HJ0 := Lib.hid j0
    have q0 := cell_al (.cells #[.int .i64 a1, .int .i64 a2, .int .i64 a3, .int .i64 a4] 62) j0
    have q1 := cell_al (.cells #[.int .i64 a1, .int .i64 a2, .int .i64 a3, .int .i64 a4] 62) j1
    have q2 := cell_al (.cells #[.int .i64 a1, .int .i64 a2, .int .i64 a3, .int .i64 a4] 62) j2
    have q3 := cell_al (.cells #[.int .i64 a1, .int .i64 a2, .int .i64 a3, .int .i64 a4] 62) j3
    have k4s := k4.size
    have k4a := k4.alloc k4s (.cells #[.int .i64 a1, .int .i64 a2, .int .i64 a3, .int .i64 a4] 62)
    have i4 := (hI3.keep hb4).keep ((Below.refl _ w4).alloc (Nat.le_refl _) (.cells #[.int .i64 a1, .int .i64 a2, .int .i64 a3, .int .i64 a4] 62))
    clear c0 c1 c2 c3 j0 j1 j2 j3
    go_wp2_with fail
    refine (eqCorner_same a1 a2 a3 a4 _).mono ?_
    rintro e w5 ⟨rfl, hb5⟩
    have k5 := k4a.trans (hb5.mono k4a.size)
    have i5 := i4.keep hb5
    go_wp2_with fail
    refine (toInt64S_any A n c xs _ (HH.out.keep k5) hn).mono ?_
    rintro e w6 ⟨⟨A5, rfl, hI5⟩, hb6⟩
    have k6 := k5.trans (hb6.mono k5.size)
    go_wp2_with fail
    refine (eqInt64S_same A3 A5 n n n xs _ (i5.keep hb6) hI5 (by omega)).mono ?_
    rintro e w7 ⟨rfl, hb7⟩
    have k7 := k6.trans (hb7.mono k6.size)
    go_wp2
    go_returns
    exact ⟨rfl, k7⟩
  · have hni : 1048576 < (n : Int) := by omega
    go_enter Try.func13, Try.ntmps13
    go_wp2
    go_returns
    exact ⟨rfl, Below.refl _ _⟩
end Go.Proofs.Ytoldicmobenhaaa
