/-
  Contracts of functions on spots, cones and tetrahedra. No condition but what stands in each.
-/
import Derived.Test.YtoldicmobenhaaaCpu
import Derived.Deep.RegionHeld3
import Derived.Deep.CutRange
import Derived.Deep.DeepCutAuto
namespace Go.Proofs.Ytoldicmobenhaaa
open Go.RowKit
set_option maxHeartbeats 400000
theorem volG_bd (a b c d e f g h i : Int) : -9223372036854775808 ≤ volG a b c d e f g h i ∧ volG a b c d e f g h i ≤ 9223372036854775807 := wrap64_bd _
theorem spots1_any (a b c : Int) (w : World) : Calls Try.prog 92 #[.agg #[.int .i64 a, .int .i64 b, .int .i64 c]] w fun e w' => e = .returned (.bool (!spotB a b c)) ∧ Below w.heap.size w w' := by
  go_enter Try.func92, Try.ntmps92
  go_wp2_with (first | (go_at_call 52; (with_reducible refine (IsSpot_any _ _ _ _).mono ?_); rintro e w1 ⟨rfl, hb1⟩; obtain ⟨hc1, hf1, hz1, hn1⟩ := bstep 1 w hb1 (by go_size)))
  go_returns
  exact ⟨rfl, by (repeat' (first | (with_reducible exact Below.refl _ _) | (with_reducible refine Below.alloc ?_ ?_ _) | (with_reducible refine Below.drew ?_) | (with_reducible refine below_drewN' ?_ _) | (with_reducible refine Below.setCell ?_ ?_ _) | (with_reducible refine Below.trans ?_ (Below.mono (by assumption) ?_)) | go_size))⟩
theorem IndexFuncS_any (A : Option Addr) (n c : Nat) (xs : List (Int × Int × Int)) (w : World) (h : SSl w A n xs) (hn : n ≤ 281474976710656) :
    Calls Try.prog 103 #[.slice A n c, .func (.func 92) #[] #[]] w fun e w' => (∃ v : Int, (0 ≤ v ↔ allS xs = false) ∧ e = .returned (.int .i64 v)) ∧ Below w.heap.size w w' := by
  obtain ⟨rfl, hx⟩ := h
  go_enter Try.func103, Try.ntmps103
  go_wp2
  go_loopw [8] (fun i wr => Below w.heap.size w wr ∧ ∃ k : Nat, k ≤ xs.length ∧ i = .int .i64 k ∧ ∀ j, j < k → spB (xs[j]?.getD (0, 0, 0)) = true) (fun i _ => xs.length - (intOf i).toNat)
  case atStart => exact ⟨Below.refl _ _, 0, Nat.zero_le _, rfl, fun j hj => absurd hj (by omega)⟩
  case round =>
    obtain ⟨hB, k, hk, rfl, hall⟩ := hrel
    have HA := Lib.hid hall
    clear hall
    by_cases hlt : k < xs.length
    · obtain ⟨b, off, rfl, hb, hr⟩ := hx (by omega)
      have h1 := cell_keep hB (hr k hlt).1
      have h2 := cell_keep hB (hr k hlt).2.1
      have h3 := cell_keep hB (hr k hlt).2.2
      obtain ⟨⟨x, y, v⟩, hp⟩ : ∃ p, xs[k]?.getD (0, 0, 0) = p := ⟨_, rfl⟩
      rw [hp] at h1 h2 h3
      have HP := Lib.hid hp
      clear hp hr hx hb
      obtain ⟨z, hz⟩ : ∃ z, spotB x y v = z := ⟨_, rfl⟩
      have hcon := fun W => spots1_any x y v W
      rw [hz] at hcon
      have HZ := Lib.hid hz
      have HC := Lib.hid hcon
      clear hz hcon
      cases z
      · go_wp2_with (first | (go_at_call 92; (with_reducible refine (HC.out _).mono ?_); rintro e w1 ⟨rfl, hb1⟩))
        go_returns
        exact ⟨⟨k, ⟨fun _ => allS_false hlt (by rw [HP.out]; exact HZ.out), fun _ => by omega⟩, rfl⟩, hB.trans (hb1.mono hB.size)⟩
      · go_wp2_with (first | (go_at_call 92; (with_reducible refine (HC.out _).mono ?_); rintro e w1 ⟨rfl, hb1⟩))
        go_roundw
        case rel =>
          refine ⟨hB.trans (hb1.mono hB.size), k + 1, by omega, by go_num, fun j hj => ?_⟩
          by_cases hjk : j < k
          · exact HA.out j hjk
          · obtain rfl : j = k := by omega
            rw [HP.out]
            exact HZ.out
        case measure => simp [intOf]; omega
    · go_wp2
      go_returns
      exact ⟨⟨-1, ⟨fun h => absurd h (by omega), fun h => by rw [allS_true fun j hj => HA.out j (by omega)] at h; cases h⟩, rfl⟩, hB⟩
theorem ContainsS_any (A : Option Addr) (n c : Nat) (xs : List (Int × Int × Int)) (w : World) (h : SSl w A n xs) (hn : n ≤ 281474976710656) :
    Calls Try.prog 91 #[.slice A n c, .func (.func 92) #[] #[]] w fun e w' => e = .returned (.bool (!allS xs)) ∧ Below w.heap.size w w' := by
  have H := Lib.hid h
  have HN := Lib.hid hn
  clear h hn
  go_enter Try.func91, Try.ntmps91
  go_wp2_with (first | (go_at_call 103; (with_reducible refine (IndexFuncS_any _ _ _ xs _ H.out HN.out).mono ?_); rintro e w1 ⟨⟨v, hv, rfl⟩, hb1⟩; have HV := Lib.hid hv; clear hv))
  go_returns
  refine ⟨ret_bool ?_, hb1⟩
  have hv := HV.out
  cases ha : allS xs <;> simp_all
theorem spots_any (A : Option Addr) (n c : Nat) (xs : List (Int × Int × Int)) (w : World) (h : SSl w A n xs) (hn : n ≤ 281474976710656) :
    Calls Try.prog 55 #[.slice A n c] w fun e w' => e = .returned (.bool (allS xs)) ∧ Below w.heap.size w w' := by
  have H := Lib.hid h
  have HN := Lib.hid hn
  clear h hn
  go_enter Try.func55, Try.ntmps55
  go_wp2_with (first | (go_at_call 91; (with_reducible refine (ContainsS_any _ _ _ xs _ H.out HN.out).mono ?_); rintro e w1 ⟨rfl, hb1⟩))
  go_returns
  exact ⟨ret_bool (by simp), hb1⟩
theorem cross_any (a b c d e f : Int) (w : World) : Calls Try.prog 64 #[.agg #[.int .i64 a, .int .i64 b, .int .i64 c], .agg #[.int .i64 d, .int .i64 e, .int .i64 f]] w fun en w' => en = .returned (.agg #[.int .i64 (crossG a b c d e f).1, .int .i64 (crossG a b c d e f).2.1, .int .i64 (crossG a b c d e f).2.2]) ∧ Below w.heap.size w w' := by
  go_enter Try.func64, Try.ntmps64
  go_wp2
  go_returns
  exact ⟨rfl, by (repeat' (first | (with_reducible exact Below.refl _ _) | (with_reducible refine Below.alloc ?_ ?_ _) | (with_reducible refine Below.drew ?_) | (with_reducible refine below_drewN' ?_ _) | (with_reducible refine Below.setCell ?_ ?_ _) | (with_reducible refine Below.trans ?_ (Below.mono (by assumption) ?_)) | go_size))⟩
theorem volume_any (a b c d e f g h i : Int) (w : World) : Calls Try.prog 56 #[.agg #[.int .i64 a, .int .i64 b, .int .i64 c], .agg #[.int .i64 d, .int .i64 e, .int .i64 f], .agg #[.int .i64 g, .int .i64 h, .int .i64 i]] w fun en w' => en = .returned (.int .i64 (volG a b c d e f g h i)) ∧ Below w.heap.size w w' := by
  go_enter Try.func56, Try.ntmps56
  go_wp2_with (first | (go_at_call 64; (with_reducible refine (cross_any _ _ _ _ _ _ _).mono ?_); rintro e w1 ⟨rfl, hb1⟩; obtain ⟨hc1, hf1, hz1, hn1⟩ := bstep 3 w hb1 (by go_size)))
  go_returns
  exact ⟨rfl, by (repeat' (first | (with_reducible exact Below.refl _ _) | (with_reducible refine Below.alloc ?_ ?_ _) | (with_reducible refine Below.drew ?_) | (with_reducible refine below_drewN' ?_ _) | (with_reducible refine Below.setCell ?_ ?_ _) | (with_reducible refine Below.trans ?_ (Below.mono (by assumption) ?_)) | go_size))⟩
theorem l08Cross_any (a b c d e f : Int) (w : World) : Calls Try.prog 63 #[.agg #[.int .i64 a, .int .i64 b, .int .i64 c], .agg #[.int .i64 d, .int .i64 e, .int .i64 f]] w fun en w' => en = .returned (.agg #[.int .i64 (crossG a b c d e f).1, .int .i64 (crossG a b c d e f).2.1, .int .i64 (crossG a b c d e f).2.2]) ∧ Below w.heap.size w w' := by
  go_enter Try.func63, Try.ntmps63
  go_wp2
  refine wp_loop_rounds 4 ?_
  repeat any_goals (rw [rounds_succ]; go_wp2; try (go_region_held3 (fun w' => w'.cell? ⟨w.heap.size, 0, none⟩ = some (.int .i64 a) ∧ w'.cell? ⟨w.heap.size, 1, none⟩ = some (.int .i64 b) ∧ w'.cell? ⟨w.heap.size, 2, none⟩ = some (.int .i64 c) ∧ w'.cell? ⟨w.heap.size + 1, 0, none⟩ = some (.int .i64 d) ∧ w'.cell? ⟨w.heap.size + 1, 1, none⟩ = some (.int .i64 e) ∧ w'.cell? ⟨w.heap.size + 1, 2, none⟩ = some (.int .i64 f)) (first | go_keep) (fail); go_wp2))
  refine bodyPost_ret (by simp [results, Try.results63, go_sem, *]; try rfl) rfl ?_
  exact ⟨by simp [crossG], by (repeat' (first | (with_reducible exact Below.refl _ _) | (with_reducible refine Below.alloc ?_ ?_ _) | (with_reducible refine Below.drew ?_) | (with_reducible refine below_drewN' ?_ _) | (with_reducible refine Below.setCell ?_ ?_ _) | (with_reducible refine Below.trans ?_ (Below.mono (by assumption) ?_)) | go_size))⟩
theorem l08Dot_any (a b c d e f : Int) (w : World) : Calls Try.prog 67 #[.agg #[.int .i64 a, .int .i64 b, .int .i64 c], .agg #[.int .i64 d, .int .i64 e, .int .i64 f]] w fun en w' => en = .returned (.int .i64 (dotG a b c d e f)) ∧ Below w.heap.size w w' := by
  go_enter Try.func67, Try.ntmps67
  go_wp2
  go_returns
  exact ⟨rfl, by (repeat' (first | (with_reducible exact Below.refl _ _) | (with_reducible refine Below.alloc ?_ ?_ _) | (with_reducible refine Below.drew ?_) | (with_reducible refine below_drewN' ?_ _) | (with_reducible refine Below.setCell ?_ ?_ _) | (with_reducible refine Below.trans ?_ (Below.mono (by assumption) ?_)) | go_size))⟩
theorem l08Det_any (a b c d e f g h i : Int) (w : World) : Calls Try.prog 54 #[.agg #[.int .i64 a, .int .i64 b, .int .i64 c], .agg #[.int .i64 d, .int .i64 e, .int .i64 f], .agg #[.int .i64 g, .int .i64 h, .int .i64 i]] w fun en w' => en = .returned (.int .i64 (volG a b c d e f g h i)) ∧ Below w.heap.size w w' := by
  go_enter Try.func54, Try.ntmps54
  go_wp2
  (refine wp_region_beyond (w.heap.size + 3) (by kernel_rfl) (by kernel_rfl) (by go_size) (fun hBe => ?_); (repeat (first | go_big_quiet_step ((first | (go_at_call 63; exact beyond_of (l08Cross_any _ _ _ _ _ _ _)) | (go_at_call 67; exact beyond_of (l08Dot_any _ _ _ _ _ _ _)))) | quiet_step ((first | (go_at_call 63; exact beyond_of (l08Cross_any _ _ _ _ _ _ _)) | (go_at_call 67; exact beyond_of (l08Dot_any _ _ _ _ _ _ _)))))); refine wpQuiet_nil ?_; clear hBe; intro w1 hb1; obtain ⟨hc1, hf1, hz1, hn1⟩ := bstep 3 w hb1 (by go_size))
  go_wp2
  go_returns
  exact ⟨rfl, by (repeat' (first | (with_reducible exact Below.refl _ _) | (with_reducible refine Below.alloc ?_ ?_ _) | (with_reducible refine Below.drew ?_) | (with_reducible refine below_drewN' ?_ _) | (with_reducible refine Below.setCell ?_ ?_ _) | (with_reducible refine Below.trans ?_ (Below.mono (by assumption) ?_)) | go_size))⟩
-- GENERATED by gencpc.py: what follows
theorem spots2_any (bb off cc : Nat) (a b c d e f : Int) (w : World) (h0 : w.cell? ⟨bb, off, none⟩ = some (.int .i64 a)) (h1 : w.cell? ⟨bb, off + 1, none⟩ = some (.int .i64 b)) (h2 : w.cell? ⟨bb, off + 2, none⟩ = some (.int .i64 c)) (h3 : w.cell? ⟨bb, off + 3, none⟩ = some (.int .i64 d)) (h4 : w.cell? ⟨bb, off + 4, none⟩ = some (.int .i64 e)) (h5 : w.cell? ⟨bb, off + 5, none⟩ = some (.int .i64 f)) : Calls Try.prog 55 #[.slice (some ⟨bb, off, none⟩) 2 cc] w fun en w' => en = .returned (.bool (sp2B a b c d e f)) ∧ Below w.heap.size w w' := by
  have h := spots_any _ _ cc [(a, b, c), (d, e, f)] w (ssl2 h0 h1 h2 h3 h4 h5) (by omega)
  rw [allS2] at h
  exact h
theorem spots3_any (bb off cc : Nat) (a b c d e f g h i : Int) (w : World) (h0 : w.cell? ⟨bb, off, none⟩ = some (.int .i64 a)) (h1 : w.cell? ⟨bb, off + 1, none⟩ = some (.int .i64 b)) (h2 : w.cell? ⟨bb, off + 2, none⟩ = some (.int .i64 c)) (h3 : w.cell? ⟨bb, off + 3, none⟩ = some (.int .i64 d)) (h4 : w.cell? ⟨bb, off + 4, none⟩ = some (.int .i64 e)) (h5 : w.cell? ⟨bb, off + 5, none⟩ = some (.int .i64 f)) (h6 : w.cell? ⟨bb, off + 6, none⟩ = some (.int .i64 g)) (h7 : w.cell? ⟨bb, off + 7, none⟩ = some (.int .i64 h)) (h8 : w.cell? ⟨bb, off + 8, none⟩ = some (.int .i64 i)) : Calls Try.prog 55 #[.slice (some ⟨bb, off, none⟩) 3 cc] w fun en w' => en = .returned (.bool (sp3B a b c d e f g h i)) ∧ Below w.heap.size w w' := by
  have h := spots_any _ _ cc [(a, b, c), (d, e, f), (g, h, i)] w (ssl3 h0 h1 h2 h3 h4 h5 h6 h7 h8) (by omega)
  rw [allS3] at h
  exact h
theorem spots4_any (bb off cc : Nat) (a b c d e f g h i j k l : Int) (w : World) (h0 : w.cell? ⟨bb, off, none⟩ = some (.int .i64 a)) (h1 : w.cell? ⟨bb, off + 1, none⟩ = some (.int .i64 b)) (h2 : w.cell? ⟨bb, off + 2, none⟩ = some (.int .i64 c)) (h3 : w.cell? ⟨bb, off + 3, none⟩ = some (.int .i64 d)) (h4 : w.cell? ⟨bb, off + 4, none⟩ = some (.int .i64 e)) (h5 : w.cell? ⟨bb, off + 5, none⟩ = some (.int .i64 f)) (h6 : w.cell? ⟨bb, off + 6, none⟩ = some (.int .i64 g)) (h7 : w.cell? ⟨bb, off + 7, none⟩ = some (.int .i64 h)) (h8 : w.cell? ⟨bb, off + 8, none⟩ = some (.int .i64 i)) (h9 : w.cell? ⟨bb, off + 9, none⟩ = some (.int .i64 j)) (h10 : w.cell? ⟨bb, off + 10, none⟩ = some (.int .i64 k)) (h11 : w.cell? ⟨bb, off + 11, none⟩ = some (.int .i64 l)) : Calls Try.prog 55 #[.slice (some ⟨bb, off, none⟩) 4 cc] w fun en w' => en = .returned (.bool (sp4B a b c d e f g h i j k l)) ∧ Below w.heap.size w w' := by
  have h := spots_any _ _ cc [(a, b, c), (d, e, f), (g, h, i), (j, k, l)] w (ssl4 h0 h1 h2 h3 h4 h5 h6 h7 h8 h9 h10 h11) (by omega)
  rw [allS4] at h
  exact h
theorem slength_any (a b c : Int) (w : World) : Calls Try.prog 53 #[.agg #[.int .i64 a, .int .i64 b, .int .i64 c]] w fun en w' => en = .returned (.int .i64 (gcdG (gcdG a b) c)) ∧ Below w.heap.size w w' := by
  go_enter Try.func53, Try.ntmps53
  go_wp2
  (refine wp_region_beyond (w.heap.size + 1) (by kernel_rfl) (by kernel_rfl) (by go_size) (fun hBe => ?_); (repeat (first | go_big_quiet_step ((first | (go_at_call 90; exact beyond_of (gcd_any _ _ _)))) | quiet_step ((first | (go_at_call 90; exact beyond_of (gcd_any _ _ _)))))); refine wpQuiet_nil ?_; clear hBe; intro w1 hb1; obtain ⟨hc1, hf1, hz1, hn1⟩ := bstep 1 w hb1 (by go_size))
  go_wp2
  go_returns
  exact ⟨rfl, by (repeat' (first | (with_reducible exact Below.refl _ _) | (with_reducible refine Below.alloc ?_ ?_ _) | (with_reducible refine Below.drew ?_) | (with_reducible refine below_drewN' ?_ _) | (with_reducible refine Below.setCell ?_ ?_ _) | (with_reducible refine Below.trans ?_ (Below.mono (by assumption) ?_)) | go_size))⟩
theorem l08Length_any (a b c : Int) (w : World) : Calls Try.prog 51 #[.agg #[.int .i64 a, .int .i64 b, .int .i64 c]] w fun en w' => en = .returned (.int .i64 (gcdG (gcdG a b) c)) ∧ Below w.heap.size w w' := by
  go_enter Try.func51, Try.ntmps51
  go_wp2
  (refine wp_region_beyond (w.heap.size + 1) (by kernel_rfl) (by kernel_rfl) (by go_size) (fun hBe => ?_); (repeat (first | go_big_quiet_step ((first | (go_at_call 88; exact beyond_same (l01Gcd_any _ _ _)))) | quiet_step ((first | (go_at_call 88; exact beyond_same (l01Gcd_any _ _ _)))))); refine wpQuiet_nil ?_; clear hBe; intro w1 hb1; obtain ⟨hc1, hf1, hz1, hn1⟩ := bstep 1 w hb1 (by go_size))
  go_wp2
  go_returns
  exact ⟨rfl, by (repeat' (first | (with_reducible exact Below.refl _ _) | (with_reducible refine Below.alloc ?_ ?_ _) | (with_reducible refine Below.drew ?_) | (with_reducible refine below_drewN' ?_ _) | (with_reducible refine Below.setCell ?_ ?_ _) | (with_reducible refine Below.trans ?_ (Below.mono (by assumption) ?_)) | go_size))⟩
def slenR (a b c : Int) : Int × Int := if spotB a b c then (gcdG (gcdG a b) c, 0) else (0, 1)
theorem implLenS_any (a b c : Int) (w : World) : Calls Try.prog 17 #[.agg #[.int .i64 a, .int .i64 b, .int .i64 c]] w fun en w' => en = .returned (.tuple #[.int .i64 (slenR a b c).1, .int .i64 (slenR a b c).2]) ∧ Below w.heap.size w w' := by
  obtain ⟨p1, hp1⟩ : ∃ zz, spotB a b c = zz := ⟨_, rfl⟩; have cc1 := fun W => IsSpot_any a b c W; rw [hp1] at cc1; have C1 := Lib.hid cc1; have P1 := Lib.hid hp1; clear cc1 hp1
  cases p1
  all_goals
    go_enter Try.func17, Try.ntmps17
    go_wp2_with (first | (go_at_call 52; (with_reducible refine (C1.out _).mono ?_); rintro e w1 ⟨rfl, hb1⟩; obtain ⟨hc1, hf1, hz1, hn1⟩ := bstep 1 w hb1 (by go_size)) | (go_at_call 53; (with_reducible refine (slength_any _ _ _ _).mono ?_); rintro e w1 ⟨rfl, hb1⟩; obtain ⟨hc1, hf1, hz1, hn1⟩ := bstep 1 w hb1 (by go_size)))
    go_returns
    exact ⟨by rw [slenR, P1.out]; rfl, by (repeat' (first | (with_reducible exact Below.refl _ _) | (with_reducible refine Below.alloc ?_ ?_ _) | (with_reducible refine Below.drew ?_) | (with_reducible refine below_drewN' ?_ _) | (with_reducible refine Below.setCell ?_ ?_ _) | (with_reducible refine Below.trans ?_ (Below.mono (by assumption) ?_)) | go_size))⟩
theorem specLenS_any (a b c : Int) (w : World) : Calls Try.prog 15 #[.agg #[.int .i64 a, .int .i64 b, .int .i64 c]] w fun en w' => en = .returned (.tuple #[.int .i64 (slenR a b c).1, .int .i64 (slenR a b c).2]) ∧ Below w.heap.size w w' := by
  obtain ⟨p1, hp1⟩ : ∃ zz, spotB a b c = zz := ⟨_, rfl⟩; have cc1 := fun W => l08Spot_any a b c W; rw [hp1] at cc1; have C1 := Lib.hid cc1; have P1 := Lib.hid hp1; clear cc1 hp1
  cases p1
  all_goals
    go_enter Try.func15, Try.ntmps15
    go_wp2_with (first | (go_at_call 50; (with_reducible refine (C1.out _).mono ?_); rintro e w1 ⟨rfl, hb1⟩; obtain ⟨hc1, hf1, hz1, hn1⟩ := bstep 1 w hb1 (by go_size)) | (go_at_call 51; (with_reducible refine (l08Length_any _ _ _ _).mono ?_); rintro e w1 ⟨rfl, hb1⟩; obtain ⟨hc1, hf1, hz1, hn1⟩ := bstep 1 w hb1 (by go_size)))
    go_returns
    exact ⟨by rw [slenR, P1.out]; rfl, by (repeat' (first | (with_reducible exact Below.refl _ _) | (with_reducible refine Below.alloc ?_ ?_ _) | (with_reducible refine Below.drew ?_) | (with_reducible refine below_drewN' ?_ _) | (with_reducible refine Below.setCell ?_ ?_ _) | (with_reducible refine Below.trans ?_ (Below.mono (by assumption) ?_)) | go_size))⟩
def sdetR (a b c d e f g h i : Int) : Int × Int := if sp3B a b c d e f g h i then (volG a b c d e f g h i, 0) else (0, 1)
theorem implDetS_any (a b c d e f g h i : Int) (w : World) : Calls Try.prog 19 #[.agg #[.int .i64 a, .int .i64 b, .int .i64 c], .agg #[.int .i64 d, .int .i64 e, .int .i64 f], .agg #[.int .i64 g, .int .i64 h, .int .i64 i]] w fun en w' => en = .returned (.tuple #[.int .i64 (sdetR a b c d e f g h i).1, .int .i64 (sdetR a b c d e f g h i).2]) ∧ Below w.heap.size w w' := by
  obtain ⟨p1, hp1⟩ : ∃ zz, sp3B a b c d e f g h i = zz := ⟨_, rfl⟩; have cc1 := fun bb off cc W h0 h1 h2 h3 h4 h5 h6 h7 h8 => spots3_any bb off cc a b c d e f g h i W h0 h1 h2 h3 h4 h5 h6 h7 h8; rw [hp1] at cc1; have C1 := Lib.hid cc1; have P1 := Lib.hid hp1; clear cc1 hp1
  cases p1
  all_goals
    go_enter Try.func19, Try.ntmps19
    go_wp2_with (first | (go_at_call 55; (with_reducible refine (C1.out _ _ _ _ ?_ ?_ ?_ ?_ ?_ ?_ ?_ ?_ ?_).mono ?_); (iterate 9 (focus (go_simp; done))); rintro e w1 ⟨rfl, hb1⟩; obtain ⟨hc1, hf1, hz1, hn1⟩ := bstep 4 w hb1 (by go_size)) | (go_at_call 56; (with_reducible refine (volume_any _ _ _ _ _ _ _ _ _ _).mono ?_); rintro e w1 ⟨rfl, hb1⟩; obtain ⟨hc1, hf1, hz1, hn1⟩ := bstep 4 w hb1 (by go_size)))
    go_returns
    exact ⟨by rw [sdetR, P1.out]; rfl, by (repeat' (first | (with_reducible exact Below.refl _ _) | (with_reducible refine Below.alloc ?_ ?_ _) | (with_reducible refine Below.drew ?_) | (with_reducible refine below_drewN' ?_ _) | (with_reducible refine Below.setCell ?_ ?_ _) | (with_reducible refine Below.trans ?_ (Below.mono (by assumption) ?_)) | go_size))⟩
theorem specDetS_any (a b c d e f g h i : Int) (w : World) : Calls Try.prog 18 #[.agg #[.int .i64 a, .int .i64 b, .int .i64 c], .agg #[.int .i64 d, .int .i64 e, .int .i64 f], .agg #[.int .i64 g, .int .i64 h, .int .i64 i]] w fun en w' => en = .returned (.tuple #[.int .i64 (sdetR a b c d e f g h i).1, .int .i64 (sdetR a b c d e f g h i).2]) ∧ Below w.heap.size w w' := by
  obtain ⟨p1, hp1⟩ : ∃ zz, spotB a b c = zz := ⟨_, rfl⟩; have cc1 := fun W => l08Spot_any a b c W; rw [hp1] at cc1; have C1 := Lib.hid cc1; have P1 := Lib.hid hp1; clear cc1 hp1
  obtain ⟨p2, hp2⟩ : ∃ zz, spotB d e f = zz := ⟨_, rfl⟩; have cc2 := fun W => l08Spot_any d e f W; rw [hp2] at cc2; have C2 := Lib.hid cc2; have P2 := Lib.hid hp2; clear cc2 hp2
  obtain ⟨p3, hp3⟩ : ∃ zz, spotB g h i = zz := ⟨_, rfl⟩; have cc3 := fun W => l08Spot_any g h i W; rw [hp3] at cc3; have C3 := Lib.hid cc3; have P3 := Lib.hid hp3; clear cc3 hp3
  cases p1
  rotate_left
  cases p2
  rotate_left
  cases p3
  all_goals
    go_enter Try.func18, Try.ntmps18
    go_wp2_with (first | (go_at_call 50; (with_reducible refine (C1.out _).mono ?_); rintro e w1 ⟨rfl, hb1⟩; obtain ⟨hc1, hf1, hz1, hn1⟩ := bstep 3 w hb1 (by go_size)) | (go_at_call 50; (with_reducible refine (C2.out _).mono ?_); rintro e w1 ⟨rfl, hb1⟩; obtain ⟨hc1, hf1, hz1, hn1⟩ := bstep 3 w hb1 (by go_size)) | (go_at_call 50; (with_reducible refine (C3.out _).mono ?_); rintro e w1 ⟨rfl, hb1⟩; obtain ⟨hc1, hf1, hz1, hn1⟩ := bstep 3 w hb1 (by go_size)) | (go_at_call 54; (with_reducible refine (l08Det_any _ _ _ _ _ _ _ _ _ _).mono ?_); rintro e w1 ⟨rfl, hb1⟩; obtain ⟨hc1, hf1, hz1, hn1⟩ := bstep 3 w hb1 (by go_size)))
    go_returns
    exact ⟨by simp [sdetR, sp3B, P1.out, P2.out, P3.out], by (repeat' (first | (with_reducible exact Below.refl _ _) | (with_reducible refine Below.alloc ?_ ?_ _) | (with_reducible refine Below.drew ?_) | (with_reducible refine below_drewN' ?_ _) | (with_reducible refine Below.setCell ?_ ?_ _) | (with_reducible refine Below.trans ?_ (Below.mono (by assumption) ?_)) | go_size))⟩
theorem cdet_any (a b c d e f g h i : Int) (w : World) : Calls Try.prog 58 #[.agg #[.int .i64 a, .int .i64 b, .int .i64 c, .int .i64 d, .int .i64 e, .int .i64 f, .int .i64 g, .int .i64 h, .int .i64 i]] w fun en w' => en = .returned (.int .i64 (volG a b c d e f g h i)) ∧ Below w.heap.size w w' := by
  go_enter Try.func58, Try.ntmps58
  go_wp2_with (first | (go_at_call 56; (with_reducible refine (volume_any _ _ _ _ _ _ _ _ _ _).mono ?_); rintro e w1 ⟨rfl, hb1⟩; obtain ⟨hc1, hf1, hz1, hn1⟩ := bstep 1 w hb1 (by go_size)))
  go_returns
  exact ⟨rfl, by (repeat' (first | (with_reducible exact Below.refl _ _) | (with_reducible refine Below.alloc ?_ ?_ _) | (with_reducible refine Below.drew ?_) | (with_reducible refine below_drewN' ?_ _) | (with_reducible refine Below.setCell ?_ ?_ _) | (with_reducible refine Below.trans ?_ (Below.mono (by assumption) ?_)) | go_size))⟩
theorem implIsCone_any (a b c d e f g h i : Int) (w : World) : Calls Try.prog 22 #[.agg #[.int .i64 a, .int .i64 b, .int .i64 c, .int .i64 d, .int .i64 e, .int .i64 f, .int .i64 g, .int .i64 h, .int .i64 i]] w fun en w' => en = .returned (.bool (coneB a b c d e f g h i)) ∧ Below w.heap.size w w' := by
  obtain ⟨p1, hp1⟩ : ∃ zz, sp3B a b c d e f g h i = zz := ⟨_, rfl⟩; have cc1 := fun bb off cc W h0 h1 h2 h3 h4 h5 h6 h7 h8 => spots3_any bb off cc a b c d e f g h i W h0 h1 h2 h3 h4 h5 h6 h7 h8; rw [hp1] at cc1; have C1 := Lib.hid cc1; have P1 := Lib.hid hp1; clear cc1 hp1
  obtain ⟨p2, hp2⟩ : ∃ zz, volG a b c d e f g h i = zz := ⟨_, rfl⟩; have cc2 := fun W => cdet_any a b c d e f g h i W; rw [hp2] at cc2; have C2 := Lib.hid cc2; have P2 := Lib.hid hp2; clear cc2 hp2
  cases p1
  all_goals
    go_enter Try.func22, Try.ntmps22
    go_wp2_with (first | (go_at_call 55; (with_reducible refine (C1.out _ _ _ _ ?_ ?_ ?_ ?_ ?_ ?_ ?_ ?_ ?_).mono ?_); (iterate 9 (focus (go_simp; done))); rintro e w1 ⟨rfl, hb1⟩; obtain ⟨hc1, hf1, hz1, hn1⟩ := bstep 1 w hb1 (by go_size)) | (go_at_call 58; (with_reducible refine (C2.out _).mono ?_); rintro e w1 ⟨rfl, hb1⟩; obtain ⟨hc1, hf1, hz1, hn1⟩ := bstep 1 w hb1 (by go_size)))
    go_returns
    exact ⟨ret_bool (by simp [coneB, P1.out, P2.out]), by (repeat' (first | (with_reducible exact Below.refl _ _) | (with_reducible refine Below.alloc ?_ ?_ _) | (with_reducible refine Below.drew ?_) | (with_reducible refine below_drewN' ?_ _) | (with_reducible refine Below.setCell ?_ ?_ _) | (with_reducible refine Below.trans ?_ (Below.mono (by assumption) ?_)) | go_size))⟩
theorem l08Size_any (a b c d e f g h i : Int) (w : World) : Calls Try.prog 61 #[.agg #[.int .i64 a, .int .i64 b, .int .i64 c, .int .i64 d, .int .i64 e, .int .i64 f, .int .i64 g, .int .i64 h, .int .i64 i]] w fun en w' => en = .returned (.int .i64 (sizeG (volG a b c d e f g h i))) ∧ Below w.heap.size w w' := by
  obtain ⟨p2, hp2⟩ : ∃ zz, volG a b c d e f g h i = zz := ⟨_, rfl⟩; have cc2 := fun W => l08Det_any a b c d e f g h i W; rw [hp2] at cc2; have C2 := Lib.hid cc2; have P2 := Lib.hid hp2; clear cc2 hp2
  go_enter Try.func61, Try.ntmps61
  go_wp2_with (first | (go_at_call 54; (with_reducible refine (C2.out _).mono ?_); rintro e w1 ⟨rfl, hb1⟩; obtain ⟨hc1, hf1, hz1, hn1⟩ := bstep 1 w hb1 (by go_size)))
  all_goals
    go_returns
    exact ⟨ret_i64 (by rw [P2.out]; unfold sizeG; omega), by (repeat' (first | (with_reducible exact Below.refl _ _) | (with_reducible refine Below.alloc ?_ ?_ _) | (with_reducible refine Below.drew ?_) | (with_reducible refine below_drewN' ?_ _) | (with_reducible refine Below.setCell ?_ ?_ _) | (with_reducible refine Below.trans ?_ (Below.mono (by assumption) ?_)) | go_size))⟩
theorem l08Is_any (a b c d e f g h i : Int) (w : World) : Calls Try.prog 57 #[.agg #[.int .i64 a, .int .i64 b, .int .i64 c, .int .i64 d, .int .i64 e, .int .i64 f, .int .i64 g, .int .i64 h, .int .i64 i]] w fun en w' => en = .returned (.bool (coneB a b c d e f g h i)) ∧ Below w.heap.size w w' := by
  obtain ⟨p1, hp1⟩ : ∃ zz, spotB a b c = zz := ⟨_, rfl⟩; have cc1 := fun W => l08Spot_any a b c W; rw [hp1] at cc1; have C1 := Lib.hid cc1; have P1 := Lib.hid hp1; clear cc1 hp1
  obtain ⟨p2, hp2⟩ : ∃ zz, spotB d e f = zz := ⟨_, rfl⟩; have cc2 := fun W => l08Spot_any d e f W; rw [hp2] at cc2; have C2 := Lib.hid cc2; have P2 := Lib.hid hp2; clear cc2 hp2
  obtain ⟨p3, hp3⟩ : ∃ zz, spotB g h i = zz := ⟨_, rfl⟩; have cc3 := fun W => l08Spot_any g h i W; rw [hp3] at cc3; have C3 := Lib.hid cc3; have P3 := Lib.hid hp3; clear cc3 hp3
  have he := sizeG_ne0 (volG_bd a b c d e f g h i).1 (volG_bd a b c d e f g h i).2
  obtain ⟨q, hq⟩ : ∃ q, sizeG (volG a b c d e f g h i) = q := ⟨_, rfl⟩
  have hl := fun W => l08Size_any a b c d e f g h i W
  rw [hq] at he hl
  have HE := Lib.hid he
  have HL := Lib.hid hl
  clear he hl hq
  cases p1
  rotate_left
  cases p2
  rotate_left
  cases p3
  all_goals
    go_enter Try.func57, Try.ntmps57
    go_wp2_with (first | (go_at_call 50; (with_reducible refine (C1.out _).mono ?_); rintro e w1 ⟨rfl, hb1⟩; obtain ⟨hc1, hf1, hz1, hn1⟩ := bstep 1 w hb1 (by go_size)) | (go_at_call 50; (with_reducible refine (C2.out _).mono ?_); rintro e w1 ⟨rfl, hb1⟩; obtain ⟨hc1, hf1, hz1, hn1⟩ := bstep 1 w hb1 (by go_size)) | (go_at_call 50; (with_reducible refine (C3.out _).mono ?_); rintro e w1 ⟨rfl, hb1⟩; obtain ⟨hc1, hf1, hz1, hn1⟩ := bstep 1 w hb1 (by go_size)) | (go_at_call 61; (with_reducible refine (HL.out _).mono ?_); rintro e w1 ⟨rfl, hb1⟩; obtain ⟨hc1, hf1, hz1, hn1⟩ := bstep 1 w hb1 (by go_size)))
    go_returns
    exact ⟨ret_bool (by simp [coneB, sp3B, P1.out, P2.out, P3.out, HE.out]), by (repeat' (first | (with_reducible exact Below.refl _ _) | (with_reducible refine Below.alloc ?_ ?_ _) | (with_reducible refine Below.drew ?_) | (with_reducible refine below_drewN' ?_ _) | (with_reducible refine Below.setCell ?_ ?_ _) | (with_reducible refine Below.trans ?_ (Below.mono (by assumption) ?_)) | go_size))⟩
theorem specIsCone_any (a b c d e f g h i : Int) (w : World) : Calls Try.prog 20 #[.agg #[.int .i64 a, .int .i64 b, .int .i64 c, .int .i64 d, .int .i64 e, .int .i64 f, .int .i64 g, .int .i64 h, .int .i64 i]] w fun en w' => en = .returned (.bool (coneB a b c d e f g h i)) ∧ Below w.heap.size w w' := by
  go_enter Try.func20, Try.ntmps20
  go_wp2_with (first | (go_at_call 57; (with_reducible refine (l08Is_any _ _ _ _ _ _ _ _ _ _).mono ?_); rintro e w1 ⟨rfl, hb1⟩; obtain ⟨hc1, hf1, hz1, hn1⟩ := bstep 1 w hb1 (by go_size)))
  go_returns
  exact ⟨rfl, by (repeat' (first | (with_reducible exact Below.refl _ _) | (with_reducible refine Below.alloc ?_ ?_ _) | (with_reducible refine Below.drew ?_) | (with_reducible refine below_drewN' ?_ _) | (with_reducible refine Below.setCell ?_ ?_ _) | (with_reducible refine Below.trans ?_ (Below.mono (by assumption) ?_)) | go_size))⟩
def regR (a b c d e f g h i : Int) : Bool × Int := if coneB a b c d e f g h i then (sizeG (volG a b c d e f g h i) == 1, 0) else (false, 1)
theorem implReg_any (a b c d e f g h i : Int) (w : World) : Calls Try.prog 27 #[.agg #[.int .i64 a, .int .i64 b, .int .i64 c, .int .i64 d, .int .i64 e, .int .i64 f, .int .i64 g, .int .i64 h, .int .i64 i]] w fun en w' => en = .returned (.tuple #[.bool (regR a b c d e f g h i).1, .int .i64 (regR a b c d e f g h i).2]) ∧ Below w.heap.size w w' := by
  obtain ⟨p1, hp1⟩ : ∃ zz, coneB a b c d e f g h i = zz := ⟨_, rfl⟩; have cc1 := fun W => implIsCone_any a b c d e f g h i W; rw [hp1] at cc1; have C1 := Lib.hid cc1; have P1 := Lib.hid hp1; clear cc1 hp1
  cases p1
  all_goals
    go_enter Try.func27, Try.ntmps27
    go_wp2_with (first | (go_at_call 22; (with_reducible refine (C1.out _).mono ?_); rintro e w1 ⟨rfl, hb1⟩; obtain ⟨hc1, hf1, hz1, hn1⟩ := bstep 1 w hb1 (by go_size)) | (go_at_call 58; (with_reducible refine (cdet_any _ _ _ _ _ _ _ _ _ _).mono ?_); rintro e w1 ⟨rfl, hb1⟩; obtain ⟨hc1, hf1, hz1, hn1⟩ := bstep 1 w hb1 (by go_size)) | (go_at_call 62; (with_reducible refine (size_any _ _).mono ?_); rintro e w' ⟨rfl, rfl⟩))
    go_returns
    exact ⟨by rw [regR, P1.out]; rfl, by (repeat' (first | (with_reducible exact Below.refl _ _) | (with_reducible refine Below.alloc ?_ ?_ _) | (with_reducible refine Below.drew ?_) | (with_reducible refine below_drewN' ?_ _) | (with_reducible refine Below.setCell ?_ ?_ _) | (with_reducible refine Below.trans ?_ (Below.mono (by assumption) ?_)) | go_size))⟩
theorem specReg_any (a b c d e f g h i : Int) (w : World) : Calls Try.prog 26 #[.agg #[.int .i64 a, .int .i64 b, .int .i64 c, .int .i64 d, .int .i64 e, .int .i64 f, .int .i64 g, .int .i64 h, .int .i64 i]] w fun en w' => en = .returned (.tuple #[.bool (regR a b c d e f g h i).1, .int .i64 (regR a b c d e f g h i).2]) ∧ Below w.heap.size w w' := by
  obtain ⟨p1, hp1⟩ : ∃ zz, coneB a b c d e f g h i = zz := ⟨_, rfl⟩; have cc1 := fun W => l08Is_any a b c d e f g h i W; rw [hp1] at cc1; have C1 := Lib.hid cc1; have P1 := Lib.hid hp1; clear cc1 hp1
  cases p1
  all_goals
    go_enter Try.func26, Try.ntmps26
    go_wp2_with (first | (go_at_call 57; (with_reducible refine (C1.out _).mono ?_); rintro e w1 ⟨rfl, hb1⟩; obtain ⟨hc1, hf1, hz1, hn1⟩ := bstep 1 w hb1 (by go_size)) | (go_at_call 61; (with_reducible refine (l08Size_any _ _ _ _ _ _ _ _ _ _).mono ?_); rintro e w1 ⟨rfl, hb1⟩; obtain ⟨hc1, hf1, hz1, hn1⟩ := bstep 1 w hb1 (by go_size)))
    go_returns
    exact ⟨by rw [regR, P1.out]; rfl, by (repeat' (first | (with_reducible exact Below.refl _ _) | (with_reducible refine Below.alloc ?_ ?_ _) | (with_reducible refine Below.drew ?_) | (with_reducible refine below_drewN' ?_ _) | (with_reducible refine Below.setCell ?_ ?_ _) | (with_reducible refine Below.trans ?_ (Below.mono (by assumption) ?_)) | go_size))⟩
theorem splus_any (a b c d e f m : Int) (w : World) : Calls Try.prog 93 #[.agg #[.int .i64 a, .int .i64 b, .int .i64 c], .agg #[.int .i64 d, .int .i64 e, .int .i64 f], .int .i64 m] w fun en w' => en = .returned (.agg #[.int .i64 (splusG a b c d e f m).1, .int .i64 (splusG a b c d e f m).2.1, .int .i64 (splusG a b c d e f m).2.2]) ∧ Below w.heap.size w w' := by
  go_enter Try.func93, Try.ntmps93
  go_wp2
  refine bodyPost_ret (by simp [results, Try.results93, go_sem, *]; try rfl) rfl ?_
  exact ⟨rfl, by (repeat' (first | (with_reducible exact Below.refl _ _) | (with_reducible refine Below.alloc ?_ ?_ _) | (with_reducible refine Below.drew ?_) | (with_reducible refine below_drewN' ?_ _) | (with_reducible refine Below.setCell ?_ ?_ _) | (with_reducible refine Below.trans ?_ (Below.mono (by assumption) ?_)) | go_size))⟩
theorem l08Plus_any (a b c d e f m : Int) (w : World) : Calls Try.prog 66 #[.agg #[.int .i64 a, .int .i64 b, .int .i64 c], .agg #[.int .i64 d, .int .i64 e, .int .i64 f], .int .i64 m] w fun en w' => en = .returned (.agg #[.int .i64 (splusG a b c d e f m).1, .int .i64 (splusG a b c d e f m).2.1, .int .i64 (splusG a b c d e f m).2.2]) ∧ Below w.heap.size w w' := by
  go_enter Try.func66, Try.ntmps66
  go_wp2
  refine bodyPost_ret (by simp [results, Try.results66, go_sem, *]; try rfl) rfl ?_
  exact ⟨rfl, by (repeat' (first | (with_reducible exact Below.refl _ _) | (with_reducible refine Below.alloc ?_ ?_ _) | (with_reducible refine Below.drew ?_) | (with_reducible refine below_drewN' ?_ _) | (with_reducible refine Below.setCell ?_ ?_ _) | (with_reducible refine Below.trans ?_ (Below.mono (by assumption) ?_)) | go_size))⟩
theorem sless_any (a b c d e f : Int) (w : World) : Calls Try.prog 68 #[.agg #[.int .i64 a, .int .i64 b, .int .i64 c], .agg #[.int .i64 d, .int .i64 e, .int .i64 f]] w fun en w' => en = .returned (.agg #[.int .i64 (splusG a b c d e f (-1)).1, .int .i64 (splusG a b c d e f (-1)).2.1, .int .i64 (splusG a b c d e f (-1)).2.2]) ∧ Below w.heap.size w w' := by
  go_enter Try.func68, Try.ntmps68
  go_wp2_with (first | (go_at_call 93; (with_reducible refine (splus_any _ _ _ _ _ _ _ _).mono ?_); rintro e w1 ⟨rfl, hb1⟩; obtain ⟨hc1, hf1, hz1, hn1⟩ := bstep 3 w hb1 (by go_size)))
  refine bodyPost_ret (by simp [results, Try.results68, go_sem, *]; try rfl) rfl ?_
  exact ⟨rfl, by (repeat' (first | (with_reducible exact Below.refl _ _) | (with_reducible refine Below.alloc ?_ ?_ _) | (with_reducible refine Below.drew ?_) | (with_reducible refine below_drewN' ?_ _) | (with_reducible refine Below.setCell ?_ ?_ _) | (with_reducible refine Below.trans ?_ (Below.mono (by assumption) ?_)) | go_size))⟩
theorem tvolume_any (a b c d e f g h i j k l : Int) (w : World) : Calls Try.prog 60 #[.agg #[.int .i64 a, .int .i64 b, .int .i64 c, .int .i64 d, .int .i64 e, .int .i64 f, .int .i64 g, .int .i64 h, .int .i64 i, .int .i64 j, .int .i64 k, .int .i64 l]] w fun en w' => en = .returned (.int .i64 (tvolG a b c d e f g h i j k l)) ∧ Below w.heap.size w w' := by
  go_enter Try.func60, Try.ntmps60
  go_wp2
  (refine wp_region_beyond (w.heap.size + 1) (by kernel_rfl) (by kernel_rfl) (by go_size) (fun hBe => ?_); (repeat (first | go_big_quiet_step ((first | (go_at_call 68; exact beyond_of (sless_any _ _ _ _ _ _ _)) | (go_at_call 56; exact beyond_of (volume_any _ _ _ _ _ _ _ _ _ _)) | (go_at_call 62; exact beyond_same (size_any _ _)))) | quiet_step ((first | (go_at_call 68; exact beyond_of (sless_any _ _ _ _ _ _ _)) | (go_at_call 56; exact beyond_of (volume_any _ _ _ _ _ _ _ _ _ _)) | (go_at_call 62; exact beyond_same (size_any _ _)))))); refine wpQuiet_nil ?_; clear hBe; intro w1 hb1; obtain ⟨hc1, hf1, hz1, hn1⟩ := bstep 1 w hb1 (by go_size))
  go_wp2
  go_returns
  exact ⟨rfl, by (repeat' (first | (with_reducible exact Below.refl _ _) | (with_reducible refine Below.alloc ?_ ?_ _) | (with_reducible refine Below.drew ?_) | (with_reducible refine below_drewN' ?_ _) | (with_reducible refine Below.setCell ?_ ?_ _) | (with_reducible refine Below.trans ?_ (Below.mono (by assumption) ?_)) | go_size))⟩
theorem l08Volume_any (a b c d e f g h i j k l : Int) (w : World) : Calls Try.prog 65 #[.agg #[.int .i64 a, .int .i64 b, .int .i64 c, .int .i64 d, .int .i64 e, .int .i64 f, .int .i64 g, .int .i64 h, .int .i64 i, .int .i64 j, .int .i64 k, .int .i64 l]] w fun en w' => en = .returned (.int .i64 (tvolG a b c d e f g h i j k l)) ∧ Below w.heap.size w w' := by
  go_enter Try.func65, Try.ntmps65
  go_wp2
  (refine wp_region_beyond (w.heap.size + 1) (by kernel_rfl) (by kernel_rfl) (by go_size) (fun hBe => ?_); (repeat (first | go_big_quiet_step ((first | (go_at_call 66; exact beyond_of (l08Plus_any _ _ _ _ _ _ _ _)) | (go_at_call 54; exact beyond_of (l08Det_any _ _ _ _ _ _ _ _ _ _)))) | quiet_step ((first | (go_at_call 66; exact beyond_of (l08Plus_any _ _ _ _ _ _ _ _)) | (go_at_call 54; exact beyond_of (l08Det_any _ _ _ _ _ _ _ _ _ _)))))); refine wpQuiet_nil ?_; clear hBe; intro w1 hb1; obtain ⟨hc1, hf1, hz1, hn1⟩ := bstep 1 w hb1 (by go_size))
  go_wp2
  all_goals
    go_returns
    exact ⟨ret_i64 (by unfold tvolG sizeG; omega), by (repeat' (first | (with_reducible exact Below.refl _ _) | (with_reducible refine Below.alloc ?_ ?_ _) | (with_reducible refine Below.drew ?_) | (with_reducible refine below_drewN' ?_ _) | (with_reducible refine Below.setCell ?_ ?_ _) | (with_reducible refine Below.trans ?_ (Below.mono (by assumption) ?_)) | go_size))⟩
theorem implIsTetra_any (a b c d e f g h i j k l : Int) (w : World) : Calls Try.prog 25 #[.agg #[.int .i64 a, .int .i64 b, .int .i64 c, .int .i64 d, .int .i64 e, .int .i64 f, .int .i64 g, .int .i64 h, .int .i64 i, .int .i64 j, .int .i64 k, .int .i64 l]] w fun en w' => en = .returned (.bool (tetB a b c d e f g h i j k l)) ∧ Below w.heap.size w w' := by
  obtain ⟨p1, hp1⟩ : ∃ zz, sp4B a b c d e f g h i j k l = zz := ⟨_, rfl⟩; have cc1 := fun bb off cc W h0 h1 h2 h3 h4 h5 h6 h7 h8 h9 h10 h11 => spots4_any bb off cc a b c d e f g h i j k l W h0 h1 h2 h3 h4 h5 h6 h7 h8 h9 h10 h11; rw [hp1] at cc1; have C1 := Lib.hid cc1; have P1 := Lib.hid hp1; clear cc1 hp1
  obtain ⟨p2, hp2⟩ : ∃ zz, tvolG a b c d e f g h i j k l = zz := ⟨_, rfl⟩; have cc2 := fun W => tvolume_any a b c d e f g h i j k l W; rw [hp2] at cc2; have C2 := Lib.hid cc2; have P2 := Lib.hid hp2; clear cc2 hp2
  cases p1
  all_goals
    go_enter Try.func25, Try.ntmps25
    go_wp2_with (first | (go_at_call 55; (with_reducible refine (C1.out _ _ _ _ ?_ ?_ ?_ ?_ ?_ ?_ ?_ ?_ ?_ ?_ ?_ ?_).mono ?_); (iterate 12 (focus (go_simp; done))); rintro e w1 ⟨rfl, hb1⟩; obtain ⟨hc1, hf1, hz1, hn1⟩ := bstep 1 w hb1 (by go_size)) | (go_at_call 60; (with_reducible refine (C2.out _).mono ?_); rintro e w1 ⟨rfl, hb1⟩; obtain ⟨hc1, hf1, hz1, hn1⟩ := bstep 1 w hb1 (by go_size)))
    go_returns
    exact ⟨ret_bool (by simp [tetB, P1.out, P2.out]), by (repeat' (first | (with_reducible exact Below.refl _ _) | (with_reducible refine Below.alloc ?_ ?_ _) | (with_reducible refine Below.drew ?_) | (with_reducible refine below_drewN' ?_ _) | (with_reducible refine Below.setCell ?_ ?_ _) | (with_reducible refine Below.trans ?_ (Below.mono (by assumption) ?_)) | go_size))⟩
theorem l08Tetra_any (a b c d e f g h i j k l : Int) (w : World) : Calls Try.prog 59 #[.agg #[.int .i64 a, .int .i64 b, .int .i64 c, .int .i64 d, .int .i64 e, .int .i64 f, .int .i64 g, .int .i64 h, .int .i64 i, .int .i64 j, .int .i64 k, .int .i64 l]] w fun en w' => en = .returned (.bool (tetB a b c d e f g h i j k l)) ∧ Below w.heap.size w w' := by
  obtain ⟨p1, hp1⟩ : ∃ zz, spotB a b c = zz := ⟨_, rfl⟩; have cc1 := fun W => l08Spot_any a b c W; rw [hp1] at cc1; have C1 := Lib.hid cc1; have P1 := Lib.hid hp1; clear cc1 hp1
  obtain ⟨p2, hp2⟩ : ∃ zz, spotB d e f = zz := ⟨_, rfl⟩; have cc2 := fun W => l08Spot_any d e f W; rw [hp2] at cc2; have C2 := Lib.hid cc2; have P2 := Lib.hid hp2; clear cc2 hp2
  obtain ⟨p3, hp3⟩ : ∃ zz, spotB g h i = zz := ⟨_, rfl⟩; have cc3 := fun W => l08Spot_any g h i W; rw [hp3] at cc3; have C3 := Lib.hid cc3; have P3 := Lib.hid hp3; clear cc3 hp3
  obtain ⟨p4, hp4⟩ : ∃ zz, spotB j k l = zz := ⟨_, rfl⟩; have cc4 := fun W => l08Spot_any j k l W; rw [hp4] at cc4; have C4 := Lib.hid cc4; have P4 := Lib.hid hp4; clear cc4 hp4
  obtain ⟨p5, hp5⟩ : ∃ zz, tvolG a b c d e f g h i j k l = zz := ⟨_, rfl⟩; have cc5 := fun W => l08Volume_any a b c d e f g h i j k l W; rw [hp5] at cc5; have C5 := Lib.hid cc5; have P5 := Lib.hid hp5; clear cc5 hp5
  cases p1
  rotate_left
  cases p2
  rotate_left
  cases p3
  rotate_left
  cases p4
  all_goals
    go_enter Try.func59, Try.ntmps59
    go_wp2
    refine wp_loop_rounds 5 ?_
    repeat any_goals (rw [rounds_succ]; go_wp2_with (first | (go_at_call 50; (with_reducible refine (C1.out _).mono ?_); rintro e w1 ⟨rfl, hb1⟩; obtain ⟨hc1, hf1, hz1, hn1⟩ := bstep 1 w hb1 (by go_size)) | (go_at_call 50; (with_reducible refine (C2.out _).mono ?_); rintro e w1 ⟨rfl, hb1⟩; obtain ⟨hc1, hf1, hz1, hn1⟩ := bstep 1 w hb1 (by go_size)) | (go_at_call 50; (with_reducible refine (C3.out _).mono ?_); rintro e w1 ⟨rfl, hb1⟩; obtain ⟨hc1, hf1, hz1, hn1⟩ := bstep 1 w hb1 (by go_size)) | (go_at_call 50; (with_reducible refine (C4.out _).mono ?_); rintro e w1 ⟨rfl, hb1⟩; obtain ⟨hc1, hf1, hz1, hn1⟩ := bstep 1 w hb1 (by go_size)) | (go_at_call 65; (with_reducible refine (C5.out _).mono ?_); rintro e w1 ⟨rfl, hb1⟩; obtain ⟨hc1, hf1, hz1, hn1⟩ := bstep 1 w hb1 (by go_size))))
    go_returns
    exact ⟨ret_bool (by simp [tetB, sp4B, P1.out, P2.out, P3.out, P4.out, P5.out]), by (repeat' (first | (with_reducible exact Below.refl _ _) | (with_reducible refine Below.alloc ?_ ?_ _) | (with_reducible refine Below.drew ?_) | (with_reducible refine below_drewN' ?_ _) | (with_reducible refine Below.setCell ?_ ?_ _) | (with_reducible refine Below.trans ?_ (Below.mono (by assumption) ?_)) | go_size))⟩
theorem specIsTetra_any (a b c d e f g h i j k l : Int) (w : World) : Calls Try.prog 23 #[.agg #[.int .i64 a, .int .i64 b, .int .i64 c, .int .i64 d, .int .i64 e, .int .i64 f, .int .i64 g, .int .i64 h, .int .i64 i, .int .i64 j, .int .i64 k, .int .i64 l]] w fun en w' => en = .returned (.bool (tetB a b c d e f g h i j k l)) ∧ Below w.heap.size w w' := by
  go_enter Try.func23, Try.ntmps23
  go_wp2_with (first | (go_at_call 59; (with_reducible refine (l08Tetra_any _ _ _ _ _ _ _ _ _ _ _ _ _).mono ?_); rintro e w1 ⟨rfl, hb1⟩; obtain ⟨hc1, hf1, hz1, hn1⟩ := bstep 1 w hb1 (by go_size)))
  go_returns
  exact ⟨rfl, by (repeat' (first | (with_reducible exact Below.refl _ _) | (with_reducible refine Below.alloc ?_ ?_ _) | (with_reducible refine Below.drew ?_) | (with_reducible refine below_drewN' ?_ _) | (with_reducible refine Below.setCell ?_ ?_ _) | (with_reducible refine Below.trans ?_ (Below.mono (by assumption) ?_)) | go_size))⟩
def tvolR (a b c d e f g h i j k l : Int) : Int × Int := if tetB a b c d e f g h i j k l then (tvolG a b c d e f g h i j k l, 0) else (0, 1)
theorem implVol_any (a b c d e f g h i j k l : Int) (w : World) : Calls Try.prog 34 #[.agg #[.int .i64 a, .int .i64 b, .int .i64 c, .int .i64 d, .int .i64 e, .int .i64 f, .int .i64 g, .int .i64 h, .int .i64 i, .int .i64 j, .int .i64 k, .int .i64 l]] w fun en w' => en = .returned (.tuple #[.int .i64 (tvolR a b c d e f g h i j k l).1, .int .i64 (tvolR a b c d e f g h i j k l).2]) ∧ Below w.heap.size w w' := by
  obtain ⟨p1, hp1⟩ : ∃ zz, tetB a b c d e f g h i j k l = zz := ⟨_, rfl⟩; have cc1 := fun W => implIsTetra_any a b c d e f g h i j k l W; rw [hp1] at cc1; have C1 := Lib.hid cc1; have P1 := Lib.hid hp1; clear cc1 hp1
  cases p1
  all_goals
    go_enter Try.func34, Try.ntmps34
    go_wp2_with (first | (go_at_call 25; (with_reducible refine (C1.out _).mono ?_); rintro e w1 ⟨rfl, hb1⟩; obtain ⟨hc1, hf1, hz1, hn1⟩ := bstep 1 w hb1 (by go_size)) | (go_at_call 60; (with_reducible refine (tvolume_any _ _ _ _ _ _ _ _ _ _ _ _ _).mono ?_); rintro e w1 ⟨rfl, hb1⟩; obtain ⟨hc1, hf1, hz1, hn1⟩ := bstep 1 w hb1 (by go_size)))
    go_returns
    exact ⟨by rw [tvolR, P1.out]; rfl, by (repeat' (first | (with_reducible exact Below.refl _ _) | (with_reducible refine Below.alloc ?_ ?_ _) | (with_reducible refine Below.drew ?_) | (with_reducible refine below_drewN' ?_ _) | (with_reducible refine Below.setCell ?_ ?_ _) | (with_reducible refine Below.trans ?_ (Below.mono (by assumption) ?_)) | go_size))⟩
theorem specVol_any (a b c d e f g h i j k l : Int) (w : World) : Calls Try.prog 33 #[.agg #[.int .i64 a, .int .i64 b, .int .i64 c, .int .i64 d, .int .i64 e, .int .i64 f, .int .i64 g, .int .i64 h, .int .i64 i, .int .i64 j, .int .i64 k, .int .i64 l]] w fun en w' => en = .returned (.tuple #[.int .i64 (tvolR a b c d e f g h i j k l).1, .int .i64 (tvolR a b c d e f g h i j k l).2]) ∧ Below w.heap.size w w' := by
  obtain ⟨p1, hp1⟩ : ∃ zz, tetB a b c d e f g h i j k l = zz := ⟨_, rfl⟩; have cc1 := fun W => l08Tetra_any a b c d e f g h i j k l W; rw [hp1] at cc1; have C1 := Lib.hid cc1; have P1 := Lib.hid hp1; clear cc1 hp1
  cases p1
  all_goals
    go_enter Try.func33, Try.ntmps33
    go_wp2_with (first | (go_at_call 59; (with_reducible refine (C1.out _).mono ?_); rintro e w1 ⟨rfl, hb1⟩; obtain ⟨hc1, hf1, hz1, hn1⟩ := bstep 1 w hb1 (by go_size)) | (go_at_call 65; (with_reducible refine (l08Volume_any _ _ _ _ _ _ _ _ _ _ _ _ _).mono ?_); rintro e w1 ⟨rfl, hb1⟩; obtain ⟨hc1, hf1, hz1, hn1⟩ := bstep 1 w hb1 (by go_size)))
    go_returns
    exact ⟨by rw [tvolR, P1.out]; rfl, by (repeat' (first | (with_reducible exact Below.refl _ _) | (with_reducible refine Below.alloc ?_ ?_ _) | (with_reducible refine Below.drew ?_) | (with_reducible refine below_drewN' ?_ _) | (with_reducible refine Below.setCell ?_ ?_ _) | (with_reducible refine Below.trans ?_ (Below.mono (by assumption) ?_)) | go_size))⟩
theorem toCone_any (a b c d e f g h i : Int) (w : World) : Calls Try.prog 21 #[.agg #[.int .i64 a, .int .i64 b, .int .i64 c, .int .i64 d, .int .i64 e, .int .i64 f, .int .i64 g, .int .i64 h, .int .i64 i]] w fun en w' => en = .returned (.agg #[.int .i64 a, .int .i64 b, .int .i64 c, .int .i64 d, .int .i64 e, .int .i64 f, .int .i64 g, .int .i64 h, .int .i64 i]) ∧ Below w.heap.size w w' := by
  go_enter Try.func21, Try.ntmps21
  go_wp2
  refine wp_loop_rounds 4 ?_
  repeat any_goals (rw [rounds_succ]; go_wp2_with (first | (go_at_call 16; (with_reducible refine (toSpot_any _ _ _ _).mono ?_); rintro e w1 ⟨rfl, hb1⟩; obtain ⟨hc1, hf1, hz1, hn1⟩ := bstep 3 w hb1 (by go_size))))
  refine bodyPost_ret (v := .agg #[.int .i64 a, .int .i64 b, .int .i64 c, .int .i64 d, .int .i64 e, .int .i64 f, .int .i64 g, .int .i64 h, .int .i64 i]) (by simp [results, Try.results21, go_sem, *]) rfl ?_
  exact ⟨rfl, by (repeat' (first | (with_reducible exact Below.refl _ _) | (with_reducible refine Below.alloc ?_ ?_ _) | (with_reducible refine Below.drew ?_) | (with_reducible refine below_drewN' ?_ _) | (with_reducible refine Below.setCell ?_ ?_ _) | (with_reducible refine Below.trans ?_ (Below.mono (by assumption) ?_)) | go_size))⟩
theorem toTetra_any (a b c d e f g h i j k l : Int) (w : World) : Calls Try.prog 24 #[.agg #[.int .i64 a, .int .i64 b, .int .i64 c, .int .i64 d, .int .i64 e, .int .i64 f, .int .i64 g, .int .i64 h, .int .i64 i, .int .i64 j, .int .i64 k, .int .i64 l]] w fun en w' => en = .returned (.agg #[.int .i64 a, .int .i64 b, .int .i64 c, .int .i64 d, .int .i64 e, .int .i64 f, .int .i64 g, .int .i64 h, .int .i64 i, .int .i64 j, .int .i64 k, .int .i64 l]) ∧ Below w.heap.size w w' := by
  go_enter Try.func24, Try.ntmps24
  go_wp2
  refine wp_loop_rounds 5 ?_
  repeat any_goals (rw [rounds_succ]; go_wp2_with (first | (go_at_call 16; (with_reducible refine (toSpot_any _ _ _ _).mono ?_); rintro e w1 ⟨rfl, hb1⟩; obtain ⟨hc1, hf1, hz1, hn1⟩ := bstep 3 w hb1 (by go_size))))
  refine bodyPost_ret (v := .agg #[.int .i64 a, .int .i64 b, .int .i64 c, .int .i64 d, .int .i64 e, .int .i64 f, .int .i64 g, .int .i64 h, .int .i64 i, .int .i64 j, .int .i64 k, .int .i64 l]) (by simp [results, Try.results24, go_sem, *]) rfl ?_
  exact ⟨rfl, by (repeat' (first | (with_reducible exact Below.refl _ _) | (with_reducible refine Below.alloc ?_ ?_ _) | (with_reducible refine Below.drew ?_) | (with_reducible refine below_drewN' ?_ _) | (with_reducible refine Below.setCell ?_ ?_ _) | (with_reducible refine Below.trans ?_ (Below.mono (by assumption) ?_)) | go_size))⟩
end Go.Proofs.Ytoldicmobenhaaa
