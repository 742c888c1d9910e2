/-
  Reduced forms as rows: contracts. No condition but what stands in each.
-/
import Derived.Test.YtoldicmobenhaaaCst
namespace Go.Proofs.Ytoldicmobenhaaa
open Go.RowKit
set_option maxHeartbeats 1000000
theorem eqForm_same (a b c : Int) (w : World) : Calls Try.prog 87 #[.agg #[.int .i64 a, .int .i64 b, .int .i64 c], .agg #[.int .i64 a, .int .i64 b, .int .i64 c]] w fun e w' => e = .returned (.bool true) ∧ Below w.heap.size w w' := by
  go_enter Try.func87, Try.ntmps87
  go_wp2
  go_returns
  exact ⟨rfl, by (repeat' (first | (with_reducible exact Below.refl _ _) | (with_reducible refine Below.alloc ?_ ?_ _) | (with_reducible refine Below.drew ?_) | (with_reducible refine below_drewN' ?_ _) | (with_reducible refine Below.setCell ?_ ?_ _) | (with_reducible refine Below.trans ?_ (Below.mono (by assumption) ?_)) | go_size))⟩
theorem eqFormS_same (A A' : Option Addr) (n c c' : Nat) (xs : List (Int × Int × Int)) (w : World) (h : SSl w A n xs) (h' : SSl w A' n xs) (hn : n ≤ 281474976710656) :
    Calls Try.prog 47 #[.slice A n c, .slice A' n c'] w fun e w' => e = .returned (.bool true) ∧ Below w.heap.size w w' := by
  obtain ⟨rfl, hx⟩ := h
  have hx' := h'.2
  clear h'
  go_enter Try.func47, Try.ntmps47
  go_wp2
  go_loopw [5] (fun i wr => Below w.heap.size w wr ∧ ∃ k : Nat, k ≤ xs.length ∧ i = .int .i64 k) (fun i _ => xs.length - (intOf i).toNat)
  case atStart => exact ⟨Below.refl _ _, 0, Nat.zero_le _, rfl⟩
  case round =>
    obtain ⟨hB, k, hk, rfl⟩ := hrel
    by_cases hlt : k < xs.length
    · obtain ⟨b, off, rfl, hb, hr⟩ := hx (by omega)
      obtain ⟨b', off', rfl, hb', hr'⟩ := hx' (by omega)
      have h1 := cell_keep hB (hr k hlt).1
      have h2 := cell_keep hB (hr k hlt).2.1
      have h3 := cell_keep hB (hr k hlt).2.2
      have h4 := cell_keep hB (hr' k hlt).1
      have h5 := cell_keep hB (hr' k hlt).2.1
      have h6 := cell_keep hB (hr' k hlt).2.2
      have hbw : b < wr.heap.size := by have := hB.size; omega
      have hbw' : b' < wr.heap.size := by have := hB.size; omega
      obtain ⟨⟨x, y, v⟩, hp⟩ : ∃ p, xs[k]?.getD (0, 0, 0) = p := ⟨_, rfl⟩
      rw [hp] at h1 h2 h3 h4 h5 h6
      clear hp hr hx hb hr' hx' hb'
      have hi0 : (0 : Int) ≤ (k : Int) := by omega
      have hi1 : (k : Int) < (xs.length : Int) := by omega
      go_wp2
      (refine wp_region_beyond (wr.heap.size + 0) (by kernel_rfl) (by kernel_rfl) (by go_size) (fun hBe => ?_); (repeat (first | go_big_quiet_step ((first | (go_at_call 87; exact beyond_of (eqForm_same _ _ _ _)))) | quiet_step ((first | (go_at_call 87; exact beyond_of (eqForm_same _ _ _ _)))))); refine wpQuiet_nil ?_; clear hBe; intro w1 hb1; obtain ⟨hc1, hf1, hz1, hn1⟩ := bstep 0 wr hb1 (by go_size))
      go_wp2
      go_roundw
      case rel => exact ⟨by have hBs := hB.size; exact hB.trans (hb1.mono hBs), k + 1, by omega, by go_num⟩
      case measure => simp [intOf]; omega
    · go_wp2
      go_returns
      exact ⟨rfl, hB⟩
theorem markFormS_any (A : Option Addr) (n c : Nat) (B : Nat) (xs : List (Int × Int × Int)) (m : Int) (w : World) (h : SSl w A n xs) (hw : WSl B w A (n * 3)) (hn : n ≤ 281474976710656) (hm : 0 ≤ m ∧ m ≤ 1152921504606846976) :
    Calls Try.prog 48 #[.slice A n c, .int .i64 m] w fun e w' => e = .returned (.int .i64 (m + 3 * n)) ∧ SSl w' A n (marks3 m n) ∧ w.heap.size ≤ w'.heap.size ∧ Below B w w' := by
  obtain ⟨rfl, hx⟩ := h
  go_enter Try.func48, Try.ntmps48
  go_wp2
  go_loopw [1, 5] (fun kk i wr => ∃ k : Nat, k ≤ xs.length ∧ i = .int .i64 k ∧ kk = .int .i64 (m + 3 * k) ∧ Below B w wr ∧ wr.heap.size = w.heap.size ∧
      (0 < xs.length → ∃ b off, A = some ⟨b, off, none⟩ ∧ B ≤ b ∧ (∀ j, j < xs.length * 3 → wr.frozen? ⟨b, off + j, none⟩ = false) ∧ (∀ j, j < xs.length → ∃ v1 v2 v3, wr.cell? ⟨b, off + j * 3, none⟩ = some v1 ∧ wr.cell? ⟨b, off + j * 3 + 1, none⟩ = some v2 ∧ wr.cell? ⟨b, off + j * 3 + 2, none⟩ = some v3 ∧
        (j < k → v1 = .int .i64 (m + 3 * j) ∧ v2 = .int .i64 (m + 3 * j + 1) ∧ v3 = .int .i64 (m + 3 * j + 2))))) (fun _ i _ => xs.length - (intOf i).toNat)
  case atStart =>
    refine ⟨0, Nat.zero_le _, rfl, by simp, Below.refl _ _, rfl, fun hp => ?_⟩
    obtain ⟨b, off, rfl, hb, hr⟩ := hx hp
    obtain ⟨b', off', e, hBb, _, hf⟩ := hw (by omega)
    cases e
    exact ⟨b, off, rfl, hBb, hf, fun j hj => ⟨_, _, _, (hr j hj).1, (hr j hj).2.1, (hr j hj).2.2, fun h => absurd h (by omega)⟩⟩
  case round =>
    obtain ⟨k, hk, rfl, rfl, hB, hsz, hc⟩ := hrel
    clear hx hw
    by_cases hlt : k < xs.length
    · obtain ⟨b, off, rfl, hBb, hfz, hall⟩ := hc (by omega)
      obtain ⟨v1, v2, v3, h1, h2, h3, _⟩ := hall k hlt
      have f1 := hfz (k * 3) (by omega)
      have f2 := hfz (k * 3 + 1) (by omega)
      have f3 := hfz (k * 3 + 2) (by omega)
      rw [← Nat.add_assoc] at f2 f3
      have HC := Lib.hid hall
      have HF := Lib.hid hfz
      have HS := Lib.hid hsz
      clear hall hc hsz hfz
      have hi0 : (0 : Int) ≤ (k : Int) := by omega
      have hi1 : (k : Int) < (xs.length : Int) := by omega
      have hset := @set3 wr b (off + k * 3) (.int .i64 (m + 3 * k)) (.int .i64 (m + 3 * k + 1)) (.int .i64 (m + 3 * k + 1 + 1)) v1 v2 v3 h1 h2 h3
      have H3 := Lib.hid hset
      clear hset
      go_wp2
      go_roundw
      case rel =>
        refine ⟨k + 1, by omega, by go_num, by go_num, below_beyond (below_beyond (below_beyond hB hBb) hBb) hBb, by rw [World.size_setCell, World.size_setCell, World.size_setCell]; exact HS.out, fun _ => ⟨b, off, rfl, hBb, fun j hj => by rw [World.frozen?_setCell, World.frozen?_setCell, World.frozen?_setCell]; exact HF.out j hj, fun j hj => ?_⟩⟩
        obtain ⟨s1, s2, s3, s4⟩ := H3.out
        by_cases hjk : j = k
        · subst hjk
          exact ⟨_, _, _, s1, s2, s3, fun _ => ⟨rfl, rfl, by congr 1; omega⟩⟩
        · obtain ⟨u1, u2, u3, g1, g2, g3, g4⟩ := HC.out j hj
          exact ⟨u1, u2, u3, (s4 _ (by omega) (by omega) (by omega)).trans g1, (s4 _ (by omega) (by omega) (by omega)).trans g2, (s4 _ (by omega) (by omega) (by omega)).trans g3, fun hlt' => g4 (by omega)⟩
      case measure => simp [intOf]; omega
    · have hkn : k = xs.length := by omega
      subst hkn
      have HC := Lib.hid hc
      have HS := Lib.hid hsz
      clear hc hsz
      go_wp2
      go_returns
      refine ⟨rfl, ⟨by rw [marks3_len], fun hp => ?_⟩, by rw [HS.out]; exact Nat.le_refl _, hB⟩
      obtain ⟨b, off, rfl, hBb, _, hall⟩ := HC.out hp
      refine ⟨b, off, rfl, ?_, fun i hi => ?_⟩
      · obtain ⟨_, _, _, h1, _⟩ := hall 0 hp
        exact World.block_lt_of_cell? _ _ h1
      · rw [marks3_len] at hi
        obtain ⟨v1, v2, v3, h1, h2, h3, h4⟩ := hall i hi
        obtain ⟨rfl, rfl, rfl⟩ := h4 hi
        rw [marks3_at hi]
        exact ⟨h1, h2, h3⟩
theorem heldFormS_any (A : Option Addr) (n c : Nat) (m : Int) (w : World) (h : SSl w A n (marks3 m n)) (hn : n ≤ 281474976710656) (hm : 0 ≤ m ∧ m ≤ 1152921504606846976) :
    Calls Try.prog 49 #[.slice A n c, .int .i64 m] w fun e w' => e = .returned (.int .i64 (m + 3 * n)) ∧ Below w.heap.size w w' := by
  have hx := h.2
  clear h
  go_enter Try.func49, Try.ntmps49
  go_wp2
  go_loopw [1, 5] (fun kk i wr => Below w.heap.size w wr ∧ ∃ k : Nat, k ≤ n ∧ i = .int .i64 k ∧ kk = .int .i64 (m + 3 * k)) (fun _ i _ => n - (intOf i).toNat)
  case atStart => exact ⟨Below.refl _ _, 0, Nat.zero_le _, rfl, by simp⟩
  case round =>
    obtain ⟨hB, k, hk, rfl, rfl⟩ := hrel
    by_cases hlt : k < n
    · obtain ⟨b, off, rfl, hb, hr⟩ := hx (by omega)
      obtain ⟨h1, h2, h3⟩ := hr k (by rw [marks3_len]; exact hlt)
      rw [marks3_at hlt] at h1 h2 h3
      replace h1 := cell_keep hB h1
      replace h2 := cell_keep hB h2
      replace h3 := cell_keep hB h3
      clear hr hx hb
      have hi0 : (0 : Int) ≤ (k : Int) := by omega
      have hi1 : (k : Int) < (n : Int) := by omega
      go_wp2
      go_roundw
      case rel => exact ⟨by (repeat' (first | (with_reducible exact Below.refl _ _) | (with_reducible refine Below.alloc ?_ ?_ _) | (with_reducible refine Below.drew ?_) | (with_reducible refine below_drewN' ?_ _) | (with_reducible refine Below.setCell ?_ ?_ _) | (with_reducible refine Below.trans ?_ (Below.mono (by assumption) ?_)) | go_size)), k + 1, by omega, by go_num, by go_num⟩
      case measure => simp [intOf]; omega
    · obtain rfl : k = n := by omega
      go_wp2
      go_returns
      exact ⟨rfl, hB⟩
def rootF : Nat → Int → Int → Int
  | 0, k, _ => k
  | n + 1, k, d => if (k + 1) * (k + 1) ≤ d then rootF n (k + 1) d else k
def rootG (d : Int) : Int := rootF 64 0 d
theorem rootF_bd : ∀ (n : Nat) (k d : Int), k ≤ rootF n k d ∧ rootF n k d ≤ k + n
  | 0, k, d => by simp [rootF]
  | n + 1, k, d => by
    rw [rootF]
    split
    · have := rootF_bd n (k + 1) d; omega
    · omega
theorem rootG_bd (d : Int) : 0 ≤ rootG d ∧ rootG d ≤ 64 := by have := rootF_bd 64 0 d; unfold rootG; omega
theorem root_any (d : Int) (w : World) (hd : 0 ≤ d ∧ d ≤ 4000) : Calls Try.prog 101 #[.int .i64 d] w fun e w' => e = .returned (.int .i64 (rootG d)) ∧ w = w' := by
  obtain ⟨r, hr⟩ : ∃ r, rootG d = r := ⟨_, rfl⟩
  rw [hr]
  have HR := Lib.hid hr
  clear hr
  go_enter Try.func101, Try.ntmps101
  go_wp2
  go_loop [3] (fun v => ∃ n : Nat, n ≤ 64 ∧ v = .int .i64 (64 - (n : Int)) ∧ rootF n (64 - (n : Int)) d = rootG d) (fun v => 64 - (intOf v).toNat)
  case atStart => exact ⟨64, Nat.le_refl _, rfl, rfl⟩
  case round =>
    obtain ⟨n, hn, rfl, hF⟩ := hrel
    have HF := Lib.hid hF
    clear hF
    match n, hn, HF with
    | 0, hn, HF =>
      have hlt : ((64 : Int) + 1) * (64 + 1) = 4225 := rfl
      go_wp2
      go_returns
      exact ⟨ret_i64 (by have := HF.out; rw [rootF] at this; rw [← HR.out, ← this]; rfl), rfl⟩
    | n + 1, hn, HF =>
      obtain ⟨k, hk⟩ : ∃ k : Int, 64 - ((n + 1 : Nat) : Int) = k := ⟨_, rfl⟩
      have hF := HF.out
      rw [rootF] at hF
      rw [hk] at hF ⊢
      have hk0 : 0 ≤ k ∧ k ≤ 63 := by omega
      have hn' : 64 - (n : Int) = k + 1 := by omega
      have hsq : (k + 1) * (k + 1) ≤ 4096 := Int.mul_le_mul (by omega : k + 1 ≤ 64) (by omega : k + 1 ≤ 64) (by omega) (by omega)
      have hsq0 : 0 ≤ (k + 1) * (k + 1) := Int.mul_nonneg (by omega) (by omega)
      have HK := Lib.hid hn'
      clear HF hk hn'
      by_cases hc : (k + 1) * (k + 1) ≤ d
      · rw [if_pos hc] at hF
        have HF := Lib.hid hF
        clear hF
        go_wp2
        go_round
        case rel => exact ⟨n, by omega, by rw [HK.out], by rw [HK.out]; exact HF.out⟩
        case measure => simp [intOf]; omega
      · rw [if_neg hc] at hF
        have HF := Lib.hid hF
        clear hF
        go_wp2
        go_returns
        exact ⟨ret_i64 (HF.out.trans HR.out), rfl⟩
theorem l06Root_any (d : Int) (w : World) (hd : 0 ≤ d ∧ d ≤ 4000) : Calls Try.prog 98 #[.int .i64 d] w fun e w' => e = .returned (.int .i64 (rootG d)) ∧ w = w' := by
  obtain ⟨r, hr⟩ : ∃ r, rootG d = r := ⟨_, rfl⟩
  rw [hr]
  have HR := Lib.hid hr
  clear hr
  go_enter Try.func98, Try.ntmps98
  go_wp2
  go_loop [3] (fun v => ∃ n : Nat, n ≤ 64 ∧ v = .int .i64 (64 - (n : Int)) ∧ rootF n (64 - (n : Int)) d = rootG d) (fun v => 64 - (intOf v).toNat)
  case atStart => exact ⟨64, Nat.le_refl _, rfl, rfl⟩
  case round =>
    obtain ⟨n, hn, rfl, hF⟩ := hrel
    have HF := Lib.hid hF
    clear hF
    match n, hn, HF with
    | 0, hn, HF =>
      have hlt : ((64 : Int) + 1) * (64 + 1) = 4225 := rfl
      go_wp2
      go_returns
      exact ⟨ret_i64 (by have := HF.out; rw [rootF] at this; rw [← HR.out, ← this]; rfl), rfl⟩
    | n + 1, hn, HF =>
      obtain ⟨k, hk⟩ : ∃ k : Int, 64 - ((n + 1 : Nat) : Int) = k := ⟨_, rfl⟩
      have hF := HF.out
      rw [rootF] at hF
      rw [hk] at hF ⊢
      have hk0 : 0 ≤ k ∧ k ≤ 63 := by omega
      have hn' : 64 - (n : Int) = k + 1 := by omega
      have hsq : (k + 1) * (k + 1) ≤ 4096 := Int.mul_le_mul (by omega : k + 1 ≤ 64) (by omega : k + 1 ≤ 64) (by omega) (by omega)
      have hsq0 : 0 ≤ (k + 1) * (k + 1) := Int.mul_nonneg (by omega) (by omega)
      have HK := Lib.hid hn'
      clear HF hk hn'
      by_cases hc : (k + 1) * (k + 1) ≤ d
      · rw [if_pos hc] at hF
        have HF := Lib.hid hF
        clear hF
        go_wp2
        go_round
        case rel => exact ⟨n, by omega, by rw [HK.out], by rw [HK.out]; exact HF.out⟩
        case measure => simp [intOf]; omega
      · rw [if_neg hc] at hF
        have HF := Lib.hid hF
        clear hF
        go_wp2
        go_returns
        exact ⟨ret_i64 (HF.out.trans HR.out), rfl⟩
def absZ (a : Int) : Int := if a < 0 then -a else a
theorem absZ_size {a : Int} (h : -64 ≤ a ∧ a ≤ 64) : sizeG a = absZ a := by unfold sizeG absZ wrap64; split <;> omega
theorem absZ_bd {a : Int} (h : -64 ≤ a ∧ a ≤ 64) : 0 ≤ absZ a ∧ absZ a ≤ 64 := by unfold absZ; split <;> omega
def redB (a b w : Int) : Bool := inB b 1 w && (decide (w - b < 2 * absZ a) && decide (2 * absZ a ≤ w + b))
theorem disc_any (a b c d : Int) (w : World) (he : 4 * a * c = b * b - d) (hb : 0 ≤ b * b ∧ b * b ≤ 4096) (ha : -64 ≤ a ∧ a ≤ 64) (hd : 0 ≤ d ∧ d ≤ 4000) :
    Calls Try.prog 104 #[.agg #[.int .i64 a, .int .i64 b, .int .i64 c]] w fun e w' => e = .returned (.int .i64 d) ∧ Below w.heap.size w w' := by
  go_enter Try.func104, Try.ntmps104
  go_wp2
  go_returns
  exact ⟨ret_i64 (by omega), by (repeat' (first | (with_reducible exact Below.refl _ _) | (with_reducible refine Below.alloc ?_ ?_ _) | (with_reducible refine Below.drew ?_) | (with_reducible refine below_drewN' ?_ _) | (with_reducible refine Below.setCell ?_ ?_ _) | (with_reducible refine Below.trans ?_ (Below.mono (by assumption) ?_)) | go_size))⟩
theorem reduced_any (a b c d : Int) (w : World) (he : 4 * a * c = b * b - d) (hb : 1 ≤ b ∧ b ≤ 64) (ha : -64 ≤ a ∧ a ≤ 64) (hd : 0 ≤ d ∧ d ≤ 4000) :
    Calls Try.prog 102 #[.agg #[.int .i64 a, .int .i64 b, .int .i64 c]] w fun e w' => e = .returned (.bool (redB a b (rootG d))) ∧ Below w.heap.size w w' := by
  have hbb : 0 ≤ b * b ∧ b * b ≤ 4096 := ⟨Int.mul_nonneg (by omega) (by omega), Int.mul_le_mul (by omega : b ≤ 64) (by omega : b ≤ 64) (by omega) (by omega)⟩
  have hdi := fun W => disc_any a b c d W he hbb ha hd
  have hro := fun W => root_any d W hd
  have hsi := fun W => size_any a W
  have hrb := rootG_bd d
  have hab := absZ_bd ha
  rw [absZ_size ha] at hsi
  unfold redB
  obtain ⟨r, er⟩ : ∃ r, rootG d = r := ⟨_, rfl⟩
  obtain ⟨s, es⟩ : ∃ s, absZ a = s := ⟨_, rfl⟩
  rw [er] at hro hrb ⊢
  rw [es] at hsi hab ⊢
  have hin := fun W => in_any b 1 r W
  obtain ⟨p, ep⟩ : ∃ p, inB b 1 r = p := ⟨_, rfl⟩
  obtain ⟨q, eq⟩ : ∃ q, decide (r - b < 2 * s) = q := ⟨_, rfl⟩
  obtain ⟨u, eu⟩ : ∃ u, decide (2 * s ≤ r + b) = u := ⟨_, rfl⟩
  rw [ep] at hin ⊢
  rw [eq, eu]
  have H1 := Lib.hid hdi
  have H2 := Lib.hid hro
  have H3 := Lib.hid hsi
  have H4 := Lib.hid hin
  clear hdi hro hsi hin er es ep he hbb
  cases p
  · clear eq eu
    go_enter Try.func102, Try.ntmps102
    go_wp2_with (first | (go_at_call 104; (with_reducible refine (H1.out _).mono ?_); rintro e w1 ⟨rfl, hb1⟩; obtain ⟨hc1, hf1, hz1, hn1⟩ := bstep 1 w hb1 (by go_size)) | (go_at_call 101; (with_reducible refine (H2.out _).mono ?_); rintro e w' ⟨rfl, rfl⟩))
    (refine wp_region_beyond (w.heap.size + 1) (by kernel_rfl) (by kernel_rfl) (by go_size) (fun hBe => ?_); (repeat (first | go_big_quiet_step ((first | (go_at_call 76; exact beyond_same (H4.out _)) | (go_at_call 62; exact beyond_same (H3.out _)))) | quiet_step ((first | (go_at_call 76; exact beyond_same (H4.out _)) | (go_at_call 62; exact beyond_same (H3.out _)))))); refine wpQuiet_nil ?_; clear hBe; intro w1 hb1; obtain ⟨hc1, hf1, hz1, hn1⟩ := bstep 1 w hb1 (by go_size))
    go_wp2
    go_returns
    exact ⟨rfl, by (repeat' (first | (with_reducible exact Below.refl _ _) | (with_reducible refine Below.alloc ?_ ?_ _) | (with_reducible refine Below.drew ?_) | (with_reducible refine below_drewN' ?_ _) | (with_reducible refine Below.setCell ?_ ?_ _) | (with_reducible refine Below.trans ?_ (Below.mono (by assumption) ?_)) | go_size))⟩
  · cases q
    · clear eu
      go_enter Try.func102, Try.ntmps102
      go_wp2_with (first | (go_at_call 104; (with_reducible refine (H1.out _).mono ?_); rintro e w1 ⟨rfl, hb1⟩; obtain ⟨hc1, hf1, hz1, hn1⟩ := bstep 1 w hb1 (by go_size)) | (go_at_call 101; (with_reducible refine (H2.out _).mono ?_); rintro e w' ⟨rfl, rfl⟩))
      (refine wp_region_beyond (w.heap.size + 1) (by kernel_rfl) (by kernel_rfl) (by go_size) (fun hBe => ?_); (repeat (first | go_big_quiet_step ((first | (go_at_call 76; exact beyond_same (H4.out _)) | (go_at_call 62; exact beyond_same (H3.out _)))) | quiet_step ((first | (go_at_call 76; exact beyond_same (H4.out _)) | (go_at_call 62; exact beyond_same (H3.out _)))))); refine wpQuiet_nil ?_; clear hBe; intro w1 hb1; obtain ⟨hc1, hf1, hz1, hn1⟩ := bstep 1 w hb1 (by go_size))
      go_wp2
      go_returns
      exact ⟨rfl, by (repeat' (first | (with_reducible exact Below.refl _ _) | (with_reducible refine Below.alloc ?_ ?_ _) | (with_reducible refine Below.drew ?_) | (with_reducible refine below_drewN' ?_ _) | (with_reducible refine Below.setCell ?_ ?_ _) | (with_reducible refine Below.trans ?_ (Below.mono (by assumption) ?_)) | go_size))⟩
    · cases u
      all_goals
        go_enter Try.func102, Try.ntmps102
        go_wp2_with (first | (go_at_call 104; (with_reducible refine (H1.out _).mono ?_); rintro e w1 ⟨rfl, hb1⟩; obtain ⟨hc1, hf1, hz1, hn1⟩ := bstep 1 w hb1 (by go_size)) | (go_at_call 101; (with_reducible refine (H2.out _).mono ?_); rintro e w' ⟨rfl, rfl⟩))
        (refine wp_region_beyond (w.heap.size + 1) (by kernel_rfl) (by kernel_rfl) (by go_size) (fun hBe => ?_); (repeat (first | go_big_quiet_step ((first | (go_at_call 76; exact beyond_same (H4.out _)) | (go_at_call 62; exact beyond_same (H3.out _)))) | quiet_step ((first | (go_at_call 76; exact beyond_same (H4.out _)) | (go_at_call 62; exact beyond_same (H3.out _)))))); refine wpQuiet_nil ?_; clear hBe; intro w1 hb1; obtain ⟨hc1, hf1, hz1, hn1⟩ := bstep 1 w hb1 (by go_size))
        go_wp2
        go_returns
        exact ⟨rfl, by (repeat' (first | (with_reducible exact Below.refl _ _) | (with_reducible refine Below.alloc ?_ ?_ _) | (with_reducible refine Below.drew ?_) | (with_reducible refine below_drewN' ?_ _) | (with_reducible refine Below.setCell ?_ ?_ _) | (with_reducible refine Below.trans ?_ (Below.mono (by assumption) ?_)) | go_size))⟩
theorem l06Reduced_any (a b c r : Int) (w : World) (hb : 1 ≤ b ∧ b ≤ 64) (ha : -64 ≤ a ∧ a ≤ 64) (hrb : 0 ≤ r ∧ r ≤ 64) :
    Calls Try.prog 99 #[.agg #[.int .i64 a, .int .i64 b, .int .i64 c], .int .i64 r] w fun e w' => e = .returned (.bool (redB a b r)) ∧ Below w.heap.size w w' := by
  have hab := absZ_bd ha
  have hmx : max a (-a) = absZ a := by unfold absZ; split <;> omega
  unfold redB
  obtain ⟨s, es⟩ : ∃ s, absZ a = s := ⟨_, rfl⟩
  rw [es] at hmx hab ⊢
  have hin : inB b 1 r = decide (b ≤ r) := by unfold inB; simp; omega
  rw [hin]
  obtain ⟨p, ep⟩ : ∃ p, decide (b ≤ r) = p := ⟨_, rfl⟩
  obtain ⟨q, eq⟩ : ∃ q, decide (r - b < 2 * s) = q := ⟨_, rfl⟩
  obtain ⟨u, eu⟩ : ∃ u, decide (2 * s ≤ r + b) = u := ⟨_, rfl⟩
  rw [ep, eq, eu]
  have hb0 : (0 : Int) < b := by omega
  clear es hin
  cases p <;> cases q <;> cases u
  all_goals
    go_enter Try.func99, Try.ntmps99
    go_wp2
    all_goals
      go_returns
      exact ⟨by (try simp_all) <;> omega, by (repeat' (first | (with_reducible exact Below.refl _ _) | (with_reducible refine Below.alloc ?_ ?_ _) | (with_reducible refine Below.drew ?_) | (with_reducible refine below_drewN' ?_ _) | (with_reducible refine Below.setCell ?_ ?_ _) | (with_reducible refine Below.trans ?_ (Below.mono (by assumption) ?_)) | go_size))⟩
end Go.Proofs.Ytoldicmobenhaaa
