/-
  All reduced forms of a discriminant: contracts. No condition but what stands in each.
-/
import Derived.Test.YtoldicmobenhaaaCfm
namespace Go.Proofs.Ytoldicmobenhaaa
open Go.RowKit
set_option maxHeartbeats 2000000
def itemL (d w a b : Int) : List (Int × Int × Int) := if (b * b - d).tmod (4 * a) = 0 ∧ redB a b w = true then [(a, b, (b * b - d).tdiv (4 * a))] else []
def rowL (d w a : Int) : Nat → List (Int × Int × Int)
  | 0 => []
  | k + 1 => rowL d w a k ++ itemL d w a ((k : Int) + 1)
def allL (d w : Int) : Nat → List (Int × Int × Int)
  | 0 => []
  | j + 1 => allL d w j ++ (if (j : Int) - w = 0 then [] else rowL d w ((j : Int) - w) w.toNat)
theorem itemL_len (d w a b : Int) : (itemL d w a b).length ≤ 1 := by unfold itemL; split <;> simp
theorem rowL_len (d w a : Int) : ∀ k : Nat, (rowL d w a k).length ≤ k
  | 0 => by simp [rowL]
  | k + 1 => by have := rowL_len d w a k; have := itemL_len d w a ((k : Int) + 1); simp [rowL]; omega
theorem allL_len (d w : Int) (hw : 0 ≤ w ∧ w ≤ 64) : ∀ j : Nat, (allL d w j).length ≤ 64 * j
  | 0 => by simp [allL]
  | j + 1 => by
    have h1 := allL_len d w hw j
    have h2 := rowL_len d w ((j : Int) - w) w.toNat
    rw [allL]
    split
    · simp; omega
    · simp; omega
theorem tdiv_bd {N D : Int} (h : -4000 ≤ N ∧ N ≤ 4096) : -4096 ≤ N.tdiv D ∧ N.tdiv D ≤ 4096 := by
  have := Int.natAbs_tdiv_le_natAbs N D
  omega
theorem tdiv_mul {N D : Int} (h : N.tmod D = 0) : D * N.tdiv D = N := by have := Int.mul_tdiv_add_tmod N D; omega
theorem infoF3 : (Try.prog.info? 97).map (fun i => (i.zero, i.size, i.bytes)) = some (some (.agg #[.int .i64 0, .int .i64 0, .int .i64 0]), 3, 24) := by kernel_rfl
theorem reducedForms_any (d : Int) (w : World) (hd : 0 ≤ d ∧ d ≤ 4000) : Calls Try.prog 86 #[.int .i64 d] w fun e w' =>
    (∃ v, e = .returned v ∧ w'.ownsRow w.heap.size 97 3 v (allL d (rootG d) (2 * rootG d + 1).toNat).length (flat3 (allL d (rootG d) (2 * rootG d + 1).toNat))) ∧ Below w.heap.size w w' := by
  obtain ⟨i0, hI0⟩ := info_parts infoF3
  have HI0 := Lib.hid hI0
  clear hI0
  have hro := fun W => root_any d W hd
  have hrb := rootG_bd d
  have hre := fun a b c W he hb ha => reduced_any a b c d W he hb ha hd
  obtain ⟨r, er⟩ : ∃ r, rootG d = r := ⟨_, rfl⟩
  rw [er] at hro hrb hre ⊢
  have H1 := Lib.hid hro
  have H2 := Lib.hid hre
  clear hro hre er
  obtain ⟨m, em⟩ := Int.eq_ofNat_of_zero_le hrb.1
  subst em
  have hm : m ≤ 64 := by omega
  have e2 : (2 * (m : Int) + 1).toNat = 2 * m + 1 := by omega
  rw [e2]
  clear e2 hrb
  go_enter Try.func86, Try.ntmps86
  go_wp2_with (first | (go_at_call 101; (with_reducible refine (H1.out _).mono ?_); rintro e w' ⟨rfl, rfl⟩))
  go_loopw [3, 5] (fun o aa wr => ∃ j : Nat, j ≤ 2 * m + 1 ∧ aa = .int .i64 ((j : Int) - m) ∧ wr.ownsRow w.heap.size 97 3 o (allL d m j).length (flat3 (allL d m j)) ∧ Below w.heap.size w wr) (fun _ aa _ => ((m : Int) + 1 - intOf aa).toNat)
  case atStart => exact ⟨0, by omega, by go_num, World.ownsRow_made _ _ _ (Nat.le_refl _) (by decide) rfl, by (repeat' (first | (with_reducible exact Below.refl _ _) | (with_reducible refine Below.alloc ?_ ?_ _) | (with_reducible refine Below.drew ?_) | (with_reducible refine below_drewN' ?_ _) | (with_reducible refine Below.setCell ?_ ?_ _) | (with_reducible refine Below.trans ?_ (Below.mono (by assumption) ?_)) | go_size))⟩
  case round =>
    obtain ⟨j, hj, rfl, hown, hB⟩ := hrel
    have HO := Lib.hid hown
    clear hown
    have hsz := hB.size
    obtain ⟨wo, ewo⟩ : ∃ wo : World, wo = wr := ⟨_, rfl⟩
    subst ewo
    have hsucc : allL d m (j + 1) = allL d m j ++ (if (j : Int) - m = 0 then [] else rowL d m ((j : Int) - m) (m : Int).toNat) := rfl
    rw [Int.toNat_natCast] at hsucc
    have HSU := Lib.hid hsucc
    have hal := allL_len d m (by omega) j
    have HAL := Lib.hid hal
    clear hsucc hal
    by_cases hlt : j < 2 * m + 1
    · by_cases ha0 : (j : Int) - m = 0
      · have hne : ((j : Int) - m != 0) = false := by simp; omega
        have hall : allL d m (j + 1) = allL d m j := by rw [HSU.out, if_pos ha0, List.append_nil]
        have HALL := Lib.hid hall
        clear hall
        have hjm : (j : Int) = m := by omega
        rw [ha0] at *
        go_wp2
        refine wp_loop_rounds 1 ?_
        rw [rounds_succ]
        go_wp2
        all_goals
          go_roundw
          case rel => exact ⟨j + 1, by omega, by congr 1; omega, by rw [HALL.out]; exact HO.out, hB⟩
          case measure => simp only [intOf]; omega
      · have hall : allL d m (j + 1) = allL d m j ++ rowL d m ((j : Int) - m) m := by rw [HSU.out, if_neg ha0]
        have hja : ((j + 1 : Nat) : Int) - m = (j : Int) - m + 1 := by omega
        obtain ⟨a, ea⟩ : ∃ a : Int, (j : Int) - m = a := ⟨_, rfl⟩
        rw [ea] at hall ha0 hja ⊢
        have ha : -64 ≤ a ∧ a ≤ 64 := by omega
        have ham : a ≤ m ∧ -(m : Int) ≤ a := by omega
        have hne : (a != 0) = true := by simpa using ha0
        have HALL := Lib.hid hall
        have HJA := Lib.hid hja
        have HEA := Lib.hid ea
        clear hall hja ea HSU
        go_wp2
        go_loopw [3, 6] (fun o bb wr => ∃ k : Nat, k ≤ m ∧ bb = .int .i64 ((k : Int) + 1) ∧ wr.ownsRow w.heap.size 97 3 o (allL d m j ++ rowL d m a k).length (flat3 (allL d m j ++ rowL d m a k)) ∧ Below w.heap.size w wr) (fun _ bb _ => ((m : Int) + 1 - intOf bb).toNat)
        case atStart => exact ⟨0, by omega, by go_num, by rw [rowL, List.append_nil]; exact HO.out, hB⟩
        case round =>
          obtain ⟨k, hk, rfl, hown2, hB2⟩ := hrel
          have HO2 := Lib.hid hown2
          clear hown2
          have hsz2 := hB2.size
          have hsucc2 : rowL d m a (k + 1) = rowL d m a k ++ itemL d m a ((k : Int) + 1) := rfl
          have hkk : ((k + 1 : Nat) : Int) + 1 = (k : Int) + 1 + 1 := by omega
          have hrl := rowL_len d m a k
          have HRL := Lib.hid hrl
          clear hrl
          by_cases hkm : k < m
          · obtain ⟨b, eb⟩ : ∃ b : Int, (k : Int) + 1 = b := ⟨_, rfl⟩
            rw [eb] at hsucc2 hkk ⊢
            have hb : 1 ≤ b ∧ b ≤ 64 := by omega
            have hbm : b ≤ (m : Int) := by omega
            have hbb : 0 ≤ b * b ∧ b * b ≤ 4096 := ⟨Int.mul_nonneg (by omega) (by omega), Int.mul_le_mul (by omega : b ≤ 64) (by omega : b ≤ 64) (by omega) (by omega)⟩
            have hqb := @tdiv_bd (b * b - d) (4 * a) (by omega)
            have hre := fun W => fun he => H2.out a b ((b * b - d).tdiv (4 * a)) W he hb ha
            have HKK := Lib.hid hkk
            have HEB := Lib.hid eb
            clear hkk eb
            by_cases ht : (b * b - d).tmod (4 * a) = 0
            · have hre2 := fun W => hre W (tdiv_mul ht)
              have ht' : ((b * b - d).tmod (4 * a) != 0) = false := by simp [ht]
              rw [itemL] at hsucc2
              obtain ⟨c, ec⟩ : ∃ c : Int, (b * b - d).tdiv (4 * a) = c := ⟨_, rfl⟩
              obtain ⟨p, ep⟩ : ∃ p, redB a b m = p := ⟨_, rfl⟩
              rw [ec] at hre2 hsucc2 hqb
              rw [ep] at hre2 hsucc2
              have HRE := Lib.hid hre2
              have HEC := Lib.hid ec
              clear hre hre2 ep
              cases p
              · rw [if_neg (by simp), List.append_nil] at hsucc2
                have HS2 := Lib.hid hsucc2
                clear hsucc2 ht
                rw [HEC.out] at *
                go_wp2_with (first | (go_at_call 102; (with_reducible refine (HRE.out _).mono ?_); rintro e w1 ⟨rfl, hb1⟩))
                go_roundw
                case rel => exact ⟨k + 1, by omega, by rw [HKK.out], by rw [HS2.out]; exact own_below (HO2.out.alloc _) hb1, by (repeat' (first | (with_reducible exact Below.refl _ _) | (with_reducible refine Below.alloc ?_ ?_ _) | (with_reducible refine Below.drew ?_) | (with_reducible refine below_drewN' ?_ _) | (with_reducible refine Below.setCell ?_ ?_ _) | (with_reducible refine Below.trans ?_ (Below.mono (by assumption) ?_)) | go_size))⟩
                case measure => simp [intOf]; omega
              · rw [if_pos ⟨ht, rfl⟩] at hsucc2
                have HS2 := Lib.hid hsucc2
                clear hsucc2 ht
                go_wp2_with (first | (go_at_call 102; (with_reducible refine (HRE.out _).mono ?_); rintro e w1 ⟨rfl, hb1⟩; have HO3 := Lib.hid (own_below (HO2.out.alloc (.cells #[.int .i64 a, .int .i64 b, .int .i64 c] 97)) hb1); obtain ⟨hg1, hi1, hy1, hx1⟩ := bfull hb1; (try simp only [World.size_drew] at hg1 hi1 hy1 hx1); (try simp only [World.size_alloc] at hg1 hi1 hy1 hx1); (try simp only [World.size_setCell] at hg1 hi1 hy1 hx1); obtain ⟨⟨s0, s1, s2⟩, ⟨sf0, sf1, sf2⟩, ss, sn⟩ : (w1.cell? ⟨wr.heap.size, 0, none⟩ = some (.int .i64 a) ∧ w1.cell? ⟨wr.heap.size, 1, none⟩ = some (.int .i64 b) ∧ w1.cell? ⟨wr.heap.size, 2, none⟩ = some (.int .i64 c)) ∧ (w1.frozen? ⟨wr.heap.size, 0, none⟩ = false ∧ w1.frozen? ⟨wr.heap.size, 1, none⟩ = false ∧ w1.frozen? ⟨wr.heap.size, 2, none⟩ = false) ∧ wr.heap.size < w1.heap.size ∧ ¬ w1.heap.size = wr.heap.size := ⟨by (focus (((repeat' apply And.intro) <;> (repeat' (first | (with_reducible assumption) | (with_reducible refine keep_drew ?_) | (with_reducible refine keep_setx (by omega) ?_) | (with_reducible refine keep_hc (by with_reducible assumption) (by omega) ?_) | (focus (go_simp; done)) | (with_reducible refine keep_alloc ?_)))); done)), by (focus (((repeat' apply And.intro) <;> (repeat' (first | (with_reducible assumption) | (with_reducible refine fz_drew ?_) | (with_reducible refine fz_set ?_) | (with_reducible refine fz_hc (by with_reducible assumption) (by omega) ?_) | (focus (go_simp; done)) | (with_reducible refine fz_alloc ?_ ?_) | go_size))); done)), by go_size, by go_size⟩) | (at_builtin; refine wpList_append_own _ rfl _ _ 66 rfl w.heap.size 97 i0 (.agg #[.int .i64 0, .int .i64 0, .int .i64 0]) 3 24 Try.underlying66 HI0.out.1 HI0.out.2.1 HI0.out.2.2.1 HI0.out.2.2.2 rfl (by decide) _ _ _ rfl (HO3.out.alloc _) ⟨w1.heap.size, 0, none⟩ 1 1 [.int .i64 a, .int .i64 b, .int .i64 c] rfl rfl (new_three _ _ _ _ _) ?c2 ?c3 ?c4 ?c5 ?_))
                case c2 => intro u hu; simp at hu; rcases hu with rfl | rfl | rfl <;> rfl
                case c3 => have := HAL.out; have := HRL.out; unfold maxLen; rw [List.length_append]; omega
                case c4 => have := HAL.out; have := HRL.out; rw [List.length_append]; omega
                case c5 => simp; omega
                intro v' w4 hown4 hgrow _
                have hB4 := Below.grown (B := w.heap.size) (a := w) ((hB2.alloc (by omega) (.cells #[.int .i64 a, .int .i64 b, .int .i64 c] 97)).trans (hb1.mono (by go_size)) |>.alloc (by go_size) (.cells #[.int .i64 a, .int .i64 b, .int .i64 c] 97)) hgrow (by go_size) (fun k e => (HO3.out.lt k e).1)
                have hown5 : w4.ownsRow w.heap.size 97 3 v' (allL d m j ++ rowL d m a (k + 1)).length (flat3 (allL d m j ++ rowL d m a (k + 1))) := by
                  rw [HS2.out, ← List.append_assoc, flat3_snoc, show (allL d m j ++ rowL d m a k ++ [(a, b, c)]).length = (allL d m j).length + (rowL d m a k).length + 1 from by rw [List.length_append, List.length_append]; rfl]
                  exact hown4
                have HK5 := Lib.hid (And.intro hown5 hB4)
                clear hown4 hown5 hgrow hB4
                go_wp2
                go_roundw
                case rel => exact ⟨k + 1, by omega, by rw [HKK.out], HK5.out.1, HK5.out.2⟩
                case measure => simp [intOf]; omega
            · have ht' : ((b * b - d).tmod (4 * a) != 0) = true := by simpa using ht
              rw [itemL, if_neg (by simp [ht]), List.append_nil] at hsucc2
              have HS2 := Lib.hid hsucc2
              clear hsucc2 hre ht
              go_wp2
              go_roundw
              case rel => exact ⟨k + 1, by omega, by rw [HKK.out], by rw [HS2.out]; exact HO2.out, hB2⟩
              case measure => simp [intOf]; omega
          · obtain rfl : k = m := by omega
            go_wp2
            go_roundw
            case rel => exact ⟨j + 1, by omega, by rw [HJA.out], by rw [HALL.out]; exact HO2.out, hB2⟩
            case measure => simp [intOf]; omega
    · obtain rfl : j = 2 * m + 1 := by omega
      go_wp2
      go_returns
      exact ⟨⟨_, rfl, HO.out⟩, hB⟩
def discC (d : Int) : Int := if inB d 1 4000 = true then (if rootG d * rootG d = d ∨ 1 < d % 4 then 5 else 0) else 2
def formsR (d : Int) : List (Int × Int × Int) × Int := if discC d = 0 then (allL d (rootG d) (2 * rootG d + 1).toNat, 0) else ([], discC d)
theorem discC_in {d : Int} (h : discC d = 0) : 0 ≤ d ∧ d ≤ 4000 := by
  unfold discC at h
  split at h
  · rename_i h1
    have := inB_iff.1 h1
    omega
  · cases h
theorem formsR_len (d : Int) : (formsR d).1.length ≤ 281474976710656 := by
  unfold formsR
  split
  · have h1 := rootG_bd d
    have h2 := allL_len d (rootG d) h1 (2 * rootG d + 1).toNat
    dsimp only
    omega
  · simp
theorem discOk_any (d : Int) (w : World) : Calls Try.prog 100 #[.int .i64 d] w fun e w' => e = .returned (.bool (inB d 1 4000 && decide (¬ rootG d * rootG d = d))) ∧ w = w' := by
  have h1 := fun W => in_any d 1 4000 W
  have h2 := fun (h : inB d 1 4000 = true) W => root_any d W (by have := inB_iff.1 h; omega)
  have hrb := rootG_bd d
  have hrr : 0 ≤ rootG d * rootG d ∧ rootG d * rootG d ≤ 4096 := ⟨Int.mul_nonneg (by omega) (by omega), Int.mul_le_mul (by omega : rootG d ≤ 64) (by omega : rootG d ≤ 64) (by omega) (by omega)⟩
  obtain ⟨r, er⟩ : ∃ r, rootG d = r := ⟨_, rfl⟩
  obtain ⟨p, ep⟩ : ∃ p, inB d 1 4000 = p := ⟨_, rfl⟩
  rw [er] at h2 hrb hrr ⊢
  rw [ep] at h1 h2 ⊢
  have H1 := Lib.hid h1
  clear h1 er ep
  cases p
  · clear h2
    go_enter Try.func100, Try.ntmps100
    go_wp2_with (first | (go_at_call 76; (with_reducible refine (H1.out _).mono ?_); rintro e w' ⟨rfl, rfl⟩))
    go_returns
    exact ⟨rfl, rfl⟩
  · have H2 := Lib.hid (h2 rfl)
    clear h2
    by_cases hq : r * r = d
    · have hq' : (r * r != d) = false := by simp [hq]
      rw [decide_eq_false (by simpa using hq)]
      clear hq
      go_enter Try.func100, Try.ntmps100
      go_wp2_with (first | (go_at_call 76; (with_reducible refine (H1.out _).mono ?_); rintro e w' ⟨rfl, rfl⟩) | (go_at_call 101; (with_reducible refine (H2.out _).mono ?_); rintro e w' ⟨rfl, rfl⟩))
      go_returns
      exact ⟨rfl, rfl⟩
    · have hq' : (r * r != d) = true := by simpa using hq
      rw [decide_eq_true (by simpa using hq)]
      clear hq
      go_enter Try.func100, Try.ntmps100
      go_wp2_with (first | (go_at_call 76; (with_reducible refine (H1.out _).mono ?_); rintro e w' ⟨rfl, rfl⟩) | (go_at_call 101; (with_reducible refine (H2.out _).mono ?_); rintro e w' ⟨rfl, rfl⟩))
      go_returns
      exact ⟨rfl, rfl⟩
theorem discFault_any (d : Int) (w : World) : Calls Try.prog 85 #[.int .i64 d] w fun e w' => e = .returned (.int .i64 (discC d)) ∧ w = w' := by
  have h1 := fun W => in_any d 1 4000 W
  have h2 := fun W => discOk_any d W
  have h3 := @inB_iff d 1 4000
  unfold discC
  obtain ⟨p, ep⟩ : ∃ p, inB d 1 4000 = p := ⟨_, rfl⟩
  rw [ep] at h1 h2 h3 ⊢
  have H1 := Lib.hid h1
  clear h1 ep
  cases p
  · clear h2 h3
    rw [if_neg (by decide)]
    go_enter Try.func85, Try.ntmps85
    go_wp2_with (first | (go_at_call 76; (with_reducible refine (H1.out _).mono ?_); rintro e w' ⟨rfl, rfl⟩))
    go_returns
    exact ⟨rfl, rfl⟩
  · rw [if_pos rfl]
    have hd := h3.1 rfl
    clear h3
    by_cases hq : rootG d * rootG d = d
    · rw [if_pos (.inl hq)]
      rw [decide_eq_false (by simpa using hq)] at h2
      have H2 := Lib.hid h2
      clear h2 hq
      go_enter Try.func85, Try.ntmps85
      go_wp2_with (first | (go_at_call 76; (with_reducible refine (H1.out _).mono ?_); rintro e w' ⟨rfl, rfl⟩) | (go_at_call 100; (with_reducible refine (H2.out _).mono ?_); rintro e w' ⟨rfl, rfl⟩))
      go_returns
      exact ⟨rfl, rfl⟩
    · rw [decide_eq_true (by simpa using hq)] at h2
      have H2 := Lib.hid h2
      clear h2
      by_cases hm : 1 < d % 4
      · rw [if_pos (.inr hm)]
        clear hq
        go_enter Try.func85, Try.ntmps85
        go_wp2_with (first | (go_at_call 76; (with_reducible refine (H1.out _).mono ?_); rintro e w' ⟨rfl, rfl⟩) | (go_at_call 100; (with_reducible refine (H2.out _).mono ?_); rintro e w' ⟨rfl, rfl⟩))
        go_returns
        exact ⟨rfl, rfl⟩
      · rw [if_neg (by simp only [hq, hm]; simp)]
        clear hq
        go_enter Try.func85, Try.ntmps85
        go_wp2_with (first | (go_at_call 76; (with_reducible refine (H1.out _).mono ?_); rintro e w' ⟨rfl, rfl⟩) | (go_at_call 100; (with_reducible refine (H2.out _).mono ?_); rintro e w' ⟨rfl, rfl⟩))
        go_returns
        exact ⟨rfl, rfl⟩
theorem implForms_any (d : Int) (w : World) : Calls Try.prog 46 #[.int .i64 d] w fun e w' =>
    (∃ A cc, e = .returned (.tuple #[.slice A (formsR d).1.length cc, .int .i64 (formsR d).2]) ∧ SSl w' A (formsR d).1.length (formsR d).1 ∧ WSl w.heap.size w' A ((formsR d).1.length * 3)) ∧ Below w.heap.size w w' := by
  have h1 := fun W => discFault_any d W
  have h2 := fun (h : discC d = 0) W => reducedForms_any d W (discC_in h)
  unfold formsR
  obtain ⟨k, ek⟩ : ∃ k, discC d = k := ⟨_, rfl⟩
  rw [ek] at h1 h2 ⊢
  have H1 := Lib.hid h1
  clear h1 ek
  by_cases h0 : k = 0
  · have H2 := Lib.hid (h2 h0)
    subst h0
    rw [if_pos rfl]
    clear h2
    go_enter Try.func46, Try.ntmps46
    go_wp2_with (first | (go_at_call 85; (with_reducible refine (H1.out _).mono ?_); rintro e w' ⟨rfl, rfl⟩) | (go_at_call 86; (with_reducible refine (H2.out _).mono ?_); rintro e w1 ⟨⟨v, rfl, hown⟩, hb1⟩; have HO := Lib.hid hown; clear hown))
    go_returns
    obtain ⟨A, cc, rfl, h1, h2⟩ := owns_SSl HO.out
    exact ⟨⟨A, cc, rfl, h1, h2⟩, hb1⟩
  · rw [if_neg h0]
    have hd : (k != 0) = true := by simpa using h0
    clear h0 h2
    go_enter Try.func46, Try.ntmps46
    go_wp2_with (first | (go_at_call 85; (with_reducible refine (H1.out _).mono ?_); rintro e w' ⟨rfl, rfl⟩))
    go_returns
    exact ⟨⟨none, 0, rfl, ⟨rfl, fun h => absurd h (by simp)⟩, fun h => absurd h (by simp)⟩, by (repeat' (first | (with_reducible exact Below.refl _ _) | (with_reducible refine Below.alloc ?_ ?_ _) | (with_reducible refine Below.drew ?_) | (with_reducible refine below_drewN' ?_ _) | (with_reducible refine Below.setCell ?_ ?_ _) | (with_reducible refine Below.trans ?_ (Below.mono (by assumption) ?_)) | go_size))⟩
theorem l06All_any (d : Int) (w : World) : Calls Try.prog 84 #[.int .i64 d] w fun e w' =>
    (∃ A cc, e = .returned (.tuple #[.slice A (formsR d).1.length cc, .int .i64 (formsR d).2]) ∧ SSl w' A (formsR d).1.length (formsR d).1 ∧ WSl w.heap.size w' A ((formsR d).1.length * 3)) ∧ Below w.heap.size w w' := by
  obtain ⟨i0, hI0⟩ := info_parts infoF3
  have HI0 := Lib.hid hI0
  clear hI0
  have h1 := fun W => l01In_any d 1 4000 W
  have h2 := fun (h : inB d 1 4000 = true) W => l06Root_any d W (by have := inB_iff.1 h; omega)
  have h3 := @inB_iff d 1 4000
  have hrb := rootG_bd d
  have hrr : 0 ≤ rootG d * rootG d ∧ rootG d * rootG d ≤ 4096 := ⟨Int.mul_nonneg (by omega) (by omega), Int.mul_le_mul (by omega : rootG d ≤ 64) (by omega : rootG d ≤ 64) (by omega) (by omega)⟩
  have hC : discC d = (if inB d 1 4000 = true then (if rootG d * rootG d = d ∨ 1 < d % 4 then 5 else 0) else 2) := rfl
  unfold formsR
  obtain ⟨r, er⟩ : ∃ r, rootG d = r := ⟨_, rfl⟩
  obtain ⟨p, ep⟩ : ∃ p, inB d 1 4000 = p := ⟨_, rfl⟩
  rw [er] at h2 hrb hrr hC ⊢
  rw [ep] at h1 h2 h3 hC
  have H1 := Lib.hid h1
  clear h1 er ep
  cases p
  · clear h2 h3
    rw [if_neg (by decide)] at hC
    rw [hC, if_neg (by decide)]
    clear hC
    go_enter Try.func84, Try.ntmps84
    go_wp2_with (first | (go_at_call 70; (with_reducible refine (H1.out _).mono ?_); rintro e w' ⟨rfl, rfl⟩))
    go_returns
    exact ⟨⟨none, 0, rfl, ⟨rfl, fun h => absurd h (by simp)⟩, fun h => absurd h (by simp)⟩, by (repeat' (first | (with_reducible exact Below.refl _ _) | (with_reducible refine Below.alloc ?_ ?_ _) | (with_reducible refine Below.drew ?_) | (with_reducible refine below_drewN' ?_ _) | (with_reducible refine Below.setCell ?_ ?_ _) | (with_reducible refine Below.trans ?_ (Below.mono (by assumption) ?_)) | go_size))⟩
  · rw [if_pos rfl] at hC
    have H2 := Lib.hid (h2 rfl)
    have hd' := h3.1 rfl
    have hd : 0 ≤ d ∧ d ≤ 4000 := by omega
    clear h2 h3
    by_cases hq : r * r = d
    · rw [if_pos (.inl hq)] at hC
      rw [hC, if_neg (by decide)]
      clear hC
      have hq' : (r * r == d) = true := by simpa using hq
      clear hq
      go_enter Try.func84, Try.ntmps84
      go_wp2_with (first | (go_at_call 70; (with_reducible refine (H1.out _).mono ?_); rintro e w' ⟨rfl, rfl⟩) | (go_at_call 98; (with_reducible refine (H2.out _).mono ?_); rintro e w' ⟨rfl, rfl⟩))
      go_returns
      exact ⟨⟨none, 0, rfl, ⟨rfl, fun h => absurd h (by simp)⟩, fun h => absurd h (by simp)⟩, by (repeat' (first | (with_reducible exact Below.refl _ _) | (with_reducible refine Below.alloc ?_ ?_ _) | (with_reducible refine Below.drew ?_) | (with_reducible refine below_drewN' ?_ _) | (with_reducible refine Below.setCell ?_ ?_ _) | (with_reducible refine Below.trans ?_ (Below.mono (by assumption) ?_)) | go_size))⟩
    · have hq' : (r * r == d) = false := by simpa using hq
      by_cases hmm : 1 < d % 4
      · rw [if_pos (.inr hmm)] at hC
        rw [hC, if_neg (by decide)]
        clear hC
        clear hq
        go_enter Try.func84, Try.ntmps84
        go_wp2_with (first | (go_at_call 70; (with_reducible refine (H1.out _).mono ?_); rintro e w' ⟨rfl, rfl⟩) | (go_at_call 98; (with_reducible refine (H2.out _).mono ?_); rintro e w' ⟨rfl, rfl⟩))
        go_returns
        exact ⟨⟨none, 0, rfl, ⟨rfl, fun h => absurd h (by simp)⟩, fun h => absurd h (by simp)⟩, by (repeat' (first | (with_reducible exact Below.refl _ _) | (with_reducible refine Below.alloc ?_ ?_ _) | (with_reducible refine Below.drew ?_) | (with_reducible refine below_drewN' ?_ _) | (with_reducible refine Below.setCell ?_ ?_ _) | (with_reducible refine Below.trans ?_ (Below.mono (by assumption) ?_)) | go_size))⟩
      · rw [if_neg (by simp only [hq, hmm]; simp)] at hC
        rw [hC, if_pos rfl]
        clear hC
        clear hq
        obtain ⟨m, em⟩ := Int.eq_ofNat_of_zero_le hrb.1
        subst em
        have hm : m ≤ 64 := by omega
        have e2 : (2 * (m : Int) + 1).toNat = 2 * m + 1 := by omega
        rw [e2]
        clear e2 hrb
        go_enter Try.func84, Try.ntmps84
        go_wp2_with (first | (go_at_call 70; (with_reducible refine (H1.out _).mono ?_); rintro e w' ⟨rfl, rfl⟩) | (go_at_call 98; (with_reducible refine (H2.out _).mono ?_); rintro e w' ⟨rfl, rfl⟩))
        go_loopw [5, 6] (fun o aa wr => ∃ j : Nat, j ≤ 2 * m + 1 ∧ aa = .int .i64 ((j : Int) - m) ∧ wr.ownsRow w.heap.size 97 3 o (allL d m j).length (flat3 (allL d m j)) ∧ Below w.heap.size w wr) (fun _ aa _ => ((m : Int) + 1 - intOf aa).toNat)
        case atStart => exact ⟨0, by omega, by go_num, World.ownsRow_made _ _ _ (Nat.le_refl _) (by decide) rfl, by (repeat' (first | (with_reducible exact Below.refl _ _) | (with_reducible refine Below.alloc ?_ ?_ _) | (with_reducible refine Below.drew ?_) | (with_reducible refine below_drewN' ?_ _) | (with_reducible refine Below.setCell ?_ ?_ _) | (with_reducible refine Below.trans ?_ (Below.mono (by assumption) ?_)) | go_size))⟩
        case round =>
          obtain ⟨j, hj, rfl, hown, hB⟩ := hrel
          have HO := Lib.hid hown
          clear hown
          have hsz := hB.size
          obtain ⟨wo, ewo⟩ : ∃ wo : World, wo = wr := ⟨_, rfl⟩
          subst ewo
          have hsucc : allL d m (j + 1) = allL d m j ++ (if (j : Int) - m = 0 then [] else rowL d m ((j : Int) - m) (m : Int).toNat) := rfl
          rw [Int.toNat_natCast] at hsucc
          have HSU := Lib.hid hsucc
          have hal := allL_len d m (by omega) j
          have HAL := Lib.hid hal
          clear hsucc hal
          by_cases hlt : j < 2 * m + 1
          · by_cases ha0 : (j : Int) - m = 0
            · have hne : ((j : Int) - m != 0) = false := by simp; omega
              have hall : allL d m (j + 1) = allL d m j := by rw [HSU.out, if_pos ha0, List.append_nil]
              have HALL := Lib.hid hall
              clear hall
              have hjm : (j : Int) = m := by omega
              rw [ha0] at *
              go_wp2
              refine wp_loop_rounds 1 ?_
              rw [rounds_succ]
              go_wp2
              all_goals
                go_roundw
                case rel => exact ⟨j + 1, by omega, by congr 1; omega, by rw [HALL.out]; exact HO.out, hB⟩
                case measure => simp only [intOf]; omega
            · have hall : allL d m (j + 1) = allL d m j ++ rowL d m ((j : Int) - m) m := by rw [HSU.out, if_neg ha0]
              have hja : ((j + 1 : Nat) : Int) - m = (j : Int) - m + 1 := by omega
              obtain ⟨a, ea⟩ : ∃ a : Int, (j : Int) - m = a := ⟨_, rfl⟩
              rw [ea] at hall ha0 hja ⊢
              have ha : -64 ≤ a ∧ a ≤ 64 := by omega
              have ham : a ≤ m ∧ -(m : Int) ≤ a := by omega
              have hne : (a != 0) = true := by simpa using ha0
              have HALL := Lib.hid hall
              have HJA := Lib.hid hja
              have HEA := Lib.hid ea
              clear hall hja ea HSU
              go_wp2
              go_loopw [5, 7] (fun o bb wr => ∃ k : Nat, k ≤ m ∧ bb = .int .i64 ((k : Int) + 1) ∧ wr.ownsRow w.heap.size 97 3 o (allL d m j ++ rowL d m a k).length (flat3 (allL d m j ++ rowL d m a k)) ∧ Below w.heap.size w wr) (fun _ bb _ => ((m : Int) + 1 - intOf bb).toNat)
              case atStart => exact ⟨0, by omega, by go_num, by rw [rowL, List.append_nil]; exact HO.out, hB⟩
              case round =>
                obtain ⟨k, hk, rfl, hown2, hB2⟩ := hrel
                have HO2 := Lib.hid hown2
                clear hown2
                have hsz2 := hB2.size
                have hsucc2 : rowL d m a (k + 1) = rowL d m a k ++ itemL d m a ((k : Int) + 1) := rfl
                have hkk : ((k + 1 : Nat) : Int) + 1 = (k : Int) + 1 + 1 := by omega
                have hrl := rowL_len d m a k
                have HRL := Lib.hid hrl
                clear hrl
                by_cases hkm : k < m
                · obtain ⟨b, eb⟩ : ∃ b : Int, (k : Int) + 1 = b := ⟨_, rfl⟩
                  rw [eb] at hsucc2 hkk ⊢
                  have hb : 1 ≤ b ∧ b ≤ 64 := by omega
                  have hbm : b ≤ (m : Int) := by omega
                  have hbb : 0 ≤ b * b ∧ b * b ≤ 4096 := ⟨Int.mul_nonneg (by omega) (by omega), Int.mul_le_mul (by omega : b ≤ 64) (by omega : b ≤ 64) (by omega) (by omega)⟩
                  have hqb := @tdiv_bd (b * b - d) (4 * a) (by omega)
                  have hre := fun W => l06Reduced_any a b ((b * b - d).tdiv (4 * a)) m W hb ha (by omega)
                  have HKK := Lib.hid hkk
                  have HEB := Lib.hid eb
                  clear hkk eb
                  by_cases ht : (b * b - d).tmod (4 * a) = 0
                  · have hre2 := hre
                    have ht' : ((b * b - d).tmod (4 * a) != 0) = false := by simp [ht]
                    rw [itemL] at hsucc2
                    obtain ⟨c, ec⟩ : ∃ c : Int, (b * b - d).tdiv (4 * a) = c := ⟨_, rfl⟩
                    obtain ⟨p, ep⟩ : ∃ p, redB a b m = p := ⟨_, rfl⟩
                    rw [ec] at hre2 hsucc2 hqb
                    rw [ep] at hre2 hsucc2
                    have HRE := Lib.hid hre2
                    have HEC := Lib.hid ec
                    clear hre hre2 ep
                    cases p
                    · rw [if_neg (by simp), List.append_nil] at hsucc2
                      have HS2 := Lib.hid hsucc2
                      clear hsucc2 ht
                      rw [HEC.out] at *
                      go_wp2_with (first | (go_at_call 99; (with_reducible refine (HRE.out _).mono ?_); rintro e w1 ⟨rfl, hb1⟩))
                      go_roundw
                      case rel => exact ⟨k + 1, by omega, by rw [HKK.out], by rw [HS2.out]; exact own_below (HO2.out.alloc _) hb1, by (repeat' (first | (with_reducible exact Below.refl _ _) | (with_reducible refine Below.alloc ?_ ?_ _) | (with_reducible refine Below.drew ?_) | (with_reducible refine below_drewN' ?_ _) | (with_reducible refine Below.setCell ?_ ?_ _) | (with_reducible refine Below.trans ?_ (Below.mono (by assumption) ?_)) | go_size))⟩
                      case measure => simp [intOf]; omega
                    · rw [if_pos ⟨ht, rfl⟩] at hsucc2
                      have HS2 := Lib.hid hsucc2
                      clear hsucc2 ht
                      go_wp2_with (first | (go_at_call 99; (with_reducible refine (HRE.out _).mono ?_); rintro e w1 ⟨rfl, hb1⟩; have HO3 := Lib.hid (own_below (HO2.out.alloc (.cells #[.int .i64 a, .int .i64 b, .int .i64 c] 97)) hb1); obtain ⟨hg1, hi1, hy1, hx1⟩ := bfull hb1; (try simp only [World.size_drew] at hg1 hi1 hy1 hx1); (try simp only [World.size_alloc] at hg1 hi1 hy1 hx1); (try simp only [World.size_setCell] at hg1 hi1 hy1 hx1); obtain ⟨⟨s0, s1, s2⟩, ⟨sf0, sf1, sf2⟩, ss, sn⟩ : (w1.cell? ⟨wr.heap.size, 0, none⟩ = some (.int .i64 a) ∧ w1.cell? ⟨wr.heap.size, 1, none⟩ = some (.int .i64 b) ∧ w1.cell? ⟨wr.heap.size, 2, none⟩ = some (.int .i64 c)) ∧ (w1.frozen? ⟨wr.heap.size, 0, none⟩ = false ∧ w1.frozen? ⟨wr.heap.size, 1, none⟩ = false ∧ w1.frozen? ⟨wr.heap.size, 2, none⟩ = false) ∧ wr.heap.size < w1.heap.size ∧ ¬ w1.heap.size = wr.heap.size := ⟨by (focus (((repeat' apply And.intro) <;> (repeat' (first | (with_reducible assumption) | (with_reducible refine keep_drew ?_) | (with_reducible refine keep_setx (by omega) ?_) | (with_reducible refine keep_hc (by with_reducible assumption) (by omega) ?_) | (focus (go_simp; done)) | (with_reducible refine keep_alloc ?_)))); done)), by (focus (((repeat' apply And.intro) <;> (repeat' (first | (with_reducible assumption) | (with_reducible refine fz_drew ?_) | (with_reducible refine fz_set ?_) | (with_reducible refine fz_hc (by with_reducible assumption) (by omega) ?_) | (focus (go_simp; done)) | (with_reducible refine fz_alloc ?_ ?_) | go_size))); done)), by go_size, by go_size⟩) | (at_builtin; refine wpList_append_own _ rfl _ _ 66 rfl w.heap.size 97 i0 (.agg #[.int .i64 0, .int .i64 0, .int .i64 0]) 3 24 Try.underlying66 HI0.out.1 HI0.out.2.1 HI0.out.2.2.1 HI0.out.2.2.2 rfl (by decide) _ _ _ rfl (HO3.out.alloc _) ⟨w1.heap.size, 0, none⟩ 1 1 [.int .i64 a, .int .i64 b, .int .i64 c] rfl rfl (new_three _ _ _ _ _) ?c2 ?c3 ?c4 ?c5 ?_))
                      case c2 => intro u hu; simp at hu; rcases hu with rfl | rfl | rfl <;> rfl
                      case c3 => have := HAL.out; have := HRL.out; unfold maxLen; rw [List.length_append]; omega
                      case c4 => have := HAL.out; have := HRL.out; rw [List.length_append]; omega
                      case c5 => simp; omega
                      intro v' w4 hown4 hgrow _
                      have hB4 := Below.grown (B := w.heap.size) (a := w) ((hB2.alloc (by omega) (.cells #[.int .i64 a, .int .i64 b, .int .i64 c] 97)).trans (hb1.mono (by go_size)) |>.alloc (by go_size) (.cells #[.int .i64 a, .int .i64 b, .int .i64 c] 97)) hgrow (by go_size) (fun k e => (HO3.out.lt k e).1)
                      have hown5 : w4.ownsRow w.heap.size 97 3 v' (allL d m j ++ rowL d m a (k + 1)).length (flat3 (allL d m j ++ rowL d m a (k + 1))) := by
                        rw [HS2.out, ← List.append_assoc, flat3_snoc, show (allL d m j ++ rowL d m a k ++ [(a, b, c)]).length = (allL d m j).length + (rowL d m a k).length + 1 from by rw [List.length_append, List.length_append]; rfl]
                        exact hown4
                      have HK5 := Lib.hid (And.intro hown5 hB4)
                      clear hown4 hown5 hgrow hB4
                      go_wp2
                      go_roundw
                      case rel => exact ⟨k + 1, by omega, by rw [HKK.out], HK5.out.1, HK5.out.2⟩
                      case measure => simp [intOf]; omega
                  · have ht' : ((b * b - d).tmod (4 * a) != 0) = true := by simpa using ht
                    rw [itemL, if_neg (by simp [ht]), List.append_nil] at hsucc2
                    have HS2 := Lib.hid hsucc2
                    clear hsucc2 hre ht
                    go_wp2
                    go_roundw
                    case rel => exact ⟨k + 1, by omega, by rw [HKK.out], by rw [HS2.out]; exact HO2.out, hB2⟩
                    case measure => simp [intOf]; omega
                · obtain rfl : k = m := by omega
                  go_wp2
                  go_roundw
                  case rel => exact ⟨j + 1, by omega, by rw [HJA.out], by rw [HALL.out]; exact HO2.out, hB2⟩
                  case measure => simp [intOf]; omega
          · obtain rfl : j = 2 * m + 1 := by omega
            obtain ⟨A, cc, rfl, h1, h2⟩ := owns_SSl HO.out
            have HAA := Lib.hid (And.intro h1 h2)
            clear h1 h2 HO
            go_wp2
            go_returns
            exact ⟨⟨A, cc, rfl, HAA.out.1, HAA.out.2⟩, hB⟩
theorem specForms_any (d : Int) (w : World) : Calls Try.prog 45 #[.int .i64 d] w fun e w' =>
    (∃ A cc, e = .returned (.tuple #[.slice A (formsR d).1.length cc, .int .i64 (formsR d).2]) ∧ SSl w' A (formsR d).1.length (formsR d).1 ∧ WSl w.heap.size w' A ((formsR d).1.length * 3)) ∧ Below w.heap.size w w' := by
  have h1 := fun W => l06All_any d W
  have H1 := Lib.hid h1
  clear h1
  go_enter Try.func45, Try.ntmps45
  go_wp2_with (first | (go_at_call 84; (with_reducible refine (H1.out _).mono ?_); rintro e w1 ⟨⟨A, cc, rfl, h1, h2⟩, hb1⟩; have HO := Lib.hid (And.intro h1 h2); clear h1 h2))
  go_returns
  exact ⟨⟨A, cc, rfl, HO.out.1, HO.out.2⟩, hb1⟩
end Go.Proofs.Ytoldicmobenhaaa
