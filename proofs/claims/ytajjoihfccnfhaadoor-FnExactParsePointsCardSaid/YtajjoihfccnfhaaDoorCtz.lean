/-
  Copies of lists of points; the texts of lists, by both programs. Conditions: the sizes, and the table that the library reads, as each says.
-/
import Derived.Test.YtajjoihfccnfhaaDoorCty
namespace Go.Proofs.YtajjoihfccnfhaaDoor
open Go.RowKit
set_option maxHeartbeats 1000000
theorem below_beyond {B : Nat} {w wr : World} {b o : Nat} {v : Value} (h : Below B w wr) (hB : B ≤ b) : Below B w (wr.setCell ⟨b, o, none⟩ v) := h.setCell (p := ⟨b, o, none⟩) hB v
theorem wp_genP {P : Program} {Q : Exit → Act → World → Prop} {c : Code} {a : Act} {W : World} {F : World → Prop} (hF : F W) (h : ∀ w2, F w2 → Code.wp P c Q a w2) : Code.wp P c Q a W := h W hF
theorem infoP : (Tryd.prog.info? 25).map (fun i => (i.zero, i.size, i.bytes)) = some (some (.agg #[.int .i64 0, .int .i64 0]), 2, 16) := by kernel_rfl
theorem mkP (n : Nat) (hn : n ≤ 1048576) (w : World) : (Instr.makeSlice 40 (.int .i64 (n : Int)) (.int .i64 (n : Int))).run Tryd.prog w = .ok (.slice (some ⟨w.heap.size, 0, none⟩) n n) (w.alloc (.cells (madeCells #[.int .i64 0, .int .i64 0] (n * 2)) 25)) := by
  obtain ⟨i, h1, h5⟩ := Option.map_eq_some_iff.1 infoP
  simp only [Prod.mk.injEq] at h5
  obtain ⟨h2, h4, h3⟩ := h5
  have hr := run_make (P := Tryd.prog) w 40 25 i (.agg #[.int .i64 0, .int .i64 0]) (by exact Tryd.underlying40) h1 h2 .i64 .i64 n n (by omega) (by omega) (by rw [h3]; omega) (by omega)
  rw [h4] at hr
  simp only [Int.toNat_natCast] at hr
  exact hr
theorem made_atP (w : World) (T : TypeId) (n j : Nat) (hj : j < n) : (∃ v, (w.alloc (.cells (madeCells #[.int .i64 0, .int .i64 0] n) T)).cell? ⟨w.heap.size, j, none⟩ = some v) ∧ (w.alloc (.cells (madeCells #[.int .i64 0, .int .i64 0] n) T)).frozen? ⟨w.heap.size, j, none⟩ = false := by
  have h1 := heap_alloc_new w (.cells (madeCells #[.int .i64 0, .int .i64 0] n) T)
  constructor
  · unfold World.cell?
    rw [h1]
    have h2 : j < (madeCells #[.int .i64 0, .int .i64 0] n).size := by rw [size_madeCells]; exact hj
    exact ⟨_, Array.getElem?_eq_getElem h2⟩
  · unfold World.frozen?
    rw [h1]
    simp
theorem fz_bel {w w1 : World} {b o : Nat} (hb : Below w.heap.size w w1) (hlt : b < w.heap.size) (h : w.frozen? ⟨b, o, none⟩ = false) : w1.frozen? ⟨b, o, none⟩ = false := by
  unfold World.frozen? at h ⊢
  rw [hb.block b hlt]
  exact h
theorem set2P {w : World} {b o : Nat} {v0 v1 u0 u1 : Value} (h0 : w.cell? ⟨b, o, none⟩ = some u0) (h1 : w.cell? ⟨b, o + 1, none⟩ = some u1) :
    ((w.setCell ⟨b, o, none⟩ v0).setCell ⟨b, o + 1, none⟩ v1).cell? ⟨b, o, none⟩ = some v0 ∧ ((w.setCell ⟨b, o, none⟩ v0).setCell ⟨b, o + 1, none⟩ v1).cell? ⟨b, o + 1, none⟩ = some v1 ∧
    ∀ j, ¬ j = o → ¬ j = o + 1 → ((w.setCell ⟨b, o, none⟩ v0).setCell ⟨b, o + 1, none⟩ v1).cell? ⟨b, j, none⟩ = w.cell? ⟨b, j, none⟩ := by
  have ne : ∀ {i j : Nat}, ¬ i = j → (⟨b, i, none⟩ : Addr) ≠ ⟨b, j, none⟩ := fun h e => h (by have := congrArg Addr.off e; simpa using this)
  have g1 : (w.setCell ⟨b, o, none⟩ v0).cell? ⟨b, o + 1, none⟩ = some u1 := (World.cell?_setCell_other _ _ _ _ (ne (by omega))).trans h1
  refine ⟨?_, World.cell?_setCell_same (h := g1) .., fun j a1 a2 => ?_⟩
  · exact (World.cell?_setCell_other _ _ _ _ (ne (by omega))).trans (World.cell?_setCell_same (h := h0) ..)
  · exact (World.cell?_setCell_other _ _ _ _ (ne (by omega))).trans (World.cell?_setCell_other _ _ _ _ (ne (by omega)))
theorem szPointS_any (A : Option Addr) (n c : Nat) (w : World) (hn : n ≤ 9223372036854775807) : Calls Tryd.prog 18 #[.slice A n c, .int .i64 1048576] w fun e w' => e = .returned (.int .i64 (if 1048576 - (n : Int) < 0 then -1 else 1048576 - n)) ∧ Below w.heap.size w w' := by
  go_enter Tryd.func18, Tryd.ntmps18
  by_cases h : 1048576 - (n : Int) < 0
  · rw [if_pos h]
    go_wp2
    go_returns
    exact ⟨rfl, Below.refl _ _⟩
  · rw [if_neg h]
    go_wp2
    go_returns
    exact ⟨rfl, Below.refl _ _⟩
theorem toPointS_any (A : Option Addr) (n c : Nat) (xs : List (Int × Int)) (w : World) (h : PSl w A n xs) (hn : n ≤ 1048576) : Calls Tryd.prog 20 #[.slice A n c] w fun e w' =>
    (∃ A', e = .returned (.slice A' n n) ∧ PSl w' A' n xs) ∧ Below w.heap.size w w' := by
  obtain ⟨rfl, hx⟩ := h
  have hmk := fun W => mkP xs.length hn W
  go_enter Tryd.func20, Tryd.ntmps20
  go_wp2
  refine wp_genP (F := fun W1 => Below w.heap.size w W1 ∧ w.heap.size + 1 ≤ W1.heap.size ∧ ∀ j, j < xs.length * 2 → (∃ v, W1.cell? ⟨w.heap.size, j, none⟩ = some v) ∧ W1.frozen? ⟨w.heap.size, j, none⟩ = false) ⟨by (repeat' (first | (with_reducible exact Below.refl _ _) | (with_reducible refine Below.alloc ?_ ?_ _) | (with_reducible refine Below.drew ?_) | (with_reducible refine below_drewN' ?_ _) | (with_reducible refine Below.setCell ?_ ?_ _) | (with_reducible refine Below.trans ?_ (Below.mono (by assumption) ?_)) | go_size)), by simp, fun j hj => made_atP w _ (xs.length * 2) j hj⟩ (fun W1 hW1 => ?_)
  obtain ⟨hB1, hz1, hall1⟩ := hW1
  clear hmk
  go_loopw [4] (fun i wr => ∃ k : Nat, k ≤ xs.length ∧ i = .int .i64 k ∧ Below w.heap.size w wr ∧ w.heap.size + 1 ≤ wr.heap.size ∧
      (∀ j, j < xs.length * 2 → (∃ v, wr.cell? ⟨w.heap.size, j, none⟩ = some v) ∧ wr.frozen? ⟨w.heap.size, j, none⟩ = false) ∧
      (∀ j, j < k → wr.cell? ⟨w.heap.size, j * 2, none⟩ = some (.int .i64 (xs[j]?.getD (0, 0)).1) ∧ wr.cell? ⟨w.heap.size, j * 2 + 1, none⟩ = some (.int .i64 (xs[j]?.getD (0, 0)).2))) (fun i _ => xs.length - (intOf i).toNat)
  case atStart => exact ⟨0, Nat.zero_le _, rfl, hB1, hz1, hall1, fun j hj => absurd hj (by omega)⟩
  case round =>
    obtain ⟨k, hk, rfl, hB, hsz, hall, hdone⟩ := hrel
    clear hall1 hB1 hz1
    by_cases hlt : k < xs.length
    · obtain ⟨b, off, rfl, hb, hr⟩ := hx (by omega)
      obtain ⟨⟨v1, h1⟩, f1⟩ := hall (k * 2) (by omega)
      obtain ⟨⟨v2, h2⟩, f2⟩ := hall (k * 2 + 1) (by omega)
      have h3 := cell_keep hB (hr k hlt).1
      have h4 := cell_keep hB (hr k hlt).2
      have HC := Lib.hid hall
      have HD := Lib.hid hdone
      have HBB := Lib.hid hB
      obtain ⟨⟨x, y⟩, hp⟩ : ∃ p, xs[k]?.getD (0, 0) = p := ⟨_, rfl⟩
      rw [hp] at h3 h4
      have HP := Lib.hid hp
      have HX := Lib.hid hx
      clear hall hr hp hx hdone
      have hi0 : (0 : Int) ≤ (k : Int) := by omega
      have hi1 : (k : Int) < (xs.length : Int) := by omega
      go_wp2_with (go_at_call 11; go_must ((with_reducible refine (toPoint_any _ _ _).mono ?_)); rintro e w1 ⟨rfl, hb1⟩; have g1 := cell_keep hb1 h1; have g2 := cell_keep hb1 h2; have q1 := fz_bel hb1 (by omega) f1; have q2 := fz_bel hb1 (by omega) f2)
      have hset := @set2P w1 w.heap.size (k * 2) (.int .i64 x) (.int .i64 y) v1 v2 g1 g2
      go_roundw
      case rel =>
        refine ⟨k + 1, by omega, by go_num, below_beyond (below_beyond (HBB.out.trans (hb1.mono (by omega))) (Nat.le_refl _)) (Nat.le_refl _), by rw [World.size_setCell, World.size_setCell]; have := hb1.size; omega, fun j hj => ?_, fun j hj => ?_⟩
        · obtain ⟨⟨v, hv⟩, hf⟩ := HC.out j hj
          refine ⟨?_, by rw [World.frozen?_setCell, World.frozen?_setCell]; exact fz_bel hb1 (by omega) hf⟩
          by_cases e1 : j = k * 2
          · subst e1; exact ⟨_, hset.1⟩
          · by_cases e2 : j = k * 2 + 1
            · subst e2; exact ⟨_, hset.2.1⟩
            · exact ⟨v, (hset.2.2 j e1 e2).trans (cell_keep hb1 hv)⟩
        · by_cases hjk : j = k
          · subst hjk; rw [HP.out]; exact ⟨hset.1, hset.2.1⟩
          · obtain ⟨d1, d2⟩ := HD.out j (by omega)
            exact ⟨(hset.2.2 _ (by omega) (by omega)).trans (cell_keep hb1 d1), (hset.2.2 _ (by omega) (by omega)).trans (cell_keep hb1 d2)⟩
      case measure => simp [intOf]; omega
    · obtain rfl : k = xs.length := by omega
      have HD := Lib.hid hdone
      clear hall hdone hx
      go_wp2
      go_returns
      refine ⟨⟨_, rfl, ⟨rfl, fun hp => ⟨w.heap.size, 0, rfl, by omega, fun i hi => ?_⟩⟩⟩, hB⟩
      rw [Nat.zero_add]
      exact HD.out i hi
theorem eqPointS_same (A A' : Option Addr) (n c c' : Nat) (xs : List (Int × Int)) (w : World) (h : PSl w A n xs) (h' : PSl w A' n xs) (hn : n ≤ 281474976710656) :
    Calls Tryd.prog 22 #[.slice A n c, .slice A' n c'] w fun e w' => e = .returned (.bool true) ∧ Below w.heap.size w w' := by
  obtain ⟨rfl, hx⟩ := h
  have hx' := h'.2
  clear h'
  go_enter Tryd.func22, Tryd.ntmps22
  go_wp2
  go_loopw [5] (fun i wr => Below w.heap.size w wr ∧ ∃ k : Nat, k ≤ xs.length ∧ i = .int .i64 k) (fun i _ => xs.length - (intOf i).toNat)
  case atStart => exact ⟨Below.refl _ _, 0, Nat.zero_le _, rfl⟩
  case round =>
    obtain ⟨hB, k, hk, rfl⟩ := hrel
    by_cases hlt : k < xs.length
    · obtain ⟨b, off, rfl, hb, hr⟩ := hx (by omega)
      obtain ⟨b', off', rfl, hb', hr'⟩ := hx' (by omega)
      have h1 := cell_keep hB (hr k hlt).1
      have h2 := cell_keep hB (hr k hlt).2
      have h4 := cell_keep hB (hr' k hlt).1
      have h5 := cell_keep hB (hr' k hlt).2
      have hbw : b < wr.heap.size := by have := hB.size; omega
      have hbw' : b' < wr.heap.size := by have := hB.size; omega
      obtain ⟨⟨x, y⟩, hp⟩ : ∃ p, xs[k]?.getD (0, 0) = p := ⟨_, rfl⟩
      rw [hp] at h1 h2 h4 h5
      clear hp hr hx hb hr' hx' hb'
      have hi0 : (0 : Int) ≤ (k : Int) := by omega
      have hi1 : (k : Int) < (xs.length : Int) := by omega
      go_wp2
      (refine wp_region_beyond (wr.heap.size + 0) (by kernel_rfl) (by kernel_rfl) (by go_size) (fun hBe => ?_); (repeat (first | go_big_quiet_step ((first | (go_at_call 30; exact beyond_of (eqPoint_same _ _ _)))) | quiet_step ((first | (go_at_call 30; exact beyond_of (eqPoint_same _ _ _)))))); refine wpQuiet_nil ?_; clear hBe; intro w1 hb1; obtain ⟨hc1, hf1, hz1, hn1⟩ := bstep 0 wr hb1 (by go_size))
      go_wp2
      go_roundw
      case rel => exact ⟨by have hBs := hB.size; exact hB.trans (hb1.mono hBs), k + 1, by omega, by go_num⟩
      case measure => simp [intOf]; omega
    · go_wp2
      go_returns
      exact ⟨rfl, hB⟩
def plR (xs : List (Int × Int)) : ByteArray × Int := if allP xs then (if 100 < xs.length then (⟨#[]⟩, 2) else (⟨(listL xs).toArray⟩, 0)) else (⟨#[]⟩, 1)
theorem allP_at {xs : List (Int × Int)} (h : allP xs = true) : ∀ k, k < xs.length → ptB (xs[k]?.getD (0, 0)).1 (xs[k]?.getD (0, 0)).2 = true := by
  intro k hk
  have e : xs[k]?.getD (0, 0) = xs[k] := by simp [hk]
  rw [e]
  exact List.all_eq_true.1 h xs[k] (List.getElem_mem hk)
theorem l01Points_any (A : Option Addr) (n c : Nat) (xs : List (Int × Int)) (w : World) (h : PSl w A n xs) (hn : n ≤ 1048576) :
    Calls Tryd.prog 48 #[.slice A n c] w fun e w' => e = .returned (.int .i64 (plR xs).2) ∧ Below w.heap.size w w' := by
  have hz := fun W (h : PSl W A n xs) => l01Code_any A n c xs W (allP xs) h (by omega) rfl
  have HN : n = xs.length := h.1
  have HH := Lib.hid h
  clear h
  unfold plR
  obtain ⟨z, hb⟩ : ∃ z, allP xs = z := ⟨_, rfl⟩
  rw [hb] at hz ⊢
  have HZ := Lib.hid hz
  clear hz hb
  subst HN
  cases z
  · rw [if_neg (by decide)]
    go_enter Tryd.func48, Tryd.ntmps48
    go_wp2_with (go_at_call 70; go_must ((with_reducible refine (HZ.out _ HH.out).mono ?_)); rintro e w1 ⟨rfl, hb1⟩)
    go_returns
    exact ⟨rfl, hb1⟩
  · rw [if_pos rfl]
    by_cases hl : 100 < xs.length
    · rw [if_pos hl]
      go_enter Tryd.func48, Tryd.ntmps48
      go_wp2_with (go_at_call 70; go_must ((with_reducible refine (HZ.out _ HH.out).mono ?_)); rintro e w1 ⟨rfl, hb1⟩)
      go_returns
      exact ⟨rfl, hb1⟩
    · rw [if_neg hl]
      go_enter Tryd.func48, Tryd.ntmps48
      go_wp2_with (go_at_call 70; go_must ((with_reducible refine (HZ.out _ HH.out).mono ?_)); rintro e w1 ⟨rfl, hb1⟩)
      go_returns
      exact ⟨rfl, hb1⟩
theorem specPLs_any (A : Option Addr) (n c : Nat) (xs : List (Int × Int)) (w : World) (h : PSl w A n xs) (hn : n ≤ 1048576) :
    Calls Tryd.prog 19 #[.slice A n c] w fun e w' => e = .returned (.tuple #[.string (plR xs).1, .int .i64 (plR xs).2]) ∧ Below w.heap.size w w' := by
  obtain rfl : n = xs.length := h.1
  have h1 := l01Points_any A xs.length c xs w h hn
  have h2 := fun W (hh : PSl W A xs.length xs) (hn : xs.length ≤ 100) hp => l01ListText_any A xs.length c xs W hh hn hp
  unfold plR at h1 ⊢
  obtain ⟨z, hb⟩ : ∃ z, allP xs = z := ⟨_, rfl⟩
  have hat := @allP_at xs
  rw [hb] at h1 hat ⊢
  have HH := Lib.hid h
  cases z
  · rw [if_neg (by decide)] at h1 ⊢
    have H1 := Lib.hid h1
    clear h1 h2 h hb hat
    go_enter Tryd.func19, Tryd.ntmps19
    go_wp2_with (go_at_call 48; go_must ((with_reducible refine (H1.out).mono ?_)); rintro e w1 ⟨rfl, hb1⟩)
    go_returns
    exact ⟨rfl, hb1⟩
  · rw [if_pos rfl] at h1 ⊢
    by_cases hl : 100 < xs.length
    · rw [if_pos hl] at h1 ⊢
      have H1 := Lib.hid h1
      clear h1 h2 h hb hat
      go_enter Tryd.func19, Tryd.ntmps19
      go_wp2_with (go_at_call 48; go_must ((with_reducible refine (H1.out).mono ?_)); rintro e w1 ⟨rfl, hb1⟩)
      go_returns
      exact ⟨rfl, hb1⟩
    · rw [if_neg hl] at h1 ⊢
      have H1 := Lib.hid h1
      have h3 := fun W hh => h2 W hh (by omega) (hat rfl)
      have H3 := Lib.hid h3
      clear h1 h2 h3 h hb hat
      go_enter Tryd.func19, Tryd.ntmps19
      go_wp2_with (first
        | (go_at_call 48; go_must ((with_reducible refine (H1.out).mono ?_)); rintro e w1 ⟨rfl, hb1⟩)
        | (go_at_call 49; go_must ((with_reducible refine (H3.out _ (HH.out.keep hb1)).mono ?_)); rintro e w2 ⟨rfl, hb2⟩))
      go_returns
      exact ⟨rfl, hb1.trans (hb2.mono hb1.size)⟩
theorem implPLs_any (A : Option Addr) (n c : Nat) (xs : List (Int × Int)) (w : World) (h : PSl w A n xs) (hn : n ≤ 1048576) (ht : TabHere w) :
    Calls Tryd.prog 21 #[.slice A n c] w fun e w' => e = .returned (.tuple #[.string (plR xs).1, .int .i64 (plR xs).2]) ∧ Below w.heap.size w w' := by
  obtain rfl : n = xs.length := h.1
  have h1 := points_any A xs.length c xs w h (by omega)
  have h2 := fun W (hh : PSl W A xs.length xs) (hn : xs.length ≤ 100) hp (hB : Below w.heap.size w W) => texts_any A xs.length c xs W hh hn hp (Lib.tabBelow_of_tabIs ht W hB)
  have hat := @allP_at xs
  unfold plR
  obtain ⟨z, hb⟩ : ∃ z, allP xs = z := ⟨_, rfl⟩
  rw [hb] at h1 hat ⊢
  have HH := Lib.hid h
  cases z
  · rw [if_neg (by decide)]
    have H1 := Lib.hid h1
    clear h1 h2 h hb hat ht
    go_enter Tryd.func21, Tryd.ntmps21
    go_wp2_with (go_at_call 50; go_must ((with_reducible refine (H1.out).mono ?_)); rintro e w1 ⟨rfl, hb1⟩)
    go_returns
    exact ⟨rfl, hb1⟩
  · rw [if_pos rfl]
    by_cases hl : 100 < xs.length
    · rw [if_pos hl]
      have hni : 100 < (xs.length : Int) := by omega
      have H1 := Lib.hid h1
      clear h1 h2 h hb hat ht
      go_enter Tryd.func21, Tryd.ntmps21
      go_wp2_with (go_at_call 50; go_must ((with_reducible refine (H1.out).mono ?_)); rintro e w1 ⟨rfl, hb1⟩)
      go_returns
      exact ⟨rfl, hb1⟩
    · rw [if_neg hl]
      have hni : ¬ 100 < (xs.length : Int) := by omega
      have H1 := Lib.hid h1
      have h3 := fun W hh hB => h2 W hh (by omega) (hat rfl) hB
      have H3 := Lib.hid h3
      clear h1 h2 h3 h hb hat ht
      go_enter Tryd.func21, Tryd.ntmps21
      go_wp2_with (first
        | (go_at_call 50; go_must ((with_reducible refine (H1.out).mono ?_)); rintro e w1 ⟨rfl, hb1⟩)
        | (go_at_call 51; go_must ((with_reducible refine (H3.out _ (HH.out.keep hb1) hb1).mono ?_)); rintro e w2 ⟨rfl, hb2⟩))
      go_returns
      exact ⟨rfl, hb1.trans (hb2.mono hb1.size)⟩
theorem FnExactPointsText_walk (A : Option Addr) (n c : Nat) (xs : List (Int × Int)) (w : World) (h0 : PSl w A n xs ∧ (∀ p ∈ xs, (-9223372036854775808 ≤ p.1 ∧ p.1 ≤ 9223372036854775807) ∧ -9223372036854775808 ≤ p.2 ∧ p.2 ≤ 9223372036854775807) ∧ n ≤ c ∧ c ≤ maxLen) (ht : TabHere w) :
    Calls Tryd.prog 6 #[.slice A n c] w fun e w' => e = .returned (.bool true) ∧ Below w.heap.size w w' := by
  have HH := Lib.hid h0.1
  have hcap : n ≤ 9223372036854775807 := Nat.le_trans h0.2.2.1 (Nat.le_trans h0.2.2.2 (show maxLen ≤ 9223372036854775807 by decide))
  clear h0
  have hsz := szPointS_any A n c w hcap
  by_cases hn : n ≤ 1048576
  · rw [if_neg (by omega)] at hsz
    have hs := fun A n c W (h : PSl W A n xs) (hn : n ≤ 1048576) => specPLs_any A n c xs W h hn
    have hi := fun A n c W (h : PSl W A n xs) (hn : n ≤ 1048576) (hB : Below w.heap.size w W) => implPLs_any A n c xs W h hn (Lib.tabBelow_of_tabIs ht W hB)
    obtain ⟨⟨s, cd⟩, hR⟩ : ∃ R, plR xs = R := ⟨_, rfl⟩
    rw [hR] at hs hi
    dsimp only at hs hi
    have HS := Lib.hid hs
    have HI := Lib.hid hi
    have HZ := Lib.hid hsz
    have hnn : ¬ (1048576 - (n : Int) < 0) := by omega
    clear hs hi hR hsz ht
    go_enter Tryd.func6, Tryd.ntmps6
    go_wp2_with fail
    refine (HZ.out).mono ?_
    rintro e w0 ⟨rfl, k0⟩
    go_wp2_with fail
    refine (toPointS_any A n c xs _ (HH.out.keep k0) hn).mono ?_
    rintro e w1 ⟨⟨A1, rfl, hI1⟩, hb1⟩
    have k1 := k0.trans (hb1.mono k0.size)
    go_wp2_with fail
    refine (HS.out A1 n n _ hI1 hn).mono ?_
    rintro e w2 ⟨rfl, hb2⟩
    have k2 := k1.trans (hb2.mono k1.size)
    go_wp2_with fail
    refine (toPointS_any A n c xs _ (HH.out.keep k2) hn).mono ?_
    rintro e w3 ⟨⟨A3, rfl, hI3⟩, hb3⟩
    have k3 := k2.trans (hb3.mono k2.size)
    go_wp2_with fail
    refine (HI.out A3 n n _ hI3 hn k3).mono ?_
    rintro e w4 ⟨rfl, hb4⟩
    have k4 := k3.trans (hb4.mono k3.size)
    go_wp2_with fail
    refine (toPointS_any A n c xs _ (HH.out.keep k4) hn).mono ?_
    rintro e w5 ⟨⟨A5, rfl, hI5⟩, hb5⟩
    have k5 := k4.trans (hb5.mono k4.size)
    go_wp2_with fail
    refine (eqPointS_same A3 A5 n n n xs _ ((hI3.keep hb4).keep hb5) hI5 (by omega)).mono ?_
    rintro e w6 ⟨rfl, hb6⟩
    have k6 := k5.trans (hb6.mono k5.size)
    go_wp2
    go_returns
    exact ⟨rfl, k6⟩
  · rw [if_pos (by omega)] at hsz
    have HZ := Lib.hid hsz
    clear hsz ht
    go_enter Tryd.func6, Tryd.ntmps6
    go_wp2_with fail
    refine (HZ.out).mono ?_
    rintro e w0 ⟨rfl, k0⟩
    go_wp2
    go_returns
    exact ⟨rfl, k0⟩
end Go.Proofs.YtajjoihfccnfhaaDoor
