/-
  The lengths and ends of runs, the shortest rule: contracts. No condition but what stands in each.
-/
import Derived.Test.YtdenfmgmapgpiaaCrn
namespace Go.Proofs.Ytdenfmgmapgpiaa
open Go.RowKit
set_option maxHeartbeats 1000000
theorem specLenRun_any (a b c rule : Int) (w : World) : Calls Try.prog 38 #[.agg #[.int .i64 a, .int .i64 b, .int .i64 c], .int .i64 rule] w fun e w' =>
    e = .returned (.tuple #[.int .i64 (lenRun a b c rule).1, .int .i64 (lenRun a b c rule).2]) ∧ Below w.heap.size w w' := by
  have hk := fun W => l07Code_any a b c rule W
  have hE := fun W => l07End_any a b c rule W
  unfold lenRun
  unfold endT at hE
  obtain ⟨k, ek⟩ : ∃ k, codeR a b c rule = k := ⟨_, rfl⟩
  obtain ⟨n, en⟩ : ∃ n, okR rule a b c = n := ⟨_, rfl⟩
  obtain ⟨⟨x, y, z⟩, el⟩ : ∃ l, lastR rule a b c = l := ⟨_, rfl⟩
  obtain ⟨L, eL⟩ : ∃ L : Int, ((runL rule 300 a b c).length : Int) - 1 = L := ⟨_, rfl⟩
  rw [ek] at hk ⊢
  rw [en] at hE ⊢
  rw [el, eL] at hE
  rw [eL]
  have HK := Lib.hid hk
  clear hk ek en el eL
  by_cases h0 : k = 0
  · subst h0
    rw [if_pos rfl]
    cases n
    · rw [if_neg (by decide)] at hE ⊢
      have HE := Lib.hid hE
      clear hE
      go_enter Try.func38, Try.ntmps38
      go_wp2_with (first | (go_at_call 64; (with_reducible refine (HK.out _).mono ?_); rintro e w1 ⟨rfl, hb1⟩; obtain ⟨hc1, hf1, hz1, hn1⟩ := bstep 1 w hb1 (by go_size)) | (go_at_call 65; (with_reducible refine (HE.out _).mono ?_); rintro e w1 ⟨rfl, hb1⟩; obtain ⟨hc1, hf1, hz1, hn1⟩ := bstep 1 w hb1 (by go_size)))
      go_returns
      exact ⟨rfl, by (repeat' (first | (with_reducible exact Below.refl _ _) | (with_reducible refine Below.alloc ?_ ?_ _) | (with_reducible refine Below.drew ?_) | (with_reducible refine below_drewN' ?_ _) | (with_reducible refine Below.setCell ?_ ?_ _) | (with_reducible refine Below.trans ?_ (Below.mono (by assumption) ?_)) | go_size))⟩
    · rw [if_pos rfl] at hE ⊢
      have HE := Lib.hid hE
      clear hE
      go_enter Try.func38, Try.ntmps38
      go_wp2_with (first | (go_at_call 64; (with_reducible refine (HK.out _).mono ?_); rintro e w1 ⟨rfl, hb1⟩; obtain ⟨hc1, hf1, hz1, hn1⟩ := bstep 1 w hb1 (by go_size)) | (go_at_call 65; (with_reducible refine (HE.out _).mono ?_); rintro e w1 ⟨rfl, hb1⟩; obtain ⟨hc1, hf1, hz1, hn1⟩ := bstep 1 w hb1 (by go_size)))
      go_returns
      exact ⟨rfl, by (repeat' (first | (with_reducible exact Below.refl _ _) | (with_reducible refine Below.alloc ?_ ?_ _) | (with_reducible refine Below.drew ?_) | (with_reducible refine below_drewN' ?_ _) | (with_reducible refine Below.setCell ?_ ?_ _) | (with_reducible refine Below.trans ?_ (Below.mono (by assumption) ?_)) | go_size))⟩
  · rw [if_neg h0]
    have hd : (k != 0) = true := by simpa using h0
    clear h0 hE
    go_enter Try.func38, Try.ntmps38
    go_wp2_with (first | (go_at_call 64; (with_reducible refine (HK.out _).mono ?_); rintro e w1 ⟨rfl, hb1⟩; obtain ⟨hc1, hf1, hz1, hn1⟩ := bstep 1 w hb1 (by go_size)))
    go_returns
    exact ⟨rfl, by (repeat' (first | (with_reducible exact Below.refl _ _) | (with_reducible refine Below.alloc ?_ ?_ _) | (with_reducible refine Below.drew ?_) | (with_reducible refine below_drewN' ?_ _) | (with_reducible refine Below.setCell ?_ ?_ _) | (with_reducible refine Below.trans ?_ (Below.mono (by assumption) ?_)) | go_size))⟩
theorem specEndRun_any (a b c rule : Int) (w : World) : Calls Try.prog 41 #[.agg #[.int .i64 a, .int .i64 b, .int .i64 c], .int .i64 rule] w fun e w' =>
    e = .returned (.tuple #[.agg #[.int .i64 (endRun a b c rule).1, .int .i64 (endRun a b c rule).2.1, .int .i64 (endRun a b c rule).2.2.1], .int .i64 (endRun a b c rule).2.2.2]) ∧ Below w.heap.size w w' := by
  have hk := fun W => l07Code_any a b c rule W
  have hE := fun W => l07End_any a b c rule W
  unfold endRun
  unfold endT at hE
  obtain ⟨k, ek⟩ : ∃ k, codeR a b c rule = k := ⟨_, rfl⟩
  obtain ⟨n, en⟩ : ∃ n, okR rule a b c = n := ⟨_, rfl⟩
  obtain ⟨⟨x, y, z⟩, el⟩ : ∃ l, lastR rule a b c = l := ⟨_, rfl⟩
  obtain ⟨L, eL⟩ : ∃ L : Int, ((runL rule 300 a b c).length : Int) - 1 = L := ⟨_, rfl⟩
  rw [ek] at hk ⊢
  rw [en] at hE ⊢
  rw [el, eL] at hE
  rw [el]
  have HK := Lib.hid hk
  clear hk ek en el eL
  by_cases h0 : k = 0
  · subst h0
    rw [if_pos rfl]
    cases n
    · rw [if_neg (by decide)] at hE ⊢
      have HE := Lib.hid hE
      clear hE
      go_enter Try.func41, Try.ntmps41
      go_wp2_with (first | (go_at_call 64; (with_reducible refine (HK.out _).mono ?_); rintro e w1 ⟨rfl, hb1⟩; obtain ⟨hc1, hf1, hz1, hn1⟩ := bstep 2 w hb1 (by go_size); obtain ⟨⟨s0, s1, s2⟩, ⟨sf0, sf1, sf2⟩, ss, sn⟩ : (w1.cell? ⟨w.heap.size + 1, 0, none⟩ = some (.int .i64 0) ∧ w1.cell? ⟨w.heap.size + 1, 1, none⟩ = some (.int .i64 0) ∧ w1.cell? ⟨w.heap.size + 1, 2, none⟩ = some (.int .i64 0)) ∧ (w1.frozen? ⟨w.heap.size + 1, 0, none⟩ = false ∧ w1.frozen? ⟨w.heap.size + 1, 1, none⟩ = false ∧ w1.frozen? ⟨w.heap.size + 1, 2, none⟩ = false) ∧ w.heap.size + 1 < w1.heap.size ∧ ¬ w1.heap.size = w.heap.size + 1 := ⟨by (focus (((repeat' apply And.intro) <;> (repeat' (first | (with_reducible assumption) | (with_reducible refine keep_drew ?_) | (with_reducible refine keep_setx (by omega) ?_) | (with_reducible refine keep_hc (by with_reducible assumption) (by omega) ?_) | (focus (go_simp; done)) | (with_reducible refine keep_alloc ?_)))); done)), by (focus (((repeat' apply And.intro) <;> (repeat' (first | (with_reducible assumption) | (with_reducible refine fz_drew ?_) | (with_reducible refine fz_set ?_) | (with_reducible refine fz_hc (by with_reducible assumption) (by omega) ?_) | (focus (go_simp; done)) | (with_reducible refine fz_alloc ?_ ?_) | go_size))); done)), by go_size, by go_size⟩) | (go_at_call 65; (with_reducible refine (HE.out _).mono ?_); rintro e w2 ⟨rfl, hb2⟩; obtain ⟨hc2, hf2, hz2, hn2⟩ := bstep 2 w hb2 (by go_size); obtain ⟨⟨s0, s1, s2⟩, ⟨sf0, sf1, sf2⟩, ss, sn⟩ : (w2.cell? ⟨w.heap.size + 1, 0, none⟩ = some (.int .i64 0) ∧ w2.cell? ⟨w.heap.size + 1, 1, none⟩ = some (.int .i64 0) ∧ w2.cell? ⟨w.heap.size + 1, 2, none⟩ = some (.int .i64 0)) ∧ (w2.frozen? ⟨w.heap.size + 1, 0, none⟩ = false ∧ w2.frozen? ⟨w.heap.size + 1, 1, none⟩ = false ∧ w2.frozen? ⟨w.heap.size + 1, 2, none⟩ = false) ∧ w.heap.size + 1 < w2.heap.size ∧ ¬ w2.heap.size = w.heap.size + 1 := ⟨by (focus (((repeat' apply And.intro) <;> (repeat' (first | (with_reducible assumption) | (with_reducible refine keep_drew ?_) | (with_reducible refine keep_setx (by omega) ?_) | (with_reducible refine keep_hc (by with_reducible assumption) (by omega) ?_) | (focus (go_simp; done)) | (with_reducible refine keep_alloc ?_)))); done)), by (focus (((repeat' apply And.intro) <;> (repeat' (first | (with_reducible assumption) | (with_reducible refine fz_drew ?_) | (with_reducible refine fz_set ?_) | (with_reducible refine fz_hc (by with_reducible assumption) (by omega) ?_) | (focus (go_simp; done)) | (with_reducible refine fz_alloc ?_ ?_) | go_size))); done)), by go_size, by go_size⟩))
      refine bodyPost_ret (by simp [results, Try.results41, go_sem, *]; try rfl) rfl ?_
      exact ⟨rfl, by (repeat' (first | (with_reducible exact Below.refl _ _) | (with_reducible refine Below.alloc ?_ ?_ _) | (with_reducible refine Below.drew ?_) | (with_reducible refine below_drewN' ?_ _) | (with_reducible refine Below.setCell ?_ ?_ _) | (with_reducible refine Below.trans ?_ (Below.mono (by assumption) ?_)) | go_size))⟩
    · rw [if_pos rfl] at hE ⊢
      have HE := Lib.hid hE
      clear hE
      go_enter Try.func41, Try.ntmps41
      go_wp2_with (first | (go_at_call 64; (with_reducible refine (HK.out _).mono ?_); rintro e w1 ⟨rfl, hb1⟩; obtain ⟨hc1, hf1, hz1, hn1⟩ := bstep 2 w hb1 (by go_size); obtain ⟨⟨s0, s1, s2⟩, ⟨sf0, sf1, sf2⟩, ss, sn⟩ : (w1.cell? ⟨w.heap.size + 1, 0, none⟩ = some (.int .i64 0) ∧ w1.cell? ⟨w.heap.size + 1, 1, none⟩ = some (.int .i64 0) ∧ w1.cell? ⟨w.heap.size + 1, 2, none⟩ = some (.int .i64 0)) ∧ (w1.frozen? ⟨w.heap.size + 1, 0, none⟩ = false ∧ w1.frozen? ⟨w.heap.size + 1, 1, none⟩ = false ∧ w1.frozen? ⟨w.heap.size + 1, 2, none⟩ = false) ∧ w.heap.size + 1 < w1.heap.size ∧ ¬ w1.heap.size = w.heap.size + 1 := ⟨by (focus (((repeat' apply And.intro) <;> (repeat' (first | (with_reducible assumption) | (with_reducible refine keep_drew ?_) | (with_reducible refine keep_setx (by omega) ?_) | (with_reducible refine keep_hc (by with_reducible assumption) (by omega) ?_) | (focus (go_simp; done)) | (with_reducible refine keep_alloc ?_)))); done)), by (focus (((repeat' apply And.intro) <;> (repeat' (first | (with_reducible assumption) | (with_reducible refine fz_drew ?_) | (with_reducible refine fz_set ?_) | (with_reducible refine fz_hc (by with_reducible assumption) (by omega) ?_) | (focus (go_simp; done)) | (with_reducible refine fz_alloc ?_ ?_) | go_size))); done)), by go_size, by go_size⟩) | (go_at_call 65; (with_reducible refine (HE.out _).mono ?_); rintro e w2 ⟨rfl, hb2⟩; obtain ⟨hc2, hf2, hz2, hn2⟩ := bstep 2 w hb2 (by go_size); obtain ⟨⟨s0, s1, s2⟩, ⟨sf0, sf1, sf2⟩, ss, sn⟩ : (w2.cell? ⟨w.heap.size + 1, 0, none⟩ = some (.int .i64 0) ∧ w2.cell? ⟨w.heap.size + 1, 1, none⟩ = some (.int .i64 0) ∧ w2.cell? ⟨w.heap.size + 1, 2, none⟩ = some (.int .i64 0)) ∧ (w2.frozen? ⟨w.heap.size + 1, 0, none⟩ = false ∧ w2.frozen? ⟨w.heap.size + 1, 1, none⟩ = false ∧ w2.frozen? ⟨w.heap.size + 1, 2, none⟩ = false) ∧ w.heap.size + 1 < w2.heap.size ∧ ¬ w2.heap.size = w.heap.size + 1 := ⟨by (focus (((repeat' apply And.intro) <;> (repeat' (first | (with_reducible assumption) | (with_reducible refine keep_drew ?_) | (with_reducible refine keep_setx (by omega) ?_) | (with_reducible refine keep_hc (by with_reducible assumption) (by omega) ?_) | (focus (go_simp; done)) | (with_reducible refine keep_alloc ?_)))); done)), by (focus (((repeat' apply And.intro) <;> (repeat' (first | (with_reducible assumption) | (with_reducible refine fz_drew ?_) | (with_reducible refine fz_set ?_) | (with_reducible refine fz_hc (by with_reducible assumption) (by omega) ?_) | (focus (go_simp; done)) | (with_reducible refine fz_alloc ?_ ?_) | go_size))); done)), by go_size, by go_size⟩))
      refine bodyPost_ret (by simp [results, Try.results41, go_sem, *]; try rfl) rfl ?_
      exact ⟨rfl, by (repeat' (first | (with_reducible exact Below.refl _ _) | (with_reducible refine Below.alloc ?_ ?_ _) | (with_reducible refine Below.drew ?_) | (with_reducible refine below_drewN' ?_ _) | (with_reducible refine Below.setCell ?_ ?_ _) | (with_reducible refine Below.trans ?_ (Below.mono (by assumption) ?_)) | go_size))⟩
  · rw [if_neg h0]
    have hd : (k != 0) = true := by simpa using h0
    clear h0 hE
    go_enter Try.func41, Try.ntmps41
    go_wp2_with (first | (go_at_call 64; (with_reducible refine (HK.out _).mono ?_); rintro e w1 ⟨rfl, hb1⟩; obtain ⟨hc1, hf1, hz1, hn1⟩ := bstep 2 w hb1 (by go_size); obtain ⟨⟨s0, s1, s2⟩, ⟨sf0, sf1, sf2⟩, ss, sn⟩ : (w1.cell? ⟨w.heap.size + 1, 0, none⟩ = some (.int .i64 0) ∧ w1.cell? ⟨w.heap.size + 1, 1, none⟩ = some (.int .i64 0) ∧ w1.cell? ⟨w.heap.size + 1, 2, none⟩ = some (.int .i64 0)) ∧ (w1.frozen? ⟨w.heap.size + 1, 0, none⟩ = false ∧ w1.frozen? ⟨w.heap.size + 1, 1, none⟩ = false ∧ w1.frozen? ⟨w.heap.size + 1, 2, none⟩ = false) ∧ w.heap.size + 1 < w1.heap.size ∧ ¬ w1.heap.size = w.heap.size + 1 := ⟨by (focus (((repeat' apply And.intro) <;> (repeat' (first | (with_reducible assumption) | (with_reducible refine keep_drew ?_) | (with_reducible refine keep_setx (by omega) ?_) | (with_reducible refine keep_hc (by with_reducible assumption) (by omega) ?_) | (focus (go_simp; done)) | (with_reducible refine keep_alloc ?_)))); done)), by (focus (((repeat' apply And.intro) <;> (repeat' (first | (with_reducible assumption) | (with_reducible refine fz_drew ?_) | (with_reducible refine fz_set ?_) | (with_reducible refine fz_hc (by with_reducible assumption) (by omega) ?_) | (focus (go_simp; done)) | (with_reducible refine fz_alloc ?_ ?_) | go_size))); done)), by go_size, by go_size⟩))
    refine bodyPost_ret (by simp [results, Try.results41, go_sem, *]; try rfl) rfl ?_
    exact ⟨rfl, by (repeat' (first | (with_reducible exact Below.refl _ _) | (with_reducible refine Below.alloc ?_ ?_ _) | (with_reducible refine Below.drew ?_) | (with_reducible refine below_drewN' ?_ _) | (with_reducible refine Below.setCell ?_ ?_ _) | (with_reducible refine Below.trans ?_ (Below.mono (by assumption) ?_)) | go_size))⟩
def pickR (a b c : Int) : Nat → Int × Int
  | 0 => (-1, 301)
  | k + 1 => if okR (k : Int) a b c = true ∧ ((runL (k : Int) 300 a b c).length : Int) - 1 < (pickR a b c k).2 then ((k : Int), ((runL (k : Int) 300 a b c).length : Int) - 1) else pickR a b c k
theorem runL_len (rule : Int) (m : Nat) (a b c : Int) : 1 ≤ (runL rule m a b c).length ∧ (runL rule m a b c).length ≤ m + 1 := by
  obtain ⟨q, x, y, z, h, hl⟩ := runL_last rule m a b c
  rw [h]; simp; omega
theorem pickR_bd (a b c : Int) : ∀ k : Nat, (-1 ≤ (pickR a b c k).1 ∧ (pickR a b c k).1 ≤ k) ∧ (0 ≤ (pickR a b c k).2 ∧ (pickR a b c k).2 ≤ 301) ∧ ((pickR a b c k).1 < 0 ↔ (pickR a b c k).2 = 301)
  | 0 => by simp [pickR]
  | k + 1 => by
    have h := pickR_bd a b c k
    have hl := runL_len (k : Int) 300 a b c
    rw [pickR]
    split
    · dsimp only; omega
    · omega
def shortR (a b c : Int) : Int × Int := if codeR a b c 0 = 0 then (if (pickR a b c 4).1 < 0 then (0, 3) else ((pickR a b c 4).1, 0)) else (0, codeR a b c 0)
theorem codeR_rule {a b c rule : Int} (h : codeR a b c 0 = 0) (hr : 0 ≤ rule ∧ rule ≤ 3) : codeR a b c rule = 0 := by
  obtain ⟨⟨h1, h2⟩, _⟩ := codeR_zero h
  unfold codeR
  rw [h1, h2, inB_iff.2 hr]
  rfl
theorem implShort_any (a b c : Int) (w : World) : Calls Try.prog 18 #[.agg #[.int .i64 a, .int .i64 b, .int .i64 c]] w fun e w' =>
    e = .returned (.tuple #[.int .i64 (shortR a b c).1, .int .i64 (shortR a b c).2]) ∧ Below w.heap.size w w' := by
  have hk := fun W => ruleFault_any a b c 0 W
  have hcr := fun rule : Int => @codeR_rule a b c rule
  unfold shortR
  obtain ⟨k, ek⟩ : ∃ k, codeR a b c 0 = k := ⟨_, rfl⟩
  rw [ek] at hk hcr ⊢
  have HK := Lib.hid hk
  clear hk ek
  by_cases h0 : k = 0
  · subst h0
    rw [if_pos rfl]
    have HCR := Lib.hid hcr
    clear hcr
    obtain ⟨⟨r1, r2⟩, hr⟩ : ∃ r, (if (pickR a b c 4).1 < 0 then ((0 : Int), (3 : Int)) else ((pickR a b c 4).1, 0)) = r := ⟨_, rfl⟩
    rw [hr]
    dsimp only
    have HR := Lib.hid hr
    clear hr
    go_enter Try.func18, Try.ntmps18
    go_wp2_with (first | (go_at_call 63; (with_reducible refine (HK.out _).mono ?_); rintro e w1 ⟨rfl, hb1⟩; obtain ⟨hc1, hf1, hz1, hn1⟩ := bstep 1 w hb1 (by go_size); obtain ⟨⟨s0, s1, s2⟩, ⟨sf0, sf1, sf2⟩, ss, sn⟩ : (w1.cell? ⟨w.heap.size, 0, none⟩ = some (.int .i64 a) ∧ w1.cell? ⟨w.heap.size, 1, none⟩ = some (.int .i64 b) ∧ w1.cell? ⟨w.heap.size, 2, none⟩ = some (.int .i64 c)) ∧ (w1.frozen? ⟨w.heap.size, 0, none⟩ = false ∧ w1.frozen? ⟨w.heap.size, 1, none⟩ = false ∧ w1.frozen? ⟨w.heap.size, 2, none⟩ = false) ∧ w.heap.size < w1.heap.size ∧ ¬ w1.heap.size = w.heap.size := ⟨by (focus (((repeat' apply And.intro) <;> (repeat' (first | (with_reducible assumption) | (with_reducible refine keep_drew ?_) | (with_reducible refine keep_setx (by omega) ?_) | (with_reducible refine keep_hc (by with_reducible assumption) (by omega) ?_) | (focus (go_simp; done)) | (with_reducible refine keep_alloc ?_)))); done)), by (focus (((repeat' apply And.intro) <;> (repeat' (first | (with_reducible assumption) | (with_reducible refine fz_drew ?_) | (with_reducible refine fz_set ?_) | (with_reducible refine fz_hc (by with_reducible assumption) (by omega) ?_) | (focus (go_simp; done)) | (with_reducible refine fz_alloc ?_ ?_) | go_size))); done)), by go_size, by go_size⟩))
    go_loopw [5, 6, 7] (fun bb mm rr wr => ∃ k : Nat, k ≤ 4 ∧ rr = .int .i64 k ∧ bb = .int .i64 (pickR a b c k).1 ∧ mm = .int .i64 (pickR a b c k).2 ∧ (wr.cell? ⟨w.heap.size, 0, none⟩ = some (.int .i64 a) ∧ wr.cell? ⟨w.heap.size, 1, none⟩ = some (.int .i64 b) ∧ wr.cell? ⟨w.heap.size, 2, none⟩ = some (.int .i64 c)) ∧ w.heap.size + 1 ≤ wr.heap.size ∧ Below w.heap.size w wr) (fun _ _ rr _ => 4 - (intOf rr).toNat)
    case atStart => exact ⟨0, by omega, rfl, rfl, rfl, ⟨s0, s1, s2⟩, by omega, by (repeat' (first | (with_reducible exact Below.refl _ _) | (with_reducible refine Below.alloc ?_ ?_ _) | (with_reducible refine Below.drew ?_) | (with_reducible refine below_drewN' ?_ _) | (with_reducible refine Below.setCell ?_ ?_ _) | (with_reducible refine Below.trans ?_ (Below.mono (by assumption) ?_)) | go_size))⟩
    case round =>
      obtain ⟨k, hk, rfl, rfl, rfl, ⟨c0, c1, c2⟩, hsz, hB⟩ := hrel
      have hpb := pickR_bd a b c k
      clear hb1 s0 s1 s2 sf0 sf1 sf2 ss sn hc1 hf1 hz1 hn1
      by_cases hlt : k < 4
      · have hlen := fun W => implLenRun_any a b c (k : Int) W
        have hps : pickR a b c (k + 1) = _ := pickR.eq_2 a b c k
        have hrl := runL_len (k : Int) 300 a b c
        unfold lenRun at hlen
        rw [if_pos (HCR.out _ trivial (by omega))] at hlen
        obtain ⟨L, eL⟩ : ∃ L : Int, ((runL (k : Int) 300 a b c).length : Int) - 1 = L := ⟨_, rfl⟩
        obtain ⟨n, en⟩ : ∃ n, okR (k : Int) a b c = n := ⟨_, rfl⟩
        obtain ⟨⟨p1, p2⟩, ep⟩ : ∃ p, pickR a b c k = p := ⟨_, rfl⟩
        have hL : 0 ≤ L ∧ L ≤ 300 := by omega
        rw [eL, en] at hlen hps
        rw [ep] at hps hpb
        dsimp only at hps hpb
        rw [ep]
        dsimp only
        clear eL en ep hrl
        have hk3 : ((k : Int) ≤ 3) := by omega
        cases n
        · rw [if_neg (by decide)] at hlen
          rw [if_neg (by simp)] at hps
          have HL := Lib.hid hlen
          have HP := Lib.hid hps
          clear hlen hps
          go_wp2_with (first | (go_at_call 20; (with_reducible refine (HL.out _).mono ?_); rintro e w2 ⟨rfl, hb2⟩; obtain ⟨hg2, hi2, hy2, hx2⟩ := bfull hb2; (try simp only [World.size_drew] at hg2 hi2 hy2 hx2); (try simp only [World.size_alloc] at hg2 hi2 hy2 hx2); (try simp only [World.size_setCell] at hg2 hi2 hy2 hx2)))
          go_roundw
          case rel => exact ⟨k + 1, by omega, by go_num, by rw [HP.out], by rw [HP.out], ⟨cell_keep hb2 c0, cell_keep hb2 c1, cell_keep hb2 c2⟩, by omega, hB.trans (hb2.mono (by omega))⟩
          case measure => simp [intOf]; omega
        · rw [if_pos rfl] at hlen
          by_cases hcmp : L < p2
          · rw [if_pos ⟨rfl, hcmp⟩] at hps
            have HL := Lib.hid hlen
            have HP := Lib.hid hps
            clear hlen hps
            go_wp2_with (first | (go_at_call 20; (with_reducible refine (HL.out _).mono ?_); rintro e w2 ⟨rfl, hb2⟩; obtain ⟨hg2, hi2, hy2, hx2⟩ := bfull hb2; (try simp only [World.size_drew] at hg2 hi2 hy2 hx2); (try simp only [World.size_alloc] at hg2 hi2 hy2 hx2); (try simp only [World.size_setCell] at hg2 hi2 hy2 hx2)))
            go_roundw
            case rel => exact ⟨k + 1, by omega, by go_num, by rw [HP.out], by rw [HP.out], ⟨cell_keep hb2 c0, cell_keep hb2 c1, cell_keep hb2 c2⟩, by omega, hB.trans (hb2.mono (by omega))⟩
            case measure => simp [intOf]; omega
          · rw [if_neg (by simp [hcmp])] at hps
            have HL := Lib.hid hlen
            have HP := Lib.hid hps
            clear hlen hps
            go_wp2_with (first | (go_at_call 20; (with_reducible refine (HL.out _).mono ?_); rintro e w2 ⟨rfl, hb2⟩; obtain ⟨hg2, hi2, hy2, hx2⟩ := bfull hb2; (try simp only [World.size_drew] at hg2 hi2 hy2 hx2); (try simp only [World.size_alloc] at hg2 hi2 hy2 hx2); (try simp only [World.size_setCell] at hg2 hi2 hy2 hx2)))
            go_roundw
            case rel => exact ⟨k + 1, by omega, by go_num, by rw [HP.out], by rw [HP.out], ⟨cell_keep hb2 c0, cell_keep hb2 c1, cell_keep hb2 c2⟩, by omega, hB.trans (hb2.mono (by omega))⟩
            case measure => simp [intOf]; omega
      · obtain rfl : k = 4 := by omega
        have hr := HR.out
        obtain ⟨⟨p1, p2⟩, ep⟩ : ∃ p, pickR a b c 4 = p := ⟨_, rfl⟩
        rw [ep] at hr hpb ⊢
        dsimp only at hr hpb ⊢
        clear ep
        by_cases hp : p1 < 0
        · rw [if_pos hp] at hr
          cases hr
          go_wp2
          go_returns
          exact ⟨rfl, hB⟩
        · rw [if_neg hp] at hr
          cases hr
          go_wp2
          go_returns
          exact ⟨rfl, hB⟩
  · rw [if_neg h0]
    have hd : (k != 0) = true := by simpa using h0
    clear h0 hcr
    go_enter Try.func18, Try.ntmps18
    go_wp2_with (first | (go_at_call 63; (with_reducible refine (HK.out _).mono ?_); rintro e w1 ⟨rfl, hb1⟩; obtain ⟨hc1, hf1, hz1, hn1⟩ := bstep 1 w hb1 (by go_size)))
    go_returns
    exact ⟨rfl, by (repeat' (first | (with_reducible exact Below.refl _ _) | (with_reducible refine Below.alloc ?_ ?_ _) | (with_reducible refine Below.drew ?_) | (with_reducible refine below_drewN' ?_ _) | (with_reducible refine Below.setCell ?_ ?_ _) | (with_reducible refine Below.trans ?_ (Below.mono (by assumption) ?_)) | go_size))⟩
def pickS (a b c : Int) : Nat → Int × Int
  | 0 => (0, -1)
  | k + 1 => if okR (k : Int) a b c = true ∧ ((pickS a b c k).2 < 0 ∨ ((runL (k : Int) 300 a b c).length : Int) - 1 < (pickS a b c k).2) then ((k : Int), ((runL (k : Int) 300 a b c).length : Int) - 1) else pickS a b c k
theorem pickS_bd (a b c : Int) : ∀ k : Nat, (0 ≤ (pickS a b c k).1 ∧ (pickS a b c k).1 ≤ k) ∧ (-1 ≤ (pickS a b c k).2 ∧ (pickS a b c k).2 ≤ 300)
  | 0 => by simp [pickS]
  | k + 1 => by
    have h := pickS_bd a b c k
    have hl := runL_len (k : Int) 300 a b c
    rw [pickS]
    split
    · dsimp only; omega
    · omega
theorem pickS_eq (a b c : Int) : ∀ k : Nat, (pickR a b c k = (-1, 301) ∧ pickS a b c k = (0, -1)) ∨ (pickR a b c k = pickS a b c k ∧ 0 ≤ (pickR a b c k).1 ∧ 0 ≤ (pickR a b c k).2)
  | 0 => .inl ⟨rfl, rfl⟩
  | k + 1 => by
    have hl := runL_len (k : Int) 300 a b c
    rw [pickR, pickS]
    have hl' : 1 ≤ ((runL (k : Int) 300 a b c).length : Int) ∧ ((runL (k : Int) 300 a b c).length : Int) ≤ 301 := by omega
    clear hl
    generalize ((runL (k : Int) 300 a b c).length : Int) = L at *
    generalize okR (k : Int) a b c = o
    rcases pickS_eq a b c k with ⟨h1, h2⟩ | ⟨h1, h2, h3⟩
    · rw [h1, h2]
      dsimp only
      cases o
      · left; rw [if_neg (by simp), if_neg (by simp)]; exact ⟨rfl, rfl⟩
      · right; rw [if_pos ⟨rfl, by omega⟩, if_pos ⟨rfl, by omega⟩]; exact ⟨rfl, by dsimp only; omega⟩
    · rw [← h1]
      generalize pickR a b c k = p at *
      obtain ⟨p1, p2⟩ := p
      dsimp only at *
      right
      cases o
      · rw [if_neg (by simp), if_neg (by simp)]; exact ⟨rfl, h2, h3⟩
      · by_cases hc : L - 1 < p2
        · rw [if_pos ⟨rfl, hc⟩, if_pos ⟨rfl, .inr hc⟩]; exact ⟨rfl, by dsimp only; omega⟩
        · rw [if_neg (by simp [hc]), if_neg (by simp; omega)]; exact ⟨rfl, h2, h3⟩
theorem pickS_short (a b c : Int) : (if (pickR a b c 4).1 < 0 then ((0 : Int), (3 : Int)) else ((pickR a b c 4).1, 0)) = (if (pickS a b c 4).2 < 0 then ((0 : Int), (3 : Int)) else ((pickS a b c 4).1, 0)) := by
  rcases pickS_eq a b c 4 with ⟨h1, h2⟩ | ⟨h1, h2, h3⟩
  · rw [h1, h2]; rfl
  · rw [h1] at h2 h3 ⊢
    rw [if_neg (by omega), if_neg (by omega)]
theorem specShort_any (a b c : Int) (w : World) : Calls Try.prog 19 #[.agg #[.int .i64 a, .int .i64 b, .int .i64 c]] w fun e w' =>
    e = .returned (.tuple #[.int .i64 (shortR a b c).1, .int .i64 (shortR a b c).2]) ∧ Below w.heap.size w w' := by
  have hk := fun W => l07Code_any a b c 0 W
  unfold shortR
  rw [pickS_short]
  obtain ⟨k, ek⟩ : ∃ k, codeR a b c 0 = k := ⟨_, rfl⟩
  rw [ek] at hk ⊢
  have HK := Lib.hid hk
  clear hk ek
  by_cases h0 : k = 0
  · subst h0
    rw [if_pos rfl]
    obtain ⟨⟨r1, r2⟩, hr⟩ : ∃ r, (if (pickS a b c 4).2 < 0 then ((0 : Int), (3 : Int)) else ((pickS a b c 4).1, 0)) = r := ⟨_, rfl⟩
    rw [hr]
    dsimp only
    have HR := Lib.hid hr
    clear hr
    go_enter Try.func19, Try.ntmps19
    go_wp2_with (first | (go_at_call 64; (with_reducible refine (HK.out _).mono ?_); rintro e w1 ⟨rfl, hb1⟩; obtain ⟨hc1, hf1, hz1, hn1⟩ := bstep 1 w hb1 (by go_size); obtain ⟨⟨s0, s1, s2⟩, ⟨sf0, sf1, sf2⟩, ss, sn⟩ : (w1.cell? ⟨w.heap.size, 0, none⟩ = some (.int .i64 a) ∧ w1.cell? ⟨w.heap.size, 1, none⟩ = some (.int .i64 b) ∧ w1.cell? ⟨w.heap.size, 2, none⟩ = some (.int .i64 c)) ∧ (w1.frozen? ⟨w.heap.size, 0, none⟩ = false ∧ w1.frozen? ⟨w.heap.size, 1, none⟩ = false ∧ w1.frozen? ⟨w.heap.size, 2, none⟩ = false) ∧ w.heap.size < w1.heap.size ∧ ¬ w1.heap.size = w.heap.size := ⟨by (focus (((repeat' apply And.intro) <;> (repeat' (first | (with_reducible assumption) | (with_reducible refine keep_drew ?_) | (with_reducible refine keep_setx (by omega) ?_) | (with_reducible refine keep_hc (by with_reducible assumption) (by omega) ?_) | (focus (go_simp; done)) | (with_reducible refine keep_alloc ?_)))); done)), by (focus (((repeat' apply And.intro) <;> (repeat' (first | (with_reducible assumption) | (with_reducible refine fz_drew ?_) | (with_reducible refine fz_set ?_) | (with_reducible refine fz_hc (by with_reducible assumption) (by omega) ?_) | (focus (go_simp; done)) | (with_reducible refine fz_alloc ?_ ?_) | go_size))); done)), by go_size, by go_size⟩))
    go_loopw [5, 6, 7] (fun bb mm rr wr => ∃ k : Nat, k ≤ 4 ∧ rr = .int .i64 k ∧ bb = .int .i64 (pickS a b c k).1 ∧ mm = .int .i64 (pickS a b c k).2 ∧ (wr.cell? ⟨w.heap.size, 0, none⟩ = some (.int .i64 a) ∧ wr.cell? ⟨w.heap.size, 1, none⟩ = some (.int .i64 b) ∧ wr.cell? ⟨w.heap.size, 2, none⟩ = some (.int .i64 c)) ∧ w.heap.size + 1 ≤ wr.heap.size ∧ Below w.heap.size w wr) (fun _ _ rr _ => 4 - (intOf rr).toNat)
    case atStart => exact ⟨0, by omega, rfl, rfl, rfl, ⟨s0, s1, s2⟩, by omega, by (repeat' (first | (with_reducible exact Below.refl _ _) | (with_reducible refine Below.alloc ?_ ?_ _) | (with_reducible refine Below.drew ?_) | (with_reducible refine below_drewN' ?_ _) | (with_reducible refine Below.setCell ?_ ?_ _) | (with_reducible refine Below.trans ?_ (Below.mono (by assumption) ?_)) | go_size))⟩
    case round =>
      obtain ⟨k, hk, rfl, rfl, rfl, ⟨c0, c1, c2⟩, hsz, hB⟩ := hrel
      have hpb := pickS_bd a b c k
      clear hb1 s0 s1 s2 sf0 sf1 sf2 ss sn hc1 hf1 hz1 hn1
      by_cases hlt : k < 4
      · have hlen := fun W => l07End_any a b c (k : Int) W
        have hps : pickS a b c (k + 1) = _ := pickS.eq_2 a b c k
        have hrl := runL_len (k : Int) 300 a b c
        unfold endT at hlen
        obtain ⟨L, eL⟩ : ∃ L : Int, ((runL (k : Int) 300 a b c).length : Int) - 1 = L := ⟨_, rfl⟩
        obtain ⟨⟨x, y, z⟩, el⟩ : ∃ l, lastR (k : Int) a b c = l := ⟨_, rfl⟩
        obtain ⟨n, en⟩ : ∃ n, okR (k : Int) a b c = n := ⟨_, rfl⟩
        obtain ⟨⟨p1, p2⟩, ep⟩ : ∃ p, pickS a b c k = p := ⟨_, rfl⟩
        have hL : 0 ≤ L ∧ L ≤ 300 := by omega
        rw [eL, en] at hlen hps
        rw [el] at hlen
        rw [ep] at hps hpb
        dsimp only at hps hpb
        rw [ep]
        dsimp only
        clear eL en ep hrl el
        cases n
        · rw [if_neg (by decide)] at hlen
          rw [if_neg (by simp)] at hps
          have HL := Lib.hid hlen
          have HP := Lib.hid hps
          clear hlen hps
          go_wp2_with (first | (go_at_call 65; (with_reducible refine (HL.out _).mono ?_); rintro e w2 ⟨rfl, hb2⟩; obtain ⟨hg2, hi2, hy2, hx2⟩ := bfull hb2; (try simp only [World.size_drew] at hg2 hi2 hy2 hx2); (try simp only [World.size_alloc] at hg2 hi2 hy2 hx2); (try simp only [World.size_setCell] at hg2 hi2 hy2 hx2)))
          go_roundw
          case rel => exact ⟨k + 1, by omega, by go_num, by rw [HP.out], by rw [HP.out], ⟨keep_alloc (cell_keep hb2 c0), keep_alloc (cell_keep hb2 c1), keep_alloc (cell_keep hb2 c2)⟩, by go_size, by (repeat' (first | (with_reducible exact Below.refl _ _) | (with_reducible refine Below.alloc ?_ ?_ _) | (with_reducible refine Below.drew ?_) | (with_reducible refine below_drewN' ?_ _) | (with_reducible refine Below.setCell ?_ ?_ _) | (with_reducible refine Below.trans ?_ (Below.mono (by assumption) ?_)) | go_size))⟩
          case measure => simp [intOf]; omega
        · rw [if_pos rfl] at hlen
          by_cases hcmp : p2 < 0 ∨ L < p2
          · rw [if_pos ⟨rfl, hcmp⟩] at hps
            have HL := Lib.hid hlen
            have HP := Lib.hid hps
            clear hlen hps
            rcases hcmp with hcmp | hcmp
            · go_wp2_with (first | (go_at_call 65; (with_reducible refine (HL.out _).mono ?_); rintro e w2 ⟨rfl, hb2⟩; obtain ⟨hg2, hi2, hy2, hx2⟩ := bfull hb2; (try simp only [World.size_drew] at hg2 hi2 hy2 hx2); (try simp only [World.size_alloc] at hg2 hi2 hy2 hx2); (try simp only [World.size_setCell] at hg2 hi2 hy2 hx2)))
              go_roundw
              case rel => exact ⟨k + 1, by omega, by go_num, by rw [HP.out], by rw [HP.out], ⟨keep_alloc (cell_keep hb2 c0), keep_alloc (cell_keep hb2 c1), keep_alloc (cell_keep hb2 c2)⟩, by go_size, by (repeat' (first | (with_reducible exact Below.refl _ _) | (with_reducible refine Below.alloc ?_ ?_ _) | (with_reducible refine Below.drew ?_) | (with_reducible refine below_drewN' ?_ _) | (with_reducible refine Below.setCell ?_ ?_ _) | (with_reducible refine Below.trans ?_ (Below.mono (by assumption) ?_)) | go_size))⟩
              case measure => simp [intOf]; omega
            · by_cases hneg : p2 < 0
              · omega
              · go_wp2_with (first | (go_at_call 65; (with_reducible refine (HL.out _).mono ?_); rintro e w2 ⟨rfl, hb2⟩; obtain ⟨hg2, hi2, hy2, hx2⟩ := bfull hb2; (try simp only [World.size_drew] at hg2 hi2 hy2 hx2); (try simp only [World.size_alloc] at hg2 hi2 hy2 hx2); (try simp only [World.size_setCell] at hg2 hi2 hy2 hx2)))
                go_roundw
                case rel => exact ⟨k + 1, by omega, by go_num, by rw [HP.out], by rw [HP.out], ⟨keep_alloc (cell_keep hb2 c0), keep_alloc (cell_keep hb2 c1), keep_alloc (cell_keep hb2 c2)⟩, by go_size, by (repeat' (first | (with_reducible exact Below.refl _ _) | (with_reducible refine Below.alloc ?_ ?_ _) | (with_reducible refine Below.drew ?_) | (with_reducible refine below_drewN' ?_ _) | (with_reducible refine Below.setCell ?_ ?_ _) | (with_reducible refine Below.trans ?_ (Below.mono (by assumption) ?_)) | go_size))⟩
                case measure => simp [intOf]; omega
          · rw [if_neg (by simp only [true_and]; exact hcmp)] at hps
            have hn1 : ¬ p2 < 0 := by omega
            have hn2 : ¬ L < p2 := by omega
            have HL := Lib.hid hlen
            have HP := Lib.hid hps
            clear hlen hps hcmp
            go_wp2_with (first | (go_at_call 65; (with_reducible refine (HL.out _).mono ?_); rintro e w2 ⟨rfl, hb2⟩; obtain ⟨hg2, hi2, hy2, hx2⟩ := bfull hb2; (try simp only [World.size_drew] at hg2 hi2 hy2 hx2); (try simp only [World.size_alloc] at hg2 hi2 hy2 hx2); (try simp only [World.size_setCell] at hg2 hi2 hy2 hx2)))
            go_roundw
            case rel => exact ⟨k + 1, by omega, by go_num, by rw [HP.out], by rw [HP.out], ⟨keep_alloc (cell_keep hb2 c0), keep_alloc (cell_keep hb2 c1), keep_alloc (cell_keep hb2 c2)⟩, by go_size, by (repeat' (first | (with_reducible exact Below.refl _ _) | (with_reducible refine Below.alloc ?_ ?_ _) | (with_reducible refine Below.drew ?_) | (with_reducible refine below_drewN' ?_ _) | (with_reducible refine Below.setCell ?_ ?_ _) | (with_reducible refine Below.trans ?_ (Below.mono (by assumption) ?_)) | go_size))⟩
            case measure => simp [intOf]; omega
      · obtain rfl : k = 4 := by omega
        have hr := HR.out
        obtain ⟨⟨p1, p2⟩, ep⟩ : ∃ p, pickS a b c 4 = p := ⟨_, rfl⟩
        rw [ep] at hr hpb ⊢
        dsimp only at hr hpb ⊢
        clear ep
        by_cases hp : p2 < 0
        · rw [if_pos hp] at hr
          cases hr
          go_wp2
          go_returns
          exact ⟨rfl, hB⟩
        · rw [if_neg hp] at hr
          cases hr
          go_wp2
          go_returns
          exact ⟨rfl, hB⟩
  · rw [if_neg h0]
    have hd : (k != 0) = true := by simpa using h0
    clear h0
    go_enter Try.func19, Try.ntmps19
    go_wp2_with (first | (go_at_call 64; (with_reducible refine (HK.out _).mono ?_); rintro e w1 ⟨rfl, hb1⟩; obtain ⟨hc1, hf1, hz1, hn1⟩ := bstep 1 w hb1 (by go_size)))
    go_returns
    exact ⟨rfl, by (repeat' (first | (with_reducible exact Below.refl _ _) | (with_reducible refine Below.alloc ?_ ?_ _) | (with_reducible refine Below.drew ?_) | (with_reducible refine below_drewN' ?_ _) | (with_reducible refine Below.setCell ?_ ?_ _) | (with_reducible refine Below.trans ?_ (Below.mono (by assumption) ?_)) | go_size))⟩
end Go.Proofs.Ytdenfmgmapgpiaa
