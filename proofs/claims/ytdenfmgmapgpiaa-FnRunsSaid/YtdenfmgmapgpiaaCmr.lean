/-
  The matrix of a run, by both programs. No condition.
-/
import Derived.Test.YtdenfmgmapgpiaaCmb
import Derived.Test.YtdenfmgmapgpiaaCc3
namespace Go.Proofs.Ytdenfmgmapgpiaa
open Go.RowKit
set_option maxHeartbeats 2000000
theorem C9.put {W : World} {D : Nat} {M M' : Nat → Int} (hM : C9 W D M) : C9 (((((((((W.setCell ⟨D, 0, none⟩ (.int .i64 (M' 0))).setCell ⟨D, 1, none⟩ (.int .i64 (M' 1))).setCell ⟨D, 2, none⟩ (.int .i64 (M' 2))).setCell ⟨D, 3, none⟩ (.int .i64 (M' 3))).setCell ⟨D, 4, none⟩ (.int .i64 (M' 4))).setCell ⟨D, 5, none⟩ (.int .i64 (M' 5))).setCell ⟨D, 6, none⟩ (.int .i64 (M' 6))).setCell ⟨D, 7, none⟩ (.int .i64 (M' 7))).setCell ⟨D, 8, none⟩ (.int .i64 (M' 8))) D M' := by
  intro n hn
  rcases n9 hn with rfl | rfl | rfl | rfl | rfl | rfl | rfl | rfl | rfl
  · exact (keep_seto (by decide) (keep_seto (by decide) (keep_seto (by decide) (keep_seto (by decide) (keep_seto (by decide) (keep_seto (by decide) (keep_seto (by decide) (keep_seto (by decide) (set_here (hM 0 (by omega)))))))))))
  · exact (keep_seto (by decide) (keep_seto (by decide) (keep_seto (by decide) (keep_seto (by decide) (keep_seto (by decide) (keep_seto (by decide) (keep_seto (by decide) (set_here (keep_seto (by decide) (hM 1 (by omega)))))))))))
  · exact (keep_seto (by decide) (keep_seto (by decide) (keep_seto (by decide) (keep_seto (by decide) (keep_seto (by decide) (keep_seto (by decide) (set_here (keep_seto (by decide) (keep_seto (by decide) (hM 2 (by omega)))))))))))
  · exact (keep_seto (by decide) (keep_seto (by decide) (keep_seto (by decide) (keep_seto (by decide) (keep_seto (by decide) (set_here (keep_seto (by decide) (keep_seto (by decide) (keep_seto (by decide) (hM 3 (by omega)))))))))))
  · exact (keep_seto (by decide) (keep_seto (by decide) (keep_seto (by decide) (keep_seto (by decide) (set_here (keep_seto (by decide) (keep_seto (by decide) (keep_seto (by decide) (keep_seto (by decide) (hM 4 (by omega)))))))))))
  · exact (keep_seto (by decide) (keep_seto (by decide) (keep_seto (by decide) (set_here (keep_seto (by decide) (keep_seto (by decide) (keep_seto (by decide) (keep_seto (by decide) (keep_seto (by decide) (hM 5 (by omega)))))))))))
  · exact (keep_seto (by decide) (keep_seto (by decide) (set_here (keep_seto (by decide) (keep_seto (by decide) (keep_seto (by decide) (keep_seto (by decide) (keep_seto (by decide) (keep_seto (by decide) (hM 6 (by omega)))))))))))
  · exact (keep_seto (by decide) (set_here (keep_seto (by decide) (keep_seto (by decide) (keep_seto (by decide) (keep_seto (by decide) (keep_seto (by decide) (keep_seto (by decide) (keep_seto (by decide) (hM 7 (by omega)))))))))))
  · exact (set_here (keep_seto (by decide) (keep_seto (by decide) (keep_seto (by decide) (keep_seto (by decide) (keep_seto (by decide) (keep_seto (by decide) (keep_seto (by decide) (keep_seto (by decide) (hM 8 (by omega)))))))))))
theorem C9.below {W W1 : World} {D : Nat} {M : Nat → Int} (h : C9 W D M) (hb : Below W.heap.size W W1) : C9 W1 D M := fun n hn => cell_keep hb (h n hn)
theorem F9.below {W W1 : World} {D : Nat} (h : F9 W D) (hD : D < W.heap.size) (hb : Below W.heap.size W W1) : F9 W1 D := fun n hn => (hb.frozen (p := ⟨D, n, none⟩) hD).trans (h n hn)
/-- The run so far: its matrix in D, the triple, the room of the result. -/
structure MS (w W : World) (D : Nat) (M : Nat → Int) (x y z : Int) : Prop where
  m : C9 W D M
  mf : F9 W D
  t : C3 W w.heap.size x y z
  tf : ∀ j, W.frozen? ⟨w.heap.size, j, none⟩ = false
  r : C9 W (w.heap.size + 1) (fun _ => 0)
  rf : F9 W (w.heap.size + 1)
  lo : w.heap.size + 2 ≤ D
  hi : D < W.heap.size
  b : Below w.heap.size w W
theorem MS.below {w W W1 : World} {D : Nat} {M : Nat → Int} {x y z : Int} (h : MS w W D M x y z) (hb : Below W.heap.size W W1) : MS w W1 D M x y z :=
  ⟨h.m.below hb, h.mf.below h.hi hb, h.t.below hb, fun j => (hb.frozen (p := ⟨w.heap.size, j, none⟩) (show w.heap.size < W.heap.size by have := h.hi; have := h.lo; omega)).trans (h.tf j), h.r.below hb, h.rf.below (by have := h.hi; have := h.lo; omega) hb, h.lo, by have := h.hi; have := hb.size; omega,
    h.b.trans (hb.mono h.b.size)⟩
theorem MS.drew {w W : World} {D : Nat} {M : Nat → Int} {x y z : Int} (h : MS w W D M x y z) : MS w W.drew D M x y z := ⟨h.m, h.mf, h.t, h.tf, h.r, h.rf, h.lo, h.hi, h.b.drew⟩
theorem MS.put {w W : World} {D : Nat} {M : Nat → Int} {x y z : Int} (h : MS w W D M x y z) (M' : Nat → Int) : MS w (((((((((W.setCell ⟨D, 0, none⟩ (.int .i64 (M' 0))).setCell ⟨D, 1, none⟩ (.int .i64 (M' 1))).setCell ⟨D, 2, none⟩ (.int .i64 (M' 2))).setCell ⟨D, 3, none⟩ (.int .i64 (M' 3))).setCell ⟨D, 4, none⟩ (.int .i64 (M' 4))).setCell ⟨D, 5, none⟩ (.int .i64 (M' 5))).setCell ⟨D, 6, none⟩ (.int .i64 (M' 6))).setCell ⟨D, 7, none⟩ (.int .i64 (M' 7))).setCell ⟨D, 8, none⟩ (.int .i64 (M' 8))) D M' x y z := by
  have hlo := h.lo
  refine ⟨h.m.put, ?_, ?_, ?_, ?_, ?_, h.lo, by simp only [World.size_setCell]; exact h.hi, ?_⟩
  · iterate 9 refine F9.set ?_
    exact h.mf
  · iterate 9 refine C3.other ?_ (by omega)
    exact h.t
  · intro j
    iterate 9 rw [World.frozen?_setCell]
    exact h.tf j
  · iterate 9 refine C9.other ?_ (by omega)
    exact h.r
  · iterate 9 refine F9.set ?_
    exact h.rf
  · iterate 9 refine below_beyond ?_ (by omega)
    exact h.b
theorem MS.step {w W : World} {D : Nat} {M : Nat → Int} {x y z : Int} (h : MS w W D M x y z) (x' y' z' : Int) :
    MS w (((W.setCell ⟨w.heap.size, 0, none⟩ (.int .i64 x')).setCell ⟨w.heap.size, 1, none⟩ (.int .i64 y')).setCell ⟨w.heap.size, 2, none⟩ (.int .i64 z')) D M x' y' z' := by
  have hlo := h.lo
  refine ⟨?_, ?_, h.t.put, ?_, ?_, ?_, h.lo, by simp only [World.size_setCell]; exact h.hi, ?_⟩
  · iterate 3 refine C9.other ?_ (by omega)
    exact h.m
  · iterate 3 refine F9.set ?_
    exact h.mf
  · intro j
    iterate 3 rw [World.frozen?_setCell]
    exact h.tf j
  · iterate 3 refine C9.other ?_ (by omega)
    exact h.r
  · iterate 3 refine F9.set ?_
    exact h.rf
  · iterate 3 refine below_beyond ?_ (by omega)
    exact h.b
theorem MS.S {w W : World} {D : Nat} {M : Nat → Int} {x y z : Int} (h : MS w W D M x y z) : (W.cell? ⟨w.heap.size, 0, none⟩ = some (.int .i64 x) ∧ W.cell? ⟨w.heap.size, 1, none⟩ = some (.int .i64 y) ∧ W.cell? ⟨w.heap.size, 2, none⟩ = some (.int .i64 z)) ∧ (W.cell? ⟨D, 0, none⟩ = some (.int .i64 (M 0)) ∧ W.cell? ⟨D, 1, none⟩ = some (.int .i64 (M 1)) ∧ W.cell? ⟨D, 2, none⟩ = some (.int .i64 (M 2)) ∧ W.cell? ⟨D, 3, none⟩ = some (.int .i64 (M 3)) ∧ W.cell? ⟨D, 4, none⟩ = some (.int .i64 (M 4)) ∧ W.cell? ⟨D, 5, none⟩ = some (.int .i64 (M 5)) ∧ W.cell? ⟨D, 6, none⟩ = some (.int .i64 (M 6)) ∧ W.cell? ⟨D, 7, none⟩ = some (.int .i64 (M 7)) ∧ W.cell? ⟨D, 8, none⟩ = some (.int .i64 (M 8))) :=
  ⟨h.t, h.m 0 (by omega), h.m 1 (by omega), h.m 2 (by omega), h.m 3 (by omega), h.m 4 (by omega), h.m 5 (by omega), h.m 6 (by omega), h.m 7 (by omega), h.m 8 (by omega)⟩
theorem C9.alloc {W : World} {D : Nat} {M : Nat → Int} {o : Obj} (h : C9 W D M) : C9 (W.alloc o) D M := fun n hn => keep_alloc (h n hn)
theorem C9.new (W : World) (T : TypeId) (M : Nat → Int) : C9 (W.alloc (.cells #[.int .i64 (M 0), .int .i64 (M 1), .int .i64 (M 2), .int .i64 (M 3), .int .i64 (M 4), .int .i64 (M 5), .int .i64 (M 6), .int .i64 (M 7), .int .i64 (M 8)] T)) W.heap.size M := by
  intro n hn
  rcases n9 hn with rfl | rfl | rfl | rfl | rfl | rfl | rfl | rfl | rfl <;> simp
theorem C9.new' {W : World} {T : TypeId} {M : Nat → Int} {b : Nat} (h : W.heap.size = b) : C9 (W.alloc (.cells #[.int .i64 (M 0), .int .i64 (M 1), .int .i64 (M 2), .int .i64 (M 3), .int .i64 (M 4), .int .i64 (M 5), .int .i64 (M 6), .int .i64 (M 7), .int .i64 (M 8)] T)) b M := h ▸ C9.new W T M
theorem F9.new' {W : World} {T : TypeId} {cs : Array Value} {b : Nat} (h : W.heap.size = b) : F9 (W.alloc (.cells cs T)) b := by
  intro n _
  subst h
  simp
theorem F9.drew {W : World} {D : Nat} (h : F9 W D) : F9 W.drew D := h
theorem F9.alloc {W : World} {D : Nat} {o : Obj} (h : F9 W D) (hD : D < W.heap.size) : F9 (W.alloc o) D := fun n hn => fz_alloc (h n hn) hD
theorem F9.new (W : World) (T : TypeId) (cs : Array Value) : F9 (W.alloc (.cells cs T)) W.heap.size := by
  intro n _
  simp
theorem MS.alloc {w W : World} {D : Nat} {M : Nat → Int} {x y z : Int} {o : Obj} (h : MS w W D M x y z) : MS w (W.alloc o) D M x y z :=
  h.below (Below.alloc (Below.refl _ _) (Nat.le_refl _) _)
theorem MS.other {w W : World} {D E n : Nat} {M : Nat → Int} {x y z : Int} {v : Value} (h : MS w W D M x y z) (hE : D < E) : MS w (W.setCell ⟨E, n, none⟩ v) D M x y z := by
  have hlo := h.lo
  exact ⟨h.m.other (by omega), h.mf.set, h.t.other (by omega), fun j => by rw [World.frozen?_setCell]; exact h.tf j, h.r.other (by omega), h.rf.set, h.lo, by rw [World.size_setCell]; exact h.hi, below_beyond h.b (by omega)⟩
theorem cell_put9 {W : World} {E b o : Nat} {v : Value} (M' : Nat → Int) (hne : E ≠ b) (h : W.cell? ⟨b, o, none⟩ = some v) : (((((((((W.setCell ⟨E, 0, none⟩ (.int .i64 (M' 0))).setCell ⟨E, 1, none⟩ (.int .i64 (M' 1))).setCell ⟨E, 2, none⟩ (.int .i64 (M' 2))).setCell ⟨E, 3, none⟩ (.int .i64 (M' 3))).setCell ⟨E, 4, none⟩ (.int .i64 (M' 4))).setCell ⟨E, 5, none⟩ (.int .i64 (M' 5))).setCell ⟨E, 6, none⟩ (.int .i64 (M' 6))).setCell ⟨E, 7, none⟩ (.int .i64 (M' 7))).setCell ⟨E, 8, none⟩ (.int .i64 (M' 8))).cell? ⟨b, o, none⟩ = some v := by
  iterate 9 refine keep_setx hne ?_
  exact h
theorem C9.other9 {W : World} {D E : Nat} {M : Nat → Int} (M' : Nat → Int) (h : C9 W D M) (hne : E ≠ D) : C9 (((((((((W.setCell ⟨E, 0, none⟩ (.int .i64 (M' 0))).setCell ⟨E, 1, none⟩ (.int .i64 (M' 1))).setCell ⟨E, 2, none⟩ (.int .i64 (M' 2))).setCell ⟨E, 3, none⟩ (.int .i64 (M' 3))).setCell ⟨E, 4, none⟩ (.int .i64 (M' 4))).setCell ⟨E, 5, none⟩ (.int .i64 (M' 5))).setCell ⟨E, 6, none⟩ (.int .i64 (M' 6))).setCell ⟨E, 7, none⟩ (.int .i64 (M' 7))).setCell ⟨E, 8, none⟩ (.int .i64 (M' 8))) D M := fun n hn => cell_put9 M' hne (h n hn)
theorem F9.set9 {W : World} {D E : Nat} (M' : Nat → Int) (h : F9 W D) : F9 (((((((((W.setCell ⟨E, 0, none⟩ (.int .i64 (M' 0))).setCell ⟨E, 1, none⟩ (.int .i64 (M' 1))).setCell ⟨E, 2, none⟩ (.int .i64 (M' 2))).setCell ⟨E, 3, none⟩ (.int .i64 (M' 3))).setCell ⟨E, 4, none⟩ (.int .i64 (M' 4))).setCell ⟨E, 5, none⟩ (.int .i64 (M' 5))).setCell ⟨E, 6, none⟩ (.int .i64 (M' 6))).setCell ⟨E, 7, none⟩ (.int .i64 (M' 7))).setCell ⟨E, 8, none⟩ (.int .i64 (M' 8))) D := by
  iterate 9 refine F9.set ?_
  exact h
theorem MS.other9 {w W : World} {D E : Nat} {M : Nat → Int} {x y z : Int} (M' : Nat → Int) (h : MS w W D M x y z) (hE : D < E) : MS w (((((((((W.setCell ⟨E, 0, none⟩ (.int .i64 (M' 0))).setCell ⟨E, 1, none⟩ (.int .i64 (M' 1))).setCell ⟨E, 2, none⟩ (.int .i64 (M' 2))).setCell ⟨E, 3, none⟩ (.int .i64 (M' 3))).setCell ⟨E, 4, none⟩ (.int .i64 (M' 4))).setCell ⟨E, 5, none⟩ (.int .i64 (M' 5))).setCell ⟨E, 6, none⟩ (.int .i64 (M' 6))).setCell ⟨E, 7, none⟩ (.int .i64 (M' 7))).setCell ⟨E, 8, none⟩ (.int .i64 (M' 8))) D M x y z := by
  iterate 9 refine MS.other ?_ hE
  exact h
def MatI (rule : Int) (m : Nat) (a b c : Int) (q : Nat) (M : Nat → Int) (x y z : Int) : Prop := q ≤ m ∧ matL rule (m - q) M x y z = matL rule m id9 a b c
theorem MatI.full {rule : Int} {m : Nat} {a b c x y z : Int} {M : Nat → Int} (h : MatI rule m a b c m M x y z) : matL rule m id9 a b c = (M, 0) := by
  obtain ⟨_, h2⟩ := h
  rw [← h2, Nat.sub_self]
  rfl
theorem MatI.ends {rule : Int} {m q : Nat} {a b c x y z : Int} {M : Nat → Int} (h : MatI rule m a b c q M x y z) (he : endB y z rule = true) : matL rule m id9 a b c = (M, 0) := by
  obtain ⟨_, h2⟩ := h
  rw [← h2]
  cases m - q with
  | zero => rfl
  | succ n => rw [matL, if_pos he]
theorem MatI.fails {rule : Int} {m q : Nat} {a b c x y z : Int} {M : Nat → Int} (h : MatI rule m a b c q M x y z) (hq : q < m) (he : endB y z rule = false) (hf : okM (full9 M (stM x y z rule)) = false) : matL rule m id9 a b c = (zero9, 3) := by
  obtain ⟨_, h2⟩ := h
  rw [← h2, show m - q = (m - (q + 1)) + 1 by omega, matL, if_neg (by rw [he]; decide), if_neg (by rw [hf]; decide)]
theorem MatI.next {rule : Int} {m q : Nat} {a b c x y z x' y' z' : Int} {M M' : Nat → Int} (h : MatI rule m a b c q M x y z) (hq : q < m) (he : endB y z rule = false) (hm : full9 M (stM x y z rule) = M') (hf : okM M' = true) (hs : stepG x y z rule = (x', y', z')) :
    MatI rule m a b c (q + 1) M' x' y' z' := by
  obtain ⟨_, h2⟩ := h
  subst hm
  refine ⟨by omega, ?_⟩
  rw [← h2, show m - q = (m - (q + 1)) + 1 by omega, matL, if_neg (by rw [he]; decide), if_pos hf, hs]
set_option maxRecDepth 100000 in
theorem specMat_any (a b c rule n : Int) (w : World) : Calls Try.prog 45 #[.agg #[.int .i64 a, .int .i64 b, .int .i64 c], .int .i64 rule, .int .i64 n] w fun e w' =>
    e = .returned (.tuple #[.agg #[.int .i64 ((matR a b c rule n).1 0), .int .i64 ((matR a b c rule n).1 1), .int .i64 ((matR a b c rule n).1 2), .int .i64 ((matR a b c rule n).1 3), .int .i64 ((matR a b c rule n).1 4), .int .i64 ((matR a b c rule n).1 5), .int .i64 ((matR a b c rule n).1 6), .int .i64 ((matR a b c rule n).1 7), .int .i64 ((matR a b c rule n).1 8)], .int .i64 (matR a b c rule n).2]) ∧ Below w.heap.size w w' := by
  have hk := fun W => l07Code_any a b c rule W
  have hi := fun W => l01In_any n 0 300 W
  have hbd := @inB_iff n 0 300
  unfold matR code2
  obtain ⟨k, ek⟩ : ∃ k, codeR a b c rule = k := ⟨_, rfl⟩
  obtain ⟨i, ei⟩ : ∃ i, inB n 0 300 = i := ⟨_, rfl⟩
  rw [ek] at hk ⊢
  rw [ei] at hi hbd ⊢
  have HK := Lib.hid hk
  have HI := Lib.hid hi
  clear hk hi ek ei
  by_cases h0 : k = 0
  · subst h0
    rw [if_pos rfl]
    cases i
    · clear hbd
      rw [if_neg (by decide), if_neg (by decide)]
      go_enter Try.func45, Try.ntmps45
      go_wp2_with (first | (go_at_call 64; (with_reducible refine (HK.out _).mono ?_); rintro e w1 ⟨rfl, hb1⟩; obtain ⟨hc1, hf1, hz1, hn1⟩ := bstep 2 w hb1 (by go_size)) | (go_at_call 57; (with_reducible refine (HI.out _).mono ?_); rintro e w' ⟨rfl, rfl⟩))
      refine bodyPost_ret (by simp [results, Try.results45, go_sem, *]; try rfl) rfl ?_
      exact ⟨rfl, by (repeat' (first | (with_reducible exact Below.refl _ _) | (with_reducible refine Below.alloc ?_ ?_ _) | (with_reducible refine Below.drew ?_) | (with_reducible refine below_drewN' ?_ _) | (with_reducible refine Below.setCell ?_ ?_ _) | (with_reducible refine Below.trans ?_ (Below.mono (by assumption) ?_)) | go_size))⟩
    · obtain ⟨hn0, hn1⟩ := hbd.1 rfl
      clear hbd
      rw [if_pos rfl, if_pos rfl]
      obtain ⟨m, rfl⟩ := Int.eq_ofNat_of_zero_le hn0
      rw [Int.toNat_natCast]
      clear hn0
      have hm : m ≤ 300 := by omega
      clear hn1
      have h0 : MatI rule m a b c 0 id9 a b c := ⟨Nat.zero_le _, rfl⟩
      have H0 := Lib.hid h0
      clear h0
      obtain ⟨R, eR⟩ : ∃ R, matL rule m id9 a b c = R := ⟨_, rfl⟩
      rw [eR]
      have HR := Lib.hid eR
      clear eR
      go_enter Try.func45, Try.ntmps45
      go_wp2_with (first | (go_at_call 64; (with_reducible refine (HK.out _).mono ?_); rintro e w1 ⟨rfl, hb1⟩; obtain ⟨hc1, hf1, hz1, hn1⟩ := bstep 2 w hb1 (by go_size)) | (go_at_call 57; (with_reducible refine (HI.out _).mono ?_); rintro e w' ⟨rfl, rfl⟩))
      refine wp_gen' (F := fun W => MS w W w1.heap.size id9 a b c) ?_ (fun W1 hW1 => ?_)
      · clear HK HI HR H0
        refine ⟨?_, ?_, ⟨?_, ?_, ?_⟩, ?_, ?_, ?_, by omega, by simp, by (repeat' (first | (with_reducible exact Below.refl _ _) | (with_reducible refine Below.alloc ?_ ?_ _) | (with_reducible refine Below.drew ?_) | (with_reducible refine below_drewN' ?_ _) | (with_reducible refine Below.setCell ?_ ?_ _) | (with_reducible refine Below.trans ?_ (Below.mono (by assumption) ?_)) | go_size))⟩
        · intro n hn; rcases n9 hn with rfl | rfl | rfl | rfl | rfl | rfl | rfl | rfl | rfl <;> simp only [id9, sq9] <;> go_simp
        · intro n hn; rcases n9 hn with rfl | rfl | rfl | rfl | rfl | rfl | rfl | rfl | rfl <;> go_simp
        · exact keep_alloc (keep_hc hc1 (by omega) (by go_simp))
        · exact keep_alloc (keep_hc hc1 (by omega) (by go_simp))
        · exact keep_alloc (keep_hc hc1 (by omega) (by go_simp))
        · intro j; exact fz_alloc (fz_hc hf1 (by omega) (by go_simp)) (by omega)
        · intro n hn; rcases n9 hn with rfl | rfl | rfl | rfl | rfl | rfl | rfl | rfl | rfl <;> exact keep_alloc (keep_hc hc1 (by omega) (by go_simp))
        · intro n hn; rcases n9 hn with rfl | rfl | rfl | rfl | rfl | rfl | rfl | rfl | rfl <;> exact fz_alloc (fz_hc hf1 (by omega) (by go_simp)) (by omega)
      have HS := Lib.hid hW1
      clear hW1 hb1 hc1 hf1 hz1 hn1 HK HI
      generalize w1.heap.size = D at *
      go_loopw [2] (fun nn W => ∃ (q : Nat) (M : Nat → Int) (x y z : Int), nn = .int .i64 ((m : Int) - q) ∧ MatI rule m a b c q M x y z ∧ MS w W D M x y z) (fun nn _ => (intOf nn).toNat)
      case atStart => exact ⟨0, id9, a, b, c, by simp, H0.out, HS.out⟩
      case round =>
        clear H0 HS
        obtain ⟨q, M, x, y, z, rfl, hI, hms⟩ := hrel
        have hq := hI.1
        obtain ⟨c0, c1, c2⟩ := hms.t
        have t0 := hms.tf 0
        have t1 := hms.tf 1
        have t2 := hms.tf 2
        have m0 := hms.m 0 (by omega)
        have m1 := hms.m 1 (by omega)
        have m2 := hms.m 2 (by omega)
        have m3 := hms.m 3 (by omega)
        have m4 := hms.m 4 (by omega)
        have m5 := hms.m 5 (by omega)
        have m6 := hms.m 6 (by omega)
        have m7 := hms.m 7 (by omega)
        have m8 := hms.m 8 (by omega)
        have mf0 := hms.mf 0 (by omega)
        have mf1 := hms.mf 1 (by omega)
        have mf2 := hms.mf 2 (by omega)
        have mf3 := hms.mf 3 (by omega)
        have mf4 := hms.mf 4 (by omega)
        have mf5 := hms.mf 5 (by omega)
        have mf6 := hms.mf 6 (by omega)
        have mf7 := hms.mf 7 (by omega)
        have mf8 := hms.mf 8 (by omega)
        have r0 := hms.r 0 (by omega)
        have r1 := hms.r 1 (by omega)
        have r2 := hms.r 2 (by omega)
        have r3 := hms.r 3 (by omega)
        have r4 := hms.r 4 (by omega)
        have r5 := hms.r 5 (by omega)
        have r6 := hms.r 6 (by omega)
        have r7 := hms.r 7 (by omega)
        have r8 := hms.r 8 (by omega)
        have rf0 := hms.rf 0 (by omega)
        have rf1 := hms.rf 1 (by omega)
        have rf2 := hms.rf 2 (by omega)
        have rf3 := hms.rf 3 (by omega)
        have rf4 := hms.rf 4 (by omega)
        have rf5 := hms.rf 5 (by omega)
        have rf6 := hms.rf 6 (by omega)
        have rf7 := hms.rf 7 (by omega)
        have rf8 := hms.rf 8 (by omega)
        have hDlo := hms.lo
        have hDhi := hms.hi
        have HI := Lib.hid hI
        have HS := Lib.hid hms
        clear hI hms
        by_cases hlt : q < m
        · have hpos : (0 : Int) < (m : Int) - q := by omega
          have hen := fun W => l07Ended_any x y z rule W
          have hst := fun W => l07Step_any x y z rule W
          have hmx := fun W => l07Matrix_any x y z rule W
          obtain ⟨S, eS⟩ : ∃ S, stM x y z rule = S := ⟨_, rfl⟩
          rw [eS] at hmx
          have htm := fun W => l07Times_any M S W
          obtain ⟨M', eM⟩ : ∃ M', full9 M S = M' := ⟨_, rfl⟩
          rw [eM] at htm
          have hfit := fun W => l07Fits_any (M' 0) (M' 1) (M' 2) (M' 3) (M' 4) (M' 5) (M' 6) (M' 7) (M' 8) W
          obtain ⟨u, eu⟩ : ∃ u, endB y z rule = u := ⟨_, rfl⟩
          obtain ⟨v, ev⟩ : ∃ v, okM M' = v := ⟨_, rfl⟩
          obtain ⟨⟨x', y', z'⟩, es⟩ : ∃ s, stepG x y z rule = s := ⟨_, rfl⟩
          rw [eu] at hen
          rw [show sqB (M' 0) (M' 1) (M' 2) (M' 3) (M' 4) (M' 5) (M' 6) (M' 7) (M' 8) = v from ev] at hfit
          rw [es] at hst
          dsimp only at hst
          rw [← eS] at eM
          have HE := Lib.hid hen
          have HT := Lib.hid hst
          have HX := Lib.hid hmx
          have HM := Lib.hid htm
          have HF := Lib.hid hfit
          have HU := Lib.hid eu
          have HV := Lib.hid ev
          have HG := Lib.hid es
          have HN := Lib.hid eM
          clear hen hst hmx htm hfit eu ev es eM eS
          cases u
          · go_wp2_with (first | (go_at_call 75; (with_reducible refine (HE.out _).mono ?_); rintro e w1 ⟨rfl, hb1⟩; have HS1 := Lib.hid (HS.out.below hb1); obtain ⟨hg1, hi1, hy1, hx1⟩ := bfull hb1; (try simp only [World.size_drew] at hg1 hi1 hy1 hx1); (try simp only [World.size_alloc] at hg1 hi1 hy1 hx1); (try simp only [World.size_setCell] at hg1 hi1 hy1 hx1)))
            refine wp_gen' (F := fun W => MS w W D M x y z) HS1.out (fun W2 hW2 => ?_)
            clear HS1 hb1 hg1 hi1 hy1 hx1
            obtain ⟨a0, a1, a2⟩ := hW2.t
            have k0 := hW2.m 0 (by omega)
            have k1 := hW2.m 1 (by omega)
            have k2 := hW2.m 2 (by omega)
            have k3 := hW2.m 3 (by omega)
            have k4 := hW2.m 4 (by omega)
            have k5 := hW2.m 5 (by omega)
            have k6 := hW2.m 6 (by omega)
            have k7 := hW2.m 7 (by omega)
            have k8 := hW2.m 8 (by omega)
            have kf0 := hW2.mf 0 (by omega)
            have kf1 := hW2.mf 1 (by omega)
            have kf2 := hW2.mf 2 (by omega)
            have kf3 := hW2.mf 3 (by omega)
            have kf4 := hW2.mf 4 (by omega)
            have kf5 := hW2.mf 5 (by omega)
            have kf6 := hW2.mf 6 (by omega)
            have kf7 := hW2.mf 7 (by omega)
            have kf8 := hW2.mf 8 (by omega)
            have hDh2 := hW2.hi
            have HS2 := Lib.hid hW2
            clear hW2
            obtain ⟨⟨s0, s1, s2⟩, k0, k1, k2, k3, k4, k5, k6, k7, k8⟩ := HS2.out.S
            go_cut [38] (fun _ W => MS w W D M' x y z)
            case first =>
             go_region_with (first | (go_at_call 83; (with_reducible refine (HX.out _).mono ?_); rintro e w3 ⟨rfl, hb3⟩; have HS3 := Lib.hid (MS.below (by first | exact HS2.out.drew | exact HS2.out) hb3); obtain ⟨⟨u0, u1, u2⟩, v0, v1, v2, v3, v4, v5, v6, v7, v8⟩ := HS3.out.S) | (go_at_call 82; (with_reducible refine (HM.out _).mono ?_); rintro e w4 ⟨rfl, hb4⟩; have HS4 := Lib.hid (HS3.out.below hb4); obtain ⟨⟨y0, y1, y2⟩, z0, z1, z2, z3, z4, z5, z6, z7, z8⟩ := HS4.out.S; have yf0 := HS4.out.mf 0 (by omega); have yf1 := HS4.out.mf 1 (by omega); have yf2 := HS4.out.mf 2 (by omega); have yf3 := HS4.out.mf 3 (by omega); have yf4 := HS4.out.mf 4 (by omega); have yf5 := HS4.out.mf 5 (by omega); have yf6 := HS4.out.mf 6 (by omega); have yf7 := HS4.out.mf 7 (by omega); have yf8 := HS4.out.mf 8 (by omega)))
             all_goals
              go_wp2_with fail
              go_meet
              case rel => first | (with_reducible exact HS4.out.put M') | (with_reducible exact (HS4.out.put M').drew) | (with_reducible exact HS4.out.drew.put M')
            case rest =>
              clear s0 s1 s2 k0 k1 k2 k3 k4 k5 k6 k7 k8 a0 a1 a2 kf0 kf1 kf2 kf3 kf4 kf5 kf6 kf7 kf8 HS2 hDh2 HX HM
              have hW5 := hcut
              clear hcut
              have k0 := hW5.m 0 (by omega)
              have k1 := hW5.m 1 (by omega)
              have k2 := hW5.m 2 (by omega)
              have k3 := hW5.m 3 (by omega)
              have k4 := hW5.m 4 (by omega)
              have k5 := hW5.m 5 (by omega)
              have k6 := hW5.m 6 (by omega)
              have k7 := hW5.m 7 (by omega)
              have k8 := hW5.m 8 (by omega)
              have HS5 := Lib.hid hW5
              clear hW5
              cases v
              · go_wp2_with (first | (go_at_call 68; (with_reducible refine (HF.out _).mono ?_); rintro e w6 ⟨rfl, hb6⟩; have HS6 := Lib.hid (HS5.out.below hb6); have g0 := HS6.out.r 0 (by omega); have g1 := HS6.out.r 1 (by omega); have g2 := HS6.out.r 2 (by omega); have g3 := HS6.out.r 3 (by omega); have g4 := HS6.out.r 4 (by omega); have g5 := HS6.out.r 5 (by omega); have g6 := HS6.out.r 6 (by omega); have g7 := HS6.out.r 7 (by omega); have g8 := HS6.out.r 8 (by omega); have gf0 := HS6.out.rf 0 (by omega); have gf1 := HS6.out.rf 1 (by omega); have gf2 := HS6.out.rf 2 (by omega); have gf3 := HS6.out.rf 3 (by omega); have gf4 := HS6.out.rf 4 (by omega); have gf5 := HS6.out.rf 5 (by omega); have gf6 := HS6.out.rf 6 (by omega); have gf7 := HS6.out.rf 7 (by omega); have gf8 := HS6.out.rf 8 (by omega)))
                refine bodyPost_ret (by simp [results, Try.results45, go_sem, *]; try rfl) rfl ?_
                refine ⟨?_, ?_⟩
                · have := HI.out.fails hlt HU.out (by rw [HN.out]; exact HV.out)
                  rw [HR.out] at this
                  rw [this]; rfl
                · have HB := HS6.out.b
                  (repeat' (first | (with_reducible exact Below.refl _ _) | (with_reducible refine Below.alloc ?_ ?_ _) | (with_reducible refine Below.drew ?_) | (with_reducible refine below_drewN' ?_ _) | (with_reducible refine Below.setCell ?_ ?_ _) | (with_reducible refine Below.trans ?_ (Below.mono (by assumption) ?_)) | go_size))
              · go_wp2_with (first | (go_at_call 68; (with_reducible refine (HF.out _).mono ?_); rintro e w6 ⟨rfl, hb6⟩; have HS6 := Lib.hid (HS5.out.below hb6); obtain ⟨y0, y1, y2⟩ := HS6.out.t) | (go_at_call 76; (with_reducible refine (HT.out _).mono ?_); rintro e w7 ⟨rfl, hb7⟩; have HS7 := Lib.hid (HS6.out.below hb7); obtain ⟨g0, g1, g2⟩ := HS7.out.t; have gf0 := HS7.out.tf 0; have gf1 := HS7.out.tf 1; have gf2 := HS7.out.tf 2))
                go_roundw
                case rel => exact ⟨q + 1, M', x', y', z', by go_num, HI.out.next hlt HU.out HN.out HV.out HG.out, HS7.out.step x' y' z'⟩
                case measure => simp [intOf]; omega
          · have hend := HI.out.ends HU.out
            rw [HR.out] at hend
            have HEND := Lib.hid hend
            clear hend
            go_wp2_with (first | (go_at_call 75; (with_reducible refine (HE.out _).mono ?_); rintro e w1 ⟨rfl, hb1⟩; have HS1 := Lib.hid (HS.out.below hb1); have g0 := HS1.out.r 0 (by omega); have g1 := HS1.out.r 1 (by omega); have g2 := HS1.out.r 2 (by omega); have g3 := HS1.out.r 3 (by omega); have g4 := HS1.out.r 4 (by omega); have g5 := HS1.out.r 5 (by omega); have g6 := HS1.out.r 6 (by omega); have g7 := HS1.out.r 7 (by omega); have g8 := HS1.out.r 8 (by omega); have gf0 := HS1.out.rf 0 (by omega); have gf1 := HS1.out.rf 1 (by omega); have gf2 := HS1.out.rf 2 (by omega); have gf3 := HS1.out.rf 3 (by omega); have gf4 := HS1.out.rf 4 (by omega); have gf5 := HS1.out.rf 5 (by omega); have gf6 := HS1.out.rf 6 (by omega); have gf7 := HS1.out.rf 7 (by omega); have gf8 := HS1.out.rf 8 (by omega); have o0 := HS1.out.m 0 (by omega); have o1 := HS1.out.m 1 (by omega); have o2 := HS1.out.m 2 (by omega); have o3 := HS1.out.m 3 (by omega); have o4 := HS1.out.m 4 (by omega); have o5 := HS1.out.m 5 (by omega); have o6 := HS1.out.m 6 (by omega); have o7 := HS1.out.m 7 (by omega); have o8 := HS1.out.m 8 (by omega)))
            refine bodyPost_ret (by simp [results, Try.results45, go_sem, *]; try rfl) rfl ?_
            refine ⟨by rw [HEND.out], ?_⟩
            have HB := HS1.out.b
            (repeat' (first | (with_reducible exact Below.refl _ _) | (with_reducible refine Below.alloc ?_ ?_ _) | (with_reducible refine Below.drew ?_) | (with_reducible refine below_drewN' ?_ _) | (with_reducible refine Below.setCell ?_ ?_ _) | (with_reducible refine Below.trans ?_ (Below.mono (by assumption) ?_)) | go_size))
        · obtain rfl : q = m := by omega
          have hend := HI.out.full
          rw [HR.out] at hend
          have HEND := Lib.hid hend
          have HB := Lib.hid HS.out.b
          clear hend
          have hz : (q : Int) - q = 0 := by omega
          rw [hz]
          clear hz
          go_wp2
          refine bodyPost_ret (by simp [results, Try.results45, go_sem, *]; try rfl) rfl ?_
          refine ⟨by rw [HEND.out], ?_⟩
          (repeat' (first | (with_reducible exact Below.refl _ _) | (with_reducible refine Below.alloc ?_ ?_ _) | (with_reducible refine Below.drew ?_) | (with_reducible refine below_drewN' ?_ _) | (with_reducible refine Below.setCell ?_ ?_ _) | (with_reducible refine Below.trans ?_ (Below.mono (by assumption) ?_)) | go_size))
          exact HB.out
  · rw [if_neg h0, if_neg h0]
    have hd : (k != 0) = true := by simpa using h0
    have hd' : (k == 0) = false := by simpa using h0
    clear h0 hbd
    go_enter Try.func45, Try.ntmps45
    go_wp2_with (first | (go_at_call 64; (with_reducible refine (HK.out _).mono ?_); rintro e w1 ⟨rfl, hb1⟩; obtain ⟨hc1, hf1, hz1, hn1⟩ := bstep 2 w hb1 (by go_size)))
    refine bodyPost_ret (by simp [results, Try.results45, go_sem, *]; try rfl) rfl ?_
    exact ⟨rfl, by (repeat' (first | (with_reducible exact Below.refl _ _) | (with_reducible refine Below.alloc ?_ ?_ _) | (with_reducible refine Below.drew ?_) | (with_reducible refine below_drewN' ?_ _) | (with_reducible refine Below.setCell ?_ ?_ _) | (with_reducible refine Below.trans ?_ (Below.mono (by assumption) ?_)) | go_size))⟩
set_option maxHeartbeats 10000000 in
set_option maxRecDepth 100000 in
theorem implMat_any (a b c rule n : Int) (w : World) : Calls Try.prog 32 #[.agg #[.int .i64 a, .int .i64 b, .int .i64 c], .int .i64 rule, .int .i64 n] w fun e w' =>
    e = .returned (.tuple #[.agg #[.int .i64 ((matR a b c rule n).1 0), .int .i64 ((matR a b c rule n).1 1), .int .i64 ((matR a b c rule n).1 2), .int .i64 ((matR a b c rule n).1 3), .int .i64 ((matR a b c rule n).1 4), .int .i64 ((matR a b c rule n).1 5), .int .i64 ((matR a b c rule n).1 6), .int .i64 ((matR a b c rule n).1 7), .int .i64 ((matR a b c rule n).1 8)], .int .i64 (matR a b c rule n).2]) ∧ Below w.heap.size w w' := by
  have hk := fun W => runFault_any a b c rule n W
  have hbd := @code2_bd a b c rule n
  unfold matR
  obtain ⟨k, ek⟩ : ∃ k, code2 a b c rule n = k := ⟨_, rfl⟩
  rw [ek] at hk hbd ⊢
  have HK := Lib.hid hk
  clear hk ek
  by_cases h0 : k = 0
  · subst h0
    rw [if_pos rfl]
    obtain ⟨_, hn0, hn1⟩ := hbd rfl
    clear hbd
    obtain ⟨m, rfl⟩ := Int.eq_ofNat_of_zero_le hn0
    rw [Int.toNat_natCast]
    have hm : m ≤ 300 := by omega
    clear hn0 hn1
    have h0 : MatI rule m a b c 0 id9 a b c := ⟨Nat.zero_le _, rfl⟩
    have H0 := Lib.hid h0
    clear h0
    obtain ⟨R, eR⟩ : ∃ R, matL rule m id9 a b c = R := ⟨_, rfl⟩
    rw [eR]
    have HR := Lib.hid eR
    clear eR
    go_enter Try.func32, Try.ntmps32
    go_wp2_with (first | (go_at_call 73; (with_reducible refine (HK.out _).mono ?_); rintro e w1 ⟨rfl, hb1⟩; obtain ⟨hc1, hf1, hz1, hn1⟩ := bstep 2 w hb1 (by go_size)))
    refine wp_gen' (F := fun W => MS w W w1.heap.size id9 a b c) ?_ (fun W1 hW1 => ?_)
    · clear HK HR H0
      refine ⟨?_, ?_, ⟨?_, ?_, ?_⟩, ?_, ?_, ?_, by omega, by simp, by (repeat' (first | (with_reducible exact Below.refl _ _) | (with_reducible refine Below.alloc ?_ ?_ _) | (with_reducible refine Below.drew ?_) | (with_reducible refine below_drewN' ?_ _) | (with_reducible refine Below.setCell ?_ ?_ _) | (with_reducible refine Below.trans ?_ (Below.mono (by assumption) ?_)) | go_size))⟩
      · intro n hn; rcases n9 hn with rfl | rfl | rfl | rfl | rfl | rfl | rfl | rfl | rfl <;> simp only [id9, sq9] <;> go_simp
      · intro n hn; rcases n9 hn with rfl | rfl | rfl | rfl | rfl | rfl | rfl | rfl | rfl <;> go_simp
      · exact keep_alloc (keep_hc hc1 (by omega) (by go_simp))
      · exact keep_alloc (keep_hc hc1 (by omega) (by go_simp))
      · exact keep_alloc (keep_hc hc1 (by omega) (by go_simp))
      · intro j; exact fz_alloc (fz_hc hf1 (by omega) (by go_simp)) (by omega)
      · intro n hn; rcases n9 hn with rfl | rfl | rfl | rfl | rfl | rfl | rfl | rfl | rfl <;> exact keep_alloc (keep_hc hc1 (by omega) (by go_simp))
      · intro n hn; rcases n9 hn with rfl | rfl | rfl | rfl | rfl | rfl | rfl | rfl | rfl <;> exact fz_alloc (fz_hc hf1 (by omega) (by go_simp)) (by omega)
    have HS := Lib.hid hW1
    clear hW1 hb1 hc1 hf1 hz1 hn1 HK
    generalize w1.heap.size = D at *
    go_loopw [29] (fun nn W => ∃ (q : Nat) (M : Nat → Int) (x y z : Int), nn = .int .i64 q ∧ MatI rule m a b c q M x y z ∧ MS w W D M x y z) (fun nn _ => m - (intOf nn).toNat)
    case atStart => exact ⟨0, id9, a, b, c, by simp, H0.out, HS.out⟩
    case round =>
      clear H0 HS
      obtain ⟨q, M, x, y, z, rfl, hI, hms⟩ := hrel
      have hq := hI.1
      obtain ⟨c0, c1, c2⟩ := hms.t
      have t0 := hms.tf 0
      have t1 := hms.tf 1
      have t2 := hms.tf 2
      have m0 := hms.m 0 (by omega)
      have m1 := hms.m 1 (by omega)
      have m2 := hms.m 2 (by omega)
      have m3 := hms.m 3 (by omega)
      have m4 := hms.m 4 (by omega)
      have m5 := hms.m 5 (by omega)
      have m6 := hms.m 6 (by omega)
      have m7 := hms.m 7 (by omega)
      have m8 := hms.m 8 (by omega)
      have mf0 := hms.mf 0 (by omega)
      have mf1 := hms.mf 1 (by omega)
      have mf2 := hms.mf 2 (by omega)
      have mf3 := hms.mf 3 (by omega)
      have mf4 := hms.mf 4 (by omega)
      have mf5 := hms.mf 5 (by omega)
      have mf6 := hms.mf 6 (by omega)
      have mf7 := hms.mf 7 (by omega)
      have mf8 := hms.mf 8 (by omega)
      have r0 := hms.r 0 (by omega)
      have r1 := hms.r 1 (by omega)
      have r2 := hms.r 2 (by omega)
      have r3 := hms.r 3 (by omega)
      have r4 := hms.r 4 (by omega)
      have r5 := hms.r 5 (by omega)
      have r6 := hms.r 6 (by omega)
      have r7 := hms.r 7 (by omega)
      have r8 := hms.r 8 (by omega)
      have rf0 := hms.rf 0 (by omega)
      have rf1 := hms.rf 1 (by omega)
      have rf2 := hms.rf 2 (by omega)
      have rf3 := hms.rf 3 (by omega)
      have rf4 := hms.rf 4 (by omega)
      have rf5 := hms.rf 5 (by omega)
      have rf6 := hms.rf 6 (by omega)
      have rf7 := hms.rf 7 (by omega)
      have rf8 := hms.rf 8 (by omega)
      have hDlo := hms.lo
      have hDhi := hms.hi
      have HI := Lib.hid hI
      have HS := Lib.hid hms
      clear hI hms
      by_cases hlt : q < m
      · have hpos : (q : Int) < (m : Int) := by omega
        have hen := fun W => ended_any x y z rule W
        have hst := fun W => step_any x y z rule W
        have hbk := fun W => back_any9 rule W
        have hmd := fun W => made_any x y z rule W
        have hT : ∀ i j, i < 3 → j < 3 → ∀ P : Nat → Nat, (ordG x y z rule).1 = (P 0 : Int) → (ordG x y z rule).2.1 = (P 1 : Int) → (ordG x y z rule).2.2 = (P 2 : Int) → stM x y z rule (i * 3 + j) = ownM rule (i * 3 + P j) := by
          intro i j hi hj P e0 e1 e2
          unfold stM
          rw [e0, e1, e2, perm_at _ _ hi hj]
        unfold ordG at hT
        obtain ⟨⟨mx, my, mz⟩, hr⟩ : ∃ r, madeG x y z rule = r := ⟨_, rfl⟩
        rw [hr] at hmd hT
        dsimp only at hmd hT
        have hor := fun W => order_any mx my mz W
        obtain ⟨P, p0, p1, p2, hP⟩ := ord_P mx my mz
        have hT := fun i j hi hj => hT i j hi hj P p0 p1 p2
        rw [p0, p1, p2] at hor
        clear p0 p1 p2 hr
        obtain ⟨S, eS⟩ : ∃ S, stM x y z rule = S := ⟨_, rfl⟩
        rw [eS] at hT
        obtain ⟨B, eB⟩ : ∃ B, ownM rule = B := ⟨_, rfl⟩
        rw [eB] at hT hbk
        have htm := fun W => sqTimes_any M S W
        obtain ⟨M', eM⟩ : ∃ M', full9 M S = M' := ⟨_, rfl⟩
        rw [eM] at htm
        have hfit := fun W => sqOk_any (M' 0) (M' 1) (M' 2) (M' 3) (M' 4) (M' 5) (M' 6) (M' 7) (M' 8) W
        obtain ⟨u, eu⟩ : ∃ u, endB y z rule = u := ⟨_, rfl⟩
        obtain ⟨v, ev⟩ : ∃ v, okM M' = v := ⟨_, rfl⟩
        obtain ⟨⟨x', y', z'⟩, es⟩ : ∃ s, stepG x y z rule = s := ⟨_, rfl⟩
        rw [eu] at hen
        rw [show sqB (M' 0) (M' 1) (M' 2) (M' 3) (M' 4) (M' 5) (M' 6) (M' 7) (M' 8) = v from ev] at hfit
        rw [es] at hst
        dsimp only at hst
        rw [← eS] at eM
        have HE := Lib.hid hen
        have HT := Lib.hid hst
        have HB := Lib.hid hbk
        have HD := Lib.hid hmd
        have HO := Lib.hid hor
        have HX := Lib.hid hT
        have HP := Lib.hid hP
        have HM := Lib.hid htm
        have HF := Lib.hid hfit
        have HU := Lib.hid eu
        have HV := Lib.hid ev
        have HG := Lib.hid es
        have HN := Lib.hid eM
        clear hen hst hbk hmd hor hT hP htm hfit eu ev es eM eS eB
        cases u
        · go_wp2_with (first | (go_at_call 77; (with_reducible refine (HE.out _).mono ?_); rintro e w1 ⟨rfl, hb1⟩; have HS1 := Lib.hid (HS.out.below hb1); obtain ⟨hg1, hi1, hy1, hx1⟩ := bfull hb1; (try simp only [World.size_drew] at hg1 hi1 hy1 hx1); (try simp only [World.size_alloc] at hg1 hi1 hy1 hx1); (try simp only [World.size_setCell] at hg1 hi1 hy1 hx1)))
          refine wp_gen' (F := fun W => MS w W D M x y z) HS1.out (fun W2 hW2 => ?_)
          clear HS1 hb1 hg1 hi1 hy1 hx1 c0 c1 c2 t0 t1 t2 m0 mf0 r0 rf0 m1 mf1 r1 rf1 m2 mf2 r2 rf2 m3 mf3 r3 rf3 m4 mf4 r4 rf4 m5 mf5 r5 rf5 m6 mf6 r6 rf6 m7 mf7 r7 rf7 m8 mf8 r8 rf8
          obtain ⟨s0, s1, s2⟩ := hW2.t
          have hDh2 := hW2.hi
          have HS2 := Lib.hid hW2
          clear hW2
          go_cut [10, 11, 12] (fun p1 p2 o W => ∃ D1 D2 N, p1 = .pointer (some ⟨D1, 0, none⟩) ∧ p2 = .pointer (some ⟨D2, 0, none⟩) ∧ o = .slice (some ⟨N, 0, none⟩) 3 3 ∧ D1 ≠ D2 ∧ N ≠ D2 ∧ D < D1 ∧ D < D2 ∧ (∀ j, j < 3 → W.cell? ⟨N, j, none⟩ = some (.int .i64 (P j : Int))) ∧ C9 W D1 B ∧ C9 W D2 (fun _ => 0) ∧ F9 W D2 ∧ MS w W D M x y z)
          case first =>
            clear HT HX HP HM HF HU HV HG HN HI HR
            go_region_held3 (fun w' => (w'.cell? ⟨w.heap.size, 0, none⟩ = some (.int .i64 x) ∧ w'.cell? ⟨w.heap.size, 1, none⟩ = some (.int .i64 y) ∧ w'.cell? ⟨w.heap.size, 2, none⟩ = some (.int .i64 z))) (first | (with_reducible assumption) | (focus (((repeat' apply And.intro) <;> (repeat' (first | (with_reducible assumption) | (with_reducible refine keep_drew ?_) | (with_reducible refine keep_setx (by omega) ?_) | (with_reducible refine keep_hc (by with_reducible assumption) (by omega) ?_) | (focus (go_simp; done)) | (with_reducible refine keep_alloc ?_)))); done))) (first | (go_at_call 78; (with_reducible refine (HB.out _).mono ?_); rintro e w3 ⟨rfl, hb3⟩; refine gcut (p := MS w w3 D M x y z) ?_ ?_; (focus (refine MS.below ?_ hb3; (repeat' (first | (with_reducible exact HS2.out) | (with_reducible refine MS.drew ?_) | (with_reducible refine MS.alloc ?_))); done)); intro hsw3; have HS3 := Lib.hid hsw3; clear hsw3; obtain ⟨s30, s31, s32⟩ := HS3.out.t; obtain ⟨hg3, hi3, hy3, hx3⟩ := bfull hb3; (try simp only [World.size_drew] at hg3 hi3 hy3 hx3); (try simp only [World.size_alloc] at hg3 hi3 hy3 hx3); (try simp only [World.size_setCell] at hg3 hi3 hy3 hx3); (try (refine gcut (p := C9 w3 (W2.heap.size) (fun _ => 0) ∧ F9 w3 (W2.heap.size) ∧ W2.heap.size < w3.heap.size ∧ ¬ w3.heap.size = W2.heap.size) ?_ ?_; (focus (refine ⟨C9.below ?_ hb3, F9.below ?_ ?_ hb3, ?_, ?_⟩; (focus ((repeat' (first | (with_reducible assumption) | (focus (with_reducible refine C9.new' (M := fun _ => 0) ?_; (focus (simp; done)))) | (with_reducible refine C9.drew ?_) | (with_reducible refine C9.alloc ?_))); done)); (focus ((repeat' (first | (with_reducible assumption) | (focus (with_reducible refine F9.new' ?_; (focus (simp; done)))) | (with_reducible refine F9.drew ?_) | (with_reducible refine F9.alloc ?_ (by go_size)))); done)); (focus (go_size; done)); (focus (go_size; done)); (focus (go_size; done)))); rintro ⟨qw3_0, qfw3_0, qsw3_0, qnw3_0⟩)); (try (refine gcut (p := C9 w3 (W2.heap.size + 1) (fun _ => 0) ∧ F9 w3 (W2.heap.size + 1) ∧ W2.heap.size + 1 < w3.heap.size ∧ ¬ w3.heap.size = W2.heap.size + 1) ?_ ?_; (focus (refine ⟨C9.below ?_ hb3, F9.below ?_ ?_ hb3, ?_, ?_⟩; (focus ((repeat' (first | (with_reducible assumption) | (focus (with_reducible refine C9.new' (M := fun _ => 0) ?_; (focus (simp; done)))) | (with_reducible refine C9.drew ?_) | (with_reducible refine C9.alloc ?_))); done)); (focus ((repeat' (first | (with_reducible assumption) | (focus (with_reducible refine F9.new' ?_; (focus (simp; done)))) | (with_reducible refine F9.drew ?_) | (with_reducible refine F9.alloc ?_ (by go_size)))); done)); (focus (go_size; done)); (focus (go_size; done)); (focus (go_size; done)))); rintro ⟨qw3_1, qfw3_1, qsw3_1, qnw3_1⟩))) | (go_at_call 79; (with_reducible refine (HD.out _).mono ?_); rintro e w4 ⟨rfl, hb4⟩; refine gcut (p := MS w w4 D M x y z) ?_ ?_; (focus (refine MS.below ?_ hb4; (repeat' (first | (with_reducible exact HS3.out) | (with_reducible refine MS.drew ?_) | (with_reducible refine MS.alloc ?_))); done)); intro hsw4; have HS4 := Lib.hid hsw4; clear hsw4; obtain ⟨s40, s41, s42⟩ := HS4.out.t; obtain ⟨hg4, hi4, hy4, hx4⟩ := bfull hb4; (try simp only [World.size_drew] at hg4 hi4 hy4 hx4); (try simp only [World.size_alloc] at hg4 hi4 hy4 hx4); (try simp only [World.size_setCell] at hg4 hi4 hy4 hx4); (try (refine gcut (p := C9 w4 (W2.heap.size) (fun _ => 0) ∧ F9 w4 (W2.heap.size) ∧ W2.heap.size < w4.heap.size ∧ ¬ w4.heap.size = W2.heap.size) ?_ ?_; (focus (refine ⟨C9.below ?_ hb4, F9.below ?_ ?_ hb4, ?_, ?_⟩; (focus ((repeat' (first | (with_reducible assumption) | (focus (with_reducible refine C9.new' (M := fun _ => 0) ?_; (focus (simp; done)))) | (with_reducible refine C9.drew ?_) | (with_reducible refine C9.alloc ?_))); done)); (focus ((repeat' (first | (with_reducible assumption) | (focus (with_reducible refine F9.new' ?_; (focus (simp; done)))) | (with_reducible refine F9.drew ?_) | (with_reducible refine F9.alloc ?_ (by go_size)))); done)); (focus (go_size; done)); (focus (go_size; done)); (focus (go_size; done)))); rintro ⟨qw4_0, qfw4_0, qsw4_0, qnw4_0⟩)); (try (refine gcut (p := C9 w4 (W2.heap.size + 1) (fun _ => 0) ∧ F9 w4 (W2.heap.size + 1) ∧ W2.heap.size + 1 < w4.heap.size ∧ ¬ w4.heap.size = W2.heap.size + 1) ?_ ?_; (focus (refine ⟨C9.below ?_ hb4, F9.below ?_ ?_ hb4, ?_, ?_⟩; (focus ((repeat' (first | (with_reducible assumption) | (focus (with_reducible refine C9.new' (M := fun _ => 0) ?_; (focus (simp; done)))) | (with_reducible refine C9.drew ?_) | (with_reducible refine C9.alloc ?_))); done)); (focus ((repeat' (first | (with_reducible assumption) | (focus (with_reducible refine F9.new' ?_; (focus (simp; done)))) | (with_reducible refine F9.drew ?_) | (with_reducible refine F9.alloc ?_ (by go_size)))); done)); (focus (go_size; done)); (focus (go_size; done)); (focus (go_size; done)))); rintro ⟨qw4_1, qfw4_1, qsw4_1, qnw4_1⟩)); (try (refine gcut (p := C9 w4 (w3.heap.size) (fun _ => 0) ∧ F9 w4 (w3.heap.size) ∧ w3.heap.size < w4.heap.size ∧ ¬ w4.heap.size = w3.heap.size) ?_ ?_; (focus (refine ⟨C9.below ?_ hb4, F9.below ?_ ?_ hb4, ?_, ?_⟩; (focus ((repeat' (first | (with_reducible assumption) | (focus (with_reducible refine C9.new' (M := fun _ => 0) ?_; (focus (simp; done)))) | (with_reducible refine C9.drew ?_) | (with_reducible refine C9.alloc ?_))); done)); (focus ((repeat' (first | (with_reducible assumption) | (focus (with_reducible refine F9.new' ?_; (focus (simp; done)))) | (with_reducible refine F9.drew ?_) | (with_reducible refine F9.alloc ?_ (by go_size)))); done)); (focus (go_size; done)); (focus (go_size; done)); (focus (go_size; done)))); rintro ⟨qw4_2, qfw4_2, qsw4_2, qnw4_2⟩)); (try (refine gcut (p := C9 w4 (w3.heap.size + 1) (fun _ => 0) ∧ F9 w4 (w3.heap.size + 1) ∧ w3.heap.size + 1 < w4.heap.size ∧ ¬ w4.heap.size = w3.heap.size + 1) ?_ ?_; (focus (refine ⟨C9.below ?_ hb4, F9.below ?_ ?_ hb4, ?_, ?_⟩; (focus ((repeat' (first | (with_reducible assumption) | (focus (with_reducible refine C9.new' (M := fun _ => 0) ?_; (focus (simp; done)))) | (with_reducible refine C9.drew ?_) | (with_reducible refine C9.alloc ?_))); done)); (focus ((repeat' (first | (with_reducible assumption) | (focus (with_reducible refine F9.new' ?_; (focus (simp; done)))) | (with_reducible refine F9.drew ?_) | (with_reducible refine F9.alloc ?_ (by go_size)))); done)); (focus (go_size; done)); (focus (go_size; done)); (focus (go_size; done)))); rintro ⟨qw4_3, qfw4_3, qsw4_3, qnw4_3⟩))) | (go_at_call 59; (with_reducible refine (HO.out _).mono ?_); rintro e w5 ⟨⟨N, hN, rfl, c0, c1, c2⟩, hb5⟩; (try simp only [World.size_drew] at hN); (try simp only [World.size_alloc] at hN); (try simp only [World.size_setCell] at hN); refine gcut (p := MS w w5 D M x y z) ?_ ?_; (focus (refine MS.below ?_ hb5; (repeat' (first | (with_reducible exact HS4.out) | (with_reducible refine MS.drew ?_) | (with_reducible refine MS.alloc ?_))); done)); intro hsw5; have HS5 := Lib.hid hsw5; clear hsw5; obtain ⟨s50, s51, s52⟩ := HS5.out.t; obtain ⟨hg5, hi5, hy5, hx5⟩ := bfull hb5; (try simp only [World.size_drew] at hg5 hi5 hy5 hx5); (try simp only [World.size_alloc] at hg5 hi5 hy5 hx5); (try simp only [World.size_setCell] at hg5 hi5 hy5 hx5); (try (refine gcut (p := C9 w5 (W2.heap.size) (fun _ => 0) ∧ F9 w5 (W2.heap.size) ∧ W2.heap.size < w5.heap.size ∧ ¬ w5.heap.size = W2.heap.size) ?_ ?_; (focus (refine ⟨C9.below ?_ hb5, F9.below ?_ ?_ hb5, ?_, ?_⟩; (focus ((repeat' (first | (with_reducible assumption) | (focus (with_reducible refine C9.new' (M := fun _ => 0) ?_; (focus (simp; done)))) | (with_reducible refine C9.drew ?_) | (with_reducible refine C9.alloc ?_))); done)); (focus ((repeat' (first | (with_reducible assumption) | (focus (with_reducible refine F9.new' ?_; (focus (simp; done)))) | (with_reducible refine F9.drew ?_) | (with_reducible refine F9.alloc ?_ (by go_size)))); done)); (focus (go_size; done)); (focus (go_size; done)); (focus (go_size; done)))); rintro ⟨qw5_0, qfw5_0, qsw5_0, qnw5_0⟩; have kc5_0 := qw5_0; have kf5_0 := qfw5_0; unfold C9 at qw5_0; unfold F9 at qfw5_0)); (try (refine gcut (p := C9 w5 (W2.heap.size + 1) (fun _ => 0) ∧ F9 w5 (W2.heap.size + 1) ∧ W2.heap.size + 1 < w5.heap.size ∧ ¬ w5.heap.size = W2.heap.size + 1) ?_ ?_; (focus (refine ⟨C9.below ?_ hb5, F9.below ?_ ?_ hb5, ?_, ?_⟩; (focus ((repeat' (first | (with_reducible assumption) | (focus (with_reducible refine C9.new' (M := fun _ => 0) ?_; (focus (simp; done)))) | (with_reducible refine C9.drew ?_) | (with_reducible refine C9.alloc ?_))); done)); (focus ((repeat' (first | (with_reducible assumption) | (focus (with_reducible refine F9.new' ?_; (focus (simp; done)))) | (with_reducible refine F9.drew ?_) | (with_reducible refine F9.alloc ?_ (by go_size)))); done)); (focus (go_size; done)); (focus (go_size; done)); (focus (go_size; done)))); rintro ⟨qw5_1, qfw5_1, qsw5_1, qnw5_1⟩; have kc5_1 := qw5_1; have kf5_1 := qfw5_1; unfold C9 at qw5_1; unfold F9 at qfw5_1)); (try (refine gcut (p := C9 w5 (w3.heap.size) (fun _ => 0) ∧ F9 w5 (w3.heap.size) ∧ w3.heap.size < w5.heap.size ∧ ¬ w5.heap.size = w3.heap.size) ?_ ?_; (focus (refine ⟨C9.below ?_ hb5, F9.below ?_ ?_ hb5, ?_, ?_⟩; (focus ((repeat' (first | (with_reducible assumption) | (focus (with_reducible refine C9.new' (M := fun _ => 0) ?_; (focus (simp; done)))) | (with_reducible refine C9.drew ?_) | (with_reducible refine C9.alloc ?_))); done)); (focus ((repeat' (first | (with_reducible assumption) | (focus (with_reducible refine F9.new' ?_; (focus (simp; done)))) | (with_reducible refine F9.drew ?_) | (with_reducible refine F9.alloc ?_ (by go_size)))); done)); (focus (go_size; done)); (focus (go_size; done)); (focus (go_size; done)))); rintro ⟨qw5_2, qfw5_2, qsw5_2, qnw5_2⟩; have kc5_2 := qw5_2; have kf5_2 := qfw5_2; unfold C9 at qw5_2; unfold F9 at qfw5_2)); (try (refine gcut (p := C9 w5 (w3.heap.size + 1) (fun _ => 0) ∧ F9 w5 (w3.heap.size + 1) ∧ w3.heap.size + 1 < w5.heap.size ∧ ¬ w5.heap.size = w3.heap.size + 1) ?_ ?_; (focus (refine ⟨C9.below ?_ hb5, F9.below ?_ ?_ hb5, ?_, ?_⟩; (focus ((repeat' (first | (with_reducible assumption) | (focus (with_reducible refine C9.new' (M := fun _ => 0) ?_; (focus (simp; done)))) | (with_reducible refine C9.drew ?_) | (with_reducible refine C9.alloc ?_))); done)); (focus ((repeat' (first | (with_reducible assumption) | (focus (with_reducible refine F9.new' ?_; (focus (simp; done)))) | (with_reducible refine F9.drew ?_) | (with_reducible refine F9.alloc ?_ (by go_size)))); done)); (focus (go_size; done)); (focus (go_size; done)); (focus (go_size; done)))); rintro ⟨qw5_3, qfw5_3, qsw5_3, qnw5_3⟩; have kc5_3 := qw5_3; have kf5_3 := qfw5_3; unfold C9 at qw5_3; unfold F9 at qfw5_3)); (try (refine gcut (p := C9 w5 (w4.heap.size) (fun _ => 0) ∧ F9 w5 (w4.heap.size) ∧ w4.heap.size < w5.heap.size ∧ ¬ w5.heap.size = w4.heap.size) ?_ ?_; (focus (refine ⟨C9.below ?_ hb5, F9.below ?_ ?_ hb5, ?_, ?_⟩; (focus ((repeat' (first | (with_reducible assumption) | (focus (with_reducible refine C9.new' (M := fun _ => 0) ?_; (focus (simp; done)))) | (with_reducible refine C9.drew ?_) | (with_reducible refine C9.alloc ?_))); done)); (focus ((repeat' (first | (with_reducible assumption) | (focus (with_reducible refine F9.new' ?_; (focus (simp; done)))) | (with_reducible refine F9.drew ?_) | (with_reducible refine F9.alloc ?_ (by go_size)))); done)); (focus (go_size; done)); (focus (go_size; done)); (focus (go_size; done)))); rintro ⟨qw5_4, qfw5_4, qsw5_4, qnw5_4⟩; have kc5_4 := qw5_4; have kf5_4 := qfw5_4; unfold C9 at qw5_4; unfold F9 at qfw5_4)); (try (refine gcut (p := C9 w5 (w4.heap.size + 1) (fun _ => 0) ∧ F9 w5 (w4.heap.size + 1) ∧ w4.heap.size + 1 < w5.heap.size ∧ ¬ w5.heap.size = w4.heap.size + 1) ?_ ?_; (focus (refine ⟨C9.below ?_ hb5, F9.below ?_ ?_ hb5, ?_, ?_⟩; (focus ((repeat' (first | (with_reducible assumption) | (focus (with_reducible refine C9.new' (M := fun _ => 0) ?_; (focus (simp; done)))) | (with_reducible refine C9.drew ?_) | (with_reducible refine C9.alloc ?_))); done)); (focus ((repeat' (first | (with_reducible assumption) | (focus (with_reducible refine F9.new' ?_; (focus (simp; done)))) | (with_reducible refine F9.drew ?_) | (with_reducible refine F9.alloc ?_ (by go_size)))); done)); (focus (go_size; done)); (focus (go_size; done)); (focus (go_size; done)))); rintro ⟨qw5_5, qfw5_5, qsw5_5, qnw5_5⟩; have kc5_5 := qw5_5; have kf5_5 := qfw5_5; unfold C9 at qw5_5; unfold F9 at qfw5_5))))
            all_goals (go_wp2_with fail; go_meet)
            all_goals
              have hNl : N < w5.heap.size := World.block_lt_of_cell? w5 _ c0
              refine ⟨_, _, _, rfl, rfl, rfl, by omega, by omega, by omega, by omega, ?_, ?_, ?_, ?_, ?_⟩
              · intro j hj
                rcases (show j = 0 ∨ j = 1 ∨ j = 2 by omega) with rfl | rfl | rfl <;> (repeat' (first | (with_reducible assumption) | (with_reducible refine keep_drew ?_) | (with_reducible refine keep_alloc ?_) | (with_reducible refine cell_put9 (fun _ => 0) ?ne ?_; case ne => omega) | (with_reducible refine cell_put9 B ?ne ?_; case ne => omega)))
              · (repeat' (first | (with_reducible assumption) | (focus (with_reducible refine C9.new' (M := B) ?_; (focus (simp; done)))) | (focus (with_reducible refine C9.new' (M := fun _ => 0) ?_; (focus (simp; done)))) | (with_reducible refine C9.drew ?_) | (with_reducible refine C9.alloc ?_) | (with_reducible refine C9.put (M := fun _ => 0) (M' := B) ?_) | (with_reducible refine C9.put (M := fun _ => 0) (M' := fun _ => 0) ?_) | (with_reducible refine C9.other9 (fun _ => 0) ?_ ?ne; case ne => omega) | (with_reducible refine C9.other9 B ?_ ?ne; case ne => omega)))
              · (repeat' (first | (with_reducible assumption) | (focus (with_reducible refine C9.new' (M := B) ?_; (focus (simp; done)))) | (focus (with_reducible refine C9.new' (M := fun _ => 0) ?_; (focus (simp; done)))) | (with_reducible refine C9.drew ?_) | (with_reducible refine C9.alloc ?_) | (with_reducible refine C9.put (M := fun _ => 0) (M' := B) ?_) | (with_reducible refine C9.put (M := fun _ => 0) (M' := fun _ => 0) ?_) | (with_reducible refine C9.other9 (fun _ => 0) ?_ ?ne; case ne => omega) | (with_reducible refine C9.other9 B ?_ ?ne; case ne => omega)))
              · (repeat' (first | (with_reducible assumption) | (focus (with_reducible refine F9.new' ?_; (focus (simp; done)))) | (with_reducible refine F9.drew ?_) | (with_reducible refine F9.alloc ?_ ?lt; case lt => (go_size; done)) | (with_reducible refine F9.set9 (fun _ => 0) ?_) | (with_reducible refine F9.set9 B ?_)))
              · (repeat' (first | (with_reducible exact HS5.out) | (with_reducible refine MS.drew ?_) | (with_reducible refine MS.alloc ?_) | (with_reducible refine MS.other9 (fun _ => 0) ?_ ?lt; case lt => omega) | (with_reducible refine MS.other9 B ?_ ?lt; case lt => omega)))
          case rest =>
            clear s0 s1 s2 hDh2 HS2 HB HD HO
            obtain ⟨D1, D2, N, rfl, rfl, rfl, hne, hnN, hlt1, hlt2, hcN, hcB, hcZ, hfZ, hms⟩ := hcut
            have HS2 := Lib.hid hms
            have H0 : ∀ j, j < 3 → wc.cell? ⟨N, j, none⟩ = some (.int .i64 (P j : Int)) ∧ True := fun j hj => ⟨hcN j hj, trivial⟩
            have HZ := Lib.hid (And.intro hcN (And.intro hcB (And.intro hcZ (And.intro hfZ hms))))
            clear hcN hcB hcZ hfZ hms HS2 H0
            go_wp2
            go_loopw [41] (fun iv W => ∃ (i : Nat) (O : Nat → Int), i ≤ 3 ∧ iv = .int .i64 i ∧ (∀ n, n < i * 3 → O n = S n) ∧ (∀ j, j < 3 → W.cell? ⟨N, j, none⟩ = some (.int .i64 (P j : Int))) ∧ C9 W D1 B ∧ C9 W D2 O ∧ F9 W D2 ∧ MS w W D M x y z) (fun iv _ => 3 - (intOf iv).toNat)
            case atStart => exact ⟨0, fun _ => 0, by omega, rfl, fun n hn => absurd hn (by omega), HZ.out⟩
            case round =>
              clear HZ
              obtain ⟨i, O, hi, rfl, hmid, hst⟩ := hrel
              have HS := Lib.hid hst
              have HD := Lib.hid hmid
              clear hst hmid
              by_cases hi3 : i < 3
              · have hii : (i : Int) < 3 := by omega
                go_wp2
                go_loopw [46] (fun jv W => ∃ (j : Nat) (O : Nat → Int), j ≤ 3 ∧ jv = .int .i64 j ∧ (∀ n, n < i * 3 + j → O n = S n) ∧ (∀ j, j < 3 → W.cell? ⟨N, j, none⟩ = some (.int .i64 (P j : Int))) ∧ C9 W D1 B ∧ C9 W D2 O ∧ F9 W D2 ∧ MS w W D M x y z) (fun jv _ => 3 - (intOf jv).toNat)
                case atStart => exact ⟨0, O, by omega, rfl, HD.out, HS.out⟩
                case round =>
                  clear HS HD
                  obtain ⟨j, O, hj, rfl, hmid, hst⟩ := hrel
                  by_cases hj3 : j < 3
                  · have hjj : (j : Int) < 3 := by omega
                    have hPj := HP.out j hj3
                    have hpp : (P j : Int) < 3 := by omega
                    have hp0 : (0 : Int) ≤ (P j : Int) := by omega
                    have m1 := hst.2.1 (i * 3 + P j) (by omega)
                    have m2 := hst.1 j hj3
                    have m3 := hst.2.2.1 (i * 3 + j) (by omega)
                    have m4 := hst.2.2.2.1 (i * 3 + j) (by omega)
                    have HS := Lib.hid hst
                    have HD := Lib.hid hmid
                    have HTT := Lib.hid (HX.out i j hi3 hj3)
                    obtain ⟨q', hq'⟩ : ∃ q, P j = q := ⟨_, rfl⟩
                    rw [hq'] at m1 m2 hPj hpp hp0
                    have HQ := Lib.hid hq'
                    clear hst hmid hq'
                    go_wp2
                    go_still_tail 9, (by kernel_rfl)
                    go_wp2
                    go_roundw
                    case rel =>
                      refine ⟨j + 1, fun n => if n = i * 3 + j then B (i * 3 + q') else O n, by omega, by go_num, fun n hn => ?_, ?_, ?_, ?_, ?_, ?_⟩
                      · by_cases e : n = i * 3 + j
                        · subst e; dsimp only; rw [if_pos rfl, HTT.out, HQ.out]
                        · dsimp only; rw [if_neg e]; exact HD.out n (by omega)
                      · intro j' hj'; exact keep_drew (keep_setx (by omega) (HS.out.1 j' hj'))
                      · exact (HS.out.2.1.other (by omega)).drew
                      · exact (HS.out.2.2.1.set (by omega)).drew
                      · exact (HS.out.2.2.2.1.set).drew
                      · exact (HS.out.2.2.2.2.other (by omega)).drew
                    case measure => simp [intOf]; omega
                  · obtain rfl : j = 3 := by omega
                    have HS := Lib.hid hst
                    have HD := Lib.hid hmid
                    clear hst hmid
                    go_wp2
                    go_roundw
                    case rel => exact ⟨i + 1, O, by omega, by go_num, fun n hn => HD.out n (by omega), HS.out⟩
                    case measure => simp [intOf]; omega
              · obtain rfl : i = 3 := by omega
                have hO : ∀ n, n < 9 → O n = S n := fun n hn => HD.out n (by omega)
                have hms := HS.out.2.2.2.2
                have o0 := HS.out.2.2.1 0 (by omega)
                rw [hO 0 (by omega)] at o0
                have o1 := HS.out.2.2.1 1 (by omega)
                rw [hO 1 (by omega)] at o1
                have o2 := HS.out.2.2.1 2 (by omega)
                rw [hO 2 (by omega)] at o2
                have o3 := HS.out.2.2.1 3 (by omega)
                rw [hO 3 (by omega)] at o3
                have o4 := HS.out.2.2.1 4 (by omega)
                rw [hO 4 (by omega)] at o4
                have o5 := HS.out.2.2.1 5 (by omega)
                rw [hO 5 (by omega)] at o5
                have o6 := HS.out.2.2.1 6 (by omega)
                rw [hO 6 (by omega)] at o6
                have o7 := HS.out.2.2.1 7 (by omega)
                rw [hO 7 (by omega)] at o7
                have o8 := HS.out.2.2.1 8 (by omega)
                rw [hO 8 (by omega)] at o8
                have k0 := hms.m 0 (by omega)
                have k1 := hms.m 1 (by omega)
                have k2 := hms.m 2 (by omega)
                have k3 := hms.m 3 (by omega)
                have k4 := hms.m 4 (by omega)
                have k5 := hms.m 5 (by omega)
                have k6 := hms.m 6 (by omega)
                have k7 := hms.m 7 (by omega)
                have k8 := hms.m 8 (by omega)
                have HS2 := Lib.hid hms
                clear HS HD hO hms HX HP
                go_upto_region 19 with (first | (go_at_call 80; (with_reducible refine (HM.out _).mono ?_); rintro e w4 ⟨rfl, hb4⟩; have HS4 := Lib.hid (HS2.out.below hb4); have y0 := HS4.out.m 0 (by omega); have y1 := HS4.out.m 1 (by omega); have y2 := HS4.out.m 2 (by omega); have y3 := HS4.out.m 3 (by omega); have y4 := HS4.out.m 4 (by omega); have y5 := HS4.out.m 5 (by omega); have y6 := HS4.out.m 6 (by omega); have y7 := HS4.out.m 7 (by omega); have y8 := HS4.out.m 8 (by omega); have yf0 := HS4.out.mf 0 (by omega); have yf1 := HS4.out.mf 1 (by omega); have yf2 := HS4.out.mf 2 (by omega); have yf3 := HS4.out.mf 3 (by omega); have yf4 := HS4.out.mf 4 (by omega); have yf5 := HS4.out.mf 5 (by omega); have yf6 := HS4.out.mf 6 (by omega); have yf7 := HS4.out.mf 7 (by omega); have yf8 := HS4.out.mf 8 (by omega)))
                refine wp_gen' (F := fun W => MS w W D M' x y z) ?_ (fun W5 hW5 => ?_)
                · first | (with_reducible exact HS4.out.put M') | (with_reducible exact (HS4.out.put M').drew) | (with_reducible exact HS4.out.drew.put M')
                clear HS4 hb4 HS2 HM o0 k0 y0 yf0 o1 k1 y1 yf1 o2 k2 y2 yf2 o3 k3 y3 yf3 o4 k4 y4 yf4 o5 k5 y5 yf5 o6 k6 y6 yf6 o7 k7 y7 yf7 o8 k8 y8 yf8
                have a0 := hW5.m 0 (by omega)
                have a1 := hW5.m 1 (by omega)
                have a2 := hW5.m 2 (by omega)
                have a3 := hW5.m 3 (by omega)
                have a4 := hW5.m 4 (by omega)
                have a5 := hW5.m 5 (by omega)
                have a6 := hW5.m 6 (by omega)
                have a7 := hW5.m 7 (by omega)
                have a8 := hW5.m 8 (by omega)
                have HS5 := Lib.hid hW5
                clear hW5
                cases v
                · go_wp2_with (first | (go_at_call 67; (with_reducible refine (HF.out _).mono ?_); rintro e w6 ⟨rfl, hb6⟩; have HS6 := Lib.hid (HS5.out.below hb6); have g0 := HS6.out.r 0 (by omega); have g1 := HS6.out.r 1 (by omega); have g2 := HS6.out.r 2 (by omega); have g3 := HS6.out.r 3 (by omega); have g4 := HS6.out.r 4 (by omega); have g5 := HS6.out.r 5 (by omega); have g6 := HS6.out.r 6 (by omega); have g7 := HS6.out.r 7 (by omega); have g8 := HS6.out.r 8 (by omega); have gf0 := HS6.out.rf 0 (by omega); have gf1 := HS6.out.rf 1 (by omega); have gf2 := HS6.out.rf 2 (by omega); have gf3 := HS6.out.rf 3 (by omega); have gf4 := HS6.out.rf 4 (by omega); have gf5 := HS6.out.rf 5 (by omega); have gf6 := HS6.out.rf 6 (by omega); have gf7 := HS6.out.rf 7 (by omega); have gf8 := HS6.out.rf 8 (by omega)))
                  refine bodyPost_ret (by simp [results, Try.results32, go_sem, *]; try rfl) rfl ?_
                  refine ⟨?_, ?_⟩
                  · have := HI.out.fails hlt HU.out (by rw [HN.out]; exact HV.out)
                    rw [HR.out] at this
                    rw [this]; rfl
                  · have HB := HS6.out.b
                    (repeat' (first | (with_reducible exact Below.refl _ _) | (with_reducible refine Below.alloc ?_ ?_ _) | (with_reducible refine Below.drew ?_) | (with_reducible refine below_drewN' ?_ _) | (with_reducible refine Below.setCell ?_ ?_ _) | (with_reducible refine Below.trans ?_ (Below.mono (by assumption) ?_)) | go_size))
                · go_wp2_with (first | (go_at_call 67; (with_reducible refine (HF.out _).mono ?_); rintro e w6 ⟨rfl, hb6⟩; have HS6 := Lib.hid (HS5.out.below hb6); obtain ⟨y0, y1, y2⟩ := HS6.out.t) | (go_at_call 81; (with_reducible refine (HT.out _).mono ?_); rintro e w7 ⟨rfl, hb7⟩; have HS7 := Lib.hid (HS6.out.below hb7); obtain ⟨g0, g1, g2⟩ := HS7.out.t; have gf0 := HS7.out.tf 0; have gf1 := HS7.out.tf 1; have gf2 := HS7.out.tf 2))
                  go_roundw
                  case rel => exact ⟨q + 1, M', x', y', z', by go_num, HI.out.next hlt HU.out HN.out HV.out HG.out, HS7.out.step x' y' z'⟩
                  case measure => simp [intOf]; omega
        · have hend := HI.out.ends HU.out
          rw [HR.out] at hend
          have HEND := Lib.hid hend
          clear hend
          go_wp2_with (first | (go_at_call 77; (with_reducible refine (HE.out _).mono ?_); rintro e w1 ⟨rfl, hb1⟩; have HS1 := Lib.hid (HS.out.below hb1); have g0 := HS1.out.r 0 (by omega); have g1 := HS1.out.r 1 (by omega); have g2 := HS1.out.r 2 (by omega); have g3 := HS1.out.r 3 (by omega); have g4 := HS1.out.r 4 (by omega); have g5 := HS1.out.r 5 (by omega); have g6 := HS1.out.r 6 (by omega); have g7 := HS1.out.r 7 (by omega); have g8 := HS1.out.r 8 (by omega); have gf0 := HS1.out.rf 0 (by omega); have gf1 := HS1.out.rf 1 (by omega); have gf2 := HS1.out.rf 2 (by omega); have gf3 := HS1.out.rf 3 (by omega); have gf4 := HS1.out.rf 4 (by omega); have gf5 := HS1.out.rf 5 (by omega); have gf6 := HS1.out.rf 6 (by omega); have gf7 := HS1.out.rf 7 (by omega); have gf8 := HS1.out.rf 8 (by omega); have o0 := HS1.out.m 0 (by omega); have o1 := HS1.out.m 1 (by omega); have o2 := HS1.out.m 2 (by omega); have o3 := HS1.out.m 3 (by omega); have o4 := HS1.out.m 4 (by omega); have o5 := HS1.out.m 5 (by omega); have o6 := HS1.out.m 6 (by omega); have o7 := HS1.out.m 7 (by omega); have o8 := HS1.out.m 8 (by omega)))
          refine bodyPost_ret (by simp [results, Try.results32, go_sem, *]; try rfl) rfl ?_
          refine ⟨by rw [HEND.out], ?_⟩
          have HB := HS1.out.b
          (repeat' (first | (with_reducible exact Below.refl _ _) | (with_reducible refine Below.alloc ?_ ?_ _) | (with_reducible refine Below.drew ?_) | (with_reducible refine below_drewN' ?_ _) | (with_reducible refine Below.setCell ?_ ?_ _) | (with_reducible refine Below.trans ?_ (Below.mono (by assumption) ?_)) | go_size))
      · obtain rfl : q = m := by omega
        have hend := HI.out.full
        rw [HR.out] at hend
        have HEND := Lib.hid hend
        have HB := Lib.hid HS.out.b
        clear hend
        go_wp2
        refine bodyPost_ret (by simp [results, Try.results32, go_sem, *]; try rfl) rfl ?_
        refine ⟨by rw [HEND.out], ?_⟩
        (repeat' (first | (with_reducible exact Below.refl _ _) | (with_reducible refine Below.alloc ?_ ?_ _) | (with_reducible refine Below.drew ?_) | (with_reducible refine below_drewN' ?_ _) | (with_reducible refine Below.setCell ?_ ?_ _) | (with_reducible refine Below.trans ?_ (Below.mono (by assumption) ?_)) | go_size))
        exact HB.out
  · rw [if_neg h0]
    have hd : (k != 0) = true := by simpa using h0
    have hd' : (k == 0) = false := by simpa using h0
    clear h0 hbd
    go_enter Try.func32, Try.ntmps32
    go_wp2_with (first | (go_at_call 73; (with_reducible refine (HK.out _).mono ?_); rintro e w1 ⟨rfl, hb1⟩; obtain ⟨hc1, hf1, hz1, hn1⟩ := bstep 2 w hb1 (by go_size)))
    refine bodyPost_ret (by simp [results, Try.results32, go_sem, *]; try rfl) rfl ?_
    exact ⟨rfl, by (repeat' (first | (with_reducible exact Below.refl _ _) | (with_reducible refine Below.alloc ?_ ?_ _) | (with_reducible refine Below.drew ?_) | (with_reducible refine below_drewN' ?_ _) | (with_reducible refine Below.setCell ?_ ?_ _) | (with_reducible refine Below.trans ?_ (Below.mono (by assumption) ?_)) | go_size))⟩
end Go.Proofs.Ytdenfmgmapgpiaa
