/-
  Contracts of the draws of triples: each returns some triple, and writes nothing but its source. No condition but what stands in each.
-/
import Derived.Test.YtdenfmgmapgpiaaCps
import Derived.Deep.RegionHeld3
import Derived.Deep.CutRange
import Derived.Deep.DeepMust
import Derived.Deep.DeepCutAuto
namespace Go.Proofs.Ytdenfmgmapgpiaa
open Go.RowKit
set_option maxHeartbeats 1000000
/-- A source at the block g, over bytes that lie below B. -/
structure Src (B : Nat) (w : World) (g : Nat) : Prop where
  there : g < w.heap.size
  over : B ≤ g
  code : ∃ (A : Option Addr) (n c : Nat) (a h : Int), w.cell? ⟨g, 0, none⟩ = some (.slice A n c) ∧ w.cell? ⟨g, 1, none⟩ = some (.int .i64 a) ∧ w.cell? ⟨g, 2, none⟩ = some (.int .u64 h) ∧ 0 ≤ a ∧ a ≤ n ∧ n ≤ maxLen ∧
    (0 < n → ∃ b off, A = some ⟨b, off, none⟩ ∧ b < B ∧ ∀ i, i < n → ∃ x : Int, 0 ≤ x ∧ x ≤ 255 ∧ w.cell? ⟨b, off + i, none⟩ = some (.int .u8 x))
  free : ∀ o, w.frozen? ⟨g, o, none⟩ = false
theorem Src.keep {B : Nat} {w w1 : World} {g : Nat} (h : Src B w g) (hb : Below w.heap.size w w1) : Src B w1 g := by
  obtain ⟨h1, h0, ⟨A, n, c, a, k, e0, e1, e2, h2, h3, h4, h5⟩, h6⟩ := h
  have hc : ∀ b o, b < w.heap.size → w1.cell? ⟨b, o, none⟩ = w.cell? ⟨b, o, none⟩ := fun b o hlt => hb.cell (p := ⟨b, o, none⟩) hlt
  refine ⟨Nat.lt_of_lt_of_le h1 hb.size, h0, ⟨A, n, c, a, k, (hc _ _ h1).trans e0, (hc _ _ h1).trans e1, (hc _ _ h1).trans e2, h2, h3, h4, fun hn => ?_⟩, fun o => (hb.frozen (p := ⟨g, o, none⟩) h1).trans (h6 o)⟩
  obtain ⟨b, off, eA, hbg, hx⟩ := h5 hn
  refine ⟨b, off, eA, hbg, fun i hi => ?_⟩
  obtain ⟨x, hx1, hx2, hx3⟩ := hx i hi
  exact ⟨x, hx1, hx2, (hc _ _ (by omega)).trans hx3⟩
theorem Src.set {B : Nat} {w : World} {g : Nat} {p : Addr} {v : Value} (h : Src B w g) (h7 : B ≤ p.block) (h8 : p.block ≠ g) : Src B (w.setCell p v) g := by
  obtain ⟨h1, h0, ⟨A, n, c, a, k, e0, e1, e2, h2, h3, h4, h5⟩, h6⟩ := h
  have hc : ∀ b o, b ≠ p.block → (w.setCell p v).cell? ⟨b, o, none⟩ = w.cell? ⟨b, o, none⟩ := fun b o hn => World.cell?_setCell_other _ _ _ _ (fun e => hn (by rw [e]))
  refine ⟨by simpa [World.setCell] using h1, h0, ⟨A, n, c, a, k, (hc _ _ (Ne.symm h8)).trans e0, (hc _ _ (Ne.symm h8)).trans e1, (hc _ _ (Ne.symm h8)).trans e2, h2, h3, h4, fun hn => ?_⟩, fun o => (World.frozen?_setCell _ _ _ _).trans (h6 o)⟩
  obtain ⟨b, off, eA, hbg, hx⟩ := h5 hn
  refine ⟨b, off, eA, hbg, fun i hi => ?_⟩
  obtain ⟨x, hx1, hx2, hx3⟩ := hx i hi
  exact ⟨x, hx1, hx2, (hc _ _ (by omega)).trans hx3⟩
theorem Src.drewN {B : Nat} {w : World} {g : Nat} (h : Src B w g) (n : Nat) : Src B (w.drewN n) g := h.keep (below_drewN' (Below.refl _ _) n)
theorem Src.drew {B : Nat} {w : World} {g : Nat} (h : Src B w g) : Src B w.drew g := h.keep ((Below.refl _ _).drew)
theorem Src.alloc {B : Nat} {w : World} {g : Nat} (h : Src B w g) (o : Obj) : Src B (w.alloc o) g := h.keep ((Below.refl _ _).alloc (Nat.le_refl _) o)
theorem gb_refl (g : Nat) (w : World) : w.grownBy w (some g) := ⟨rfl, rfl, rfl, Nat.le_refl _, fun _ _ _ => rfl⟩
theorem gb_trans {g : Nat} {a b c : World} (h : a.grownBy b (some g)) (k : b.grownBy c (some g)) : a.grownBy c (some g) :=
  ⟨k.os.trans h.os, k.tape.trans h.tape, k.output.trans h.output, Nat.le_trans h.size k.size, fun i hi hn => (k.block i (Nat.lt_of_lt_of_le hi h.size) hn).trans (h.block i hi hn)⟩
theorem gb_set {g o : Nat} {a b : World} {v : Value} (h : a.grownBy b (some g)) : a.grownBy (b.setCell ⟨g, o, none⟩ v) (some g) :=
  gb_trans h ⟨rfl, rfl, rfl, by simp [World.setCell], fun k _ hn => Below.heap_setCell _ _ _ _ (fun e => hn (by rw [e]))⟩
theorem gb_drewN {g : Nat} {a b : World} (h : a.grownBy b (some g)) (n : Nat) : a.grownBy (b.drewN n) (some g) := ⟨h.os, h.tape, h.output, h.size, h.block⟩
theorem gb_below {g : Nat} {a b c : World} (h : a.grownBy b (some g)) (k : Below b.heap.size b c) : a.grownBy c (some g) :=
  gb_trans h ⟨k.os, k.tape, k.output, k.size, fun i hi _ => k.block i hi⟩
theorem gb_alloc {g : Nat} {a b : World} (h : a.grownBy b (some g)) (o : Obj) : a.grownBy (b.alloc o) (some g) := gb_below h ((Below.refl _ _).alloc (Nat.le_refl _) o)
theorem gb_drew {g : Nat} {a b : World} (h : a.grownBy b (some g)) : a.grownBy b.drew (some g) := ⟨h.os, h.tape, h.output, h.size, h.block⟩
theorem gb_own {g : Nat} {a b : World} {p : Addr} {v : Value} (h : a.grownBy b (some g)) (hp : a.heap.size ≤ p.block) : a.grownBy (b.setCell p v) (some g) :=
  ⟨h.os, h.tape, h.output, by simpa [World.setCell] using h.size, fun k hk hn => (Below.heap_setCell _ _ _ _ (by omega)).trans (h.block k hk hn)⟩
theorem mask_le (h : Int) : 0 ≤ bits .and .u64 h 1073741823 ∧ bits .and .u64 h 1073741823 ≤ 1073741823 := by
  simp only [bits]
  have e : (BitVec.ofInt IntKind.u64.bits h &&& BitVec.ofInt IntKind.u64.bits 1073741823).toNat ≤ 1073741823 := by
    rw [BitVec.toNat_and]
    exact Nat.le_trans Nat.and_le_right (by decide)
  generalize (BitVec.ofInt IntKind.u64.bits h &&& BitVec.ofInt IntKind.u64.bits 1073741823).toNat = n at e
  have e2 : IntKind.u64.wrap (n : Int) = n := by
    simp only [IntKind.wrap, IntKind.bits, IntKind.signed]
    simp
    omega
  rw [e2]
  omega
theorem l01Next_any (B g : Nat) (m : Int) (w : World) (hs : Src B w g) : Calls Try.prog 54 #[.pointer (some ⟨g, 0, none⟩), .int .i64 m] w fun e w' =>
    (∃ r : Int, e = .returned (.int .i64 r) ∧ (1 ≤ m → 0 ≤ r ∧ r < m) ∧ (m < 1 → r = 0)) ∧ Src B w' g ∧ w.grownBy w' (some g) := by
  obtain ⟨h1, h0, ⟨A, n, c, a, k, e0, e1, e2, h2, h3, h4, h5⟩, h6⟩ := hs
  obtain ⟨i, rfl⟩ : ∃ i : Nat, a = i := ⟨a.toNat, by omega⟩
  have f0 := h6 0
  have f1 := h6 1
  have f2 := h6 2
  have H5 := Lib.hid h5
  have H6 := Lib.hid h6
  clear h5 h6
  go_enter Try.func54, Try.ntmps54
  go_wp2
  · go_returns
    exact ⟨⟨0, rfl, fun h => by omega, fun _ => rfl⟩, ⟨h1, h0, ⟨A, n, c, i, k, e0, e1, e2, h2, h3, h4, H5.out⟩, H6.out⟩, gb_refl _ _⟩
  obtain ⟨kk, hkk⟩ : ∃ z, IntKind.u64.wrap (IntKind.u64.wrap (k * 6364136223846793005) + 1442695040888963407) = z := ⟨_, rfl⟩
  rw [hkk]
  obtain ⟨x, hx, hx0, hx1⟩ : ∃ z, wrap64 (bits BinOp.and IntKind.u64 (kk / 2147483648) 1073741823) = z ∧ 0 ≤ z ∧ z ≤ 1073741823 := by
    have := mask_le (kk / 2147483648)
    refine ⟨_, rfl, ?_⟩
    rw [show wrap64 (bits BinOp.and IntKind.u64 (kk / 2147483648) 1073741823) = bits BinOp.and IntKind.u64 (kk / 2147483648) 1073741823 by unfold wrap64; omega]
    exact this
  rw [hx]
  clear hx hkk
  refine wp_gen (F := fun W => W.cell? ⟨g, 0, none⟩ = some (.slice A n c) ∧ W.cell? ⟨g, 1, none⟩ = some (.int .i64 i) ∧ W.cell? ⟨g, 2, none⟩ = some (.int .u64 kk) ∧ (∀ o, W.frozen? ⟨g, o, none⟩ = false) ∧ (∀ b o, b < g → W.cell? ⟨b, o, none⟩ = w.cell? ⟨b, o, none⟩) ∧ w.grownBy W (some g) ∧ g < W.heap.size) ?_ (fun W hW => ?_)
  · refine ⟨by go_simp, by go_simp, by go_simp, fun o => (World.frozen?_setCell _ _ _ _).trans (H6.out o), fun b o hb => ?_, gb_set (gb_refl _ _), by go_size⟩
    exact World.cell?_setCell_other _ _ _ _ (fun e => by injection e; omega)
  clear e0 e1 e2 f0 f1 f2
  obtain ⟨e0, e1, e2, hfz, hlow, hg, hsz⟩ := hW
  have HG := Lib.hid hg
  have HL := Lib.hid hlow
  have f0 := hfz 0
  have f1 := hfz 1
  have f2 := hfz 2
  have HF := Lib.hid hfz
  clear hg hlow hfz
  by_cases hin : (i : Int) < n
  · obtain ⟨b, off, rfl, hbg, hby⟩ := H5.out (by omega)
    obtain ⟨y, hy0, hy1, hy⟩ := hby i (by omega)
    have hb := (HL.out b (off + i) (by omega)).trans hy
    clear hby hy
    go_quiet (fail)
    go_wp2
    go_quiet (fail)
    go_wp2
    go_returns
    refine ⟨⟨_, rfl, ?_⟩, ⟨by go_size, h0, ⟨some ⟨b, off, none⟩, n, c, ((i + 1 : Nat) : Int), kk, ?_, ?_, ?_, by omega, by omega, h4, fun hn => ⟨b, off, rfl, hbg, fun j hj => ?_⟩⟩, fun o => ?_⟩, gb_set (gb_drewN HG.out _)⟩
    · exact ⟨fun _ => ⟨Int.emod_nonneg _ (by omega), Int.emod_lt_of_pos _ (by omega)⟩, fun _ => by omega⟩
    · go_simp
    · rw [show ((i + 1 : Nat) : Int) = wrap64 ((i : Int) + 1) by unfold wrap64; unfold maxLen at h4; omega]
      go_simp
    · go_simp
    · obtain ⟨b', off', e', hbg', hby⟩ := H5.out (by omega)
      cases e'
      obtain ⟨z, hz0, hz1, hz⟩ := hby j hj
      exact ⟨z, hz0, hz1, (World.cell?_setCell_other _ _ _ _ (fun e => by injection e; omega)).trans ((HL.out _ _ (by omega)).trans hz)⟩
    · exact (World.frozen?_setCell _ _ _ _).trans (HF.out o)
  · go_quiet (fail)
    go_wp2
    go_returns
    refine ⟨⟨_, rfl, ?_⟩, ⟨by go_size, h0, ⟨A, n, c, i, kk, e0, e1, e2, h2, h3, h4, fun hn => ?_⟩, HF.out⟩, gb_drewN HG.out _⟩
    · exact ⟨⟨Int.emod_nonneg _ (by omega), Int.emod_lt_of_pos _ (by omega)⟩, fun _ => by omega⟩
    · obtain ⟨b', off', e', hbg', hby⟩ := H5.out (by omega)
      refine ⟨b', off', e', hbg', fun j hj => ?_⟩
      obtain ⟨z, hz0, hz1, hz⟩ := hby j hj
      exact ⟨z, hz0, hz1, (HL.out _ _ (by omega)).trans hz⟩
theorem gb_cell {g b o : Nat} {a c : World} {v : Value} (h : a.grownBy c (some g)) (hne : b ≠ g) (hc : a.cell? ⟨b, o, none⟩ = some v) : c.cell? ⟨b, o, none⟩ = some v :=
  h.cell hc (fun e => hne (by injection e))
theorem gb_frozen {g b o : Nat} {a c : World} (h : a.grownBy c (some g)) (hne : b ≠ g) (hb : b < a.heap.size) (hc : a.frozen? ⟨b, o, none⟩ = false) : c.frozen? ⟨b, o, none⟩ = false :=
  (World.frozen?_of_block (w := a) (a := ⟨b, o, none⟩) (h.block b hb (fun e => hne (by injection e)))).trans hc
theorem l01Pick_any (B g b n : Nat) (c : Nat) (w : World) (hs : Src B w g) (hne : b ≠ g) (hx : ∀ i, i < n → ∃ x : Int, w.cell? ⟨b, i, none⟩ = some (.int .i64 x)) (hn : 0 < n) : Calls Try.prog 55 #[.pointer (some ⟨g, 0, none⟩), .slice (some ⟨b, 0, none⟩) n c] w fun e w' =>
    (∃ r : Int, e = .returned (.int .i64 r)) ∧ Src B w' g ∧ w.grownBy w' (some g) := by
  have HS := Lib.hid hs
  have HX := Lib.hid hx
  clear hs hx
  go_enter Try.func55, Try.ntmps55
  go_wp2_with (first | (go_at_call 54; (with_reducible refine (l01Next_any B g _ _ HS.out).mono ?_); rintro e w1 ⟨⟨r, rfl, hr, _⟩, hs1, hg1⟩; obtain ⟨hr0, hr1⟩ := hr (by omega); obtain ⟨j, rfl⟩ : ∃ j : Nat, r = j := ⟨r.toNat, by omega⟩; obtain ⟨x, hx⟩ := HX.out j (by omega); have hx1 := gb_cell hg1 hne hx; clear hx hr; have HS1 := Lib.hid hs1; have HG1 := Lib.hid hg1; clear hs1 hg1))
  go_returns
  exact ⟨⟨_, rfl⟩, HS1.out, HG1.out⟩
theorem rowA2 (w : World) (T : TypeId) (x0 x1 : Int) : ∀ i, i < 2 → ∃ x : Int, (w.alloc (.cells #[.int .i64 x0, .int .i64 x1] T)).cell? ⟨w.heap.size, i, none⟩ = some (.int .i64 x) := by
  intro i hi
  rw [World.cell?_alloc_new]
  obtain rfl | rfl : i = 0 ∨ i = 1 := by omega
  all_goals exact ⟨_, rfl⟩
theorem rowA3 (w : World) (T : TypeId) (x0 x1 x2 : Int) : ∀ i, i < 3 → ∃ x : Int, (w.alloc (.cells #[.int .i64 x0, .int .i64 x1, .int .i64 x2] T)).cell? ⟨w.heap.size, i, none⟩ = some (.int .i64 x) := by
  intro i hi
  rw [World.cell?_alloc_new]
  obtain rfl | rfl | rfl : i = 0 ∨ i = 1 ∨ i = 2 := by omega
  all_goals exact ⟨_, rfl⟩
theorem rowA4 (w : World) (T : TypeId) (x0 x1 x2 x3 : Int) : ∀ i, i < 4 → ∃ x : Int, (w.alloc (.cells #[.int .i64 x0, .int .i64 x1, .int .i64 x2, .int .i64 x3] T)).cell? ⟨w.heap.size, i, none⟩ = some (.int .i64 x) := by
  intro i hi
  rw [World.cell?_alloc_new]
  obtain rfl | rfl | rfl | rfl : i = 0 ∨ i = 1 ∨ i = 2 ∨ i = 3 := by omega
  all_goals exact ⟨_, rfl⟩
theorem rowA6 (w : World) (T : TypeId) (x0 x1 x2 x3 x4 x5 : Int) : ∀ i, i < 6 → ∃ x : Int, (w.alloc (.cells #[.int .i64 x0, .int .i64 x1, .int .i64 x2, .int .i64 x3, .int .i64 x4, .int .i64 x5] T)).cell? ⟨w.heap.size, i, none⟩ = some (.int .i64 x) := by
  intro i hi
  rw [World.cell?_alloc_new]
  obtain rfl | rfl | rfl | rfl | rfl | rfl : i = 0 ∨ i = 1 ∨ i = 2 ∨ i = 3 ∨ i = 4 ∨ i = 5 := by omega
  all_goals exact ⟨_, rfl⟩
theorem rowN2 {W : World} {N : Nat} {T : TypeId} {x0 x1 : Int} (h : N = W.heap.size) : ∀ i, i < 2 → ∃ x : Int, (W.alloc (.cells #[.int .i64 x0, .int .i64 x1] T)).cell? ⟨N, i, none⟩ = some (.int .i64 x) := by
  subst h
  exact rowA2 _ _ _ _ 
theorem rowN3 {W : World} {N : Nat} {T : TypeId} {x0 x1 x2 : Int} (h : N = W.heap.size) : ∀ i, i < 3 → ∃ x : Int, (W.alloc (.cells #[.int .i64 x0, .int .i64 x1, .int .i64 x2] T)).cell? ⟨N, i, none⟩ = some (.int .i64 x) := by
  subst h
  exact rowA3 _ _ _ _ _ 
theorem rowN4 {W : World} {N : Nat} {T : TypeId} {x0 x1 x2 x3 : Int} (h : N = W.heap.size) : ∀ i, i < 4 → ∃ x : Int, (W.alloc (.cells #[.int .i64 x0, .int .i64 x1, .int .i64 x2, .int .i64 x3] T)).cell? ⟨N, i, none⟩ = some (.int .i64 x) := by
  subst h
  exact rowA4 _ _ _ _ _ _ 
theorem rowN6 {W : World} {N : Nat} {T : TypeId} {x0 x1 x2 x3 x4 x5 : Int} (h : N = W.heap.size) : ∀ i, i < 6 → ∃ x : Int, (W.alloc (.cells #[.int .i64 x0, .int .i64 x1, .int .i64 x2, .int .i64 x3, .int .i64 x4, .int .i64 x5] T)).cell? ⟨N, i, none⟩ = some (.int .i64 x) := by
  subst h
  exact rowA6 _ _ _ _ _ _ _ _ 
theorem ints_drew {W : World} {b n : Nat} (h : ∀ i, i < n → ∃ x : Int, W.cell? ⟨b, i, none⟩ = some (.int .i64 x)) : ∀ i, i < n → ∃ x : Int, W.drew.cell? ⟨b, i, none⟩ = some (.int .i64 x) := h
theorem l01Near_any (B g : Nat) (m : Int) (w : World) (hs : Src B w g) : Calls Try.prog 72 #[.pointer (some ⟨g, 0, none⟩), .int .i64 m] w fun e w' =>
    (∃ r : Int, e = .returned (.int .i64 r)) ∧ Src B w' g ∧ w.grownBy w' (some g) := by
  have HS := Lib.hid hs
  clear hs
  go_enter Try.func72, Try.ntmps72
  go_wp2_with (first
    | (go_at_call 54; (with_reducible refine (l01Next_any B g _ _ HS.out).mono ?_); rintro e w1 ⟨⟨r, rfl, _, _⟩, hs1, hg1⟩; have HS1 := Lib.hid hs1; have HG1 := Lib.hid hg1; clear hs1 hg1)
    | (go_at_call 54; (with_reducible refine (l01Next_any B g _ _ HS1.out).mono ?_); rintro e w2 ⟨⟨r2, rfl, _, _⟩, hs2, hg2⟩; have HS2 := Lib.hid hs2; have HG2 := Lib.hid (gb_trans HG1.out hg2); clear hs2 hg2)
    | (go_at_call 55; (with_reducible refine (l01Pick_any B g _ 4 _ _ (HS1.out.alloc _) ?_ ?_ ?_).mono ?_); (focus (have := HS1.out.there; omega)); (focus exact rowA4 _ _ _ _ _ _); (focus omega); rintro e w2 ⟨⟨r2, rfl⟩, hs2, hg2⟩; have HS2 := Lib.hid hs2; have HG2 := Lib.hid (gb_trans (gb_alloc HG1.out _) hg2); clear hs2 hg2))
  all_goals (go_returns; exact ⟨⟨_, rfl⟩, HS2.out, HG2.out⟩)
/-- The number in a cell (0 where there is none). -/
def rdI (w : World) (a : Addr) : Int := match w.cell? a with | some (.int .i64 v) => v | _ => 0
theorem rdI_eq {w : World} {a : Addr} {v : Int} (h : w.cell? a = some (.int .i64 v)) : w.cell? a = some (.int .i64 (rdI w a)) := by
  unfold rdI
  rw [h]
/-- The first k cells of a block hold numbers; the first k cells of a block may be written. -/
abbrev Row (W : World) (N k : Nat) : Prop := ∀ j, j < k → W.cell? ⟨N, j, none⟩ = some (.int .i64 (rdI W ⟨N, j, none⟩))
abbrev Free (W : World) (N k : Nat) : Prop := ∀ j, j < k → W.frozen? ⟨N, j, none⟩ = false
theorem Row.to {W W1 : World} {N k : Nat} (h : Row W N k) (e : ∀ j, j < k → ∀ v, W.cell? ⟨N, j, none⟩ = some (.int .i64 v) → W1.cell? ⟨N, j, none⟩ = some (.int .i64 v)) : Row W1 N k := fun j hj => rdI_eq (e j hj _ (h j hj))
theorem Row.alloc {W : World} {N k : Nat} (h : Row W N k) (o : Obj) : Row (W.alloc o) N k := h.to fun _ _ _ e => keep_alloc e
theorem Row.drew {W : World} {N k : Nat} (h : Row W N k) : Row W.drew N k := h.to fun _ _ _ e => e
theorem Row.drewN {W : World} {N k : Nat} (h : Row W N k) (n : Nat) : Row (W.drewN n) N k := h.to fun _ _ _ e => e
theorem Row.gb {W W1 : World} {N k g : Nat} (hg : W.grownBy W1 (some g)) (hne : N ≠ g) (h : Row W N k) : Row W1 N k := h.to fun _ _ _ e => gb_cell hg hne e
theorem Row.set {W : World} {N k : Nat} (h : Row W N k) (p : Addr) (x : Int) : Row (W.setCell p (.int .i64 x)) N k := fun j hj => by
  by_cases e : p = ⟨N, j, none⟩
  · subst e
    exact rdI_eq (World.cell?_setCell_same (h := h j hj) ..)
  · exact rdI_eq ((World.cell?_setCell_other _ _ _ _ e).trans (h j hj))
theorem Row.three {W : World} {N : Nat} {x y z : Int} (h0 : W.cell? ⟨N, 0, none⟩ = some (.int .i64 x)) (h1 : W.cell? ⟨N, 1, none⟩ = some (.int .i64 y)) (h2 : W.cell? ⟨N, 2, none⟩ = some (.int .i64 z)) : Row W N 3 := fun j hj => by
  obtain rfl | rfl | rfl : j = 0 ∨ j = 1 ∨ j = 2 := by omega
  · exact rdI_eq h0
  · exact rdI_eq h1
  · exact rdI_eq h2
theorem Row.new3 {W : World} {N : Nat} {T : TypeId} {x y z : Int} (h : N = W.heap.size) : Row (W.alloc (.cells #[.int .i64 x, .int .i64 y, .int .i64 z] T)) N 3 := by
  subst h
  refine Row.three (x := x) (y := y) (z := z) ?_ ?_ ?_ <;> (rw [World.cell?_alloc_new]; rfl)
theorem Row.new9 {W : World} {N : Nat} {T : TypeId} {x0 x1 x2 x3 x4 x5 x6 x7 x8 : Int} (h : N = W.heap.size) : Row (W.alloc (.cells #[.int .i64 x0, .int .i64 x1, .int .i64 x2, .int .i64 x3, .int .i64 x4, .int .i64 x5, .int .i64 x6, .int .i64 x7, .int .i64 x8] T)) N 9 := fun j hj => by
  subst h
  obtain rfl | rfl | rfl | rfl | rfl | rfl | rfl | rfl | rfl : j = 0 ∨ j = 1 ∨ j = 2 ∨ j = 3 ∨ j = 4 ∨ j = 5 ∨ j = 6 ∨ j = 7 ∨ j = 8 := by omega
  all_goals exact rdI_eq (by rw [World.cell?_alloc_new]; rfl)
theorem Row.below {W W1 : World} {N k : Nat} (hb : Below W.heap.size W W1) (hlt : N < W.heap.size) (h : Row W N k) : Row W1 N k := h.to fun j _ _ e => (hb.cell (p := ⟨N, j, none⟩) hlt).trans e
theorem Free.below {W W1 : World} {N k : Nat} (hb : Below W.heap.size W W1) (hlt : N < W.heap.size) (h : Free W N k) : Free W1 N k := fun j hj => (hb.frozen (p := ⟨N, j, none⟩) hlt).trans (h j hj)
theorem Free.new {W : World} {N k : Nat} {cs : Array Value} {T : TypeId} (h : N = W.heap.size) : Free (W.alloc (.cells cs T)) N k := fun j _ => by
  subst h
  go_simp
theorem Free.gb {W W1 : World} {N k g : Nat} (hg : W.grownBy W1 (some g)) (hne : N ≠ g) (hb : N < W.heap.size) (h : Free W N k) : Free W1 N k := fun j hj => gb_frozen hg hne hb (h j hj)
theorem Free.drew {W : World} {N k : Nat} (h : Free W N k) : Free W.drew N k := h
theorem Free.drewN {W : World} {N k : Nat} (h : Free W N k) (n : Nat) : Free (W.drewN n) N k := h
theorem Free.set {W : World} {N k : Nat} {p : Addr} {v : Value} (h : Free W N k) : Free (W.setCell p v) N k := fun j hj => (World.frozen?_setCell _ _ _ _).trans (h j hj)
theorem Free.alloc {W : World} {N k : Nat} (h : Free W N k) (hb : N < W.heap.size) (o : Obj) : Free (W.alloc o) N k := fun j hj => (((Below.refl W.heap.size W).alloc (Nat.le_refl _) o).frozen (p := ⟨N, j, none⟩) hb).trans (h j hj)
/-- What a walk over a source keeps. -/
structure Inv (B g : Nat) (w W : World) : Prop where
  src : Src B W g
  gb : w.grownBy W (some g)
theorem Inv.alloc {B g : Nat} {w W : World} (h : Inv B g w W) (o : Obj) : Inv B g w (W.alloc o) := ⟨h.src.alloc o, gb_alloc h.gb o⟩
theorem Inv.drew {B g : Nat} {w W : World} (h : Inv B g w W) : Inv B g w W.drew := ⟨h.src.drew, gb_drew h.gb⟩
theorem Inv.drewN {B g : Nat} {w W : World} (h : Inv B g w W) (n : Nat) : Inv B g w (W.drewN n) := ⟨h.src.drewN n, gb_drewN h.gb n⟩
theorem Inv.call {B g : Nat} {w W W1 : World} (hg : W.grownBy W1 (some g)) (hs : Src B W1 g) (h : Inv B g w W) : Inv B g w W1 := ⟨hs, gb_trans h.gb hg⟩
theorem Inv.set {B g : Nat} {w W : World} {p : Addr} {v : Value} (h : Inv B g w W) (h1 : w.heap.size ≤ p.block) (h2 : g < w.heap.size) : Inv B g w (W.setCell p v) :=
  ⟨h.src.set (by have := h.src.over; omega) (by omega), gb_own h.gb h1⟩
theorem Inv.set2 {B g : Nat} {w W : World} {p : Addr} {v : Value} (h : Inv B g w W) (h1 : w.heap.size ≤ p.block) (h2 : p.block ≠ g) (hB : B ≤ w.heap.size) : Inv B g w (W.setCell p v) := ⟨h.src.set (by omega) h2, gb_own h.gb h1⟩
theorem Inv.below {B g : Nat} {w W W1 : World} (h : Inv B g w W) (hb : Below W.heap.size W W1) : Inv B g w W1 := ⟨h.src.keep hb, gb_below h.gb hb⟩
theorem gb_size {g : Nat} {W W1 : World} {n : Nat} (hg : W.grownBy W1 (some g)) (h : n ≤ W.heap.size) : n ≤ W1.heap.size := Nat.le_trans h hg.size
theorem ne_of_room {g n : Nat} {w W : World} {o : Obj} (h : g < w.heap.size) (h2 : w.heap.size + n ≤ (W.alloc o).heap.size) (h3 : 1 ≤ n) : W.heap.size ≠ g := by
  rw [World.size_alloc] at h2
  omega
theorem ne_of_room' {g n : Nat} {w W : World} {o : Obj} (h : g < w.heap.size) (h2 : w.heap.size + n ≤ (W.drew.alloc o).heap.size) (h3 : 1 ≤ n) : W.heap.size ≠ g := by
  rw [World.size_alloc, World.size_drew] at h2
  omega
theorem ints_gb {W W1 : World} {b g n : Nat} (hg : W.grownBy W1 (some g)) (hne : b ≠ g) (h : ∀ i, i < n → ∃ x : Int, W.cell? ⟨b, i, none⟩ = some (.int .i64 x)) : ∀ i, i < n → ∃ x : Int, W1.cell? ⟨b, i, none⟩ = some (.int .i64 x) := fun i hi => by
  obtain ⟨x, hx⟩ := h i hi
  exact ⟨x, gb_cell hg hne hx⟩
theorem Inv.new {B g : Nat} {w W W1 : World} (hs : Src B W1 g) (hb : Below W.heap.size W W1) (h : w.grownBy W (some g)) : Inv B g w W1 := ⟨hs, gb_below h hb⟩
theorem Inv.ne {B g : Nat} {w W : World} (h : Inv B g w W) : W.heap.size ≠ g := Nat.ne_of_gt h.src.there
theorem Inv.done {B g : Nat} {w W : World} (h : Inv B g w W) (hg : w.heap.size ≤ g) : Below w.heap.size w W := ⟨h.gb.os, h.gb.tape, h.gb.output, h.gb.size, fun i hi => h.gb.block i hi (fun e => by injection e; omega)⟩
theorem below_size {W W1 : World} {n : Nat} (hb : Below W.heap.size W W1) (h : n ≤ W.heap.size) : n ≤ W1.heap.size := Nat.le_trans h hb.size
theorem Inv.start {B g : Nat} {w : World} (h : Src B w g) : Inv B g w w := ⟨h, gb_refl _ _⟩
set_option maxRecDepth 100000 in
theorem l07DrawOf_any (B g : Nat) (m : Int) (w : World) (hs : Src B w g) : Calls Try.prog 56 #[.pointer (some ⟨g, 0, none⟩), .int .i64 m] w fun e w' =>
    (∃ x y z : Int, e = .returned (.agg #[.int .i64 x, .int .i64 y, .int .i64 z])) ∧ Src B w' g ∧ w.grownBy w' (some g) := by
  have HS := Lib.hid hs
  clear hs
  have hq := eqlTriple_run
  go_enter Try.func56, Try.ntmps56
  go_wp2
  go_loopw [6] (fun o wr => ∃ (i : Nat) (x y z : Int), o = .int .i64 i ∧ i ≤ 3 ∧ (wr.cell? ⟨w.heap.size + 1, 0, none⟩ = some (.int .i64 x) ∧ wr.cell? ⟨w.heap.size + 1, 1, none⟩ = some (.int .i64 y) ∧ wr.cell? ⟨w.heap.size + 1, 2, none⟩ = some (.int .i64 z)) ∧ (wr.cell? ⟨w.heap.size, 0, none⟩ = some (.int .i64 0) ∧ wr.cell? ⟨w.heap.size, 1, none⟩ = some (.int .i64 0) ∧ wr.cell? ⟨w.heap.size, 2, none⟩ = some (.int .i64 0)) ∧ (∀ b j, w.heap.size ≤ b → b < w.heap.size + 2 → wr.frozen? ⟨b, j, none⟩ = false) ∧ w.heap.size + 2 ≤ wr.heap.size ∧ Src B wr g ∧ w.grownBy wr (some g)) (fun o _ => match o with | .int _ n => (3 - n).toNat | _ => 0)
  case atStart =>
    refine ⟨0, 0, 0, 0, rfl, by omega, by (focus (((repeat' apply And.intro) <;> (repeat' (first | (with_reducible assumption) | (with_reducible refine keep_drew ?_) | (with_reducible refine keep_setx (by omega) ?_) | (with_reducible refine keep_hc (by with_reducible assumption) (by omega) ?_) | (focus (go_simp; done)) | (with_reducible refine keep_alloc ?_)))); done)), by (focus (((repeat' apply And.intro) <;> (repeat' (first | (with_reducible assumption) | (with_reducible refine keep_drew ?_) | (with_reducible refine keep_setx (by omega) ?_) | (with_reducible refine keep_hc (by with_reducible assumption) (by omega) ?_) | (focus (go_simp; done)) | (with_reducible refine keep_alloc ?_)))); done)), ?_, by go_size, ?_, ?_⟩
    · intro b j h1 h2; obtain rfl | rfl : b = w.heap.size ∨ b = w.heap.size + 1 := by omega
      · go_simp
      · go_simp
    · exact (HS.out.alloc _).alloc _
    · exact gb_alloc (gb_alloc (gb_refl _ _) _) _
  case round =>
    obtain ⟨i, x, y, z, rfl, hi, ⟨c0, c1, c2⟩, ⟨d0, d1, d2⟩, hfz, hsz, hsr, hgr⟩ := hrel
    have hgw := HS.out.there
    have hn0 : w.heap.size ≠ g := by omega
    have hn1 : w.heap.size + 1 ≠ g := by omega
    have HW := Lib.hid hsr
    have HG := Lib.hid hgr
    have f0 := hfz (w.heap.size + 1) 0 (by omega) (by omega)
    have f1 := hfz (w.heap.size + 1) 1 (by omega) (by omega)
    have f2 := hfz (w.heap.size + 1) 2 (by omega) (by omega)
    have HF := Lib.hid hfz
    clear hsr hgr hfz
    by_cases h3 : i < 3
    · obtain rfl | rfl | rfl : i = 0 ∨ i = 1 ∨ i = 2 := by omega
      · go_wp2_with (first | (go_at_call 54; (with_reducible refine (l01Next_any B g _ _ HW.out).mono ?_); rintro e w1 ⟨⟨r, rfl, _, _⟩, hs1, hg1⟩; have HS1 := Lib.hid hs1; have HG1 := Lib.hid hg1; clear hs1 hg1; have c0' := gb_cell HG1.out hn1 c0; have c1' := gb_cell HG1.out hn1 c1; have c2' := gb_cell HG1.out hn1 c2; have g0 := gb_frozen HG1.out hn1 (by omega) f0; have g1 := gb_frozen HG1.out hn1 (by omega) f1; have g2 := gb_frozen HG1.out hn1 (by omega) f2))
        have e0 := gb_cell HG1.out hn0 d0
        have e1 := gb_cell HG1.out hn0 d1
        have e2 := gb_cell HG1.out hn0 d2
        refine ⟨⟨1, r, y, z, rfl, by omega, ⟨by go_simp, by go_simp, by go_simp⟩, ⟨by go_simp, by go_simp, by go_simp⟩, fun b j h1 h2 => (World.frozen?_setCell _ _ _ _).trans (gb_frozen HG1.out (by omega) (by omega) (HF.out b j h1 h2)), by have := HG1.out.size; simp [World.setCell]; omega, HS1.out.set (by have := HS1.out.over; show B ≤ w.heap.size + 1; omega) (by show w.heap.size + 1 ≠ g; omega), gb_own (gb_trans HG.out HG1.out) (by show w.heap.size ≤ w.heap.size + 1; omega)⟩, by simp⟩
      · go_wp2_with (first | (go_at_call 54; (with_reducible refine (l01Next_any B g _ _ HW.out).mono ?_); rintro e w1 ⟨⟨r, rfl, _, _⟩, hs1, hg1⟩; have HS1 := Lib.hid hs1; have HG1 := Lib.hid hg1; clear hs1 hg1; have c0' := gb_cell HG1.out hn1 c0; have c1' := gb_cell HG1.out hn1 c1; have c2' := gb_cell HG1.out hn1 c2; have g0 := gb_frozen HG1.out hn1 (by omega) f0; have g1 := gb_frozen HG1.out hn1 (by omega) f1; have g2 := gb_frozen HG1.out hn1 (by omega) f2))
        have e0 := gb_cell HG1.out hn0 d0
        have e1 := gb_cell HG1.out hn0 d1
        have e2 := gb_cell HG1.out hn0 d2
        refine ⟨⟨2, x, r, z, rfl, by omega, ⟨by go_simp, by go_simp, by go_simp⟩, ⟨by go_simp, by go_simp, by go_simp⟩, fun b j h1 h2 => (World.frozen?_setCell _ _ _ _).trans (gb_frozen HG1.out (by omega) (by omega) (HF.out b j h1 h2)), by have := HG1.out.size; simp [World.setCell]; omega, HS1.out.set (by have := HS1.out.over; show B ≤ w.heap.size + 1; omega) (by show w.heap.size + 1 ≠ g; omega), gb_own (gb_trans HG.out HG1.out) (by show w.heap.size ≤ w.heap.size + 1; omega)⟩, by simp⟩
      · go_wp2_with (first | (go_at_call 54; (with_reducible refine (l01Next_any B g _ _ HW.out).mono ?_); rintro e w1 ⟨⟨r, rfl, _, _⟩, hs1, hg1⟩; have HS1 := Lib.hid hs1; have HG1 := Lib.hid hg1; clear hs1 hg1; have c0' := gb_cell HG1.out hn1 c0; have c1' := gb_cell HG1.out hn1 c1; have c2' := gb_cell HG1.out hn1 c2; have g0 := gb_frozen HG1.out hn1 (by omega) f0; have g1 := gb_frozen HG1.out hn1 (by omega) f1; have g2 := gb_frozen HG1.out hn1 (by omega) f2))
        have e0 := gb_cell HG1.out hn0 d0
        have e1 := gb_cell HG1.out hn0 d1
        have e2 := gb_cell HG1.out hn0 d2
        refine ⟨⟨3, x, y, r, rfl, by omega, ⟨by go_simp, by go_simp, by go_simp⟩, ⟨by go_simp, by go_simp, by go_simp⟩, fun b j h1 h2 => (World.frozen?_setCell _ _ _ _).trans (gb_frozen HG1.out (by omega) (by omega) (HF.out b j h1 h2)), by have := HG1.out.size; simp [World.setCell]; omega, HS1.out.set (by have := HS1.out.over; show B ≤ w.heap.size + 1; omega) (by show w.heap.size + 1 ≠ g; omega), gb_own (gb_trans HG.out HG1.out) (by show w.heap.size ≤ w.heap.size + 1; omega)⟩, by simp⟩
    · obtain rfl : i = 3 := by omega
      go_upto_region 7 with (first | (go_at_call 54; (with_reducible refine (l01Next_any B g _ _ HW.out).mono ?_); rintro e w1 ⟨⟨r, rfl, _, _⟩, hs1, hg1⟩; have HS1 := Lib.hid hs1; have HG1 := Lib.hid hg1; clear hs1 hg1; have c0' := gb_cell HG1.out hn1 c0; have c1' := gb_cell HG1.out hn1 c1; have c2' := gb_cell HG1.out hn1 c2; have g0 := gb_frozen HG1.out hn1 (by omega) f0; have g1 := gb_frozen HG1.out hn1 (by omega) f1; have g2 := gb_frozen HG1.out hn1 (by omega) f2; have e0 := gb_cell HG1.out hn0 d0; have e1 := gb_cell HG1.out hn0 d1; have e2 := gb_cell HG1.out hn0 d2; have k0 := gb_frozen HG1.out hn0 (by omega) (HF.out w.heap.size 0 (by omega) (by omega)); have k1 := gb_frozen HG1.out hn0 (by omega) (HF.out w.heap.size 1 (by omega) (by omega)); have k2 := gb_frozen HG1.out hn0 (by omega) (HF.out w.heap.size 2 (by omega) (by omega))))
      · rename_i hq0
        rw [hq0]
        go_cut [6] from 21 to 28 (fun _ W => Row W (w.heap.size + 1) 3 ∧ Free W (w.heap.size + 1) 3 ∧ (W.cell? ⟨w.heap.size, 0, none⟩ = some (.int .i64 0) ∧ W.cell? ⟨w.heap.size, 1, none⟩ = some (.int .i64 0) ∧ W.cell? ⟨w.heap.size, 2, none⟩ = some (.int .i64 0)) ∧ Free W w.heap.size 3 ∧ w.heap.size + 2 ≤ W.heap.size ∧ Inv B g w W)
        case first =>
          have hI : Inv B g w w1 := ⟨HS1.out, gb_trans HG.out HG1.out⟩
          have hR : Row w1 (w.heap.size + 1) 3 := Row.three c0' c1' c2'
          have hF : Free w1 (w.heap.size + 1) 3 := fun j _ => gb_frozen HG1.out hn1 (by omega) (HF.out _ j (by omega) (by omega))
          have hF0 : Free w1 w.heap.size 3 := fun j _ => gb_frozen HG1.out hn0 (by omega) (HF.out _ j (by omega) (by omega))
          have hZ : w.heap.size + 2 ≤ w1.heap.size := gb_size HG1.out hsz
          clear c0 c1 c2 c0' c1' c2' g0 g1 g2 k0 k1 k2 f0 f1 f2 d0 d1 d2
          go_region_with (first
            | (go_at_call 54; go_must ((with_reducible refine (l01Next_any B g _ _ ?_).mono ?_)); go_must ((focus (refine Inv.src (w := w) ?_; (focus ((try go_split_ands); (repeat' apply And.intro) <;> (repeat' (first | (with_reducible assumption) | (with_reducible refine Row.new3 ?_; (focus (first | omega | (simp; done) | (simp; omega)))) | (with_reducible refine Row.new9 ?_; (focus (first | omega | (simp; done) | (simp; omega)))) | (with_reducible refine Free.new ?_; (focus (first | omega | (simp; done) | (simp; omega)))) | (with_reducible refine Row.drewN ?_ _) | (with_reducible refine Row.drew ?_) | (with_reducible refine Row.alloc ?_ _) | (with_reducible refine Row.set ?_ _ _) | (with_reducible refine Inv.drewN ?_ _) | (with_reducible refine Inv.drew ?_) | (with_reducible refine Inv.alloc ?_ _) | (with_reducible refine Inv.set (h2 := hgw) ?_ ?_) | (with_reducible refine Inv.set2 (hB := hB) ?_ ?_ ?_) | (with_reducible refine Free.drewN ?_ _) | (with_reducible refine Free.drew ?_) | (with_reducible refine Free.alloc ?_ ?_ _) | (with_reducible refine Free.set ?_) | (with_reducible refine keep_drewN ?_) | (with_reducible refine keep_drew ?_) | (with_reducible refine keep_setx (by omega) ?_) | (with_reducible refine keep_alloc ?_) | omega | go_size | (first | omega | (simp; done) | (simp; omega))))); done)))); go_must ((skip)); go_must ((rintro e wn ⟨⟨r, rfl, hr, _⟩, hsc, hgc⟩; obtain ⟨hr0, hr1⟩ := hr (by omega); clear hr; obtain ⟨jn, rfl⟩ : ∃ j : Nat, r = j := ⟨r.toNat, by omega⟩; have hjn : jn < 3 := by omega; skip)); go_must ((refine gcut (p := Row wn (w.heap.size + 1) 3 ∧ Free wn (w.heap.size + 1) 3 ∧ (wn.cell? ⟨w.heap.size, 0, none⟩ = some (.int .i64 0) ∧ wn.cell? ⟨w.heap.size, 1, none⟩ = some (.int .i64 0) ∧ wn.cell? ⟨w.heap.size, 2, none⟩ = some (.int .i64 0)) ∧ Free wn w.heap.size 3 ∧ w.heap.size + 2 ≤ wn.heap.size ∧ Inv B g w wn) ?_ ?_; (focus (focus ((try go_split_ands); (repeat' apply And.intro) <;> (repeat' (first | (with_reducible assumption) | (with_reducible refine Row.new3 ?_; (focus (first | omega | (simp; done) | (simp; omega)))) | (with_reducible refine Row.new9 ?_; (focus (first | omega | (simp; done) | (simp; omega)))) | (with_reducible refine Free.new ?_; (focus (first | omega | (simp; done) | (simp; omega)))) | (with_reducible refine Row.drewN ?_ _) | (with_reducible refine Row.drew ?_) | (with_reducible refine Row.alloc ?_ _) | (with_reducible refine Row.set ?_ _ _) | (with_reducible refine Row.gb hgc ?_ ?_) | (with_reducible refine Inv.drewN ?_ _) | (with_reducible refine Inv.drew ?_) | (with_reducible refine Inv.alloc ?_ _) | (with_reducible refine Inv.set (h2 := hgw) ?_ ?_) | (with_reducible refine Inv.set2 (hB := hB) ?_ ?_ ?_) | (with_reducible exact Src.there hsc) | (with_reducible refine Inv.call hgc hsc ?_) | (with_reducible refine Free.drewN ?_ _) | (with_reducible refine Free.drew ?_) | (with_reducible refine Free.alloc ?_ ?_ _) | (with_reducible refine Free.set ?_) | (with_reducible refine Free.gb hgc ?_ ?_ ?_) | (with_reducible refine gb_cell hgc ?_ ?_) | (with_reducible refine keep_drewN ?_) | (with_reducible refine keep_drew ?_) | (with_reducible refine keep_setx (by omega) ?_) | (with_reducible refine keep_alloc ?_) | (with_reducible refine gb_size hgc ?_) | omega | go_size | (first | omega | (simp; done) | (simp; omega))))); done)))); intro hSc; go_split_ands)
            | (go_at_call 55; go_must ((with_reducible refine (l01Pick_any B g _ 2 _ _ ?_ ?_ ?_ ?_).mono ?_)); go_must ((focus (refine Inv.src (w := w) ?_; (focus ((try go_split_ands); (repeat' apply And.intro) <;> (repeat' (first | (with_reducible assumption) | (with_reducible refine Row.new3 ?_; (focus (first | omega | (simp; done) | (simp; omega)))) | (with_reducible refine Row.new9 ?_; (focus (first | omega | (simp; done) | (simp; omega)))) | (with_reducible refine Free.new ?_; (focus (first | omega | (simp; done) | (simp; omega)))) | (with_reducible refine Row.drewN ?_ _) | (with_reducible refine Row.drew ?_) | (with_reducible refine Row.alloc ?_ _) | (with_reducible refine Row.set ?_ _ _) | (with_reducible refine Inv.drewN ?_ _) | (with_reducible refine Inv.drew ?_) | (with_reducible refine Inv.alloc ?_ _) | (with_reducible refine Inv.set (h2 := hgw) ?_ ?_) | (with_reducible refine Inv.set2 (hB := hB) ?_ ?_ ?_) | (with_reducible refine Free.drewN ?_ _) | (with_reducible refine Free.drew ?_) | (with_reducible refine Free.alloc ?_ ?_ _) | (with_reducible refine Free.set ?_) | (with_reducible refine keep_drewN ?_) | (with_reducible refine keep_drew ?_) | (with_reducible refine keep_setx (by omega) ?_) | (with_reducible refine keep_alloc ?_) | omega | go_size | (first | omega | (simp; done) | (simp; omega))))); done)))); go_must (((focus ((first | omega | (apply ne_of_room hgw; (focus with_reducible assumption); omega)))); (focus ((first | exact rowA2 _ _ _ _ | (refine ints_gb hgc ?_ ?_; (focus (first | omega | (apply ne_of_room hgw; (focus with_reducible assumption); omega))); (focus exact rowA2 _ _ _ _))))); (focus (omega)); skip)); go_must ((rintro e wp ⟨⟨rp, rfl⟩, hsc, hgc⟩; skip)); go_must ((refine gcut (p := Row wp (w.heap.size + 1) 3 ∧ Free wp (w.heap.size + 1) 3 ∧ (wp.cell? ⟨w.heap.size, 0, none⟩ = some (.int .i64 0) ∧ wp.cell? ⟨w.heap.size, 1, none⟩ = some (.int .i64 0) ∧ wp.cell? ⟨w.heap.size, 2, none⟩ = some (.int .i64 0)) ∧ Free wp w.heap.size 3 ∧ w.heap.size + 2 ≤ wp.heap.size ∧ Inv B g w wp) ?_ ?_; (focus (focus ((try go_split_ands); (repeat' apply And.intro) <;> (repeat' (first | (with_reducible assumption) | (with_reducible refine Row.new3 ?_; (focus (first | omega | (simp; done) | (simp; omega)))) | (with_reducible refine Row.new9 ?_; (focus (first | omega | (simp; done) | (simp; omega)))) | (with_reducible refine Free.new ?_; (focus (first | omega | (simp; done) | (simp; omega)))) | (with_reducible refine Row.drewN ?_ _) | (with_reducible refine Row.drew ?_) | (with_reducible refine Row.alloc ?_ _) | (with_reducible refine Row.set ?_ _ _) | (with_reducible refine Row.gb hgc ?_ ?_) | (with_reducible refine Inv.drewN ?_ _) | (with_reducible refine Inv.drew ?_) | (with_reducible refine Inv.alloc ?_ _) | (with_reducible refine Inv.set (h2 := hgw) ?_ ?_) | (with_reducible refine Inv.set2 (hB := hB) ?_ ?_ ?_) | (with_reducible exact Src.there hsc) | (with_reducible refine Inv.call hgc hsc ?_) | (with_reducible refine Free.drewN ?_ _) | (with_reducible refine Free.drew ?_) | (with_reducible refine Free.alloc ?_ ?_ _) | (with_reducible refine Free.set ?_) | (with_reducible refine Free.gb hgc ?_ ?_ ?_) | (with_reducible refine gb_cell hgc ?_ ?_) | (with_reducible refine keep_drewN ?_) | (with_reducible refine keep_drew ?_) | (with_reducible refine keep_setx (by omega) ?_) | (with_reducible refine keep_alloc ?_) | (with_reducible refine gb_size hgc ?_) | omega | go_size | (first | omega | (simp; done) | (simp; omega))))); done)))); intro hSc; go_split_ands))
          all_goals (go_wp2_with fail; go_meet)
          all_goals (focus ((try go_split_ands); (repeat' apply And.intro) <;> (repeat' (first | (with_reducible assumption) | (with_reducible refine Row.new3 ?_; (focus (first | omega | (simp; done) | (simp; omega)))) | (with_reducible refine Row.new9 ?_; (focus (first | omega | (simp; done) | (simp; omega)))) | (with_reducible refine Free.new ?_; (focus (first | omega | (simp; done) | (simp; omega)))) | (with_reducible refine Row.drewN ?_ _) | (with_reducible refine Row.drew ?_) | (with_reducible refine Row.alloc ?_ _) | (with_reducible refine Row.set ?_ _ _) | (with_reducible refine Inv.drewN ?_ _) | (with_reducible refine Inv.drew ?_) | (with_reducible refine Inv.alloc ?_ _) | (with_reducible refine Inv.set (h2 := hgw) ?_ ?_) | (with_reducible refine Inv.set2 (hB := hB) ?_ ?_ ?_) | (with_reducible refine Free.drewN ?_ _) | (with_reducible refine Free.drew ?_) | (with_reducible refine Free.alloc ?_ ?_ _) | (with_reducible refine Free.set ?_) | (with_reducible refine keep_drewN ?_) | (with_reducible refine keep_drew ?_) | (with_reducible refine keep_setx (by omega) ?_) | (with_reducible refine keep_alloc ?_) | omega | go_size | (first | omega | (simp; done) | (simp; omega))))); done)
        case rest =>
          clear e0 e1 e2 k0 k1 k2
          obtain ⟨hR, hF, ⟨e0, e1, e2⟩, hF0, hsz, hI⟩ := hcut
          obtain ⟨x', c0⟩ : ∃ x : Int, wc.cell? ⟨w.heap.size + 1, 0, none⟩ = some (.int .i64 x) := ⟨_, hR 0 (by omega)⟩
          obtain ⟨y', c1⟩ : ∃ x : Int, wc.cell? ⟨w.heap.size + 1, 1, none⟩ = some (.int .i64 x) := ⟨_, hR 1 (by omega)⟩
          obtain ⟨z', c2⟩ : ∃ x : Int, wc.cell? ⟨w.heap.size + 1, 2, none⟩ = some (.int .i64 x) := ⟨_, hR 2 (by omega)⟩
          have g0 := hF 0 (by omega)
          have g1 := hF 1 (by omega)
          have g2 := hF 2 (by omega)
          have k0 := hF0 0 (by omega)
          have k1 := hF0 1 (by omega)
          have k2 := hF0 2 (by omega)
          have HR1 := Lib.hid hI.src
          have HR2 := Lib.hid hI.gb
          clear hR hF hF0 hI
          go_wp2
          · refine bodyPost_ret (v := .agg #[.int .i64 x', .int .i64 y', .int .i64 1]) (by simp [results, Try.results56, go_sem, *]) rfl ?_
            refine ⟨⟨_, _, _, rfl⟩, ?_, ?_⟩
            · repeat' (first | exact HR1.out | (refine Src.set ?_ (by have := HR1.out.over; show B ≤ _; simp only []; omega) (by simp only []; omega)))
            · repeat' (first | exact HR2.out | (refine gb_own ?_ (by simp only []; omega)))
          · refine bodyPost_ret (v := .agg #[.int .i64 x', .int .i64 y', .int .i64 z']) (by simp [results, Try.results56, go_sem, *]) rfl ?_
            refine ⟨⟨_, _, _, rfl⟩, ?_, ?_⟩
            · repeat' (first | exact HR1.out | (refine Src.set ?_ (by have := HR1.out.over; show B ≤ _; simp only []; omega) (by simp only []; omega)))
            · repeat' (first | exact HR2.out | (refine gb_own ?_ (by simp only []; omega)))
      · refine bodyPost_ret (v := .agg #[.int .i64 x, .int .i64 y, .int .i64 1]) (by simp [results, Try.results56, go_sem, *]) rfl ?_
        refine ⟨⟨_, _, _, rfl⟩, ?_, ?_⟩
        · repeat' (first | exact HS1.out | (refine Src.set ?_ (by have := HS1.out.over; show B ≤ _; simp only []; omega) (by simp only []; omega)))
        · repeat' (first | exact gb_trans HG.out HG1.out | (refine gb_own ?_ (by simp only []; omega)))
      · refine bodyPost_ret (v := .agg #[.int .i64 x, .int .i64 y, .int .i64 z]) (by simp [results, Try.results56, go_sem, *]) rfl ?_
        refine ⟨⟨_, _, _, rfl⟩, ?_, ?_⟩
        · repeat' (first | exact HS1.out | (refine Src.set ?_ (by have := HS1.out.over; show B ≤ _; simp only []; omega) (by simp only []; omega)))
        · repeat' (first | exact gb_trans HG.out HG1.out | (refine gb_own ?_ (by simp only []; omega)))
