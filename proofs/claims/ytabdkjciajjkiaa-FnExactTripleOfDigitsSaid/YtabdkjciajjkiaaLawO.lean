/-
  The walk of the law of triples out of digits: the call returns true, and nothing that lay before has turned. Condition: none but the kinds' bounds.
-/
import Derived.Test.YtabdkjciajjkiaaCtf
import Derived.Deep.Matrix
namespace Go.Proofs.Ytabdkjciajjkiaa
open Go.RowKit Go.ChangeShapes Go.Deep
set_option maxHeartbeats 2000000
section
variable {H : Type} {enc : TypeId × Value → H} {P : Program} {w : World}
theorem open_irows {t e q : TypeId} {A : Option Addr} {n c : Nat} {d : DataW H} {p : List MemPlace} (ht : P.underlying t = some (.slice e)) (he : P.underlying e = some (.slice q)) (hq : P.underlying q = some (.int .i64)) (ce : P.cellsOf e = 1) (cq : P.cellsOf q = 1)
    (h : DataW.Trod enc P w 0 (fun _ => true) true t (.slice A n c) d p) : ∃ rs : List Rw, RSl w A n rs ∧ lenB rs 9223372036854775807 ∧ n ≤ 9223372036854775807 := by
  obtain ⟨fuel, hf⟩ := h
  rcases open_int_rows ht he hq ce cq hf with ⟨hcs, _⟩ | ⟨a, len, cap, A', L, C, Z, hcs, _, hl, hm, _, hr⟩
  · simp [Value.cells] at hcs
    obtain ⟨rfl, rfl, rfl⟩ := hcs
    exact ⟨[], ⟨rfl, fun h => absurd h (by omega), fun r hr => (by cases hr)⟩, fun r hr => (by cases hr), by omega⟩
  · simp [Value.cells] at hcs
    obtain ⟨rfl, rfl, rfl⟩ := hcs
    unfold maxLen at hm
    have hat : ∀ i, i < n → ((List.range n).map fun r => (⟨A' r, C r, (Z r).take (L r)⟩ : Rw))[i]?.getD Rw.nil = ⟨A' i, C i, (Z i).take (L i)⟩ := fun i hi => by simp [hi]
    have hlen : ∀ i, i < n → ((Z i).take (L i)).length = L i := fun i hi => by
      obtain ⟨_, h1, _, h3, _⟩ := hr i (by omega)
      rw [List.length_take, h3]; omega
    have hmem : ∀ r ∈ (List.range n).map fun r => (⟨A' r, C r, (Z r).take (L r)⟩ : Rw), ∃ i, i < n ∧ r = ⟨A' i, C i, (Z i).take (L i)⟩ := fun r hr => by
      obtain ⟨i, hi, rfl⟩ := List.mem_map.1 hr
      exact ⟨i, List.mem_range.1 hi, rfl⟩
    refine ⟨(List.range n).map fun r => ⟨A' r, C r, (Z r).take (L r)⟩, ⟨by simp, fun hn => ?_, fun r hr' => ?_⟩, fun r hr' => ?_, by omega⟩
    · have h0 := (hr 0 (by omega)).1
      have hs : a.spot = none := by simpa [Addr.add] using World.cell?_spot h0
      have hx := spot_of hs
      refine ⟨a.block, a.off, by rw [← hx], ?_, fun i hi => ?_⟩
      · have := World.block_lt_of_cell? w _ h0
        simpa [Addr.add] using this
      · have hi' : i < n := by simpa using hi
        have := (hr i (by omega)).1
        rw [hx, add_at] at this
        rw [this, hat i hi', Rw.v, hlen i hi']
    · obtain ⟨i, hi, rfl⟩ := hmem r hr'
      obtain ⟨_, h1, h2, h3, _, h5, h6⟩ := hr i (by omega)
      refine ⟨rfl, fun hpos => ?_⟩
      dsimp only at hpos ⊢
      rw [hlen i hi] at hpos
      cases hA : A' i with
      | none => have := h5 hA; omega
      | some a' =>
        obtain ⟨_, hc⟩ := h6 a' hA
        have h0 := hc 0 (by omega)
        have hs : a'.spot = none := by simpa [Addr.add] using World.cell?_spot h0
        have hx := spot_of hs
        refine ⟨a'.block, a'.off, by rw [← hx], ?_, fun j hj => ?_⟩
        · have := World.block_lt_of_cell? w _ h0
          simpa [Addr.add] using this
        · rw [hlen i hi] at hj
          have := hc j (by omega)
          rw [hx, add_at] at this
          rw [this]
          simp [List.getD, hj]
    · obtain ⟨i, hi, rfl⟩ := hmem r hr'
      obtain ⟨_, h1, h2, _⟩ := hr i (by omega)
      dsimp only
      rw [hlen i hi]
      unfold maxLen at h2
      omega
end
theorem RSl.drew {W : World} {A : Option Addr} {n : Nat} {rs : List Rw} (h : RSl W A n rs) : RSl W.drew A n rs := h
theorem RSl.alloc {W : World} {A : Option Addr} {n : Nat} {rs : List Rw} {o : Obj} (h : RSl W A n rs) : RSl (W.alloc o) A n rs := h.keep (Below.alloc (Below.refl _ _) (Nat.le_refl _) _)
theorem set_here0 {w : World} {b o : Nat} {x : Value} (h : w.cell? ⟨b, o, none⟩ = some (.int .i64 0)) : (w.setCell ⟨b, o, none⟩ x).cell? ⟨b, o, none⟩ = some x := World.cell?_setCell_same (h := h) ..
theorem C3.newB (W : World) (T : TypeId) (x y z : Int) : C3 (W.alloc (.cells #[.int .i64 x, .int .i64 y, .int .i64 z] T)) W.heap.size x y z := by
  refine ⟨?_, ?_, ?_⟩ <;> simp
theorem FnExactTripleOfDigits_walk (x0 : Option Addr) (len0 cap0 : Nat) (rs : List Rw) (p q r : Int) (w : World) (w0 : RSl w x0 len0 rs ∧ lenB rs 9223372036854775807 ∧ len0 ≤ 9223372036854775807) (_g1_0 : -9223372036854775808 ≤ p ∧ p ≤ 9223372036854775807) (_g1_1 : -9223372036854775808 ≤ q ∧ q ≤ 9223372036854775807) (_g1_2 : -9223372036854775808 ≤ r ∧ r ≤ 9223372036854775807) :
    Calls Try.prog 6 #[.slice x0 len0 cap0, .agg #[.int .i64 p, .int .i64 q, .int .i64 r]] w fun e w' => e = .returned (.bool true) ∧ Below w.heap.size w w' := by
  clear _g1_0 _g1_1 _g1_2
  obtain ⟨hR, hL, hn⟩ := w0
  have HR := Lib.hid hR
  have HL := Lib.hid hL
  clear hR hL
  have hsz := fun (W : World) (hW : Below w.heap.size w W) => szInt64SS_any x0 len0 cap0 rs W (HR.out.keep hW) hn HL.out
  have HZ := Lib.hid hsz
  clear hsz
  go_enter Try.func6, Try.ntmps6
  go_wp2_with fail
  refine (HZ.out _ (by (repeat' (first | (with_reducible exact Below.refl _ _) | (with_reducible refine Below.alloc ?_ ?_ _) | (with_reducible refine Below.drew ?_) | (with_reducible refine below_drewN' ?_ _) | (with_reducible refine Below.setCell ?_ ?_ _) | (with_reducible refine Below.trans ?_ (Below.mono (by assumption) ?_)) | go_size)))).mono ?_
  rintro e W' ⟨⟨l, hl, rfl⟩, rfl⟩
  rcases hl with rfl | ⟨hl0, hlb⟩
  · go_wp2
    go_returns
    exact ⟨rfl, by (repeat' (first | (with_reducible exact Below.refl _ _) | (with_reducible refine Below.alloc ?_ ?_ _) | (with_reducible refine Below.drew ?_) | (with_reducible refine below_drewN' ?_ _) | (with_reducible refine Below.setCell ?_ ?_ _) | (with_reducible refine Below.trans ?_ (Below.mono (by assumption) ?_)) | go_size))⟩
  · have hlen : len0 ≤ 1048576 := by omega
    have hlm : lenB rs 1048576 := fun r hr => by have := tot_mem hr; omega
    have hd : decide (l < 0) = false := by simp; omega
    have HM := Lib.hid hlm
    clear hlm HZ hlb
    have hto := fun (W : World) (hW : Below w.heap.size w W) => toInt64SS_any x0 len0 cap0 rs W (HR.out.keep hW) hlen HM.out
    have HT := Lib.hid hto
    clear hto
    obtain ⟨⟨a, b, c, d⟩, eR⟩ : ∃ R, todR (rs.map (·.xs)) p q r = R := ⟨_, rfl⟩
    have hsp := fun (W : World) (A1 : Option Addr) (rs1 : List Rw) (h : RSl W A1 len0 rs1) (hx : rs1.map (·.xs) = rs.map (·.xs)) => specTod_any A1 len0 len0 rs1 p q r W h (by omega) (fun r hr => by
      have : r.xs ∈ rs.map (·.xs) := by rw [← hx]; exact List.mem_map_of_mem hr
      obtain ⟨r2, h2, e2⟩ := List.mem_map.1 this
      have := HM.out r2 h2
      rw [← e2]; omega)
    have hip := fun (W : World) (A1 : Option Addr) (rs1 : List Rw) (h : RSl W A1 len0 rs1) (hx : rs1.map (·.xs) = rs.map (·.xs)) => implTod_any A1 len0 len0 rs1 p q r W h (by omega) (fun r hr => by
      have : r.xs ∈ rs.map (·.xs) := by rw [← hx]; exact List.mem_map_of_mem hr
      obtain ⟨r2, h2, e2⟩ := List.mem_map.1 this
      have := HM.out r2 h2
      rw [← e2]; omega)
    have hsp' := fun W A1 rs1 h hx => by have := hsp W A1 rs1 h hx; rw [hx, eR] at this; exact this
    have hip' := fun W A1 rs1 h hx => by have := hip W A1 rs1 h hx; rw [hx, eR] at this; exact this
    dsimp only at hsp' hip'
    have HS := Lib.hid hsp'
    have HI := Lib.hid hip'
    clear hsp' hip' hsp hip eR
    go_wp2_with fail
    go_cut [6, 7] (fun pp cc W => ∃ N, pp = .pointer (some ⟨N, 0, none⟩) ∧ cc = .int .i64 d ∧ C3 W N a b c ∧ C3 W w.heap.size p q r ∧ w.heap.size < N ∧ Below w.heap.size w W)
    case first =>
      refine wp_gen' (F := fun W => C3 W w.heap.size p q r ∧ Below w.heap.size w W ∧ w.heap.size < W.heap.size) ⟨C3.newB w _ _ _ _, by (repeat' (first | (with_reducible exact Below.refl _ _) | (with_reducible refine Below.alloc ?_ ?_ _) | (with_reducible refine Below.drew ?_) | (with_reducible refine below_drewN' ?_ _) | (with_reducible refine Below.setCell ?_ ?_ _) | (with_reducible refine Below.trans ?_ (Below.mono (by assumption) ?_)) | go_size)), by simp⟩ (fun W0 hW0 => ?_)
      obtain ⟨⟨s0, s1, s2⟩, hB0, hz0⟩ := hW0
      go_region_held3 (fun w' => (w'.cell? ⟨w.heap.size, 0, none⟩ = some (.int .i64 p) ∧ w'.cell? ⟨w.heap.size, 1, none⟩ = some (.int .i64 q) ∧ w'.cell? ⟨w.heap.size, 2, none⟩ = some (.int .i64 r))) (first | (with_reducible assumption) | (focus (((repeat' apply And.intro) <;> (repeat' (first | (with_reducible assumption) | (with_reducible refine keep_drew ?_) | (with_reducible refine keep_setx (by omega) ?_) | (with_reducible refine keep_hc (by with_reducible assumption) (by omega) ?_) | (focus (go_simp; done)) | (with_reducible refine keep_alloc ?_)))); done))) (first | (go_at_call 28; (with_reducible refine (HT.out _ ?_).mono ?_); (focus ((repeat' (first | (with_reducible exact Below.refl _ _) | (with_reducible refine Below.alloc ?_ ?_ _) | (with_reducible refine Below.drew ?_) | (with_reducible refine below_drewN' ?_ _) | (with_reducible refine Below.setCell ?_ ?_ _) | (with_reducible refine Below.trans ?_ (Below.mono (by assumption) ?_)) | go_size)); done)); rintro e w1 ⟨⟨A1, rs1, rfl, hI1, hx1⟩, hb1⟩; have HI1 := Lib.hid hI1; have HX1 := Lib.hid hx1; clear hI1 hx1; obtain ⟨hg1, hi1, hy1, hx1⟩ := bfull hb1; (try simp only [World.size_drew] at hg1 hi1 hy1 hx1); (try simp only [World.size_alloc] at hg1 hi1 hy1 hx1); (try simp only [World.size_setCell] at hg1 hi1 hy1 hx1); (try (refine gcut (p := (w1.cell? ⟨W0.heap.size, 0, none⟩ = some (.int .i64 0) ∧ w1.cell? ⟨W0.heap.size, 1, none⟩ = some (.int .i64 0) ∧ w1.cell? ⟨W0.heap.size, 2, none⟩ = some (.int .i64 0)) ∧ (w1.frozen? ⟨W0.heap.size, 0, none⟩ = false ∧ w1.frozen? ⟨W0.heap.size, 1, none⟩ = false ∧ w1.frozen? ⟨W0.heap.size, 2, none⟩ = false) ∧ W0.heap.size < w1.heap.size ∧ ¬ w1.heap.size = W0.heap.size) ?_ ?_; (focus (refine ⟨?_, ?_, ?_, ?_⟩; (focus (((repeat' apply And.intro) <;> (repeat' (first | (with_reducible assumption) | (with_reducible refine keep_drew ?_) | (with_reducible refine keep_setx (by omega) ?_) | (with_reducible refine keep_hc (by with_reducible assumption) (by omega) ?_) | (focus (go_simp; done)) | (with_reducible refine keep_alloc ?_)))); done)); (focus (((repeat' apply And.intro) <;> (repeat' (first | (with_reducible assumption) | (with_reducible refine fz_drew ?_) | (with_reducible refine fz_set ?_) | (with_reducible refine fz_hc (by with_reducible assumption) (by omega) ?_) | (focus (go_simp; done)) | (with_reducible refine fz_alloc ?_ ?_) | go_size))); done)); (focus (go_size; done)); (focus (go_size; done)))); rintro ⟨⟨u1_0_0, u1_0_1, u1_0_2⟩, ⟨u1_0_f0, u1_0_f1, u1_0_f2⟩, u1_0_s, u1_0_n⟩))) | (go_at_call 15; (with_reducible refine (toTriple_any _ _ _ _).mono ?_); rintro e w2 ⟨rfl, hb2⟩; obtain ⟨hg2, hi2, hy2, hx2⟩ := bfull hb2; (try simp only [World.size_drew] at hg2 hi2 hy2 hx2); (try simp only [World.size_alloc] at hg2 hi2 hy2 hx2); (try simp only [World.size_setCell] at hg2 hi2 hy2 hx2); refine gcut (p := RSl w2 A1 len0 rs1) ?_ ?_; (focus (refine RSl.keep ?_ hb2; (repeat' (first | (with_reducible exact HI1.out) | (with_reducible exact HI2.out) | (with_reducible refine RSl.drew ?_) | (with_reducible refine RSl.alloc ?_))); done)); intro hI2; have HI2 := Lib.hid hI2; clear hI2; (try (refine gcut (p := (w2.cell? ⟨W0.heap.size, 0, none⟩ = some (.int .i64 0) ∧ w2.cell? ⟨W0.heap.size, 1, none⟩ = some (.int .i64 0) ∧ w2.cell? ⟨W0.heap.size, 2, none⟩ = some (.int .i64 0)) ∧ (w2.frozen? ⟨W0.heap.size, 0, none⟩ = false ∧ w2.frozen? ⟨W0.heap.size, 1, none⟩ = false ∧ w2.frozen? ⟨W0.heap.size, 2, none⟩ = false) ∧ W0.heap.size < w2.heap.size ∧ ¬ w2.heap.size = W0.heap.size) ?_ ?_; (focus (refine ⟨?_, ?_, ?_, ?_⟩; (focus (((repeat' apply And.intro) <;> (repeat' (first | (with_reducible assumption) | (with_reducible refine keep_drew ?_) | (with_reducible refine keep_setx (by omega) ?_) | (with_reducible refine keep_hc (by with_reducible assumption) (by omega) ?_) | (focus (go_simp; done)) | (with_reducible refine keep_alloc ?_)))); done)); (focus (((repeat' apply And.intro) <;> (repeat' (first | (with_reducible assumption) | (with_reducible refine fz_drew ?_) | (with_reducible refine fz_set ?_) | (with_reducible refine fz_hc (by with_reducible assumption) (by omega) ?_) | (focus (go_simp; done)) | (with_reducible refine fz_alloc ?_ ?_) | go_size))); done)); (focus (go_size; done)); (focus (go_size; done)))); rintro ⟨⟨u2_0_0, u2_0_1, u2_0_2⟩, ⟨u2_0_f0, u2_0_f1, u2_0_f2⟩, u2_0_s, u2_0_n⟩)); (try (refine gcut (p := (w2.cell? ⟨w1.heap.size, 0, none⟩ = some (.int .i64 0) ∧ w2.cell? ⟨w1.heap.size, 1, none⟩ = some (.int .i64 0) ∧ w2.cell? ⟨w1.heap.size, 2, none⟩ = some (.int .i64 0)) ∧ (w2.frozen? ⟨w1.heap.size, 0, none⟩ = false ∧ w2.frozen? ⟨w1.heap.size, 1, none⟩ = false ∧ w2.frozen? ⟨w1.heap.size, 2, none⟩ = false) ∧ w1.heap.size < w2.heap.size ∧ ¬ w2.heap.size = w1.heap.size) ?_ ?_; (focus (refine ⟨?_, ?_, ?_, ?_⟩; (focus (((repeat' apply And.intro) <;> (repeat' (first | (with_reducible assumption) | (with_reducible refine keep_drew ?_) | (with_reducible refine keep_setx (by omega) ?_) | (with_reducible refine keep_hc (by with_reducible assumption) (by omega) ?_) | (focus (go_simp; done)) | (with_reducible refine keep_alloc ?_)))); done)); (focus (((repeat' apply And.intro) <;> (repeat' (first | (with_reducible assumption) | (with_reducible refine fz_drew ?_) | (with_reducible refine fz_set ?_) | (with_reducible refine fz_hc (by with_reducible assumption) (by omega) ?_) | (focus (go_simp; done)) | (with_reducible refine fz_alloc ?_ ?_) | go_size))); done)); (focus (go_size; done)); (focus (go_size; done)))); rintro ⟨⟨u2_1_0, u2_1_1, u2_1_2⟩, ⟨u2_1_f0, u2_1_f1, u2_1_f2⟩, u2_1_s, u2_1_n⟩))) | (go_at_call 27; (with_reducible refine (HS.out _ _ _ ?_ HX1.out).mono ?_); (focus ((repeat' (first | (with_reducible exact HI1.out) | (with_reducible exact HI2.out) | (with_reducible refine RSl.drew ?_) | (with_reducible refine RSl.alloc ?_))); done)); rintro e w3 ⟨rfl, hb3⟩; obtain ⟨hg3, hi3, hy3, hx3⟩ := bfull hb3; (try simp only [World.size_drew] at hg3 hi3 hy3 hx3); (try simp only [World.size_alloc] at hg3 hi3 hy3 hx3); (try simp only [World.size_setCell] at hg3 hi3 hy3 hx3); (try (refine gcut (p := (w3.cell? ⟨W0.heap.size, 0, none⟩ = some (.int .i64 0) ∧ w3.cell? ⟨W0.heap.size, 1, none⟩ = some (.int .i64 0) ∧ w3.cell? ⟨W0.heap.size, 2, none⟩ = some (.int .i64 0)) ∧ (w3.frozen? ⟨W0.heap.size, 0, none⟩ = false ∧ w3.frozen? ⟨W0.heap.size, 1, none⟩ = false ∧ w3.frozen? ⟨W0.heap.size, 2, none⟩ = false) ∧ W0.heap.size < w3.heap.size ∧ ¬ w3.heap.size = W0.heap.size) ?_ ?_; (focus (refine ⟨?_, ?_, ?_, ?_⟩; (focus (((repeat' apply And.intro) <;> (repeat' (first | (with_reducible assumption) | (with_reducible refine keep_drew ?_) | (with_reducible refine keep_setx (by omega) ?_) | (with_reducible refine keep_hc (by with_reducible assumption) (by omega) ?_) | (focus (go_simp; done)) | (with_reducible refine keep_alloc ?_)))); done)); (focus (((repeat' apply And.intro) <;> (repeat' (first | (with_reducible assumption) | (with_reducible refine fz_drew ?_) | (with_reducible refine fz_set ?_) | (with_reducible refine fz_hc (by with_reducible assumption) (by omega) ?_) | (focus (go_simp; done)) | (with_reducible refine fz_alloc ?_ ?_) | go_size))); done)); (focus (go_size; done)); (focus (go_size; done)))); rintro ⟨⟨u3_0_0, u3_0_1, u3_0_2⟩, ⟨u3_0_f0, u3_0_f1, u3_0_f2⟩, u3_0_s, u3_0_n⟩)); (try (refine gcut (p := (w3.cell? ⟨w1.heap.size, 0, none⟩ = some (.int .i64 0) ∧ w3.cell? ⟨w1.heap.size, 1, none⟩ = some (.int .i64 0) ∧ w3.cell? ⟨w1.heap.size, 2, none⟩ = some (.int .i64 0)) ∧ (w3.frozen? ⟨w1.heap.size, 0, none⟩ = false ∧ w3.frozen? ⟨w1.heap.size, 1, none⟩ = false ∧ w3.frozen? ⟨w1.heap.size, 2, none⟩ = false) ∧ w1.heap.size < w3.heap.size ∧ ¬ w3.heap.size = w1.heap.size) ?_ ?_; (focus (refine ⟨?_, ?_, ?_, ?_⟩; (focus (((repeat' apply And.intro) <;> (repeat' (first | (with_reducible assumption) | (with_reducible refine keep_drew ?_) | (with_reducible refine keep_setx (by omega) ?_) | (with_reducible refine keep_hc (by with_reducible assumption) (by omega) ?_) | (focus (go_simp; done)) | (with_reducible refine keep_alloc ?_)))); done)); (focus (((repeat' apply And.intro) <;> (repeat' (first | (with_reducible assumption) | (with_reducible refine fz_drew ?_) | (with_reducible refine fz_set ?_) | (with_reducible refine fz_hc (by with_reducible assumption) (by omega) ?_) | (focus (go_simp; done)) | (with_reducible refine fz_alloc ?_ ?_) | go_size))); done)); (focus (go_size; done)); (focus (go_size; done)))); rintro ⟨⟨u3_1_0, u3_1_1, u3_1_2⟩, ⟨u3_1_f0, u3_1_f1, u3_1_f2⟩, u3_1_s, u3_1_n⟩)); (try (refine gcut (p := (w3.cell? ⟨w2.heap.size, 0, none⟩ = some (.int .i64 0) ∧ w3.cell? ⟨w2.heap.size, 1, none⟩ = some (.int .i64 0) ∧ w3.cell? ⟨w2.heap.size, 2, none⟩ = some (.int .i64 0)) ∧ (w3.frozen? ⟨w2.heap.size, 0, none⟩ = false ∧ w3.frozen? ⟨w2.heap.size, 1, none⟩ = false ∧ w3.frozen? ⟨w2.heap.size, 2, none⟩ = false) ∧ w2.heap.size < w3.heap.size ∧ ¬ w3.heap.size = w2.heap.size) ?_ ?_; (focus (refine ⟨?_, ?_, ?_, ?_⟩; (focus (((repeat' apply And.intro) <;> (repeat' (first | (with_reducible assumption) | (with_reducible refine keep_drew ?_) | (with_reducible refine keep_setx (by omega) ?_) | (with_reducible refine keep_hc (by with_reducible assumption) (by omega) ?_) | (focus (go_simp; done)) | (with_reducible refine keep_alloc ?_)))); done)); (focus (((repeat' apply And.intro) <;> (repeat' (first | (with_reducible assumption) | (with_reducible refine fz_drew ?_) | (with_reducible refine fz_set ?_) | (with_reducible refine fz_hc (by with_reducible assumption) (by omega) ?_) | (focus (go_simp; done)) | (with_reducible refine fz_alloc ?_ ?_) | go_size))); done)); (focus (go_size; done)); (focus (go_size; done)))); rintro ⟨⟨u3_2_0, u3_2_1, u3_2_2⟩, ⟨u3_2_f0, u3_2_f1, u3_2_f2⟩, u3_2_s, u3_2_n⟩))))
      all_goals (go_wp2_with fail; go_meet)
      all_goals
        refine ⟨_, rfl, rfl, ⟨?_, ?_, ?_⟩, ⟨?_, ?_, ?_⟩, by first | omega | go_size, ?_⟩
        · repeat' (first | (with_reducible assumption) | (with_reducible refine set_here0 ?_) | (with_reducible refine keep_seto (by decide) ?_) | (with_reducible refine keep_setx ?ne ?_; case ne => omega) | (focus (go_simp; done)) | (with_reducible refine keep_alloc ?_))
        · repeat' (first | (with_reducible assumption) | (with_reducible refine set_here0 ?_) | (with_reducible refine keep_seto (by decide) ?_) | (with_reducible refine keep_setx ?ne ?_; case ne => omega) | (focus (go_simp; done)) | (with_reducible refine keep_alloc ?_))
        · repeat' (first | (with_reducible assumption) | (with_reducible refine set_here0 ?_) | (with_reducible refine keep_seto (by decide) ?_) | (with_reducible refine keep_setx ?ne ?_; case ne => omega) | (focus (go_simp; done)) | (with_reducible refine keep_alloc ?_))
        · repeat' (first | (with_reducible assumption) | (with_reducible refine keep_drew ?_) | (with_reducible refine keep_setx ?ne ?_; case ne => omega) | (with_reducible refine keep_alloc ?_) | (with_reducible refine keep_hc hg3 ?lt ?_; case lt => (first | omega | go_size)) | (with_reducible refine keep_hc hg2 ?lt ?_; case lt => (first | omega | go_size)) | (with_reducible refine keep_hc hg1 ?lt ?_; case lt => (first | omega | go_size)))
        · repeat' (first | (with_reducible assumption) | (with_reducible refine keep_drew ?_) | (with_reducible refine keep_setx ?ne ?_; case ne => omega) | (with_reducible refine keep_alloc ?_) | (with_reducible refine keep_hc hg3 ?lt ?_; case lt => (first | omega | go_size)) | (with_reducible refine keep_hc hg2 ?lt ?_; case lt => (first | omega | go_size)) | (with_reducible refine keep_hc hg1 ?lt ?_; case lt => (first | omega | go_size)))
        · repeat' (first | (with_reducible assumption) | (with_reducible refine keep_drew ?_) | (with_reducible refine keep_setx ?ne ?_; case ne => omega) | (with_reducible refine keep_alloc ?_) | (with_reducible refine keep_hc hg3 ?lt ?_; case lt => (first | omega | go_size)) | (with_reducible refine keep_hc hg2 ?lt ?_; case lt => (first | omega | go_size)) | (with_reducible refine keep_hc hg1 ?lt ?_; case lt => (first | omega | go_size)))
        · (repeat' (first | (with_reducible exact Below.refl _ _) | (with_reducible refine Below.alloc ?_ ?_ _) | (with_reducible refine Below.drew ?_) | (with_reducible refine below_drewN' ?_ _) | (with_reducible refine Below.setCell ?_ ?_ _) | (with_reducible refine Below.trans ?_ (Below.mono (by assumption) ?_)) | go_size))
    case rest =>
      obtain ⟨N, rfl, rfl, hN, hq, hNl, hB⟩ := hcut
      have HN := Lib.hid hN
      have HQ := Lib.hid hq
      clear hN hq
      go_wp2_with fail
      refine (HT.out _ hB).mono ?_
      rintro e w2 ⟨⟨A2, rs2, rfl, hI2, hx2⟩, hb2⟩
      have k2 := hB.trans (hb2.mono hB.size)
      have n2 := HN.out.below hb2
      obtain ⟨qa, qb, qc⟩ := HQ.out.below hb2
      go_wp2_with fail
      refine (toTriple_any _ _ _ _).mono ?_
      rintro e w3 ⟨rfl, hb3⟩
      have k3 := k2.trans (hb3.mono k2.size)
      have n3 := n2.below hb3
      have i3 := hI2.keep hb3
      clear qa qb qc
      go_wp2_with fail
      refine (HI.out _ _ _ i3 hx2).mono ?_
      rintro e w4 ⟨rfl, hb4⟩
      have k4 := k3.trans (hb4.mono k3.size)
      have n4 := n3.below hb4
      have i4 := i3.keep hb4
      have al4 : ∀ o, Below w4.heap.size w4 (w4.alloc o) := fun o => Below.alloc (Below.refl _ _) (Nat.le_refl _) o
      obtain ⟨na, nb, nc⟩ := n4
      have hN4 : N < w4.heap.size := World.block_lt_of_cell? w4 _ na
      go_wp2_with fail
      refine (eqTriple_same _ _ _ _).mono ?_
      rintro e w5 ⟨rfl, hb5⟩
      have bb5 := (al4 (.cells #[.int .i64 a, .int .i64 b, .int .i64 c] 25)).trans (hb5.mono (by simp))
      have k5 := k4.trans (bb5.mono k4.size)
      have i5 := i4.keep bb5
      clear na nb nc
      go_wp2_with fail
      refine (HT.out _ k5).mono ?_
      rintro e w6 ⟨⟨A6, rs6, rfl, hI6, hx6⟩, hb6⟩
      have k6 := k5.trans (hb6.mono k5.size)
      go_wp2_with fail
      refine (eqInt64SS_same A2 A6 _ _ _ rs2 rs6 _ (i5.keep hb6) hI6 (hx2.trans hx6.symm) (by omega) ?_).mono ?_
      · intro r hr
        have : r.xs ∈ rs.map (·.xs) := by rw [← hx2]; exact List.mem_map_of_mem hr
        obtain ⟨r2, h2, e2⟩ := List.mem_map.1 this
        have := HM.out r2 h2
        rw [← e2]; omega
      rintro e w7 ⟨rfl, hb7⟩
      have k7 := k6.trans (hb7.mono k6.size)
      clear hb2 hb3 hb4 hb5 hb6 hb7
      go_wp2
      go_returns
      exact ⟨rfl, k7⟩
end Go.Proofs.Ytabdkjciajjkiaa
