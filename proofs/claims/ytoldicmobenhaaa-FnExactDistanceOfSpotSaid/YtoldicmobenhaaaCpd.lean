/-
  The distance of a spot: contracts, and the plain law that both ways of it agree. No condition but what stands in each.
-/
import Derived.Test.YtoldicmobenhaaaCpc
import Derived.Test.YtoldicmobenhaaaHk
namespace Go.Proofs.Ytoldicmobenhaaa
open Go.RowKit
set_option maxHeartbeats 400000
theorem mul_bd {a b : Int} {A B : Nat} (h : a.natAbs ≤ A) (k : b.natAbs ≤ B) : (a * b).natAbs ≤ A * B := by
  rw [Int.natAbs_mul]
  exact Nat.mul_le_mul h k
theorem gcd3_pos {x y z : Int} (hx : x.natAbs ≤ 3200) (hy : y.natAbs ≤ 3200) (hz : z.natAbs ≤ 3200) (h : ¬ (x = 0 ∧ y = 0 ∧ z = 0)) : 0 < gcdG (gcdG x y) z := by
  have e1 := gcdG_eq (a := x) (b := y) (by omega) (by omega)
  have hb : Nat.gcd x.natAbs y.natAbs ≤ 3200 := by
    by_cases h0 : x = 0
    · subst h0
      simpa using hy
    · exact Nat.le_trans (Nat.gcd_le_left _ (by omega)) hx
  have e2 := gcdG_eq (a := gcdG x y) (b := z) (by rw [e1]; omega) (by omega)
  rw [e2]
  by_cases h2 : z = 0
  · subst h2
    have : Nat.gcd x.natAbs y.natAbs ≠ 0 := by
      intro h0
      rw [Nat.gcd_eq_zero_iff] at h0
      omega
    rw [e1]
    simp
    omega
  · have : Nat.gcd (gcdG x y).natAbs z.natAbs ≠ 0 := by
      intro h0
      rw [Nat.gcd_eq_zero_iff] at h0
      omega
    omega
theorem crossG_eq {a b c d e f : Int} (ha : a.natAbs ≤ 40) (hb : b.natAbs ≤ 40) (hc : c.natAbs ≤ 40) (hd : d.natAbs ≤ 40) (he : e.natAbs ≤ 40) (hf : f.natAbs ≤ 40) :
    crossG a b c d e f = (b * f - c * e, c * d - a * f, a * e - b * d) := by
  have h1 := mul_bd hb hf
  have h2 := mul_bd hc he
  have h3 := mul_bd hc hd
  have h4 := mul_bd ha hf
  have h5 := mul_bd ha he
  have h6 := mul_bd hb hd
  simp only [crossG, wrap64, Prod.mk.injEq]
  omega
theorem crossG_bd {a b c d e f : Int} (ha : a.natAbs ≤ 40) (hb : b.natAbs ≤ 40) (hc : c.natAbs ≤ 40) (hd : d.natAbs ≤ 40) (he : e.natAbs ≤ 40) (hf : f.natAbs ≤ 40) :
    (crossG a b c d e f).1.natAbs ≤ 3200 ∧ (crossG a b c d e f).2.1.natAbs ≤ 3200 ∧ (crossG a b c d e f).2.2.natAbs ≤ 3200 := by
  have h1 := mul_bd hb hf
  have h2 := mul_bd hc he
  have h3 := mul_bd hc hd
  have h4 := mul_bd ha hf
  have h5 := mul_bd ha he
  have h6 := mul_bd hb hd
  rw [crossG_eq ha hb hc hd he hf]
  dsimp only
  omega
theorem dotG_eq {a b c d e f : Int} (ha : a.natAbs ≤ 3200) (hb : b.natAbs ≤ 3200) (hc : c.natAbs ≤ 3200) (hd : d.natAbs ≤ 3200) (he : e.natAbs ≤ 3200) (hf : f.natAbs ≤ 3200) :
    dotG a b c d e f = a * d + b * e + c * f ∧ (dotG a b c d e f).natAbs ≤ 30720000 := by
  have h1 := mul_bd ha hd
  have h2 := mul_bd hb he
  have h3 := mul_bd hc hf
  simp only [dotG, wrap64]
  omega
theorem triple_eq {a b c d e f g h i : Int} (ha : a.natAbs ≤ 40) (hb : b.natAbs ≤ 40) (hc : c.natAbs ≤ 40) (hd : d.natAbs ≤ 40) (he : e.natAbs ≤ 40) (hf : f.natAbs ≤ 40) (hg : g.natAbs ≤ 40) (hh : h.natAbs ≤ 40) (hi : i.natAbs ≤ 40) :
    dotG (crossG a b c d e f).1 (crossG a b c d e f).2.1 (crossG a b c d e f).2.2 g h i = volG a b c d e f g h i ∧ (volG a b c d e f g h i).natAbs ≤ 30720000 := by
  obtain ⟨x1, x2, x3⟩ := crossG_bd ha hb hc hd he hf
  obtain ⟨y1, y2, y3⟩ := crossG_bd hd he hf hg hh hi
  have e1 := dotG_eq (d := g) (e := h) (f := i) x1 x2 x3 (by omega) (by omega) (by omega)
  have e2 := dotG_eq (a := a) (b := b) (c := c) (by omega) (by omega) (by omega) y1 y2 y3
  refine ⟨?_, e2.2⟩
  unfold volG
  rw [e1.1, e2.1, crossG_eq ha hb hc hd he hf, crossG_eq hd he hf hg hh hi]
  simp only [Int.mul_sub, Int.mul_comm, Int.mul_left_comm]
  omega
theorem size_div {D L : Int} (hD : D.natAbs ≤ 30720000) (hL : 0 < L) : sizeG (wrap64 (D.tdiv L)) = wrap64 ((sizeG D).tdiv L) := by
  have e1 : (D.tdiv L).natAbs = D.natAbs / L.natAbs := Int.natAbs_tdiv D L
  have e2 : D.natAbs / L.natAbs ≤ D.natAbs := Nat.div_le_self _ _
  have e3 : sizeG D = (D.natAbs : Int) := sizeG_nn (by omega) (by omega)
  have e4 : wrap64 (D.tdiv L) = D.tdiv L := by unfold wrap64; omega
  rw [e3, e4, sizeG_nn (by omega) (by omega), e1]
  have e5 : ((D.natAbs : Int).tdiv L) = ((D.natAbs / L.natAbs : Nat) : Int) := by
    obtain ⟨n, rfl⟩ := Int.eq_ofNat_of_zero_le (Int.le_of_lt hL)
    simp
  rw [e5]
  unfold wrap64
  omega
theorem less_bd {a b c d e f : Int} (h : sp2B a b c d e f = true) : (splusG d e f a b c (-1)).1.natAbs ≤ 40 ∧ (splusG d e f a b c (-1)).2.1.natAbs ≤ 40 ∧ (splusG d e f a b c (-1)).2.2.natAbs ≤ 40 := by
  simp only [sp2B, spotB, spotN, Bool.and_eq_true, inB_iff] at h
  simp only [splusG, wrap64]
  omega
def distR (a b c d e f g h i j k l : Int) : Int × Int :=
  if sp4B a b c d e f g h i j k l then
    (if ((crossG (splusG d e f a b c (-1)).1 (splusG d e f a b c (-1)).2.1 (splusG d e f a b c (-1)).2.2 (splusG g h i a b c (-1)).1 (splusG g h i a b c (-1)).2.1 (splusG g h i a b c (-1)).2.2).1 == 0
      && (crossG (splusG d e f a b c (-1)).1 (splusG d e f a b c (-1)).2.1 (splusG d e f a b c (-1)).2.2 (splusG g h i a b c (-1)).1 (splusG g h i a b c (-1)).2.1 (splusG g h i a b c (-1)).2.2).2.1 == 0
      && (crossG (splusG d e f a b c (-1)).1 (splusG d e f a b c (-1)).2.1 (splusG d e f a b c (-1)).2.2 (splusG g h i a b c (-1)).1 (splusG g h i a b c (-1)).2.1 (splusG g h i a b c (-1)).2.2).2.2 == 0) then (0, 5)
    else (wrap64 ((sizeG (volG (splusG d e f a b c (-1)).1 (splusG d e f a b c (-1)).2.1 (splusG d e f a b c (-1)).2.2 (splusG g h i a b c (-1)).1 (splusG g h i a b c (-1)).2.1 (splusG g h i a b c (-1)).2.2 (splusG j k l a b c (-1)).1 (splusG j k l a b c (-1)).2.1 (splusG j k l a b c (-1)).2.2)).tdiv
      (gcdG (gcdG (crossG (splusG d e f a b c (-1)).1 (splusG d e f a b c (-1)).2.1 (splusG d e f a b c (-1)).2.2 (splusG g h i a b c (-1)).1 (splusG g h i a b c (-1)).2.1 (splusG g h i a b c (-1)).2.2).1
        (crossG (splusG d e f a b c (-1)).1 (splusG d e f a b c (-1)).2.1 (splusG d e f a b c (-1)).2.2 (splusG g h i a b c (-1)).1 (splusG g h i a b c (-1)).2.1 (splusG g h i a b c (-1)).2.2).2.1)
        (crossG (splusG d e f a b c (-1)).1 (splusG d e f a b c (-1)).2.1 (splusG d e f a b c (-1)).2.2 (splusG g h i a b c (-1)).1 (splusG g h i a b c (-1)).2.1 (splusG g h i a b c (-1)).2.2).2.2)), 0)) else (0, 1)
/-- What both ways use: the three differences, the cross product, the volume, its parts' bounds. -/
theorem distParts (a b c d e f g h i j k l : Int) : ∃ u0 u1 u2 v0 v1 v2 t0 t1 t2 x0 x1 x2 m n : Int,
    splusG d e f a b c (-1) = (u0, u1, u2) ∧ splusG g h i a b c (-1) = (v0, v1, v2) ∧ splusG j k l a b c (-1) = (t0, t1, t2) ∧ crossG u0 u1 u2 v0 v1 v2 = (x0, x1, x2) ∧ volG u0 u1 u2 v0 v1 v2 t0 t1 t2 = m ∧ gcdG (gcdG x0 x1) x2 = n ∧
    distR a b c d e f g h i j k l = (if sp4B a b c d e f g h i j k l then (if (x0 == 0 && x1 == 0 && x2 == 0) then (0, 5) else (wrap64 ((sizeG m).tdiv n), 0)) else (0, 1)) ∧
    (sp4B a b c d e f g h i j k l = true → dotG x0 x1 x2 t0 t1 t2 = m ∧ m.natAbs ≤ 30720000 ∧ ((x0 == 0 && x1 == 0 && x2 == 0) = false → 0 < n)) := by
  obtain ⟨⟨u0, u1, u2⟩, hu⟩ : ∃ r, splusG d e f a b c (-1) = r := ⟨_, rfl⟩
  obtain ⟨⟨v0, v1, v2⟩, hv⟩ : ∃ r, splusG g h i a b c (-1) = r := ⟨_, rfl⟩
  obtain ⟨⟨t0, t1, t2⟩, ht⟩ : ∃ r, splusG j k l a b c (-1) = r := ⟨_, rfl⟩
  obtain ⟨⟨x0, x1, x2⟩, hx⟩ : ∃ r, crossG u0 u1 u2 v0 v1 v2 = r := ⟨_, rfl⟩
  refine ⟨u0, u1, u2, v0, v1, v2, t0, t1, t2, x0, x1, x2, _, _, hu, hv, ht, hx, rfl, rfl, ?_, ?_⟩
  · simp only [distR, hu, hv, ht, hx]
  · intro h4
    have hb1 : sp2B a b c d e f = true := by simp only [sp4B, sp2B, Bool.and_eq_true] at h4 ⊢; exact ⟨h4.1.1.1, h4.1.1.2⟩
    have hb2 : sp2B a b c g h i = true := by simp only [sp4B, sp2B, Bool.and_eq_true] at h4 ⊢; exact ⟨h4.1.1.1, h4.1.2⟩
    have hb3 : sp2B a b c j k l = true := by simp only [sp4B, sp2B, Bool.and_eq_true] at h4 ⊢; exact ⟨h4.1.1.1, h4.2⟩
    have b1 := less_bd hb1
    have b2 := less_bd hb2
    have b3 := less_bd hb3
    rw [hu] at b1
    rw [hv] at b2
    rw [ht] at b3
    obtain ⟨p1, p2, p3⟩ := b1
    obtain ⟨q1, q2, q3⟩ := b2
    obtain ⟨r1, r2, r3⟩ := b3
    have ht := triple_eq p1 p2 p3 q1 q2 q3 r1 r2 r3
    have hc := crossG_bd p1 p2 p3 q1 q2 q3
    rw [hx] at ht hc
    refine ⟨ht.1, ht.2, fun hz => gcd3_pos hc.1 hc.2.1 hc.2.2 ?_⟩
    intro ⟨h1, h2, h3⟩
    subst h1 h2 h3
    simp at hz
set_option maxHeartbeats 8000000 in
theorem implDist_any (a b c d e f g h i j k l : Int) (w : World) : Calls Try.prog 36 #[.agg #[.int .i64 a, .int .i64 b, .int .i64 c], .agg #[.int .i64 d, .int .i64 e, .int .i64 f], .agg #[.int .i64 g, .int .i64 h, .int .i64 i], .agg #[.int .i64 j, .int .i64 k, .int .i64 l]] w fun en w' =>
    en = .returned (.tuple #[.int .i64 (distR a b c d e f g h i j k l).1, .int .i64 (distR a b c d e f g h i j k l).2]) ∧ Below w.heap.size w w' := by
  obtain ⟨u0, u1, u2, v0, v1, v2, t0, t1, t2, x0, x1, x2, m, n, hu, hv, ht, hx, hm, hn, hR, hE⟩ := distParts a b c d e f g h i j k l
  obtain ⟨p1, hp1⟩ : ∃ zz, sp4B a b c d e f g h i j k l = zz := ⟨_, rfl⟩; have cc1 := fun bb off cc W h0 h1 h2 h3 h4 h5 h6 h7 h8 h9 h10 h11 => spots4_any bb off cc a b c d e f g h i j k l W h0 h1 h2 h3 h4 h5 h6 h7 h8 h9 h10 h11; rw [hp1] at cc1; have C1 := Lib.hid cc1; have P1 := Lib.hid hp1; clear cc1 hp1
  obtain ⟨q, hzq⟩ : ∃ q, (x0 == 0 && x1 == 0 && x2 == 0) = q := ⟨_, rfl⟩
  have heq := fun W => eqlSpot_run W x0 x1 x2 0 0 0
  rw [hzq] at hR hE heq
  clear hzq
  have CU := Lib.hid hu
  have CV := Lib.hid hv
  have CT := Lib.hid ht
  have CX := Lib.hid hx
  have CM := Lib.hid hm
  have CN := Lib.hid hn
  have HE := Lib.hid hE
  have HR := Lib.hid hR
  clear hu hv ht hx hm hn hE hR
  cases p1
  · go_enter Try.func36, Try.ntmps36
    go_wp2_with (first | (go_at_call 55; (with_reducible refine (C1.out _ _ _ _ ?_ ?_ ?_ ?_ ?_ ?_ ?_ ?_ ?_ ?_ ?_ ?_).mono ?_); (iterate 12 (focus (go_simp; done))); rintro e w1 ⟨rfl, hb1⟩; obtain ⟨hc1, hf1, hz1, hn1⟩ := bstep 4 w hb1 (by go_size)))
    go_returns
    exact ⟨by rw [HR.out, P1.out]; rfl, by (repeat' (first | (with_reducible exact Below.refl _ _) | (with_reducible refine Below.alloc ?_ ?_ _) | (with_reducible refine Below.drew ?_) | (with_reducible refine below_drewN' ?_ _) | (with_reducible refine Below.setCell ?_ ?_ _) | (with_reducible refine Below.trans ?_ (Below.mono (by assumption) ?_)) | go_size))⟩
  · cases q
    · have hn0 : ¬ gcdG (gcdG x0 x1) x2 = 0 := by rw [CN.out]; have := (HE.out P1.out).2.2 rfl; omega
      go_enter Try.func36, Try.ntmps36
      go_wp2_with (first | (go_at_call 55; (with_reducible refine (C1.out _ _ _ _ ?_ ?_ ?_ ?_ ?_ ?_ ?_ ?_ ?_ ?_ ?_ ?_).mono ?_); (iterate 12 (focus (go_simp; done))); rintro e w1 ⟨rfl, hb1⟩; obtain ⟨hc1, hf1, hz1, hn1⟩ := bstep 4 w hb1 (by go_size)))
      go_cut [10] (fun pp w1 => ∃ N, pp = .pointer (some ⟨N, 0, none⟩) ∧ (w.heap.size + 4 ≤ w1.heap.size ∧ w1.cell? ⟨w.heap.size, 0, none⟩ = some (.int .i64 a) ∧ w1.cell? ⟨w.heap.size, 1, none⟩ = some (.int .i64 b) ∧ w1.cell? ⟨w.heap.size, 2, none⟩ = some (.int .i64 c) ∧ w1.cell? ⟨w.heap.size + 1, 0, none⟩ = some (.int .i64 d) ∧ w1.cell? ⟨w.heap.size + 1, 1, none⟩ = some (.int .i64 e) ∧ w1.cell? ⟨w.heap.size + 1, 2, none⟩ = some (.int .i64 f) ∧ w1.cell? ⟨w.heap.size + 1 + 1, 0, none⟩ = some (.int .i64 g) ∧ w1.cell? ⟨w.heap.size + 1 + 1, 1, none⟩ = some (.int .i64 h) ∧ w1.cell? ⟨w.heap.size + 1 + 1, 2, none⟩ = some (.int .i64 i) ∧ w1.cell? ⟨w.heap.size + 1 + 1 + 1, 0, none⟩ = some (.int .i64 j) ∧ w1.cell? ⟨w.heap.size + 1 + 1 + 1, 1, none⟩ = some (.int .i64 k) ∧ w1.cell? ⟨w.heap.size + 1 + 1 + 1, 2, none⟩ = some (.int .i64 l)) ∧ w.heap.size + 4 ≤ N ∧ (w1.cell? ⟨N, 0, none⟩ = some (.int .i64 x0) ∧ w1.cell? ⟨N, 1, none⟩ = some (.int .i64 x1) ∧ w1.cell? ⟨N, 2, none⟩ = some (.int .i64 x2)) ∧ Below w.heap.size w w1)
      case first =>
        go_region_held3 (fun w' => w.heap.size + 4 ≤ w'.heap.size ∧ w'.cell? ⟨w.heap.size, 0, none⟩ = some (.int .i64 a) ∧ w'.cell? ⟨w.heap.size, 1, none⟩ = some (.int .i64 b) ∧ w'.cell? ⟨w.heap.size, 2, none⟩ = some (.int .i64 c) ∧ w'.cell? ⟨w.heap.size + 1, 0, none⟩ = some (.int .i64 d) ∧ w'.cell? ⟨w.heap.size + 1, 1, none⟩ = some (.int .i64 e) ∧ w'.cell? ⟨w.heap.size + 1, 2, none⟩ = some (.int .i64 f) ∧ w'.cell? ⟨w.heap.size + 1 + 1, 0, none⟩ = some (.int .i64 g) ∧ w'.cell? ⟨w.heap.size + 1 + 1, 1, none⟩ = some (.int .i64 h) ∧ w'.cell? ⟨w.heap.size + 1 + 1, 2, none⟩ = some (.int .i64 i) ∧ w'.cell? ⟨w.heap.size + 1 + 1 + 1, 0, none⟩ = some (.int .i64 j) ∧ w'.cell? ⟨w.heap.size + 1 + 1 + 1, 1, none⟩ = some (.int .i64 k) ∧ w'.cell? ⟨w.heap.size + 1 + 1 + 1, 2, none⟩ = some (.int .i64 l))
          (first | (go_split_ands; refine ⟨by go_size, ?_⟩; ((repeat' apply And.intro) <;> (repeat' (first | (with_reducible assumption) | (with_reducible refine keep_alloc ?_) | (with_reducible refine keep_drew ?_) | (with_reducible exact un_alloc1 (by go_size) (by with_reducible assumption)) | (with_reducible exact un_alloc2 (by go_size) (by with_reducible assumption)) | (with_reducible refine keep_setx (by omega) ?_) | (with_reducible refine keep_below hb1 (by go_size) ?_)))); done) | (refine ⟨by go_size, ?_⟩; ((repeat' apply And.intro) <;> (first | (with_reducible assumption) | go_simp)); done))
          (first | (go_at_call 68; (with_reducible refine (sless_any _ _ _ _ _ _ _).mono ?_); rintro e w1 ⟨rfl, hb1⟩; obtain ⟨hc1, hf1, hz1, hn1⟩ := bstep 4 w hb1 (by go_size); obtain ⟨hg1, hi1, hy1, hx1⟩ := bfull hb1; try (refine bcomp (by assumption) hb1 ?_; intro hq hg2 hi2 hx2)) | (go_at_call 64; (with_reducible refine (cross_any _ _ _ _ _ _ _).mono ?_); rintro e w1 ⟨rfl, hb1⟩; obtain ⟨hc1, hf1, hz1, hn1⟩ := bstep 4 w hb1 (by go_size); obtain ⟨hg1, hi1, hy1, hx1⟩ := bfull hb1; try (refine bcomp (by assumption) hb1 ?_; intro hq hg2 hi2 hx2)))
        all_goals
          go_wp2_with fail
          go_meet
          case rel =>
            simp only [CU.out, CV.out, CX.out]
            refine ⟨_, rfl, ?_, ?_, ?_, ?_⟩
            · (first | assumption | (first | (go_split_ands; refine ⟨by go_size, ?_⟩; ((repeat' apply And.intro) <;> (repeat' (first | (with_reducible assumption) | (with_reducible refine keep_alloc ?_) | (with_reducible refine keep_drew ?_) | (with_reducible exact un_alloc1 (by go_size) (by with_reducible assumption)) | (with_reducible exact un_alloc2 (by go_size) (by with_reducible assumption)) | (with_reducible refine keep_setx (by omega) ?_) | (with_reducible refine keep_below hb1 (by go_size) ?_)))); done) | (refine ⟨by go_size, ?_⟩; ((repeat' apply And.intro) <;> (first | (with_reducible assumption) | go_simp)); done)))
            · go_size
            · (repeat' apply And.intro) <;> go_simp
            · (repeat' (first | (with_reducible exact Below.refl _ _) | (with_reducible refine Below.alloc ?_ ?_ _) | (with_reducible refine Below.drew ?_) | (with_reducible refine below_drewN' ?_ _) | (with_reducible refine Below.setCell ?_ ?_ _) | (with_reducible refine Below.trans ?_ (Below.mono (by assumption) ?_)) | go_size))
      case rest =>
        obtain ⟨N, rfl, ⟨hsz, hs0, hs1, hs2, hs3, hs4, hs5, hs6, hs7, hs8, hs9, hs10, hs11⟩, hN1, ⟨hp0, hp1, hp2⟩, hB⟩ := hcut
        have hN2 : N < wc.heap.size := World.block_lt_of_cell? wc _ hp0
        have hl0 : w.heap.size < wc.heap.size := by omega
        have hl1 : w.heap.size + 1 < wc.heap.size := by omega
        have hl2 : w.heap.size + 1 + 1 < wc.heap.size := by omega
        have hl3 : w.heap.size + 1 + 1 + 1 < wc.heap.size := by omega
        go_wp2
        (refine wp_region_beyond (wc.heap.size + 0) (by kernel_rfl) (by kernel_rfl) (by go_size) (fun hBe => ?_); (repeat (first | go_big_quiet_step ((first | (go_at_call 56; exact beyond_of (volume_any _ _ _ _ _ _ _ _ _ _)) | (go_at_call 68; exact beyond_of (sless_any _ _ _ _ _ _ _)) | (go_at_call 62; exact beyond_same (size_any _ _)) | (go_at_call 53; exact beyond_of (slength_any _ _ _ _)))) | quiet_step ((first | (go_at_call 56; exact beyond_of (volume_any _ _ _ _ _ _ _ _ _ _)) | (go_at_call 68; exact beyond_of (sless_any _ _ _ _ _ _ _)) | (go_at_call 62; exact beyond_same (size_any _ _)) | (go_at_call 53; exact beyond_of (slength_any _ _ _ _)))))); refine wpQuiet_nil ?_; clear hBe; intro w1 hb1; obtain ⟨hc1, hf1, hz1, hn1⟩ := bstep 0 wc hb1 (by go_size))
        go_wp2
        simp only [CU.out, CV.out, CT.out, CM.out, CN.out]
        go_returns
        exact ⟨by rw [HR.out, P1.out]; rfl, by (repeat' (first | (with_reducible exact Below.refl _ _) | (with_reducible refine Below.alloc ?_ ?_ _) | (with_reducible refine Below.drew ?_) | (with_reducible refine below_drewN' ?_ _) | (with_reducible refine Below.setCell ?_ ?_ _) | (with_reducible refine Below.trans ?_ (Below.mono (by assumption) ?_)) | go_size))⟩
    · go_enter Try.func36, Try.ntmps36
      go_wp2_with (first | (go_at_call 55; (with_reducible refine (C1.out _ _ _ _ ?_ ?_ ?_ ?_ ?_ ?_ ?_ ?_ ?_ ?_ ?_ ?_).mono ?_); (iterate 12 (focus (go_simp; done))); rintro e w1 ⟨rfl, hb1⟩; obtain ⟨hc1, hf1, hz1, hn1⟩ := bstep 4 w hb1 (by go_size)))
      go_cut [10] (fun pp w1 => ∃ N, pp = .pointer (some ⟨N, 0, none⟩) ∧ (w.heap.size + 4 ≤ w1.heap.size ∧ w1.cell? ⟨w.heap.size, 0, none⟩ = some (.int .i64 a) ∧ w1.cell? ⟨w.heap.size, 1, none⟩ = some (.int .i64 b) ∧ w1.cell? ⟨w.heap.size, 2, none⟩ = some (.int .i64 c) ∧ w1.cell? ⟨w.heap.size + 1, 0, none⟩ = some (.int .i64 d) ∧ w1.cell? ⟨w.heap.size + 1, 1, none⟩ = some (.int .i64 e) ∧ w1.cell? ⟨w.heap.size + 1, 2, none⟩ = some (.int .i64 f) ∧ w1.cell? ⟨w.heap.size + 1 + 1, 0, none⟩ = some (.int .i64 g) ∧ w1.cell? ⟨w.heap.size + 1 + 1, 1, none⟩ = some (.int .i64 h) ∧ w1.cell? ⟨w.heap.size + 1 + 1, 2, none⟩ = some (.int .i64 i) ∧ w1.cell? ⟨w.heap.size + 1 + 1 + 1, 0, none⟩ = some (.int .i64 j) ∧ w1.cell? ⟨w.heap.size + 1 + 1 + 1, 1, none⟩ = some (.int .i64 k) ∧ w1.cell? ⟨w.heap.size + 1 + 1 + 1, 2, none⟩ = some (.int .i64 l)) ∧ w.heap.size + 4 ≤ N ∧ (w1.cell? ⟨N, 0, none⟩ = some (.int .i64 x0) ∧ w1.cell? ⟨N, 1, none⟩ = some (.int .i64 x1) ∧ w1.cell? ⟨N, 2, none⟩ = some (.int .i64 x2)) ∧ Below w.heap.size w w1)
      case first =>
        go_region_held3 (fun w' => w.heap.size + 4 ≤ w'.heap.size ∧ w'.cell? ⟨w.heap.size, 0, none⟩ = some (.int .i64 a) ∧ w'.cell? ⟨w.heap.size, 1, none⟩ = some (.int .i64 b) ∧ w'.cell? ⟨w.heap.size, 2, none⟩ = some (.int .i64 c) ∧ w'.cell? ⟨w.heap.size + 1, 0, none⟩ = some (.int .i64 d) ∧ w'.cell? ⟨w.heap.size + 1, 1, none⟩ = some (.int .i64 e) ∧ w'.cell? ⟨w.heap.size + 1, 2, none⟩ = some (.int .i64 f) ∧ w'.cell? ⟨w.heap.size + 1 + 1, 0, none⟩ = some (.int .i64 g) ∧ w'.cell? ⟨w.heap.size + 1 + 1, 1, none⟩ = some (.int .i64 h) ∧ w'.cell? ⟨w.heap.size + 1 + 1, 2, none⟩ = some (.int .i64 i) ∧ w'.cell? ⟨w.heap.size + 1 + 1 + 1, 0, none⟩ = some (.int .i64 j) ∧ w'.cell? ⟨w.heap.size + 1 + 1 + 1, 1, none⟩ = some (.int .i64 k) ∧ w'.cell? ⟨w.heap.size + 1 + 1 + 1, 2, none⟩ = some (.int .i64 l))
          (first | (go_split_ands; refine ⟨by go_size, ?_⟩; ((repeat' apply And.intro) <;> (repeat' (first | (with_reducible assumption) | (with_reducible refine keep_alloc ?_) | (with_reducible refine keep_drew ?_) | (with_reducible exact un_alloc1 (by go_size) (by with_reducible assumption)) | (with_reducible exact un_alloc2 (by go_size) (by with_reducible assumption)) | (with_reducible refine keep_setx (by omega) ?_) | (with_reducible refine keep_below hb1 (by go_size) ?_)))); done) | (refine ⟨by go_size, ?_⟩; ((repeat' apply And.intro) <;> (first | (with_reducible assumption) | go_simp)); done))
          (first | (go_at_call 68; (with_reducible refine (sless_any _ _ _ _ _ _ _).mono ?_); rintro e w1 ⟨rfl, hb1⟩; obtain ⟨hc1, hf1, hz1, hn1⟩ := bstep 4 w hb1 (by go_size); obtain ⟨hg1, hi1, hy1, hx1⟩ := bfull hb1; try (refine bcomp (by assumption) hb1 ?_; intro hq hg2 hi2 hx2)) | (go_at_call 64; (with_reducible refine (cross_any _ _ _ _ _ _ _).mono ?_); rintro e w1 ⟨rfl, hb1⟩; obtain ⟨hc1, hf1, hz1, hn1⟩ := bstep 4 w hb1 (by go_size); obtain ⟨hg1, hi1, hy1, hx1⟩ := bfull hb1; try (refine bcomp (by assumption) hb1 ?_; intro hq hg2 hi2 hx2)))
        all_goals
          go_wp2_with fail
          go_meet
          case rel =>
            simp only [CU.out, CV.out, CX.out]
            refine ⟨_, rfl, ?_, ?_, ?_, ?_⟩
            · (first | assumption | (first | (go_split_ands; refine ⟨by go_size, ?_⟩; ((repeat' apply And.intro) <;> (repeat' (first | (with_reducible assumption) | (with_reducible refine keep_alloc ?_) | (with_reducible refine keep_drew ?_) | (with_reducible exact un_alloc1 (by go_size) (by with_reducible assumption)) | (with_reducible exact un_alloc2 (by go_size) (by with_reducible assumption)) | (with_reducible refine keep_setx (by omega) ?_) | (with_reducible refine keep_below hb1 (by go_size) ?_)))); done) | (refine ⟨by go_size, ?_⟩; ((repeat' apply And.intro) <;> (first | (with_reducible assumption) | go_simp)); done)))
            · go_size
            · (repeat' apply And.intro) <;> go_simp
            · (repeat' (first | (with_reducible exact Below.refl _ _) | (with_reducible refine Below.alloc ?_ ?_ _) | (with_reducible refine Below.drew ?_) | (with_reducible refine below_drewN' ?_ _) | (with_reducible refine Below.setCell ?_ ?_ _) | (with_reducible refine Below.trans ?_ (Below.mono (by assumption) ?_)) | go_size))
      case rest =>
        obtain ⟨N, rfl, ⟨hsz, hs0, hs1, hs2, hs3, hs4, hs5, hs6, hs7, hs8, hs9, hs10, hs11⟩, hN1, ⟨hp0, hp1, hp2⟩, hB⟩ := hcut
        have hN2 : N < wc.heap.size := World.block_lt_of_cell? wc _ hp0
        have hl0 : w.heap.size < wc.heap.size := by omega
        have hl1 : w.heap.size + 1 < wc.heap.size := by omega
        have hl2 : w.heap.size + 1 + 1 < wc.heap.size := by omega
        have hl3 : w.heap.size + 1 + 1 + 1 < wc.heap.size := by omega
        go_wp2
        go_returns
        exact ⟨by rw [HR.out, P1.out]; rfl, by (repeat' (first | (with_reducible exact Below.refl _ _) | (with_reducible refine Below.alloc ?_ ?_ _) | (with_reducible refine Below.drew ?_) | (with_reducible refine below_drewN' ?_ _) | (with_reducible refine Below.setCell ?_ ?_ _) | (with_reducible refine Below.trans ?_ (Below.mono (by assumption) ?_)) | go_size))⟩
set_option maxHeartbeats 8000000 in
theorem specDist_any (a b c d e f g h i j k l : Int) (w : World) : Calls Try.prog 35 #[.agg #[.int .i64 a, .int .i64 b, .int .i64 c], .agg #[.int .i64 d, .int .i64 e, .int .i64 f], .agg #[.int .i64 g, .int .i64 h, .int .i64 i], .agg #[.int .i64 j, .int .i64 k, .int .i64 l]] w fun en w' =>
    en = .returned (.tuple #[.int .i64 (distR a b c d e f g h i j k l).1, .int .i64 (distR a b c d e f g h i j k l).2]) ∧ Below w.heap.size w w' := by
  obtain ⟨u0, u1, u2, v0, v1, v2, t0, t1, t2, x0, x1, x2, m, n, hu, hv, ht, hx, hm, hn, hR, hE⟩ := distParts a b c d e f g h i j k l
  obtain ⟨p1, hp1⟩ : ∃ zz, spotB a b c = zz := ⟨_, rfl⟩; have cc1 := fun W => l08Spot_any a b c W; rw [hp1] at cc1; have C1 := Lib.hid cc1; have P1 := Lib.hid hp1; clear cc1 hp1
  obtain ⟨p2, hp2⟩ : ∃ zz, spotB d e f = zz := ⟨_, rfl⟩; have cc2 := fun W => l08Spot_any d e f W; rw [hp2] at cc2; have C2 := Lib.hid cc2; have P2 := Lib.hid hp2; clear cc2 hp2
  obtain ⟨p3, hp3⟩ : ∃ zz, spotB g h i = zz := ⟨_, rfl⟩; have cc3 := fun W => l08Spot_any g h i W; rw [hp3] at cc3; have C3 := Lib.hid cc3; have P3 := Lib.hid hp3; clear cc3 hp3
  obtain ⟨p4, hp4⟩ : ∃ zz, spotB j k l = zz := ⟨_, rfl⟩; have cc4 := fun W => l08Spot_any j k l W; rw [hp4] at cc4; have C4 := Lib.hid cc4; have P4 := Lib.hid hp4; clear cc4 hp4
  have h4 : sp4B a b c d e f g h i j k l = (p1 && p2 && p3 && p4) := by rw [sp4B, P1.out, P2.out, P3.out, P4.out]
  obtain ⟨q, hzq⟩ : ∃ q, (x0 == 0 && x1 == 0 && x2 == 0) = q := ⟨_, rfl⟩
  have heq := fun W => eqlSpot_run W x0 x1 x2 0 0 0
  rw [hzq] at hR hE heq
  clear hzq
  rw [h4] at hR hE
  have CU := Lib.hid hu
  have CV := Lib.hid hv
  have CT := Lib.hid ht
  have CX := Lib.hid hx
  have CM := Lib.hid hm
  have CN := Lib.hid hn
  have HE := Lib.hid hE
  have HR := Lib.hid hR
  clear hu hv ht hx hm hn hE hR h4
  cases p1
  rotate_left
  cases p2
  rotate_left
  cases p3
  rotate_left
  cases p4
  rotate_left
  cases q
  · obtain ⟨h1, h2, h3⟩ := HE.out rfl
    have hn0 : ¬ gcdG (gcdG x0 x1) x2 = 0 := by rw [CN.out]; have := h3 rfl; omega
    have hsz := size_div h2 (h3 rfl)
    obtain ⟨y, hy⟩ : ∃ y, wrap64 (m.tdiv n) = y := ⟨_, rfl⟩
    have CD := Lib.hid h1
    rw [hy] at hsz
    have HSZ := Lib.hid hsz
    clear h1 h2 h3 hsz
    go_enter Try.func35, Try.ntmps35
    go_wp2_with (first | (go_at_call 50; (with_reducible refine (C1.out _).mono ?_); rintro e w1 ⟨rfl, hb1⟩; obtain ⟨hc1, hf1, hz1, hn1⟩ := bstep 4 w hb1 (by go_size)) | (go_at_call 50; (with_reducible refine (C2.out _).mono ?_); rintro e w1 ⟨rfl, hb1⟩; obtain ⟨hc1, hf1, hz1, hn1⟩ := bstep 4 w hb1 (by go_size)) | (go_at_call 50; (with_reducible refine (C3.out _).mono ?_); rintro e w1 ⟨rfl, hb1⟩; obtain ⟨hc1, hf1, hz1, hn1⟩ := bstep 4 w hb1 (by go_size)) | (go_at_call 50; (with_reducible refine (C4.out _).mono ?_); rintro e w1 ⟨rfl, hb1⟩; obtain ⟨hc1, hf1, hz1, hn1⟩ := bstep 4 w hb1 (by go_size)))
    go_cut [10] (fun pp w1 => ∃ N, pp = .pointer (some ⟨N, 0, none⟩) ∧ (w.heap.size + 4 ≤ w1.heap.size ∧ w1.cell? ⟨w.heap.size, 0, none⟩ = some (.int .i64 a) ∧ w1.cell? ⟨w.heap.size, 1, none⟩ = some (.int .i64 b) ∧ w1.cell? ⟨w.heap.size, 2, none⟩ = some (.int .i64 c) ∧ w1.cell? ⟨w.heap.size + 1, 0, none⟩ = some (.int .i64 d) ∧ w1.cell? ⟨w.heap.size + 1, 1, none⟩ = some (.int .i64 e) ∧ w1.cell? ⟨w.heap.size + 1, 2, none⟩ = some (.int .i64 f) ∧ w1.cell? ⟨w.heap.size + 1 + 1, 0, none⟩ = some (.int .i64 g) ∧ w1.cell? ⟨w.heap.size + 1 + 1, 1, none⟩ = some (.int .i64 h) ∧ w1.cell? ⟨w.heap.size + 1 + 1, 2, none⟩ = some (.int .i64 i) ∧ w1.cell? ⟨w.heap.size + 1 + 1 + 1, 0, none⟩ = some (.int .i64 j) ∧ w1.cell? ⟨w.heap.size + 1 + 1 + 1, 1, none⟩ = some (.int .i64 k) ∧ w1.cell? ⟨w.heap.size + 1 + 1 + 1, 2, none⟩ = some (.int .i64 l)) ∧ w.heap.size + 4 ≤ N ∧ (w1.cell? ⟨N, 0, none⟩ = some (.int .i64 x0) ∧ w1.cell? ⟨N, 1, none⟩ = some (.int .i64 x1) ∧ w1.cell? ⟨N, 2, none⟩ = some (.int .i64 x2)) ∧ Below w.heap.size w w1)
    case first =>
      go_region_held3 (fun w' => w.heap.size + 4 ≤ w'.heap.size ∧ w'.cell? ⟨w.heap.size, 0, none⟩ = some (.int .i64 a) ∧ w'.cell? ⟨w.heap.size, 1, none⟩ = some (.int .i64 b) ∧ w'.cell? ⟨w.heap.size, 2, none⟩ = some (.int .i64 c) ∧ w'.cell? ⟨w.heap.size + 1, 0, none⟩ = some (.int .i64 d) ∧ w'.cell? ⟨w.heap.size + 1, 1, none⟩ = some (.int .i64 e) ∧ w'.cell? ⟨w.heap.size + 1, 2, none⟩ = some (.int .i64 f) ∧ w'.cell? ⟨w.heap.size + 1 + 1, 0, none⟩ = some (.int .i64 g) ∧ w'.cell? ⟨w.heap.size + 1 + 1, 1, none⟩ = some (.int .i64 h) ∧ w'.cell? ⟨w.heap.size + 1 + 1, 2, none⟩ = some (.int .i64 i) ∧ w'.cell? ⟨w.heap.size + 1 + 1 + 1, 0, none⟩ = some (.int .i64 j) ∧ w'.cell? ⟨w.heap.size + 1 + 1 + 1, 1, none⟩ = some (.int .i64 k) ∧ w'.cell? ⟨w.heap.size + 1 + 1 + 1, 2, none⟩ = some (.int .i64 l))
        (first | (go_split_ands; refine ⟨by go_size, ?_⟩; ((repeat' apply And.intro) <;> (repeat' (first | (with_reducible assumption) | (with_reducible refine keep_alloc ?_) | (with_reducible refine keep_drew ?_) | (with_reducible exact un_alloc1 (by go_size) (by with_reducible assumption)) | (with_reducible exact un_alloc2 (by go_size) (by with_reducible assumption)) | (with_reducible refine keep_setx (by omega) ?_) | (with_reducible refine keep_below hb1 (by go_size) ?_)))); done) | (refine ⟨by go_size, ?_⟩; ((repeat' apply And.intro) <;> (first | (with_reducible assumption) | go_simp)); done))
        (first | (go_at_call 66; (with_reducible refine (l08Plus_any _ _ _ _ _ _ _ _).mono ?_); rintro e w1 ⟨rfl, hb1⟩; obtain ⟨hc1, hf1, hz1, hn1⟩ := bstep 4 w hb1 (by go_size); obtain ⟨hg1, hi1, hy1, hx1⟩ := bfull hb1; try (refine bcomp (by assumption) hb1 ?_; intro hq hg2 hi2 hx2)) | (go_at_call 63; (with_reducible refine (l08Cross_any _ _ _ _ _ _ _).mono ?_); rintro e w1 ⟨rfl, hb1⟩; obtain ⟨hc1, hf1, hz1, hn1⟩ := bstep 4 w hb1 (by go_size); obtain ⟨hg1, hi1, hy1, hx1⟩ := bfull hb1; try (refine bcomp (by assumption) hb1 ?_; intro hq hg2 hi2 hx2)))
      all_goals
        go_wp2_with fail
        go_meet
        case rel =>
          simp only [CU.out, CV.out, CX.out]
          refine ⟨_, rfl, ?_, ?_, ?_, ?_⟩
          · (first | assumption | (first | (go_split_ands; refine ⟨by go_size, ?_⟩; ((repeat' apply And.intro) <;> (repeat' (first | (with_reducible assumption) | (with_reducible refine keep_alloc ?_) | (with_reducible refine keep_drew ?_) | (with_reducible exact un_alloc1 (by go_size) (by with_reducible assumption)) | (with_reducible exact un_alloc2 (by go_size) (by with_reducible assumption)) | (with_reducible refine keep_setx (by omega) ?_) | (with_reducible refine keep_below hb1 (by go_size) ?_)))); done) | (refine ⟨by go_size, ?_⟩; ((repeat' apply And.intro) <;> (first | (with_reducible assumption) | go_simp)); done)))
          · go_size
          · (repeat' apply And.intro) <;> go_simp
          · (repeat' (first | (with_reducible exact Below.refl _ _) | (with_reducible refine Below.alloc ?_ ?_ _) | (with_reducible refine Below.drew ?_) | (with_reducible refine below_drewN' ?_ _) | (with_reducible refine Below.setCell ?_ ?_ _) | (with_reducible refine Below.trans ?_ (Below.mono (by assumption) ?_)) | go_size))
    case rest =>
      obtain ⟨N, rfl, ⟨hsz, hs0, hs1, hs2, hs3, hs4, hs5, hs6, hs7, hs8, hs9, hs10, hs11⟩, hN1, ⟨hp0, hp1, hp2⟩, hB⟩ := hcut
      have hN2 : N < wc.heap.size := World.block_lt_of_cell? wc _ hp0
      have hl0 : w.heap.size < wc.heap.size := by omega
      have hl1 : w.heap.size + 1 < wc.heap.size := by omega
      have hl2 : w.heap.size + 1 + 1 < wc.heap.size := by omega
      have hl3 : w.heap.size + 1 + 1 + 1 < wc.heap.size := by omega
      go_wp2
      (refine wp_region_beyond (wc.heap.size + 0) (by kernel_rfl) (by kernel_rfl) (by go_size) (fun hBe => ?_); (repeat (first | go_big_quiet_step ((first | (go_at_call 67; exact beyond_of (l08Dot_any _ _ _ _ _ _ _)) | (go_at_call 66; exact beyond_of (l08Plus_any _ _ _ _ _ _ _ _)) | (go_at_call 51; exact beyond_of (l08Length_any _ _ _ _)))) | quiet_step ((first | (go_at_call 67; exact beyond_of (l08Dot_any _ _ _ _ _ _ _)) | (go_at_call 66; exact beyond_of (l08Plus_any _ _ _ _ _ _ _ _)) | (go_at_call 51; exact beyond_of (l08Length_any _ _ _ _)))))); refine wpQuiet_nil ?_; clear hBe; intro w1 hb1; obtain ⟨hc1, hf1, hz1, hn1⟩ := bstep 0 wc hb1 (by go_size))
      simp only [CT.out, CD.out, CN.out]
      go_wp2
      all_goals
        go_returns
        exact ⟨by rw [HR.out]; simp only [Bool.and_self, Bool.false_eq_true, if_true, if_false]; exact ret_t2 (by rw [← HSZ.out]; unfold sizeG; omega) rfl, by (repeat' (first | (with_reducible exact Below.refl _ _) | (with_reducible refine Below.alloc ?_ ?_ _) | (with_reducible refine Below.drew ?_) | (with_reducible refine below_drewN' ?_ _) | (with_reducible refine Below.setCell ?_ ?_ _) | (with_reducible refine Below.trans ?_ (Below.mono (by assumption) ?_)) | go_size))⟩
  · go_enter Try.func35, Try.ntmps35
    go_wp2_with (first | (go_at_call 50; (with_reducible refine (C1.out _).mono ?_); rintro e w1 ⟨rfl, hb1⟩; obtain ⟨hc1, hf1, hz1, hn1⟩ := bstep 4 w hb1 (by go_size)) | (go_at_call 50; (with_reducible refine (C2.out _).mono ?_); rintro e w1 ⟨rfl, hb1⟩; obtain ⟨hc1, hf1, hz1, hn1⟩ := bstep 4 w hb1 (by go_size)) | (go_at_call 50; (with_reducible refine (C3.out _).mono ?_); rintro e w1 ⟨rfl, hb1⟩; obtain ⟨hc1, hf1, hz1, hn1⟩ := bstep 4 w hb1 (by go_size)) | (go_at_call 50; (with_reducible refine (C4.out _).mono ?_); rintro e w1 ⟨rfl, hb1⟩; obtain ⟨hc1, hf1, hz1, hn1⟩ := bstep 4 w hb1 (by go_size)))
    go_cut [10] (fun pp w1 => ∃ N, pp = .pointer (some ⟨N, 0, none⟩) ∧ (w.heap.size + 4 ≤ w1.heap.size ∧ w1.cell? ⟨w.heap.size, 0, none⟩ = some (.int .i64 a) ∧ w1.cell? ⟨w.heap.size, 1, none⟩ = some (.int .i64 b) ∧ w1.cell? ⟨w.heap.size, 2, none⟩ = some (.int .i64 c) ∧ w1.cell? ⟨w.heap.size + 1, 0, none⟩ = some (.int .i64 d) ∧ w1.cell? ⟨w.heap.size + 1, 1, none⟩ = some (.int .i64 e) ∧ w1.cell? ⟨w.heap.size + 1, 2, none⟩ = some (.int .i64 f) ∧ w1.cell? ⟨w.heap.size + 1 + 1, 0, none⟩ = some (.int .i64 g) ∧ w1.cell? ⟨w.heap.size + 1 + 1, 1, none⟩ = some (.int .i64 h) ∧ w1.cell? ⟨w.heap.size + 1 + 1, 2, none⟩ = some (.int .i64 i) ∧ w1.cell? ⟨w.heap.size + 1 + 1 + 1, 0, none⟩ = some (.int .i64 j) ∧ w1.cell? ⟨w.heap.size + 1 + 1 + 1, 1, none⟩ = some (.int .i64 k) ∧ w1.cell? ⟨w.heap.size + 1 + 1 + 1, 2, none⟩ = some (.int .i64 l)) ∧ w.heap.size + 4 ≤ N ∧ (w1.cell? ⟨N, 0, none⟩ = some (.int .i64 x0) ∧ w1.cell? ⟨N, 1, none⟩ = some (.int .i64 x1) ∧ w1.cell? ⟨N, 2, none⟩ = some (.int .i64 x2)) ∧ Below w.heap.size w w1)
    case first =>
      go_region_held3 (fun w' => w.heap.size + 4 ≤ w'.heap.size ∧ w'.cell? ⟨w.heap.size, 0, none⟩ = some (.int .i64 a) ∧ w'.cell? ⟨w.heap.size, 1, none⟩ = some (.int .i64 b) ∧ w'.cell? ⟨w.heap.size, 2, none⟩ = some (.int .i64 c) ∧ w'.cell? ⟨w.heap.size + 1, 0, none⟩ = some (.int .i64 d) ∧ w'.cell? ⟨w.heap.size + 1, 1, none⟩ = some (.int .i64 e) ∧ w'.cell? ⟨w.heap.size + 1, 2, none⟩ = some (.int .i64 f) ∧ w'.cell? ⟨w.heap.size + 1 + 1, 0, none⟩ = some (.int .i64 g) ∧ w'.cell? ⟨w.heap.size + 1 + 1, 1, none⟩ = some (.int .i64 h) ∧ w'.cell? ⟨w.heap.size + 1 + 1, 2, none⟩ = some (.int .i64 i) ∧ w'.cell? ⟨w.heap.size + 1 + 1 + 1, 0, none⟩ = some (.int .i64 j) ∧ w'.cell? ⟨w.heap.size + 1 + 1 + 1, 1, none⟩ = some (.int .i64 k) ∧ w'.cell? ⟨w.heap.size + 1 + 1 + 1, 2, none⟩ = some (.int .i64 l))
        (first | (go_split_ands; refine ⟨by go_size, ?_⟩; ((repeat' apply And.intro) <;> (repeat' (first | (with_reducible assumption) | (with_reducible refine keep_alloc ?_) | (with_reducible refine keep_drew ?_) | (with_reducible exact un_alloc1 (by go_size) (by with_reducible assumption)) | (with_reducible exact un_alloc2 (by go_size) (by with_reducible assumption)) | (with_reducible refine keep_setx (by omega) ?_) | (with_reducible refine keep_below hb1 (by go_size) ?_)))); done) | (refine ⟨by go_size, ?_⟩; ((repeat' apply And.intro) <;> (first | (with_reducible assumption) | go_simp)); done))
        (first | (go_at_call 66; (with_reducible refine (l08Plus_any _ _ _ _ _ _ _ _).mono ?_); rintro e w1 ⟨rfl, hb1⟩; obtain ⟨hc1, hf1, hz1, hn1⟩ := bstep 4 w hb1 (by go_size); obtain ⟨hg1, hi1, hy1, hx1⟩ := bfull hb1; try (refine bcomp (by assumption) hb1 ?_; intro hq hg2 hi2 hx2)) | (go_at_call 63; (with_reducible refine (l08Cross_any _ _ _ _ _ _ _).mono ?_); rintro e w1 ⟨rfl, hb1⟩; obtain ⟨hc1, hf1, hz1, hn1⟩ := bstep 4 w hb1 (by go_size); obtain ⟨hg1, hi1, hy1, hx1⟩ := bfull hb1; try (refine bcomp (by assumption) hb1 ?_; intro hq hg2 hi2 hx2)))
      all_goals
        go_wp2_with fail
        go_meet
        case rel =>
          simp only [CU.out, CV.out, CX.out]
          refine ⟨_, rfl, ?_, ?_, ?_, ?_⟩
          · (first | assumption | (first | (go_split_ands; refine ⟨by go_size, ?_⟩; ((repeat' apply And.intro) <;> (repeat' (first | (with_reducible assumption) | (with_reducible refine keep_alloc ?_) | (with_reducible refine keep_drew ?_) | (with_reducible exact un_alloc1 (by go_size) (by with_reducible assumption)) | (with_reducible exact un_alloc2 (by go_size) (by with_reducible assumption)) | (with_reducible refine keep_setx (by omega) ?_) | (with_reducible refine keep_below hb1 (by go_size) ?_)))); done) | (refine ⟨by go_size, ?_⟩; ((repeat' apply And.intro) <;> (first | (with_reducible assumption) | go_simp)); done)))
          · go_size
          · (repeat' apply And.intro) <;> go_simp
          · (repeat' (first | (with_reducible exact Below.refl _ _) | (with_reducible refine Below.alloc ?_ ?_ _) | (with_reducible refine Below.drew ?_) | (with_reducible refine below_drewN' ?_ _) | (with_reducible refine Below.setCell ?_ ?_ _) | (with_reducible refine Below.trans ?_ (Below.mono (by assumption) ?_)) | go_size))
    case rest =>
      obtain ⟨N, rfl, ⟨hsz, hs0, hs1, hs2, hs3, hs4, hs5, hs6, hs7, hs8, hs9, hs10, hs11⟩, hN1, ⟨hp0, hp1, hp2⟩, hB⟩ := hcut
      have hN2 : N < wc.heap.size := World.block_lt_of_cell? wc _ hp0
      have hl0 : w.heap.size < wc.heap.size := by omega
      have hl1 : w.heap.size + 1 < wc.heap.size := by omega
      have hl2 : w.heap.size + 1 + 1 < wc.heap.size := by omega
      have hl3 : w.heap.size + 1 + 1 + 1 < wc.heap.size := by omega
      go_wp2
      go_returns
      exact ⟨by rw [HR.out]; rfl, by (repeat' (first | (with_reducible exact Below.refl _ _) | (with_reducible refine Below.alloc ?_ ?_ _) | (with_reducible refine Below.drew ?_) | (with_reducible refine below_drewN' ?_ _) | (with_reducible refine Below.setCell ?_ ?_ _) | (with_reducible refine Below.trans ?_ (Below.mono (by assumption) ?_)) | go_size))⟩
  all_goals
    go_enter Try.func35, Try.ntmps35
    go_wp2_with (first | (go_at_call 50; (with_reducible refine (C1.out _).mono ?_); rintro e w1 ⟨rfl, hb1⟩; obtain ⟨hc1, hf1, hz1, hn1⟩ := bstep 4 w hb1 (by go_size)) | (go_at_call 50; (with_reducible refine (C2.out _).mono ?_); rintro e w1 ⟨rfl, hb1⟩; obtain ⟨hc1, hf1, hz1, hn1⟩ := bstep 4 w hb1 (by go_size)) | (go_at_call 50; (with_reducible refine (C3.out _).mono ?_); rintro e w1 ⟨rfl, hb1⟩; obtain ⟨hc1, hf1, hz1, hn1⟩ := bstep 4 w hb1 (by go_size)) | (go_at_call 50; (with_reducible refine (C4.out _).mono ?_); rintro e w1 ⟨rfl, hb1⟩; obtain ⟨hc1, hf1, hz1, hn1⟩ := bstep 4 w hb1 (by go_size)))
    go_returns
    exact ⟨by rw [HR.out]; simp, by (repeat' (first | (with_reducible exact Below.refl _ _) | (with_reducible refine Below.alloc ?_ ?_ _) | (with_reducible refine Below.drew ?_) | (with_reducible refine below_drewN' ?_ _) | (with_reducible refine Below.setCell ?_ ?_ _) | (with_reducible refine Below.trans ?_ (Below.mono (by assumption) ?_)) | go_size))⟩
end Go.Proofs.Ytoldicmobenhaaa
