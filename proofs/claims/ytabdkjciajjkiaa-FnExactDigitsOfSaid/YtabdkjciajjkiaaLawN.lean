/-
  The walk of the law of digits: the call returns true, and nothing that lay before has turned. Condition: none but the kinds' bounds.
-/
import Derived.Test.YtabdkjciajjkiaaCdg
namespace Go.Proofs.Ytabdkjciajjkiaa
open Go.RowKit
set_option maxHeartbeats 1000000
theorem digL_len : ∀ (n : Nat) (x y z : Int) (r : List (Int × Int) × Int × Int × Int), digL n x y z = some r → r.1.length ≤ n
  | 0, x, y, z, r, h => by
    rw [digL] at h
    split at h
    · cases h
    · cases h; exact Nat.le_refl _
  | n + 1, x, y, z, r, h => by
    rw [digL] at h
    split at h
    · obtain ⟨r', h1, h2⟩ := Option.map_eq_some_iff.1 h
      cases h2
      have := digL_len n _ _ _ r' h1
      simp; omega
    · cases h; simp
theorem digR_len (a b c : Int) : (digR a b c).1.length ≤ 60 := by
  unfold digR
  split
  · split
    · simp
    · cases h : digL 60 a b c with
      | none => simp
      | some r => exact digL_len 60 a b c r h
  · simp
theorem rows_tot : ∀ {rs : List Rw} {ds : List (Int × Int)}, rs.map (·.xs) = rowsD ds → tot rs = 2 * ds.length
  | [], [], _ => rfl
  | r :: rs, d :: ds, h => by
    simp only [rowsD, List.map_cons, List.cons.injEq] at h
    have := rows_tot (rs := rs) (ds := ds) h.2
    simp only [tot, h.1, this, List.length_cons, List.length_nil]
    omega
  | [], _ :: _, h => by simp [rowsD] at h
  | _ :: _, [], h => by simp [rowsD] at h
theorem rows_lenB {rs : List Rw} {m : Nat} (h : tot rs ≤ m) : lenB rs m := fun _ hr => Nat.le_trans (tot_mem hr) h
theorem C3.keepB {B : Nat} {W W1 : World} {h : Nat} {x y z : Int} (k : C3 W h x y z) (hb : Below B W W1) (hl : h < B) : C3 W1 h x y z := ⟨cell_keepB hb hl k.1, cell_keepB hb hl k.2.1, cell_keepB hb hl k.2.2⟩
theorem C3.new (W : World) (T : TypeId) (x y z : Int) : C3 (W.alloc (.cells #[.int .i64 x, .int .i64 y, .int .i64 z] T)) W.heap.size x y z := by
  refine ⟨?_, ?_, ?_⟩ <;> simp
theorem FnExactDigitsOf_walk (a0_0 a0_1 a0_2 : Int) (w : World) (_g0_0 : -9223372036854775808 ≤ a0_0 ∧ a0_0 ≤ 9223372036854775807) (_g0_1 : -9223372036854775808 ≤ a0_1 ∧ a0_1 ≤ 9223372036854775807) (_g0_2 : -9223372036854775808 ≤ a0_2 ∧ a0_2 ≤ 9223372036854775807) :
    Calls Try.prog 5 #[.agg #[.int .i64 a0_0, .int .i64 a0_1, .int .i64 a0_2]] w fun e w' => e = .returned (.bool true) ∧ Below w.heap.size w w' := by
  clear _g0_0 _g0_1 _g0_2
  have hn := digR_len a0_0 a0_1 a0_2
  have hsp := fun W => specDig_any a0_0 a0_1 a0_2 W
  have hip := fun W => implDig_any a0_0 a0_1 a0_2 W
  obtain ⟨⟨ds, ⟨x, y, z⟩, rc⟩, hr⟩ : ∃ r, digR a0_0 a0_1 a0_2 = r := ⟨_, rfl⟩
  rw [hr] at hn hsp hip
  dsimp only [DigP] at hn hsp hip
  have HS := Lib.hid hsp
  have HI := Lib.hid hip
  clear hsp hip hr
  go_enter Try.func5, Try.ntmps5
  go_wp2_with fail
  refine (toTriple_any _ _ _ _).mono ?_
  rintro e w1 ⟨rfl, hb1⟩
  have k1 := ((Below.refl w.heap.size w).alloc (Nat.le_refl _) _).trans (hb1.mono (by go_size))
  have q1 : C3 w1 w.heap.size a0_0 a0_1 a0_2 := (C3.new w _ _ _ _).below hb1
  have z1 : w.heap.size + 1 ≤ w1.heap.size := by have := hb1.size; simp at this; omega
  go_wp2_with fail
  refine (HS.out _).mono ?_
  rintro e w2 ⟨⟨A1, c1, rs1, rfl, hI1, hx1, _⟩, hb2⟩
  have k2 := k1.trans (hb2.mono k1.size)
  have q2 := q1.below hb2
  have z2 : w.heap.size + 1 ≤ w2.heap.size := by have := hb2.size; omega
  obtain ⟨qa, qb, qc⟩ := q2
  have q2 : C3 w2 w.heap.size a0_0 a0_1 a0_2 := ⟨qa, qb, qc⟩
  have hd2 : w.heap.size < w2.heap.size := by omega
  go_wp2_with fail
  refine (toTriple_any _ _ _ _).mono ?_
  clear qa qb qc
  rintro e w3 ⟨rfl, hb3⟩
  have hI1 := (hI1.keep (Below.alloc (Below.refl _ _) (Nat.le_refl _) _)).keep hb3
  have k3 := (k2.alloc k2.size _).trans (hb3.mono (by have := k2.size; simp; omega))
  have q3 : C3 w3 w.heap.size a0_0 a0_1 a0_2 := (q2.below (Below.alloc (Below.refl _ _) (Nat.le_refl _) _)).below hb3
  have u3 : C3 w3 w2.heap.size x y z := (C3.new w2 _ _ _ _).below hb3
  have z3 : w2.heap.size + 1 ≤ w3.heap.size := by have := hb3.size; simp at this; omega
  go_wp2_with fail
  refine (HI.out _).mono ?_
  rintro e w4 ⟨⟨A2, c2, rs2, rfl, hI2, hx2, hA2⟩, hb4⟩
  have k4 := k3.trans (hb4.mono k3.size)
  have j4 := hb4
  have q4 := q3.below hb4
  have u4 := u3.below hb4
  have z4 : w3.heap.size ≤ w4.heap.size := hb4.size
  have al4 : ∀ o, Below w4.heap.size w4 (w4.alloc o) := fun o => Below.alloc (Below.refl _ _) (Nat.le_refl _) o
  have ht1 := rows_tot hx1
  have ht2 := rows_tot hx2
  have HI1 := Lib.hid (hI1.keep j4)
  have HI13 := Lib.hid hI1
  have HI2 := Lib.hid hI2
  have HX1 := Lib.hid hx1
  have HX2 := Lib.hid hx2
  have HA2 := Lib.hid hA2
  clear hI1 hI2 hx1 hx2 hA2
  go_wp2_with fail
  refine (eqInt64SS_same A2 A1 _ _ _ rs2 rs1 _ (HI2.out.keep (al4 _)) (HI1.out.keep (al4 _)) (HX2.out.trans HX1.out.symm) (by omega) (rows_lenB (by omega))).mono ?_
  rintro e w5 ⟨rfl, hb5⟩
  have bb5 := (al4 (.cells #[.int .i64 x, .int .i64 y, .int .i64 z] 25)).trans (hb5.mono (by simp))
  have k5 := k4.trans (bb5.mono k4.size)
  have j5 := j4.trans (bb5.mono j4.size)
  have q5 := q4.below bb5
  have u5 := u4.below bb5
  have v5 : C3 w5 w4.heap.size x y z := (C3.new w4 _ _ _ _).below hb5
  have z5 : w4.heap.size + 1 ≤ w5.heap.size := by have := hb5.size; simp at this; omega
  obtain ⟨ua, ub, uc⟩ := u5
  obtain ⟨va, vb, vc⟩ := v5
  go_wp2_with fail
  refine (eqTriple_same _ _ _ _).mono ?_
  rintro e w6 ⟨rfl, hb6⟩
  have k6 := k5.trans (hb6.mono k5.size)
  have j6 := j5.trans (hb6.mono j5.size)
  have q6 := q5.below hb6
  have u6 : C3 w6 w2.heap.size x y z := C3.below ⟨ua, ub, uc⟩ hb6
  have z6 : w5.heap.size ≤ w6.heap.size := hb6.size
  clear ua ub uc va vb vc
  have hI26 := (HI2.out.keep bb5).keep hb6
  have hA26 : Apart w3.heap.size w6 A2 rs2 := ⟨fun r hr => ((HA2.out.1 r hr).keep bb5).keep hb6, HA2.out.2⟩
  go_wp2_with fail
  refine (markInt64SS_any A2 _ _ w3.heap.size rs2 1 _ hI26 hA26 (by omega) ⟨by omega, by omega⟩ (rows_lenB (by omega))).mono ?_
  rintro e w7 ⟨rfl, hM, _, hb7⟩
  have k7 := k6.trans (hb7.mono k3.size)
  have j7 := j6.trans hb7
  have q7 : C3 w7 w.heap.size a0_0 a0_1 a0_2 := q6.keepB hb7 (by omega)
  have u7 : C3 w7 w2.heap.size x y z := u6.keepB hb7 (by omega)
  have z7 : w6.heap.size ≤ w7.heap.size := hb7.size
  have HM := Lib.hid hM
  clear hM hI26 hA26
  obtain ⟨tt, htt⟩ : ∃ n, tot rs2 = n := ⟨_, rfl⟩
  have hh := fun W (h : RSl W A2 ds.length (markR 1 rs2)) => heldInt64SS_any A2 ds.length c2 rs2 1 W h (by omega) ⟨by omega, by omega⟩ (rows_lenB (m := 281474976710656) (by omega))
  have htb : tt ≤ 120 := by omega
  rw [htt] at hh
  rw [htt]
  have HH := Lib.hid hh
  clear hh htt ht2
  have hneg : decide (1 + (tt : Int) < 0) = false := by simp; omega
  go_wp2_with fail
  refine (HH.out _ HM.out).mono ?_
  rintro e w8 ⟨rfl, hb8⟩
  have k8 := k7.trans (hb8.mono k7.size)
  have j8 := j7.trans (hb8.mono j7.size)
  have m8 := hb8
  have q8 := q7.below hb8
  have u8 := u7.below hb8
  obtain ⟨qa, qb, qc⟩ := q8
  go_wp2_with fail
  refine (toTriple_any _ _ _ _).mono ?_
  rintro e w9 ⟨rfl, hb9⟩
  have k9 := k8.trans (hb9.mono k8.size)
  have j9 := j8.trans (hb9.mono j8.size)
  have m9 := m8.trans (hb9.mono m8.size)
  have u9 := u8.below hb9
  clear qa qb qc
  go_wp2_with fail
  refine (HI.out _).mono ?_
  rintro e w10 ⟨⟨A3, c3, rs3, rfl, hI3, hx3, _⟩, hb10⟩
  have k10 := k9.trans (hb10.mono k9.size)
  have j10 := j9.trans (hb10.mono j9.size)
  have m10 := m9.trans (hb10.mono m9.size)
  have u10 := u9.below hb10
  have al10 : ∀ o, Below w10.heap.size w10 (w10.alloc o) := fun o => Below.alloc (Below.refl _ _) (Nat.le_refl _) o
  have ht3 := rows_tot hx3
  have HI3 := Lib.hid hI3
  have HX3 := Lib.hid hx3
  clear hI3 hx3
  have z10 : w2.heap.size < w10.heap.size := by have := j10.size; omega
  go_wp2_with fail
  refine (eqInt64SS_same A3 A1 _ _ _ rs3 rs1 _ (HI3.out.keep (al10 _)) ((HI13.out.keep j10).keep (al10 _)) (HX3.out.trans HX1.out.symm) (by omega) (rows_lenB (by omega))).mono ?_
  rintro e w11 ⟨rfl, hb11⟩
  have bb11 := (al10 (.cells #[.int .i64 x, .int .i64 y, .int .i64 z] 25)).trans (hb11.mono (by simp))
  have k11 := k10.trans (bb11.mono k10.size)
  have m11 := m10.trans (bb11.mono m10.size)
  have u11 := u10.below bb11
  have v11 : C3 w11 w10.heap.size x y z := (C3.new w10 _ _ _ _).below hb11
  obtain ⟨ua, ub, uc⟩ := u11
  obtain ⟨va, vb, vc⟩ := v11
  go_wp2_with fail
  refine (eqTriple_same _ _ _ _).mono ?_
  rintro e w12 ⟨rfl, hb12⟩
  have k12 := k11.trans (hb12.mono k11.size)
  have m12 := m11.trans (hb12.mono m11.size)
  clear ua ub uc va vb vc
  go_wp2_with fail
  refine (HH.out _ (HM.out.keep m12)).mono ?_
  rintro e w13 ⟨rfl, hb13⟩
  have k13 := k12.trans (hb13.mono k12.size)
  clear hb1 hb2 hb3 hb4 hb5 hb6 hb7 hb8 hb9 hb10 hb11 hb12
  go_wp2
  go_returns
  exact ⟨rfl, k13⟩
end Go.Proofs.Ytabdkjciajjkiaa
