/-
  Matrices of words, by the program. Conditions: the sizes, as each says.
-/
import Derived.Test.YtajjoihfccnfhaaDoorCwd
import Derived.Test.YtajjoihfccnfhaaDoorCmw
namespace Go.Proofs.YtajjoihfccnfhaaDoor
open Go.RowKit
set_option maxHeartbeats 2000000
theorem sub_one (s : ByteArray) (k : Nat) (hk : k < s.size) : (s.extract k (k + 1)).data.toList = [s[k]] := by
  have hlen : s.data.toList.length = s.size := Array.length_toList
  rw [ByteArray.data_extract, Array.toList_extract, List.extract_eq_take_drop, show k + 1 - k = 1 by omega, List.drop_eq_getElem_cons (by rw [hlen]; exact hk)]
  rfl
theorem implMW_any (s : ByteArray) (hs : s.size ≤ 1048576) (w : World) : Calls Tryd.prog 14 #[.string s] w fun e w' =>
    e = .returned (.tuple #[.agg #[.int .i64 (wmR s.data.toList).1, .int .i64 (wmR s.data.toList).2.1, .int .i64 (wmR s.data.toList).2.2.1, .int .i64 (wmR s.data.toList).2.2.2.1], .int .i64 (wmR s.data.toList).2.2.2.2]) ∧ Below w.heap.size w w' := by
  have hlen : s.data.toList.length = s.size := Array.length_toList
  have h1 := fun W => isWord_any s hs W
  unfold wmR
  cases e1 : wordB s.data.toList
  · rw [if_neg (by decide)]
    rw [e1] at h1
    have H1 := Lib.hid h1
    clear h1 e1 hlen
    go_enter Tryd.func14, Tryd.ntmps14
    go_wp2_with (go_at_call 41; go_must ((with_reducible refine (H1.out _).mono ?_)); rintro e w1 ⟨rfl, hb1⟩; obtain ⟨hc1, hf1, hz1, hn1⟩ := bstep 1 w hb1 (by go_size); (try (refine gcut (p := (w1.cell? ⟨w.heap.size, 0, none⟩ = some (.int .i64 0) ∧ w1.cell? ⟨w.heap.size, 1, none⟩ = some (.int .i64 0) ∧ w1.cell? ⟨w.heap.size, 2, none⟩ = some (.int .i64 0) ∧ w1.cell? ⟨w.heap.size, 3, none⟩ = some (.int .i64 0)) ∧ (w1.frozen? ⟨w.heap.size, 0, none⟩ = false ∧ w1.frozen? ⟨w.heap.size, 1, none⟩ = false ∧ w1.frozen? ⟨w.heap.size, 2, none⟩ = false ∧ w1.frozen? ⟨w.heap.size, 3, none⟩ = false) ∧ w.heap.size < w1.heap.size ∧ ¬ w1.heap.size = w.heap.size) ?_ ?_; (focus (refine ⟨?_, ?_, ?_, ?_⟩; (focus (((repeat' apply And.intro) <;> (repeat' (first | (with_reducible assumption) | (with_reducible refine keep_drew ?_) | (with_reducible refine keep_setx (by omega) ?_) | (with_reducible refine keep_hc (by with_reducible assumption) (by omega) ?_) | (focus (go_simp; done)) | (with_reducible refine keep_alloc ?_)))); done)); (focus (((repeat' apply And.intro) <;> (repeat' (first | (with_reducible assumption) | (with_reducible refine fz_drew ?_) | (with_reducible refine fz_set ?_) | (with_reducible refine fz_hc (by with_reducible assumption) (by omega) ?_) | (focus (go_simp; done)) | (with_reducible refine fz_alloc ?_ ?_) | go_size))); done)); (focus (go_size; done)); (focus (go_size; done)))); rintro ⟨⟨q0, q1, q2, q3⟩, ⟨qf0, qf1, qf2, qf3⟩, qs, qn⟩)))
    refine post_gen4 (G := fun W => (W.cell? ⟨w.heap.size, 0, none⟩ = some (.int .i64 0) ∧ W.cell? ⟨w.heap.size, 1, none⟩ = some (.int .i64 0) ∧ W.cell? ⟨w.heap.size, 2, none⟩ = some (.int .i64 0) ∧ W.cell? ⟨w.heap.size, 3, none⟩ = some (.int .i64 0)) ∧ Below w.heap.size w W) ⟨set4 _ _ _ _ q0 q1 q2 q3, by (repeat' (first | (with_reducible exact Below.refl _ _) | (with_reducible refine Below.alloc ?_ ?_ _) | (with_reducible refine Below.drew ?_) | (with_reducible refine below_drewN' ?_ _) | (with_reducible refine Below.setCell ?_ ?_ _) | (with_reducible refine Below.trans ?_ (Below.mono (by assumption) ?_)) | go_size))⟩ ?_
    rintro W2 ⟨⟨z0, z1, z2, z3⟩, hBB⟩
    refine bodyPost_ret (v := .tuple #[.agg #[.int .i64 0, .int .i64 0, .int .i64 0, .int .i64 0], .int .i64 2]) (by simp [results, Tryd.results14, go_sem, *]) rfl ?_
    exact ⟨rfl, hBB⟩
  · rw [if_pos rfl]
    obtain ⟨hl, hall⟩ := wordB_iff.1 e1
    rw [e1] at h1
    have H1 := Lib.hid h1
    have HALL := Lib.hid hall
    have h200 : s.size ≤ 200 := by omega
    obtain ⟨G, hG⟩ : ∃ G, wgo (1, 0, 0, 1) s.data.toList = G := ⟨_, rfl⟩
    rw [hG]
    have HG0 := Lib.hid hG
    clear h1 e1 hl hall hG
    go_enter Tryd.func14, Tryd.ntmps14
    go_wp2_with (first
      | (go_at_call 41; go_must ((with_reducible refine (H1.out _).mono ?_)); rintro e w1 ⟨rfl, hb1⟩; obtain ⟨hc1, hf1, hz1, hn1⟩ := bstep 1 w hb1 (by go_size); (try (refine gcut (p := (w1.cell? ⟨w.heap.size, 0, none⟩ = some (.int .i64 0) ∧ w1.cell? ⟨w.heap.size, 1, none⟩ = some (.int .i64 0) ∧ w1.cell? ⟨w.heap.size, 2, none⟩ = some (.int .i64 0) ∧ w1.cell? ⟨w.heap.size, 3, none⟩ = some (.int .i64 0)) ∧ (w1.frozen? ⟨w.heap.size, 0, none⟩ = false ∧ w1.frozen? ⟨w.heap.size, 1, none⟩ = false ∧ w1.frozen? ⟨w.heap.size, 2, none⟩ = false ∧ w1.frozen? ⟨w.heap.size, 3, none⟩ = false) ∧ w.heap.size < w1.heap.size ∧ ¬ w1.heap.size = w.heap.size) ?_ ?_; (focus (refine ⟨?_, ?_, ?_, ?_⟩; (focus (((repeat' apply And.intro) <;> (repeat' (first | (with_reducible assumption) | (with_reducible refine keep_drew ?_) | (with_reducible refine keep_setx (by omega) ?_) | (with_reducible refine keep_hc (by with_reducible assumption) (by omega) ?_) | (focus (go_simp; done)) | (with_reducible refine keep_alloc ?_)))); done)); (focus (((repeat' apply And.intro) <;> (repeat' (first | (with_reducible assumption) | (with_reducible refine fz_drew ?_) | (with_reducible refine fz_set ?_) | (with_reducible refine fz_hc (by with_reducible assumption) (by omega) ?_) | (focus (go_simp; done)) | (with_reducible refine fz_alloc ?_ ?_) | go_size))); done)); (focus (go_size; done)); (focus (go_size; done)))); rintro ⟨⟨q0, q1, q2, q3⟩, ⟨qf0, qf1, qf2, qf3⟩, qs, qn⟩)))
      | (go_at_call 42; go_must ((with_reducible refine (unit_any _).mono ?_)); rintro e w2 ⟨rfl, hb2⟩; obtain ⟨hc2, hf2, hz2, hn2⟩ := bstep 1 w hb2 (by go_size); (try (refine gcut (p := (w2.cell? ⟨w.heap.size, 0, none⟩ = some (.int .i64 0) ∧ w2.cell? ⟨w.heap.size, 1, none⟩ = some (.int .i64 0) ∧ w2.cell? ⟨w.heap.size, 2, none⟩ = some (.int .i64 0) ∧ w2.cell? ⟨w.heap.size, 3, none⟩ = some (.int .i64 0)) ∧ (w2.frozen? ⟨w.heap.size, 0, none⟩ = false ∧ w2.frozen? ⟨w.heap.size, 1, none⟩ = false ∧ w2.frozen? ⟨w.heap.size, 2, none⟩ = false ∧ w2.frozen? ⟨w.heap.size, 3, none⟩ = false) ∧ w.heap.size < w2.heap.size ∧ ¬ w2.heap.size = w.heap.size) ?_ ?_; (focus (refine ⟨?_, ?_, ?_, ?_⟩; (focus (((repeat' apply And.intro) <;> (repeat' (first | (with_reducible assumption) | (with_reducible refine keep_drew ?_) | (with_reducible refine keep_setx (by omega) ?_) | (with_reducible refine keep_hc (by with_reducible assumption) (by omega) ?_) | (focus (go_simp; done)) | (with_reducible refine keep_alloc ?_)))); done)); (focus (((repeat' apply And.intro) <;> (repeat' (first | (with_reducible assumption) | (with_reducible refine fz_drew ?_) | (with_reducible refine fz_set ?_) | (with_reducible refine fz_hc (by with_reducible assumption) (by omega) ?_) | (focus (go_simp; done)) | (with_reducible refine fz_alloc ?_ ?_) | go_size))); done)); (focus (go_size; done)); (focus (go_size; done)))); rintro ⟨⟨r0, r1, r2, r3⟩, ⟨rf0, rf1, rf2, rf3⟩, rs, rn⟩))))
    go_loopw [13] (fun i W => ∃ (k : Nat) (a b c d : Int), i = .int .i64 k ∧ k ≤ s.size ∧ wgo (a, b, c, d) (s.data.toList.drop k) = G ∧ MI w W w2.heap.size a b c d) (fun i _ => s.size - (intOf i).toNat)
    case atStart =>
      refine ⟨0, 1, 0, 0, 1, rfl, Nat.zero_le _, HG0.out, ⟨⟨keep_alloc r0, keep_alloc r1, keep_alloc r2, keep_alloc r3⟩, by (focus (((repeat' apply And.intro) <;> (repeat' (first | (with_reducible assumption) | (with_reducible refine keep_drew ?_) | (with_reducible refine keep_setx (by omega) ?_) | (with_reducible refine keep_hc (by with_reducible assumption) (by omega) ?_) | (focus (go_simp; done)) | (with_reducible refine keep_alloc ?_)))); done)), fun j => ?_, fun j => by go_simp, by omega, by go_size, by (repeat' (first | (with_reducible exact Below.refl _ _) | (with_reducible refine Below.alloc ?_ ?_ _) | (with_reducible refine Below.drew ?_) | (with_reducible refine below_drewN' ?_ _) | (with_reducible refine Below.setCell ?_ ?_ _) | (with_reducible refine Below.trans ?_ (Below.mono (by assumption) ?_)) | go_size))⟩⟩
      exact fz_alloc (fz_hc hf2 (by omega) (fz_hc hf1 (by omega) (by go_simp))) (by omega)
    case round =>
      obtain ⟨k, a, b, c, d, rfl, hk, hg, hM⟩ := hrel
      have HG := Lib.hid hg
      have HM := Lib.hid hM
      obtain ⟨⟨r0, r1, r2, r3⟩, ⟨m0, m1, m2, m3⟩, hrf, hmf, hlt, hln, hB⟩ := hM
      have f0 := hrf 0
      have f1 := hrf 1
      have f2 := hrf 2
      have f3 := hrf 3
      clear hg hrf hmf
      by_cases hin : k < s.size
      · have hini : (k : Int) < (s.size : Int) := by omega
        have hds : s.data.toList.drop k = s[k] :: s.data.toList.drop (k + 1) := by
          rw [List.drop_eq_getElem_cons (by rw [hlen]; exact hin)]; rfl
        have hgn := HG.out
        rw [hds] at hgn
        have hl := fun W => letter_any (s.extract k (k + 1)) s[k] (sub_one s k hin) W
        obtain ⟨⟨e, f, g, h⟩, hlt⟩ : ∃ P, ltr s[k] = P := ⟨_, rfl⟩
        obtain ⟨⟨p, q, r, t⟩, hp⟩ : ∃ P, mulG (a, b, c, d) (e, f, g, h) = P := ⟨_, rfl⟩
        have hpl : mulG (a, b, c, d) (ltr s[k]) = (p, q, r, t) := by rw [hlt]; exact hp
        rw [hlt] at hl
        dsimp only at hl
        have ht := fun W => implTimesG hp W
        have hm := fun W => IsMatrix_any p q r t W
        have hbad := fun h => (wgo_bad (r := s.data.toList.drop (k + 1)) hpl h).symm.trans hgn
        have hgood := fun h => (wgo_good (r := s.data.toList.drop (k + 1)) hpl h).symm.trans hgn
        have hmo : mOk (p, q, r, t) = ppB p q r t := rfl
        rw [hmo] at hbad hgood
        obtain ⟨z, hz⟩ : ∃ z, ppB p q r t = z := ⟨_, rfl⟩
        rw [hz] at hm hbad hgood
        have HT := Lib.hid ht
        have HQ := Lib.hid hm
        have HL := Lib.hid hl
        have HBAD := Lib.hid hbad
        have HGOOD := Lib.hid hgood
        clear hp hpl ht hm hl hbad hgood hmo hz hds hgn hlt
        have ew2 : wrap64 ((k : Int) + 1) = (k : Int) + 1 := by unfold wrap64; omega
        have ew3 : IntKind.i64.wrap ((k : Int) + 1) = (k : Int) + 1 := by rw [wrapEq]; exact ew2
        have w1' : (0 : Int) ≤ (k : Int) := by omega
        have w2' : (k : Int) ≤ (k : Int) + 1 := by omega
        have w3' : (k : Int) + 1 ≤ (s.size : Int) := by omega
        have w4' : k ≤ k + 1 := by omega
        have w5' : k + 1 ≤ s.size := by omega
        go_upto_region 7 with fail
        go_cut [5] from 16 to 23 (fun _ W => MI w W w2.heap.size p q r t)
        case first =>
          go_region_with (first
              | (go_at_call 44; (with_reducible refine (HL.out _).mono ?_); rintro en w3 ⟨rfl, hb3⟩; (first | (have HM3 := Lib.hid (HM.out.below hb3)) | (have HM3 := Lib.hid (HM.out.drew.below hb3)) | (have HM3 := Lib.hid ((HM.out.drewN _).below hb3))); obtain ⟨x0, x1, x2, x3⟩ := HM3.out.m)
              | (go_at_call 43; (with_reducible refine (HT.out _).mono ?_); rintro en w4 ⟨rfl, hb4⟩; (first | (have HM4 := Lib.hid (HM3.out.below hb4)) | (have HM4 := Lib.hid (HM3.out.drew.below hb4)) | (have HM4 := Lib.hid ((HM3.out.drewN _).below hb4))); obtain ⟨y0, y1, y2, y3⟩ := HM4.out.m; have g0 := HM4.out.mf 0; have g1 := HM4.out.mf 1; have g2 := HM4.out.mf 2; have g3 := HM4.out.mf 3))
          all_goals (go_wp2_with fail; go_meet)
          all_goals exact HM4.out.store p q r t
        case rest =>
          clear r0 r1 r2 r3 m0 m1 m2 m3 hB f0 f1 f2 f3
          have HM2 := Lib.hid hcut
          obtain ⟨m0, m1, m2, m3⟩ := hcut.m
          clear hcut
          cases z
          · obtain rfl := HBAD.out rfl
            go_wp2_with (first | (go_at_call 45; go_must ((with_reducible refine (HQ.out _).mono ?_)); rintro en w3 ⟨rfl, hb3⟩; have HM3 := Lib.hid (HM2.out.below hb3); obtain ⟨x0, x1, x2, x3⟩ := HM3.out.r; have y0 := HM3.out.rf 0; have y1 := HM3.out.rf 1; have y2 := HM3.out.rf 2; have y3 := HM3.out.rf 3))
            refine post_gen4 (G := fun W => (W.cell? ⟨w.heap.size, 0, none⟩ = some (.int .i64 0) ∧ W.cell? ⟨w.heap.size, 1, none⟩ = some (.int .i64 0) ∧ W.cell? ⟨w.heap.size, 2, none⟩ = some (.int .i64 0) ∧ W.cell? ⟨w.heap.size, 3, none⟩ = some (.int .i64 0)) ∧ Below w.heap.size w W) ⟨set4 _ _ _ _ x0 x1 x2 x3, mi_beyond (mi_beyond (mi_beyond (mi_beyond HM3.out.b (Nat.le_refl _)) (Nat.le_refl _)) (Nat.le_refl _)) (Nat.le_refl _)⟩ ?_
            rintro W2 ⟨⟨z0, z1, z2, z3⟩, hBB⟩
            refine bodyPost_ret (v := .tuple #[.agg #[.int .i64 0, .int .i64 0, .int .i64 0, .int .i64 0], .int .i64 3]) (by simp [results, Tryd.results14, go_sem, *]) rfl ?_
            exact ⟨rfl, hBB⟩
          · go_wp2_with (first | (go_at_call 45; go_must ((with_reducible refine (HQ.out _).mono ?_)); rintro en w3 ⟨rfl, hb3⟩; have HM3 := Lib.hid (HM2.out.below hb3)))
            exact ⟨⟨k + 1, p, q, r, t, by go_num, by omega, HGOOD.out trivial, HM3.out⟩, by simp [intOf]; omega⟩
      · obtain rfl : k = s.size := by omega
        have hfin := HG.out
        rw [show s.data.toList.drop s.size = [] from List.drop_eq_nil_of_le (Nat.le_of_eq hlen)] at hfin
        unfold wgo at hfin
        subst hfin
        go_wp2
        refine post_gen4 (G := fun W => (W.cell? ⟨w.heap.size, 0, none⟩ = some (.int .i64 a) ∧ W.cell? ⟨w.heap.size, 1, none⟩ = some (.int .i64 b) ∧ W.cell? ⟨w.heap.size, 2, none⟩ = some (.int .i64 c) ∧ W.cell? ⟨w.heap.size, 3, none⟩ = some (.int .i64 d)) ∧ Below w.heap.size w W) ⟨set4 _ _ _ _ r0 r1 r2 r3, mi_beyond (mi_beyond (mi_beyond (mi_beyond hB (Nat.le_refl _)) (Nat.le_refl _)) (Nat.le_refl _)) (Nat.le_refl _)⟩ ?_
        rintro W2 ⟨⟨z0, z1, z2, z3⟩, hBB⟩
        refine bodyPost_ret (v := .tuple #[.agg #[.int .i64 a, .int .i64 b, .int .i64 c, .int .i64 d], .int .i64 0]) (by simp [results, Tryd.results14, go_sem, *]) rfl ?_
        exact ⟨rfl, hBB⟩
end Go.Proofs.YtajjoihfccnfhaaDoor
