/-
  Runs as rows of triples: contracts. No condition but what stands in each.
-/
import Derived.Test.YtdenfmgmapgpiaaCrn
namespace Go.Proofs.Ytdenfmgmapgpiaa
open Go.RowKit
set_option maxHeartbeats 1000000
def code2 (a b c rule n : Int) : Int := if codeR a b c rule = 0 then (if inB n 0 300 = true then 0 else 2) else codeR a b c rule
def runR (a b c rule n : Int) : List (Int × Int × Int) × Int := if code2 a b c rule n = 0 then (runL rule n.toNat a b c, 0) else ([], code2 a b c rule n)
theorem code2_bd {a b c rule n : Int} (h : code2 a b c rule n = 0) : codeR a b c rule = 0 ∧ 0 ≤ n ∧ n ≤ 300 := by
  unfold code2 at h
  split at h
  · rename_i h1
    split at h
    · rename_i h2
      exact ⟨h1, inB_iff.1 h2⟩
    · cases h
  · contradiction
theorem runR_len (a b c rule n : Int) : (runR a b c rule n).1.length ≤ 281474976710656 := by
  unfold runR
  split
  · rename_i h
    have := code2_bd h
    obtain ⟨q, x, y, z, h1, h2⟩ := runL_last rule n.toNat a b c
    dsimp only
    rw [h1]
    simp; omega
  · simp
theorem runFault_any (a b c rule n : Int) (w : World) : Calls Try.prog 73 #[.agg #[.int .i64 a, .int .i64 b, .int .i64 c], .int .i64 rule, .int .i64 n] w fun e w' => e = .returned (.int .i64 (code2 a b c rule n)) ∧ Below w.heap.size w w' := by
  have hk := fun W => ruleFault_any a b c rule W
  have hi := fun W => in_any n 0 300 W
  unfold code2
  obtain ⟨k, ek⟩ : ∃ k, codeR a b c rule = k := ⟨_, rfl⟩
  obtain ⟨i, ei⟩ : ∃ i, inB n 0 300 = i := ⟨_, rfl⟩
  rw [ek] at hk ⊢
  rw [ei] at hi ⊢
  have HK := Lib.hid hk
  have HI := Lib.hid hi
  clear hk hi ek ei
  by_cases h0 : k = 0
  · subst h0
    rw [if_pos rfl]
    cases i
    all_goals
      go_enter Try.func73, Try.ntmps73
      go_wp2_with (first | (go_at_call 63; (with_reducible refine (HK.out _).mono ?_); rintro e w1 ⟨rfl, hb1⟩; obtain ⟨hc1, hf1, hz1, hn1⟩ := bstep 1 w hb1 (by go_size)) | (go_at_call 85; (with_reducible refine (HI.out _).mono ?_); rintro e w' ⟨rfl, rfl⟩))
      go_returns
      exact ⟨rfl, by (repeat' (first | (with_reducible exact Below.refl _ _) | (with_reducible refine Below.alloc ?_ ?_ _) | (with_reducible refine Below.drew ?_) | (with_reducible refine below_drewN' ?_ _) | (with_reducible refine Below.setCell ?_ ?_ _) | (with_reducible refine Below.trans ?_ (Below.mono (by assumption) ?_)) | go_size))⟩
  · rw [if_neg h0]
    have hd : (k != 0) = true := by simpa using h0
    clear h0
    go_enter Try.func73, Try.ntmps73
    go_wp2_with (first | (go_at_call 63; (with_reducible refine (HK.out _).mono ?_); rintro e w1 ⟨rfl, hb1⟩; obtain ⟨hc1, hf1, hz1, hn1⟩ := bstep 1 w hb1 (by go_size)))
    go_returns
    exact ⟨rfl, by (repeat' (first | (with_reducible exact Below.refl _ _) | (with_reducible refine Below.alloc ?_ ?_ _) | (with_reducible refine Below.drew ?_) | (with_reducible refine below_drewN' ?_ _) | (with_reducible refine Below.setCell ?_ ?_ _) | (with_reducible refine Below.trans ?_ (Below.mono (by assumption) ?_)) | go_size))⟩
theorem implRun_any (a b c rule n : Int) (w : World) : Calls Try.prog 30 #[.agg #[.int .i64 a, .int .i64 b, .int .i64 c], .int .i64 rule, .int .i64 n] w fun e w' =>
    (∃ A cc, e = .returned (.tuple #[.slice A (runR a b c rule n).1.length cc, .int .i64 (runR a b c rule n).2]) ∧ SSl w' A (runR a b c rule n).1.length (runR a b c rule n).1 ∧ WSl w.heap.size w' A ((runR a b c rule n).1.length * 3)) ∧ Below w.heap.size w w' := by
  have hk := fun W => runFault_any a b c rule n W
  have hbd := @code2_bd a b c rule n
  unfold runR
  obtain ⟨k, ek⟩ : ∃ k, code2 a b c rule n = k := ⟨_, rfl⟩
  rw [ek] at hk hbd ⊢
  have HK := Lib.hid hk
  clear hk ek
  by_cases h0 : k = 0
  · subst h0
    rw [if_pos rfl]
    obtain ⟨_, hn0, hn1⟩ := hbd rfl
    clear hbd
    obtain ⟨m, rfl⟩ := Int.eq_ofNat_of_zero_le hn0
    rw [Int.toNat_natCast]
    have hm : m ≤ 300 := by omega
    have HM := Lib.hid hm
    clear hn0
    go_enter Try.func30, Try.ntmps30
    go_wp2_with (first | (go_at_call 73; (with_reducible refine (HK.out _).mono ?_); rintro e w1 ⟨rfl, hb1⟩; obtain ⟨hc1, hf1, hz1, hn1⟩ := bstep 1 w hb1 (by go_size)) | (go_at_call 74; (with_reducible refine (run_any a b c rule m _ HM.out).mono ?_); rintro e w2 ⟨⟨q, x, y, z, g, cap, rfl, hqq, hown⟩, hb2⟩; have HO := Lib.hid (And.intro hqq hown); clear hqq hown; obtain ⟨hc2, hf2, hz2, hn2⟩ := bstep 1 w hb2 (by go_size)))
    go_returns
    obtain ⟨hqq, hown⟩ := HO.out
    rw [hqq]
    obtain ⟨h1, h2⟩ := own_SSl hown
    exact ⟨⟨some ⟨g, 0, none⟩, cap, by simp, by simpa using h1, by rw [show (q ++ [(x, y, z)]).length = q.length + 1 from by simp]; exact h2.mono (by go_size)⟩, by (repeat' (first | (with_reducible exact Below.refl _ _) | (with_reducible refine Below.alloc ?_ ?_ _) | (with_reducible refine Below.drew ?_) | (with_reducible refine below_drewN' ?_ _) | (with_reducible refine Below.setCell ?_ ?_ _) | (with_reducible refine Below.trans ?_ (Below.mono (by assumption) ?_)) | go_size))⟩
  · rw [if_neg h0]
    have hd : (k != 0) = true := by simpa using h0
    clear h0 hbd
    go_enter Try.func30, Try.ntmps30
    go_wp2_with (first | (go_at_call 73; (with_reducible refine (HK.out _).mono ?_); rintro e w1 ⟨rfl, hb1⟩; obtain ⟨hc1, hf1, hz1, hn1⟩ := bstep 1 w hb1 (by go_size)))
    go_returns
    exact ⟨⟨none, 0, rfl, ⟨rfl, fun h => absurd h (by simp)⟩, fun h => absurd h (by simp)⟩, by (repeat' (first | (with_reducible exact Below.refl _ _) | (with_reducible refine Below.alloc ?_ ?_ _) | (with_reducible refine Below.drew ?_) | (with_reducible refine below_drewN' ?_ _) | (with_reducible refine Below.setCell ?_ ?_ _) | (with_reducible refine Below.trans ?_ (Below.mono (by assumption) ?_)) | go_size))⟩
theorem specRun_any (a b c rule n : Int) (w : World) : Calls Try.prog 31 #[.agg #[.int .i64 a, .int .i64 b, .int .i64 c], .int .i64 rule, .int .i64 n] w fun e w' =>
    (∃ A cc, e = .returned (.tuple #[.slice A (runR a b c rule n).1.length cc, .int .i64 (runR a b c rule n).2]) ∧ SSl w' A (runR a b c rule n).1.length (runR a b c rule n).1 ∧ WSl w.heap.size w' A ((runR a b c rule n).1.length * 3)) ∧ Below w.heap.size w w' := by
  have hk := fun W => l07Code_any a b c rule W
  have hi := fun W => l01In_any n 0 300 W
  have hbd := @inB_iff n 0 300
  unfold runR code2
  obtain ⟨k, ek⟩ : ∃ k, codeR a b c rule = k := ⟨_, rfl⟩
  obtain ⟨i, ei⟩ : ∃ i, inB n 0 300 = i := ⟨_, rfl⟩
  rw [ek] at hk ⊢
  rw [ei] at hi hbd ⊢
  have HK := Lib.hid hk
  have HI := Lib.hid hi
  clear hk hi ek ei
  by_cases h0 : k = 0
  · subst h0
    rw [if_pos rfl]
    cases i
    · clear hbd
      rw [if_neg (by decide), if_neg (by decide)]
      go_enter Try.func31, Try.ntmps31
      go_wp2_with (first | (go_at_call 64; (with_reducible refine (HK.out _).mono ?_); rintro e w1 ⟨rfl, hb1⟩; obtain ⟨hc1, hf1, hz1, hn1⟩ := bstep 1 w hb1 (by go_size)) | (go_at_call 57; (with_reducible refine (HI.out _).mono ?_); rintro e w' ⟨rfl, rfl⟩))
      go_returns
      exact ⟨⟨none, 0, rfl, ⟨rfl, fun h => absurd h (by simp)⟩, fun h => absurd h (by simp)⟩, by (repeat' (first | (with_reducible exact Below.refl _ _) | (with_reducible refine Below.alloc ?_ ?_ _) | (with_reducible refine Below.drew ?_) | (with_reducible refine below_drewN' ?_ _) | (with_reducible refine Below.setCell ?_ ?_ _) | (with_reducible refine Below.trans ?_ (Below.mono (by assumption) ?_)) | go_size))⟩
    · obtain ⟨hn0, hn1⟩ := hbd.1 rfl
      clear hbd
      rw [if_pos rfl, if_pos rfl]
      obtain ⟨m, rfl⟩ := Int.eq_ofNat_of_zero_le hn0
      rw [Int.toNat_natCast]
      clear hn0
      have hm : m ≤ 300 := by omega
      clear hn1
      obtain ⟨i0, hI0⟩ := info_parts infoT3
      have HI0 := Lib.hid hI0
      clear hI0
      have h0 : RunI rule m a b c [] a b c := ⟨Nat.zero_le _, rfl⟩
      have H0 := Lib.hid h0
      clear h0
      go_enter Try.func31, Try.ntmps31
      go_wp2_with (first | (go_at_call 64; (with_reducible refine (HK.out _).mono ?_); rintro e w1 ⟨rfl, hb1⟩; obtain ⟨hc1, hf1, hz1, hn1⟩ := bstep 1 w hb1 (by go_size); obtain ⟨⟨s0, s1, s2⟩, ⟨sf0, sf1, sf2⟩, ss, sn⟩ : (w1.cell? ⟨w.heap.size, 0, none⟩ = some (.int .i64 a) ∧ w1.cell? ⟨w.heap.size, 1, none⟩ = some (.int .i64 b) ∧ w1.cell? ⟨w.heap.size, 2, none⟩ = some (.int .i64 c)) ∧ (w1.frozen? ⟨w.heap.size, 0, none⟩ = false ∧ w1.frozen? ⟨w.heap.size, 1, none⟩ = false ∧ w1.frozen? ⟨w.heap.size, 2, none⟩ = false) ∧ w.heap.size < w1.heap.size ∧ ¬ w1.heap.size = w.heap.size := ⟨by (focus (((repeat' apply And.intro) <;> (repeat' (first | (with_reducible assumption) | (with_reducible refine keep_drew ?_) | (with_reducible refine keep_setx (by omega) ?_) | (with_reducible refine keep_hc (by with_reducible assumption) (by omega) ?_) | (focus (go_simp; done)) | (with_reducible refine keep_alloc ?_)))); done)), by (focus (((repeat' apply And.intro) <;> (repeat' (first | (with_reducible assumption) | (with_reducible refine fz_drew ?_) | (with_reducible refine fz_set ?_) | (with_reducible refine fz_hc (by with_reducible assumption) (by omega) ?_) | (focus (go_simp; done)) | (with_reducible refine fz_alloc ?_ ?_) | go_size))); done)), by go_size, by go_size⟩) | (go_at_call 57; (with_reducible refine (HI.out _).mono ?_); rintro e w' ⟨rfl, rfl⟩))
      go_loopw [2, 9] (fun nn o wr => ∃ (q : List (Int × Int × Int)) (x y z : Int) (g cap : Nat), nn = .int .i64 ((m : Int) - q.length) ∧ o = .slice (some ⟨g, 0, none⟩) (q.length + 1) cap ∧ RunI rule m a b c q x y z ∧ wr.ownsRow (w.heap.size + 1) 25 3 (.slice (some ⟨g, 0, none⟩) (q.length + 1) cap) (q.length + 1) (flat3 (q ++ [(x, y, z)])) ∧
          (wr.cell? ⟨w.heap.size, 0, none⟩ = some (.int .i64 x) ∧ wr.cell? ⟨w.heap.size, 1, none⟩ = some (.int .i64 y) ∧ wr.cell? ⟨w.heap.size, 2, none⟩ = some (.int .i64 z)) ∧ (∀ j, wr.frozen? ⟨w.heap.size, j, none⟩ = false) ∧ w.heap.size + 1 ≤ wr.heap.size ∧ Below w.heap.size w wr) (fun _ o _ => match o with | .slice _ n _ => m + 1 - n | _ => 0)
      case atStart =>
        refine ⟨[], a, b, c, _, _, by simp, rfl, H0.out, ?_, ?_, ?_, by go_size, by (repeat' (first | (with_reducible exact Below.refl _ _) | (with_reducible refine Below.alloc ?_ ?_ _) | (with_reducible refine Below.drew ?_) | (with_reducible refine below_drewN' ?_ _) | (with_reducible refine Below.setCell ?_ ?_ _) | (with_reducible refine Below.trans ?_ (Below.mono (by assumption) ?_)) | go_size))⟩
        · exact own_row1 (by simp) (by omega)
        · exact ⟨keep_alloc s0, keep_alloc s1, keep_alloc s2⟩
        · intro j
          exact fz_alloc (fz_hc hf1 (by omega) (by go_simp)) (by omega)
      case round =>
        obtain ⟨q, x, y, z, g, cap, rfl, rfl, hR, hown, ⟨c0, c1, c2⟩, hfz, hsz, hB⟩ := hrel
        clear H0 hb1 s0 s1 s2 sf0 sf1 sf2 ss sn hc1 hf1 hz1 hn1
        have hq := hR.1
        have HR := Lib.hid hR
        have HO := Lib.hid hown
        clear hR hown
        by_cases hlt : q.length + 1 ≤ m
        · have hen := fun W => l07Ended_any x y z rule W
          have hst := fun W => l07Step_any x y z rule W
          obtain ⟨n, en⟩ : ∃ n, endB y z rule = n := ⟨_, rfl⟩
          obtain ⟨⟨x', y', z'⟩, es⟩ : ∃ s, stepG x y z rule = s := ⟨_, rfl⟩
          rw [en] at hen
          rw [es] at hst
          dsimp only at hst
          have HE := Lib.hid hen
          have HS := Lib.hid hst
          have HN := Lib.hid en
          have HX := Lib.hid es
          have f0 := hfz 0
          have f1 := hfz 1
          have f2 := hfz 2
          have HFZ := Lib.hid hfz
          clear hen hst en es hfz
          cases n
          · have hnext := HR.out.next hlt HN.out HX.out
            have HQ := Lib.hid hnext
            clear hnext
            go_upto_region 9 with (first | (go_at_call 75; (with_reducible refine (HE.out _).mono ?_); rintro e w1 ⟨rfl, hb1⟩; have HO1 := Lib.hid (own_below HO.out hb1); obtain ⟨hg1, hi1, hy1, hx1⟩ := bfull hb1; (try simp only [World.size_drew] at hg1 hi1 hy1 hx1); (try simp only [World.size_alloc] at hg1 hi1 hy1 hx1); (try simp only [World.size_setCell] at hg1 hi1 hy1 hx1); obtain ⟨⟨r0, r1, r2⟩, ⟨rf0, rf1, rf2⟩, rs, rn⟩ : (w1.cell? ⟨w.heap.size, 0, none⟩ = some (.int .i64 x) ∧ w1.cell? ⟨w.heap.size, 1, none⟩ = some (.int .i64 y) ∧ w1.cell? ⟨w.heap.size, 2, none⟩ = some (.int .i64 z)) ∧ (w1.frozen? ⟨w.heap.size, 0, none⟩ = false ∧ w1.frozen? ⟨w.heap.size, 1, none⟩ = false ∧ w1.frozen? ⟨w.heap.size, 2, none⟩ = false) ∧ w.heap.size < w1.heap.size ∧ ¬ w1.heap.size = w.heap.size := ⟨by (focus (((repeat' apply And.intro) <;> (repeat' (first | (with_reducible assumption) | (with_reducible refine keep_drew ?_) | (with_reducible refine keep_setx (by omega) ?_) | (with_reducible refine keep_hc (by with_reducible assumption) (by omega) ?_) | (focus (go_simp; done)) | (with_reducible refine keep_alloc ?_)))); done)), by (focus (((repeat' apply And.intro) <;> (repeat' (first | (with_reducible assumption) | (with_reducible refine fz_drew ?_) | (with_reducible refine fz_set ?_) | (with_reducible refine fz_hc (by with_reducible assumption) (by omega) ?_) | (focus (go_simp; done)) | (with_reducible refine fz_alloc ?_ ?_) | go_size))); done)), by go_size, by go_size⟩))
            go_upto_region 10 with (first | (go_at_call 76; (with_reducible refine (HS.out _).mono ?_); rintro e w2 ⟨rfl, hb2⟩; have HO2 := Lib.hid (own_below HO1.out hb2); obtain ⟨hg2, hi2, hy2, hx2⟩ := bfull hb2; (try simp only [World.size_drew] at hg2 hi2 hy2 hx2); (try simp only [World.size_alloc] at hg2 hi2 hy2 hx2); (try simp only [World.size_setCell] at hg2 hi2 hy2 hx2); obtain ⟨⟨r0, r1, r2⟩, ⟨rf0, rf1, rf2⟩, rs, rn⟩ : (w2.cell? ⟨w.heap.size, 0, none⟩ = some (.int .i64 x) ∧ w2.cell? ⟨w.heap.size, 1, none⟩ = some (.int .i64 y) ∧ w2.cell? ⟨w.heap.size, 2, none⟩ = some (.int .i64 z)) ∧ (w2.frozen? ⟨w.heap.size, 0, none⟩ = false ∧ w2.frozen? ⟨w.heap.size, 1, none⟩ = false ∧ w2.frozen? ⟨w.heap.size, 2, none⟩ = false) ∧ w.heap.size < w2.heap.size ∧ ¬ w2.heap.size = w.heap.size := ⟨by (focus (((repeat' apply And.intro) <;> (repeat' (first | (with_reducible assumption) | (with_reducible refine keep_drew ?_) | (with_reducible refine keep_setx (by omega) ?_) | (with_reducible refine keep_hc (by with_reducible assumption) (by omega) ?_) | (focus (go_simp; done)) | (with_reducible refine keep_alloc ?_)))); done)), by (focus (((repeat' apply And.intro) <;> (repeat' (first | (with_reducible assumption) | (with_reducible refine fz_drew ?_) | (with_reducible refine fz_set ?_) | (with_reducible refine fz_hc (by with_reducible assumption) (by omega) ?_) | (focus (go_simp; done)) | (with_reducible refine fz_alloc ?_ ?_) | go_size))); done)), by go_size, by go_size⟩))
            refine wp_gen (F := fun w3 => w3.ownsRow (w.heap.size + 1) 25 3 (.slice (some ⟨g, 0, none⟩) (q.length + 1) cap) (q.length + 1) (flat3 (q ++ [(x, y, z)])) ∧ (w3.cell? ⟨w.heap.size, 0, none⟩ = some (.int .i64 x') ∧ w3.cell? ⟨w.heap.size, 1, none⟩ = some (.int .i64 y') ∧ w3.cell? ⟨w.heap.size, 2, none⟩ = some (.int .i64 z')) ∧ (∀ j, w3.frozen? ⟨w.heap.size, j, none⟩ = false) ∧ w.heap.size + 1 ≤ w3.heap.size ∧ Below w.heap.size w w3) ?_ (fun w3 hw3 => ?_)
            · refine ⟨own_set (Nat.lt_succ_self _) (own_set (Nat.lt_succ_self _) (own_set (Nat.lt_succ_self _) HO2.out)), ?_, fun j => ?_, by simp only [World.size_setCell]; omega, below_beyond (below_beyond (below_beyond (hB.trans ((hb1.mono (by omega)).trans (hb2.mono (by omega)))) (Nat.le_refl _)) (Nat.le_refl _)) (Nat.le_refl _)⟩
              · (repeat' apply And.intro) <;> go_simp
              · rw [World.frozen?_setCell, World.frozen?_setCell, World.frozen?_setCell]
                exact (hi2 _ _ (by omega)).trans ((hi1 _ _ (by omega)).trans (HFZ.out j))
            obtain ⟨hown3, ⟨d0, d1, d2⟩, hfz3, hsz3, hB3⟩ := hw3
            have HO3 := Lib.hid hown3
            clear hown3
            go_wp2_with (first | (at_builtin; refine wpList_append_own _ rfl _ _ 47 rfl (w.heap.size + 1) 25 i0 (.agg #[.int .i64 0, .int .i64 0, .int .i64 0]) 3 24 Try.underlying47 HI0.out.1 HI0.out.2.1 HI0.out.2.2.1 HI0.out.2.2.2 rfl (by decide) _ _ _ rfl (HO3.out.alloc _) ⟨w3.heap.size, 0, none⟩ 1 1 [.int .i64 x', .int .i64 y', .int .i64 z'] rfl rfl (new_three _ _ _ _ _) ?c2 ?c3 ?c4 ?c5 ?_))
            case c2 => intro u hu; simp at hu; rcases hu with rfl | rfl | rfl <;> rfl
            case c3 => unfold maxLen; omega
            case c4 => omega
            case c5 => simp; omega
            intro v' w4 hown4 hgrow _
            obtain ⟨g', cap', rfl, _, _⟩ := hown4.form (by omega)
            have hB4 := (hB3.alloc (by omega) (.cells #[.int .i64 x', .int .i64 y', .int .i64 z'] 25)).grown hgrow (by simp; omega) (fun k e => by have := (HO3.out.lt k e).1; omega)
            have hne : some w.heap.size ≠ (Value.slice (some ⟨g, 0, none⟩) (q.length + 1) cap).ownBlock := fun e => by have := (HO3.out.lt _ e.symm).1; omega
            have e0 := (hgrow.cell_far ⟨w.heap.size, 0, none⟩ (by simp; omega) hne).trans (keep_alloc d0)
            have e1 := (hgrow.cell_far ⟨w.heap.size, 1, none⟩ (by simp; omega) hne).trans (keep_alloc d1)
            have e2 := (hgrow.cell_far ⟨w.heap.size, 2, none⟩ (by simp; omega) hne).trans (keep_alloc d2)
            have ez := fun j => (hgrow.frozen_far ⟨w.heap.size, j, none⟩ (by simp; omega) hne).trans (fz_alloc (hfz3 j) (by omega))
            have esz : w.heap.size + 1 ≤ w4.heap.size := by have := hgrow.size; simp at this; omega
            have hown5 : w4.ownsRow (w.heap.size + 1) 25 3 (.slice (some ⟨g', 0, none⟩) ((q ++ [(x, y, z)]).length + 1) cap') ((q ++ [(x, y, z)]).length + 1) (flat3 ((q ++ [(x, y, z)]) ++ [(x', y', z')])) := by
              rw [flat3_snoc, show (q ++ [(x, y, z)]).length = q.length + 1 from by simp]
              exact hown4
            have HKK := Lib.hid (And.intro hown5 (And.intro hB4 (And.intro (And.intro e0 (And.intro e1 e2)) ez)))
            clear hown4 hown5 hgrow hB4 hne e0 e1 e2 ez d0 d1 d2 hfz3 hB3 c0 c1 c2
            go_wp2
            go_roundw
            case rel => exact ⟨q ++ [(x, y, z)], x', y', z', g', cap', by congr 1; simp; omega, by simp, HQ.out, HKK.out.1, HKK.out.2.2.1, HKK.out.2.2.2, esz, HKK.out.2.1⟩
            case measure => simp; omega
          · go_wp2_with (first | (go_at_call 75; (with_reducible refine (HE.out _).mono ?_); rintro e w1 ⟨rfl, hb1⟩; have HO1 := Lib.hid (own_below HO.out hb1)))
            go_returns
            obtain ⟨h1, h2⟩ := own_SSl HO1.out
            rw [(HR.out.ends HN.out).symm]
            exact ⟨⟨some ⟨g, 0, none⟩, cap, by simp, by simpa using h1, by rw [show (q ++ [(x, y, z)]).length = q.length + 1 from by simp]; exact h2.mono (by omega)⟩, hB.trans (hb1.mono (by omega))⟩
        · have hz : (m : Int) - q.length = 0 := by omega
          rw [hz]
          go_wp2
          go_returns
          obtain ⟨h1, h2⟩ := own_SSl HO.out
          rw [(HR.out.full hlt).symm]
          exact ⟨⟨some ⟨g, 0, none⟩, cap, by simp, by simpa using h1, by rw [show (q ++ [(x, y, z)]).length = q.length + 1 from by simp]; exact h2.mono (by omega)⟩, hB⟩
  · rw [if_neg h0, if_neg h0]
    have hd : (k != 0) = true := by simpa using h0
    have hd' : (k == 0) = false := by simpa using h0
    clear h0 hbd
    go_enter Try.func31, Try.ntmps31
    go_wp2_with (first | (go_at_call 64; (with_reducible refine (HK.out _).mono ?_); rintro e w1 ⟨rfl, hb1⟩; obtain ⟨hc1, hf1, hz1, hn1⟩ := bstep 1 w hb1 (by go_size)))
    go_returns
    exact ⟨⟨none, 0, rfl, ⟨rfl, fun h => absurd h (by simp)⟩, fun h => absurd h (by simp)⟩, by (repeat' (first | (with_reducible exact Below.refl _ _) | (with_reducible refine Below.alloc ?_ ?_ _) | (with_reducible refine Below.drew ?_) | (with_reducible refine below_drewN' ?_ _) | (with_reducible refine Below.setCell ?_ ?_ _) | (with_reducible refine Below.trans ?_ (Below.mono (by assumption) ?_)) | go_size))⟩
end Go.Proofs.Ytdenfmgmapgpiaa
