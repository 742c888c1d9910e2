/-
  Runs of triples: contracts. No condition but what stands in each.
-/
import Derived.Test.YtdenfmgmapgpiaaCpx
import Derived.Test.YtdenfmgmapgpiaaCst
namespace Go.Proofs.Ytdenfmgmapgpiaa
open Go.RowKit
set_option maxHeartbeats 1000000
def runL (rule : Int) : Nat → Int → Int → Int → List (Int × Int × Int)
  | 0, a, b, c => [(a, b, c)]
  | n + 1, a, b, c => if endB b c rule = true then [(a, b, c)] else (a, b, c) :: runL rule n (stepG a b c rule).1 (stepG a b c rule).2.1 (stepG a b c rule).2.2
def RunI (rule : Int) (m : Nat) (a b c : Int) (q : List (Int × Int × Int)) (x y z : Int) : Prop := q.length ≤ m ∧ q ++ runL rule (m - q.length) x y z = runL rule m a b c
theorem RunI.full {rule : Int} {m : Nat} {a b c x y z : Int} {q : List (Int × Int × Int)} (h : RunI rule m a b c q x y z) (hm : ¬ q.length + 1 ≤ m) : q ++ [(x, y, z)] = runL rule m a b c := by
  obtain ⟨h1, h2⟩ := h
  rwa [show m - q.length = 0 by omega] at h2
theorem RunI.ends {rule : Int} {m : Nat} {a b c x y z : Int} {q : List (Int × Int × Int)} (h : RunI rule m a b c q x y z) (he : endB y z rule = true) : q ++ [(x, y, z)] = runL rule m a b c := by
  obtain ⟨h1, h2⟩ := h
  rw [← h2]
  cases m - q.length with
  | zero => rfl
  | succ n => rw [runL, if_pos he]
theorem RunI.next {rule : Int} {m : Nat} {a b c x y z x' y' z' : Int} {q : List (Int × Int × Int)} (h : RunI rule m a b c q x y z) (hm : q.length + 1 ≤ m) (he : endB y z rule = false) (hs : stepG x y z rule = (x', y', z')) : RunI rule m a b c (q ++ [(x, y, z)]) x' y' z' := by
  obtain ⟨h1, h2⟩ := h
  refine ⟨by simp; omega, ?_⟩
  rw [← h2, show m - q.length = (m - (q.length + 1)) + 1 by omega, runL, if_neg (by rw [he]; decide), hs]
  simp
theorem own_mono {w : World} {base base' : Nat} {e : TypeId} {s n : Nat} {v : Value} {xs : List Value} (h : w.ownsRow base e s v n xs) (hle : base' ≤ base) : w.ownsRow base' e s v n xs := by
  obtain ⟨h1, h2 | ⟨g, cap, cur, hv, hb, hr⟩⟩ := h
  · exact ⟨h1, .inl h2⟩
  · exact ⟨h1, .inr ⟨g, cap, cur, hv, by omega, hr⟩⟩
theorem infoT3 : (Try.prog.info? 25).map (fun i => (i.zero, i.size, i.bytes)) = some (some (.agg #[.int .i64 0, .int .i64 0, .int .i64 0]), 3, 24) := by kernel_rfl
theorem run_any (a b c rule : Int) (m : Nat) (w : World) (hm : m ≤ 300) : Calls Try.prog 74 #[.agg #[.int .i64 a, .int .i64 b, .int .i64 c], .int .i64 rule, .int .i64 m] w fun e w' =>
    (∃ (q : List (Int × Int × Int)) (x y z : Int) (g cap : Nat), e = .returned (.slice (some ⟨g, 0, none⟩) (q.length + 1) cap) ∧ runL rule m a b c = q ++ [(x, y, z)] ∧ w'.ownsRow w.heap.size 25 3 (.slice (some ⟨g, 0, none⟩) (q.length + 1) cap) (q.length + 1) (flat3 (q ++ [(x, y, z)]))) ∧ Below w.heap.size w w' := by
  obtain ⟨i0, hI0⟩ := info_parts infoT3
  have HI := Lib.hid hI0
  clear hI0
  have h0 : RunI rule m a b c [] a b c := ⟨Nat.zero_le _, rfl⟩
  have H0 := Lib.hid h0
  clear h0
  go_enter Try.func74, Try.ntmps74
  go_wp2
  go_loopw [7] (fun o wr => ∃ (q : List (Int × Int × Int)) (x y z : Int) (g cap : Nat), o = .slice (some ⟨g, 0, none⟩) (q.length + 1) cap ∧ RunI rule m a b c q x y z ∧ wr.ownsRow (w.heap.size + 1) 25 3 (.slice (some ⟨g, 0, none⟩) (q.length + 1) cap) (q.length + 1) (flat3 (q ++ [(x, y, z)])) ∧
      (wr.cell? ⟨w.heap.size, 0, none⟩ = some (.int .i64 x) ∧ wr.cell? ⟨w.heap.size, 1, none⟩ = some (.int .i64 y) ∧ wr.cell? ⟨w.heap.size, 2, none⟩ = some (.int .i64 z)) ∧ (∀ j, wr.frozen? ⟨w.heap.size, j, none⟩ = false) ∧ w.heap.size + 1 ≤ wr.heap.size ∧ Below w.heap.size w wr) (fun o _ => match o with | .slice _ n _ => m + 1 - n | _ => 0)
  case atStart =>
    refine ⟨[], a, b, c, _, _, rfl, H0.out, ?_, ?_, ?_, by go_size, by (repeat' (first | (with_reducible exact Below.refl _ _) | (with_reducible refine Below.alloc ?_ ?_ _) | (with_reducible refine Below.drew ?_) | (with_reducible refine below_drewN' ?_ _) | (with_reducible refine Below.setCell ?_ ?_ _) | (with_reducible refine Below.trans ?_ (Below.mono (by assumption) ?_)) | go_size))⟩
    · exact own_row1 (by simp) (by omega)
    · (focus (((repeat' apply And.intro) <;> (repeat' (first | (with_reducible assumption) | (with_reducible refine keep_drew ?_) | (with_reducible refine keep_setx (by omega) ?_) | (with_reducible refine keep_hc (by with_reducible assumption) (by omega) ?_) | (focus (go_simp; done)) | (with_reducible refine keep_alloc ?_)))); done))
    · intro j; go_simp
  case round =>
    obtain ⟨q, x, y, z, g, cap, rfl, hR, hown, ⟨c0, c1, c2⟩, hfz, hsz, hB⟩ := hrel
    clear H0
    have HR := Lib.hid hR
    have HO := Lib.hid hown
    clear hR hown
    by_cases hlt : q.length + 1 ≤ m
    · have hen := fun W => ended_any x y z rule W
      have hst := fun W => step_any x y z rule W
      obtain ⟨n, en⟩ : ∃ n, endB y z rule = n := ⟨_, rfl⟩
      obtain ⟨⟨x', y', z'⟩, es⟩ : ∃ s, stepG x y z rule = s := ⟨_, rfl⟩
      rw [en] at hen
      rw [es] at hst
      dsimp only at hst
      have HE := Lib.hid hen
      have HS := Lib.hid hst
      have HN := Lib.hid en
      have HX := Lib.hid es
      have f0 := hfz 0
      have f1 := hfz 1
      have f2 := hfz 2
      have HFZ := Lib.hid hfz
      clear hen hst en es hfz
      cases n
      · have hnext := HR.out.next hlt HN.out HX.out
        have HQ := Lib.hid hnext
        clear hnext
        go_upto_region 3 with (first | (go_at_call 77; (with_reducible refine (HE.out _).mono ?_); rintro e w1 ⟨rfl, hb1⟩; have HO1 := Lib.hid (own_below HO.out hb1); obtain ⟨hg1, hi1, hy1, hx1⟩ := bfull hb1; (try simp only [World.size_drew] at hg1 hi1 hy1 hx1); (try simp only [World.size_alloc] at hg1 hi1 hy1 hx1); (try simp only [World.size_setCell] at hg1 hi1 hy1 hx1); obtain ⟨⟨r0, r1, r2⟩, ⟨rf0, rf1, rf2⟩, rs, rn⟩ : (w1.cell? ⟨w.heap.size, 0, none⟩ = some (.int .i64 x) ∧ w1.cell? ⟨w.heap.size, 1, none⟩ = some (.int .i64 y) ∧ w1.cell? ⟨w.heap.size, 2, none⟩ = some (.int .i64 z)) ∧ (w1.frozen? ⟨w.heap.size, 0, none⟩ = false ∧ w1.frozen? ⟨w.heap.size, 1, none⟩ = false ∧ w1.frozen? ⟨w.heap.size, 2, none⟩ = false) ∧ w.heap.size < w1.heap.size ∧ ¬ w1.heap.size = w.heap.size := ⟨by (focus (((repeat' apply And.intro) <;> (repeat' (first | (with_reducible assumption) | (with_reducible refine keep_drew ?_) | (with_reducible refine keep_setx (by omega) ?_) | (with_reducible refine keep_hc (by with_reducible assumption) (by omega) ?_) | (focus (go_simp; done)) | (with_reducible refine keep_alloc ?_)))); done)), by (focus (((repeat' apply And.intro) <;> (repeat' (first | (with_reducible assumption) | (with_reducible refine fz_drew ?_) | (with_reducible refine fz_set ?_) | (with_reducible refine fz_hc (by with_reducible assumption) (by omega) ?_) | (focus (go_simp; done)) | (with_reducible refine fz_alloc ?_ ?_) | go_size))); done)), by go_size, by go_size⟩))
        go_upto_region 4 with (first | (go_at_call 81; (with_reducible refine (HS.out _).mono ?_); rintro e w2 ⟨rfl, hb2⟩; have HO2 := Lib.hid (own_below HO1.out hb2); obtain ⟨hg2, hi2, hy2, hx2⟩ := bfull hb2; (try simp only [World.size_drew] at hg2 hi2 hy2 hx2); (try simp only [World.size_alloc] at hg2 hi2 hy2 hx2); (try simp only [World.size_setCell] at hg2 hi2 hy2 hx2); obtain ⟨⟨r0, r1, r2⟩, ⟨rf0, rf1, rf2⟩, rs, rn⟩ : (w2.cell? ⟨w.heap.size, 0, none⟩ = some (.int .i64 x) ∧ w2.cell? ⟨w.heap.size, 1, none⟩ = some (.int .i64 y) ∧ w2.cell? ⟨w.heap.size, 2, none⟩ = some (.int .i64 z)) ∧ (w2.frozen? ⟨w.heap.size, 0, none⟩ = false ∧ w2.frozen? ⟨w.heap.size, 1, none⟩ = false ∧ w2.frozen? ⟨w.heap.size, 2, none⟩ = false) ∧ w.heap.size < w2.heap.size ∧ ¬ w2.heap.size = w.heap.size := ⟨by (focus (((repeat' apply And.intro) <;> (repeat' (first | (with_reducible assumption) | (with_reducible refine keep_drew ?_) | (with_reducible refine keep_setx (by omega) ?_) | (with_reducible refine keep_hc (by with_reducible assumption) (by omega) ?_) | (focus (go_simp; done)) | (with_reducible refine keep_alloc ?_)))); done)), by (focus (((repeat' apply And.intro) <;> (repeat' (first | (with_reducible assumption) | (with_reducible refine fz_drew ?_) | (with_reducible refine fz_set ?_) | (with_reducible refine fz_hc (by with_reducible assumption) (by omega) ?_) | (focus (go_simp; done)) | (with_reducible refine fz_alloc ?_ ?_) | go_size))); done)), by go_size, by go_size⟩))
        refine wp_gen (F := fun w3 => w3.ownsRow (w.heap.size + 1) 25 3 (.slice (some ⟨g, 0, none⟩) (q.length + 1) cap) (q.length + 1) (flat3 (q ++ [(x, y, z)])) ∧ (w3.cell? ⟨w.heap.size, 0, none⟩ = some (.int .i64 x') ∧ w3.cell? ⟨w.heap.size, 1, none⟩ = some (.int .i64 y') ∧ w3.cell? ⟨w.heap.size, 2, none⟩ = some (.int .i64 z')) ∧ (∀ j, w3.frozen? ⟨w.heap.size, j, none⟩ = false) ∧ w.heap.size + 1 ≤ w3.heap.size ∧ Below w.heap.size w w3) ?_ (fun w3 hw3 => ?_)
        · refine ⟨own_set (Nat.lt_succ_self _) (own_set (Nat.lt_succ_self _) (own_set (Nat.lt_succ_self _) HO2.out)), ?_, fun j => ?_, by simp only [World.size_setCell]; omega, below_beyond (below_beyond (below_beyond (hB.trans ((hb1.mono (by omega)).trans (hb2.mono (by omega)))) (Nat.le_refl _)) (Nat.le_refl _)) (Nat.le_refl _)⟩
          · (repeat' apply And.intro) <;> go_simp
          · rw [World.frozen?_setCell, World.frozen?_setCell, World.frozen?_setCell]
            exact (hi2 _ _ (by omega)).trans ((hi1 _ _ (by omega)).trans (HFZ.out j))
        obtain ⟨hown3, ⟨d0, d1, d2⟩, hfz3, hsz3, hB3⟩ := hw3
        have HO3 := Lib.hid hown3
        clear hown3
        go_wp2_with (first | (at_builtin; refine wpList_append_own _ rfl _ _ 47 rfl (w.heap.size + 1) 25 i0 (.agg #[.int .i64 0, .int .i64 0, .int .i64 0]) 3 24 Try.underlying47 HI.out.1 HI.out.2.1 HI.out.2.2.1 HI.out.2.2.2 rfl (by decide) _ _ _ rfl (HO3.out.alloc _) ⟨w3.heap.size, 0, none⟩ 1 1 [.int .i64 x', .int .i64 y', .int .i64 z'] rfl rfl (new_three _ _ _ _ _) ?c2 ?c3 ?c4 ?c5 ?_))
        case c2 => intro u hu; simp at hu; rcases hu with rfl | rfl | rfl <;> rfl
        case c3 => unfold maxLen; omega
        case c4 => omega
        case c5 => simp; omega
        intro v' w4 hown4 hgrow _
        obtain ⟨g', cap', rfl, _, _⟩ := hown4.form (by omega)
        have hB4 := (hB3.alloc (by omega) (.cells #[.int .i64 x', .int .i64 y', .int .i64 z'] 25)).grown hgrow (by simp; omega) (fun k e => by have := (HO3.out.lt k e).1; omega)
        have hne : some w.heap.size ≠ (Value.slice (some ⟨g, 0, none⟩) (q.length + 1) cap).ownBlock := fun e => by have := (HO3.out.lt _ e.symm).1; omega
        have e0 := (hgrow.cell_far ⟨w.heap.size, 0, none⟩ (by simp; omega) hne).trans (keep_alloc d0)
        have e1 := (hgrow.cell_far ⟨w.heap.size, 1, none⟩ (by simp; omega) hne).trans (keep_alloc d1)
        have e2 := (hgrow.cell_far ⟨w.heap.size, 2, none⟩ (by simp; omega) hne).trans (keep_alloc d2)
        have ez := fun j => (hgrow.frozen_far ⟨w.heap.size, j, none⟩ (by simp; omega) hne).trans (fz_alloc (hfz3 j) (by omega))
        have esz : w.heap.size + 1 ≤ w4.heap.size := by have := hgrow.size; simp at this; omega
        have hown5 : w4.ownsRow (w.heap.size + 1) 25 3 (.slice (some ⟨g', 0, none⟩) ((q ++ [(x, y, z)]).length + 1) cap') ((q ++ [(x, y, z)]).length + 1) (flat3 ((q ++ [(x, y, z)]) ++ [(x', y', z')])) := by
          rw [flat3_snoc, show (q ++ [(x, y, z)]).length = q.length + 1 from by simp]
          exact hown4
        have HK := Lib.hid (And.intro hown5 (And.intro hB4 (And.intro (And.intro e0 (And.intro e1 e2)) ez)))
        clear hown4 hown5 hgrow hB4 hne e0 e1 e2 ez d0 d1 d2 hfz3 hB3 c0 c1 c2
        go_wp2
        go_roundw
        case rel => exact ⟨q ++ [(x, y, z)], x', y', z', g', cap', by simp, HQ.out, HK.out.1, HK.out.2.2.1, HK.out.2.2.2, esz, HK.out.2.1⟩
        case measure => simp; omega
      · go_wp2_with (first | (go_at_call 77; (with_reducible refine (HE.out _).mono ?_); rintro e w1 ⟨rfl, hb1⟩; have HO1 := Lib.hid (own_below HO.out hb1)))
        go_returns
        exact ⟨⟨q, x, y, z, g, cap, rfl, (HR.out.ends HN.out).symm, own_mono HO1.out (by omega)⟩, hB.trans (hb1.mono (by omega))⟩
    · go_wp2
      go_returns
      exact ⟨⟨q, x, y, z, g, cap, rfl, (HR.out.full hlt).symm, own_mono HO.out (by omega)⟩, hB⟩
theorem last_cells {w : World} {B g cap : Nat} {T : TypeId} {q : List (Int × Int × Int)} {x y z : Int} (h : w.ownsRow B T 3 (.slice (some ⟨g, 0, none⟩) (q.length + 1) cap) (q.length + 1) (flat3 (q ++ [(x, y, z)]))) :
    w.cell? ⟨g, q.length * 3, none⟩ = some (.int .i64 x) ∧ w.cell? ⟨g, q.length * 3 + 1, none⟩ = some (.int .i64 y) ∧ w.cell? ⟨g, q.length * 3 + 2, none⟩ = some (.int .i64 z) := by
  have hc := @World.ownsRow.cells w B T 3 _ _ _ h g rfl
  obtain ⟨h1, h2, h3⟩ := flat3_at (q ++ [(x, y, z)]) q.length (by simp)
  have c1 := hc _ _ h1
  have c2 := hc _ _ h2
  have c3 := hc _ _ h3
  rw [add_at] at c1 c2 c3
  simp only [Nat.zero_add, List.getElem?_concat_length, Option.getD_some] at c1 c2 c3
  exact ⟨c1, c2, c3⟩
theorem own_SSl {w : World} {B g cap : Nat} {T : TypeId} {q : List (Int × Int × Int)} {x y z : Int} (h : w.ownsRow B T 3 (.slice (some ⟨g, 0, none⟩) (q.length + 1) cap) (q.length + 1) (flat3 (q ++ [(x, y, z)]))) :
    SSl w (some ⟨g, 0, none⟩) (q.length + 1) (q ++ [(x, y, z)]) ∧ WSl B w (some ⟨g, 0, none⟩) ((q.length + 1) * 3) := by
  have e : (q ++ [(x, y, z)]).length = q.length + 1 := by simp
  rw [← e] at h ⊢
  obtain ⟨A, c, hv, h1, h2⟩ := owns_SSl h
  cases hv
  exact ⟨h1, h2⟩
theorem runL_last (rule : Int) : ∀ (m : Nat) (a b c : Int), ∃ q x y z, runL rule m a b c = q ++ [(x, y, z)] ∧ q.length ≤ m := by
  intro m
  induction m with
  | zero => intro a b c; exact ⟨[], a, b, c, rfl, Nat.le_refl _⟩
  | succ m ih =>
    intro a b c
    rw [runL]
    split
    · exact ⟨[], a, b, c, rfl, Nat.zero_le _⟩
    · obtain ⟨q, x, y, z, h, hl⟩ := ih (stepG a b c rule).1 (stepG a b c rule).2.1 (stepG a b c rule).2.2
      exact ⟨(a, b, c) :: q, x, y, z, by rw [h]; rfl, by simp; omega⟩
def lastR (rule a b c : Int) : Int × Int × Int := (runL rule 300 a b c).getLast?.getD (0, 0, 0)
def okR (rule a b c : Int) : Bool := endB (lastR rule a b c).2.1 (lastR rule a b c).2.2 rule
def wholeR (a b c rule : Int) : List (Int × Int × Int) × Int := if codeR a b c rule = 0 then (if okR rule a b c = true then (runL rule 300 a b c, 0) else ([], 3)) else ([], codeR a b c rule)
theorem whole_any (a b c rule : Int) (w : World) : Calls Try.prog 66 #[.agg #[.int .i64 a, .int .i64 b, .int .i64 c], .int .i64 rule] w fun e w' =>
    (∃ A cc, e = .returned (.tuple #[.slice A (wholeR a b c rule).1.length cc, .int .i64 (wholeR a b c rule).2]) ∧ SSl w' A (wholeR a b c rule).1.length (wholeR a b c rule).1) ∧ Below w.heap.size w w' := by
  have hk := fun W => ruleFault_any a b c rule W
  have hru := fun W => run_any a b c rule 300 W (Nat.le_refl _)
  simp only [show ((300 : Nat) : Int) = 300 from rfl] at hru
  have hlast : lastR rule a b c = (runL rule 300 a b c).getLast?.getD (0, 0, 0) := rfl
  have hok : okR rule a b c = endB (lastR rule a b c).2.1 (lastR rule a b c).2.2 rule := rfl
  obtain ⟨q0, x0, y0, z0, hL, hq⟩ := runL_last rule 300 a b c
  have hen := fun W => ended_any x0 y0 z0 rule W
  rw [hL] at hru hlast
  rw [hlast] at hok
  simp only [List.getLast?_append, List.getLast?_singleton, Option.some_or, Option.getD_some] at hok
  unfold wholeR
  rw [hL]
  obtain ⟨k, ek⟩ : ∃ k, codeR a b c rule = k := ⟨_, rfl⟩
  rw [ek] at hk ⊢
  rw [hok]
  obtain ⟨n, en⟩ : ∃ n, endB y0 z0 rule = n := ⟨_, rfl⟩
  rw [en] at hen ⊢
  have HK := Lib.hid hk
  have HR := Lib.hid hru
  have HE := Lib.hid hen
  clear hk ek hru hen en hlast hok hL
  by_cases h0 : k = 0
  · subst h0
    rw [if_pos rfl]
    cases n
    · rw [if_neg (by decide)]
      go_enter Try.func66, Try.ntmps66
      go_wp2_with (first | (go_at_call 63; (with_reducible refine (HK.out _).mono ?_); rintro e w1 ⟨rfl, hb1⟩; obtain ⟨hc1, hf1, hz1, hn1⟩ := bstep 1 w hb1 (by go_size)) | (go_at_call 74; (with_reducible refine (HR.out _).mono ?_); rintro e w2 ⟨⟨q, x, y, z, g, cap, rfl, hqq, hown⟩, hb2⟩; obtain ⟨hq1, hq2⟩ := List.append_inj' hqq rfl; cases hq2; cases hq1; have HO := Lib.hid hown; obtain ⟨d0, d1, d2⟩ := last_cells hown; clear hown hqq; obtain ⟨hc2, hf2, hz2, hn2⟩ := bstep 1 w hb2 (by go_size)) | (go_at_call 77; (with_reducible refine (HE.out _).mono ?_); rintro e w1 ⟨rfl, hb1⟩; obtain ⟨hc1, hf1, hz1, hn1⟩ := bstep 1 w hb1 (by go_size)))
      go_returns
      exact ⟨⟨none, 0, rfl, ⟨rfl, fun h => absurd h (by simp)⟩⟩, by (repeat' (first | (with_reducible exact Below.refl _ _) | (with_reducible refine Below.alloc ?_ ?_ _) | (with_reducible refine Below.drew ?_) | (with_reducible refine below_drewN' ?_ _) | (with_reducible refine Below.setCell ?_ ?_ _) | (with_reducible refine Below.trans ?_ (Below.mono (by assumption) ?_)) | go_size))⟩
    · rw [if_pos rfl]
      go_enter Try.func66, Try.ntmps66
      go_wp2_with (first | (go_at_call 63; (with_reducible refine (HK.out _).mono ?_); rintro e w1 ⟨rfl, hb1⟩; obtain ⟨hc1, hf1, hz1, hn1⟩ := bstep 1 w hb1 (by go_size)) | (go_at_call 74; (with_reducible refine (HR.out _).mono ?_); rintro e w2 ⟨⟨q, x, y, z, g, cap, rfl, hqq, hown⟩, hb2⟩; obtain ⟨hq1, hq2⟩ := List.append_inj' hqq rfl; cases hq2; cases hq1; have HO := Lib.hid hown; obtain ⟨d0, d1, d2⟩ := last_cells hown; clear hown hqq; obtain ⟨hc2, hf2, hz2, hn2⟩ := bstep 1 w hb2 (by go_size)) | (go_at_call 77; (with_reducible refine (HE.out _).mono ?_); rintro e w3 ⟨rfl, hb3⟩))
      go_returns
      obtain ⟨hS, _⟩ := own_SSl HO.out
      exact ⟨⟨some ⟨g, 0, none⟩, cap, by simp, by simpa using hS.keep hb3⟩, by (repeat' (first | (with_reducible exact Below.refl _ _) | (with_reducible refine Below.alloc ?_ ?_ _) | (with_reducible refine Below.drew ?_) | (with_reducible refine below_drewN' ?_ _) | (with_reducible refine Below.setCell ?_ ?_ _) | (with_reducible refine Below.trans ?_ (Below.mono (by assumption) ?_)) | go_size))⟩
  · rw [if_neg h0]
    have hd : (k != 0) = true := by simpa using h0
    clear h0
    go_enter Try.func66, Try.ntmps66
    go_wp2_with (first | (go_at_call 63; (with_reducible refine (HK.out _).mono ?_); rintro e w1 ⟨rfl, hb1⟩; obtain ⟨hc1, hf1, hz1, hn1⟩ := bstep 1 w hb1 (by go_size)))
    go_returns
    exact ⟨⟨none, 0, rfl, ⟨rfl, fun h => absurd h (by simp)⟩⟩, by (repeat' (first | (with_reducible exact Below.refl _ _) | (with_reducible refine Below.alloc ?_ ?_ _) | (with_reducible refine Below.drew ?_) | (with_reducible refine below_drewN' ?_ _) | (with_reducible refine Below.setCell ?_ ?_ _) | (with_reducible refine Below.trans ?_ (Below.mono (by assumption) ?_)) | go_size))⟩
def endT (rule a b c : Int) : (Int × Int × Int) × Int × Bool := if okR rule a b c = true then (lastR rule a b c, ((runL rule 300 a b c).length : Int) - 1, true) else ((0, 0, 0), 0, false)
theorem endT_ends {rule a b c x y z : Int} {q : List (Int × Int × Int)} (h : RunI rule 300 a b c q x y z) (he : endB y z rule = true) : endT rule a b c = ((x, y, z), (q.length : Int), true) := by
  have hL := h.ends he
  unfold endT okR lastR
  rw [← hL]
  simp [he]
theorem endT_full {rule a b c x y z : Int} {q : List (Int × Int × Int)} (h : RunI rule 300 a b c q x y z) (hm : q.length = 300) (he : endB y z rule = false) : endT rule a b c = ((0, 0, 0), 0, false) := by
  have hL := h.full (by omega)
  unfold endT okR lastR
  rw [← hL]
  simp [he]
theorem l07End_any (a b c rule : Int) (w : World) : Calls Try.prog 65 #[.agg #[.int .i64 a, .int .i64 b, .int .i64 c], .int .i64 rule] w fun e w' =>
    e = .returned (.tuple #[.agg #[.int .i64 (endT rule a b c).1.1, .int .i64 (endT rule a b c).1.2.1, .int .i64 (endT rule a b c).1.2.2], .int .i64 (endT rule a b c).2.1, .bool (endT rule a b c).2.2]) ∧ Below w.heap.size w w' := by
  obtain ⟨r, hr⟩ : ∃ r, endT rule a b c = r := ⟨_, rfl⟩
  rw [hr]
  have HT := Lib.hid hr
  clear hr
  have h0 : RunI rule 300 a b c [] a b c := ⟨Nat.zero_le _, rfl⟩
  have H0 := Lib.hid h0
  clear h0
  go_enter Try.func65, Try.ntmps65
  go_wp2
  go_loopw [7] (fun o wr => ∃ (q : List (Int × Int × Int)) (x y z : Int), o = .int .i64 q.length ∧ RunI rule 300 a b c q x y z ∧
      (wr.cell? ⟨w.heap.size, 0, none⟩ = some (.int .i64 x) ∧ wr.cell? ⟨w.heap.size, 1, none⟩ = some (.int .i64 y) ∧ wr.cell? ⟨w.heap.size, 2, none⟩ = some (.int .i64 z)) ∧ (wr.cell? ⟨w.heap.size + 1, 0, none⟩ = some (.int .i64 0) ∧ wr.cell? ⟨w.heap.size + 1, 1, none⟩ = some (.int .i64 0) ∧ wr.cell? ⟨w.heap.size + 1, 2, none⟩ = some (.int .i64 0)) ∧ (∀ j, wr.frozen? ⟨w.heap.size, j, none⟩ = false) ∧ (∀ j, wr.frozen? ⟨w.heap.size + 1, j, none⟩ = false) ∧ w.heap.size + 2 ≤ wr.heap.size ∧ Below w.heap.size w wr) (fun o _ => 300 - (intOf o).toNat)
  case atStart =>
    refine ⟨[], a, b, c, rfl, H0.out, ?_, ?_, ?_, ?_, by go_size, by (repeat' (first | (with_reducible exact Below.refl _ _) | (with_reducible refine Below.alloc ?_ ?_ _) | (with_reducible refine Below.drew ?_) | (with_reducible refine below_drewN' ?_ _) | (with_reducible refine Below.setCell ?_ ?_ _) | (with_reducible refine Below.trans ?_ (Below.mono (by assumption) ?_)) | go_size))⟩
    · (focus (((repeat' apply And.intro) <;> (repeat' (first | (with_reducible assumption) | (with_reducible refine keep_drew ?_) | (with_reducible refine keep_setx (by omega) ?_) | (with_reducible refine keep_hc (by with_reducible assumption) (by omega) ?_) | (focus (go_simp; done)) | (with_reducible refine keep_alloc ?_)))); done))
    · (focus (((repeat' apply And.intro) <;> (repeat' (first | (with_reducible assumption) | (with_reducible refine keep_drew ?_) | (with_reducible refine keep_setx (by omega) ?_) | (with_reducible refine keep_hc (by with_reducible assumption) (by omega) ?_) | (focus (go_simp; done)) | (with_reducible refine keep_alloc ?_)))); done))
    · intro j; go_simp
    · intro j; go_simp
  case round =>
    obtain ⟨q, x, y, z, rfl, hR, ⟨c0, c1, c2⟩, ⟨r0, r1, r2⟩, hfz, hfr, hsz, hB⟩ := hrel
    clear H0
    have hq := hR.1
    have hen := fun W => l07Ended_any x y z rule W
    have hst := fun W => l07Step_any x y z rule W
    have HR := Lib.hid hR
    obtain ⟨n, en⟩ : ∃ n, endB y z rule = n := ⟨_, rfl⟩
    obtain ⟨⟨x', y', z'⟩, es⟩ : ∃ s, stepG x y z rule = s := ⟨_, rfl⟩
    rw [en] at hen
    rw [es] at hst
    dsimp only at hst
    have HE := Lib.hid hen
    have HS := Lib.hid hst
    have HN := Lib.hid en
    have HX := Lib.hid es
    have HFZ := Lib.hid (And.intro hfz hfr)
    have f0 := hfz 0
    have f1 := hfz 1
    have f2 := hfz 2
    have g0 := hfr 0
    have g1 := hfr 1
    have g2 := hfr 2
    clear hR hen hst en es hfz hfr
    cases n
    · by_cases hlt : q.length = 300
      · have hE := endT_full HR.out hlt HN.out
        have HEN := Lib.hid hE
        clear hE
        have hlt' : ((q.length : Int) == 300) = true := by simp [hlt]
        go_wp2_with (first | (go_at_call 75; (with_reducible refine (HE.out _).mono ?_); rintro e w1 ⟨rfl, hb1⟩; obtain ⟨hg1, hi1, hy1, hx1⟩ := bfull hb1; (try simp only [World.size_drew] at hg1 hi1 hy1 hx1); (try simp only [World.size_alloc] at hg1 hi1 hy1 hx1); (try simp only [World.size_setCell] at hg1 hi1 hy1 hx1); obtain ⟨⟨s0, s1, s2⟩, ⟨sf0, sf1, sf2⟩, ss, sn⟩ : (w1.cell? ⟨w.heap.size + 1, 0, none⟩ = some (.int .i64 0) ∧ w1.cell? ⟨w.heap.size + 1, 1, none⟩ = some (.int .i64 0) ∧ w1.cell? ⟨w.heap.size + 1, 2, none⟩ = some (.int .i64 0)) ∧ (w1.frozen? ⟨w.heap.size + 1, 0, none⟩ = false ∧ w1.frozen? ⟨w.heap.size + 1, 1, none⟩ = false ∧ w1.frozen? ⟨w.heap.size + 1, 2, none⟩ = false) ∧ w.heap.size + 1 < w1.heap.size ∧ ¬ w1.heap.size = w.heap.size + 1 := ⟨by (focus (((repeat' apply And.intro) <;> (repeat' (first | (with_reducible assumption) | (with_reducible refine keep_drew ?_) | (with_reducible refine keep_setx (by omega) ?_) | (with_reducible refine keep_hc (by with_reducible assumption) (by omega) ?_) | (focus (go_simp; done)) | (with_reducible refine keep_alloc ?_)))); done)), by (focus (((repeat' apply And.intro) <;> (repeat' (first | (with_reducible assumption) | (with_reducible refine fz_drew ?_) | (with_reducible refine fz_set ?_) | (with_reducible refine fz_hc (by with_reducible assumption) (by omega) ?_) | (focus (go_simp; done)) | (with_reducible refine fz_alloc ?_ ?_) | go_size))); done)), by go_size, by go_size⟩))
        refine bodyPost_ret (by simp [results, Try.results65, go_sem, *]; try rfl) rfl ?_
        exact ⟨by rw [← HT.out, HEN.out], by (repeat' (first | (with_reducible exact Below.refl _ _) | (with_reducible refine Below.alloc ?_ ?_ _) | (with_reducible refine Below.drew ?_) | (with_reducible refine below_drewN' ?_ _) | (with_reducible refine Below.setCell ?_ ?_ _) | (with_reducible refine Below.trans ?_ (Below.mono (by assumption) ?_)) | go_size))⟩
      · have hlt' : ((q.length : Int) == 300) = false := by simp; omega
        have hnext := HR.out.next (by omega) HN.out HX.out
        have HQ := Lib.hid hnext
        have hl300 : q.length + 1 ≤ 300 := by omega
        clear hnext hlt
        go_upto_region 5 with (first | (go_at_call 75; (with_reducible refine (HE.out _).mono ?_); rintro e w1 ⟨rfl, hb1⟩; obtain ⟨hg1, hi1, hy1, hx1⟩ := bfull hb1; (try simp only [World.size_drew] at hg1 hi1 hy1 hx1); (try simp only [World.size_alloc] at hg1 hi1 hy1 hx1); (try simp only [World.size_setCell] at hg1 hi1 hy1 hx1); obtain ⟨⟨s0, s1, s2⟩, ⟨sf0, sf1, sf2⟩, ss, sn⟩ : (w1.cell? ⟨w.heap.size, 0, none⟩ = some (.int .i64 x) ∧ w1.cell? ⟨w.heap.size, 1, none⟩ = some (.int .i64 y) ∧ w1.cell? ⟨w.heap.size, 2, none⟩ = some (.int .i64 z)) ∧ (w1.frozen? ⟨w.heap.size, 0, none⟩ = false ∧ w1.frozen? ⟨w.heap.size, 1, none⟩ = false ∧ w1.frozen? ⟨w.heap.size, 2, none⟩ = false) ∧ w.heap.size < w1.heap.size ∧ ¬ w1.heap.size = w.heap.size := ⟨by (focus (((repeat' apply And.intro) <;> (repeat' (first | (with_reducible assumption) | (with_reducible refine keep_drew ?_) | (with_reducible refine keep_setx (by omega) ?_) | (with_reducible refine keep_hc (by with_reducible assumption) (by omega) ?_) | (focus (go_simp; done)) | (with_reducible refine keep_alloc ?_)))); done)), by (focus (((repeat' apply And.intro) <;> (repeat' (first | (with_reducible assumption) | (with_reducible refine fz_drew ?_) | (with_reducible refine fz_set ?_) | (with_reducible refine fz_hc (by with_reducible assumption) (by omega) ?_) | (focus (go_simp; done)) | (with_reducible refine fz_alloc ?_ ?_) | go_size))); done)), by go_size, by go_size⟩; obtain ⟨⟨u0, u1, u2⟩, ⟨uf0, uf1, uf2⟩, us, un⟩ : (w1.cell? ⟨w.heap.size + 1, 0, none⟩ = some (.int .i64 0) ∧ w1.cell? ⟨w.heap.size + 1, 1, none⟩ = some (.int .i64 0) ∧ w1.cell? ⟨w.heap.size + 1, 2, none⟩ = some (.int .i64 0)) ∧ (w1.frozen? ⟨w.heap.size + 1, 0, none⟩ = false ∧ w1.frozen? ⟨w.heap.size + 1, 1, none⟩ = false ∧ w1.frozen? ⟨w.heap.size + 1, 2, none⟩ = false) ∧ w.heap.size + 1 < w1.heap.size ∧ ¬ w1.heap.size = w.heap.size + 1 := ⟨by (focus (((repeat' apply And.intro) <;> (repeat' (first | (with_reducible assumption) | (with_reducible refine keep_drew ?_) | (with_reducible refine keep_setx (by omega) ?_) | (with_reducible refine keep_hc (by with_reducible assumption) (by omega) ?_) | (focus (go_simp; done)) | (with_reducible refine keep_alloc ?_)))); done)), by (focus (((repeat' apply And.intro) <;> (repeat' (first | (with_reducible assumption) | (with_reducible refine fz_drew ?_) | (with_reducible refine fz_set ?_) | (with_reducible refine fz_hc (by with_reducible assumption) (by omega) ?_) | (focus (go_simp; done)) | (with_reducible refine fz_alloc ?_ ?_) | go_size))); done)), by go_size, by go_size⟩))
        go_upto_region 6 with (first | (go_at_call 76; (with_reducible refine (HS.out _).mono ?_); rintro e w2 ⟨rfl, hb2⟩; obtain ⟨hg2, hi2, hy2, hx2⟩ := bfull hb2; (try simp only [World.size_drew] at hg2 hi2 hy2 hx2); (try simp only [World.size_alloc] at hg2 hi2 hy2 hx2); (try simp only [World.size_setCell] at hg2 hi2 hy2 hx2); obtain ⟨⟨s0, s1, s2⟩, ⟨sf0, sf1, sf2⟩, ss, sn⟩ : (w2.cell? ⟨w.heap.size, 0, none⟩ = some (.int .i64 x) ∧ w2.cell? ⟨w.heap.size, 1, none⟩ = some (.int .i64 y) ∧ w2.cell? ⟨w.heap.size, 2, none⟩ = some (.int .i64 z)) ∧ (w2.frozen? ⟨w.heap.size, 0, none⟩ = false ∧ w2.frozen? ⟨w.heap.size, 1, none⟩ = false ∧ w2.frozen? ⟨w.heap.size, 2, none⟩ = false) ∧ w.heap.size < w2.heap.size ∧ ¬ w2.heap.size = w.heap.size := ⟨by (focus (((repeat' apply And.intro) <;> (repeat' (first | (with_reducible assumption) | (with_reducible refine keep_drew ?_) | (with_reducible refine keep_setx (by omega) ?_) | (with_reducible refine keep_hc (by with_reducible assumption) (by omega) ?_) | (focus (go_simp; done)) | (with_reducible refine keep_alloc ?_)))); done)), by (focus (((repeat' apply And.intro) <;> (repeat' (first | (with_reducible assumption) | (with_reducible refine fz_drew ?_) | (with_reducible refine fz_set ?_) | (with_reducible refine fz_hc (by with_reducible assumption) (by omega) ?_) | (focus (go_simp; done)) | (with_reducible refine fz_alloc ?_ ?_) | go_size))); done)), by go_size, by go_size⟩; obtain ⟨⟨u0, u1, u2⟩, ⟨uf0, uf1, uf2⟩, us, un⟩ : (w2.cell? ⟨w.heap.size + 1, 0, none⟩ = some (.int .i64 0) ∧ w2.cell? ⟨w.heap.size + 1, 1, none⟩ = some (.int .i64 0) ∧ w2.cell? ⟨w.heap.size + 1, 2, none⟩ = some (.int .i64 0)) ∧ (w2.frozen? ⟨w.heap.size + 1, 0, none⟩ = false ∧ w2.frozen? ⟨w.heap.size + 1, 1, none⟩ = false ∧ w2.frozen? ⟨w.heap.size + 1, 2, none⟩ = false) ∧ w.heap.size + 1 < w2.heap.size ∧ ¬ w2.heap.size = w.heap.size + 1 := ⟨by (focus (((repeat' apply And.intro) <;> (repeat' (first | (with_reducible assumption) | (with_reducible refine keep_drew ?_) | (with_reducible refine keep_setx (by omega) ?_) | (with_reducible refine keep_hc (by with_reducible assumption) (by omega) ?_) | (focus (go_simp; done)) | (with_reducible refine keep_alloc ?_)))); done)), by (focus (((repeat' apply And.intro) <;> (repeat' (first | (with_reducible assumption) | (with_reducible refine fz_drew ?_) | (with_reducible refine fz_set ?_) | (with_reducible refine fz_hc (by with_reducible assumption) (by omega) ?_) | (focus (go_simp; done)) | (with_reducible refine fz_alloc ?_ ?_) | go_size))); done)), by go_size, by go_size⟩))
        refine wp_gen (F := fun w3 => (w3.cell? ⟨w.heap.size, 0, none⟩ = some (.int .i64 x') ∧ w3.cell? ⟨w.heap.size, 1, none⟩ = some (.int .i64 y') ∧ w3.cell? ⟨w.heap.size, 2, none⟩ = some (.int .i64 z')) ∧ (w3.cell? ⟨w.heap.size + 1, 0, none⟩ = some (.int .i64 0) ∧ w3.cell? ⟨w.heap.size + 1, 1, none⟩ = some (.int .i64 0) ∧ w3.cell? ⟨w.heap.size + 1, 2, none⟩ = some (.int .i64 0)) ∧ (∀ j, w3.frozen? ⟨w.heap.size, j, none⟩ = false) ∧ (∀ j, w3.frozen? ⟨w.heap.size + 1, j, none⟩ = false) ∧ w.heap.size + 2 ≤ w3.heap.size ∧ Below w.heap.size w w3) ?_ (fun w3 hw3 => ?_)
        · refine ⟨?_, ?_, fun j => ?_, fun j => ?_, by simp only [World.size_setCell]; omega, below_beyond (below_beyond (below_beyond (hB.trans ((hb1.mono (by omega)).trans (hb2.mono (by omega)))) (Nat.le_refl _)) (Nat.le_refl _)) (Nat.le_refl _)⟩
          · (repeat' apply And.intro) <;> go_simp
          · (repeat' apply And.intro) <;> go_simp
          · rw [World.frozen?_setCell, World.frozen?_setCell, World.frozen?_setCell]
            exact (hi2 _ _ (by omega)).trans ((hi1 _ _ (by omega)).trans (HFZ.out.1 j))
          · rw [World.frozen?_setCell, World.frozen?_setCell, World.frozen?_setCell]
            exact (hi2 _ _ (by omega)).trans ((hi1 _ _ (by omega)).trans (HFZ.out.2 j))
        obtain ⟨hd, he, hfz3, hfr3, hsz3, hB3⟩ := hw3
        have HK := Lib.hid (And.intro hd (And.intro he (And.intro hfz3 hfr3)))
        clear hd he hfz3 hfr3
        go_wp2
        go_roundw
        case rel => exact ⟨q ++ [(x, y, z)], x', y', z', by simp, HQ.out, HK.out.1, HK.out.2.1, HK.out.2.2.1, HK.out.2.2.2, hsz3, hB3⟩
        case measure => simp [intOf]; omega
    · have hE := endT_ends HR.out HN.out
      have HEN := Lib.hid hE
      clear hE
      go_wp2_with (first | (go_at_call 75; (with_reducible refine (HE.out _).mono ?_); rintro e w1 ⟨rfl, hb1⟩; obtain ⟨hg1, hi1, hy1, hx1⟩ := bfull hb1; (try simp only [World.size_drew] at hg1 hi1 hy1 hx1); (try simp only [World.size_alloc] at hg1 hi1 hy1 hx1); (try simp only [World.size_setCell] at hg1 hi1 hy1 hx1); obtain ⟨⟨s0, s1, s2⟩, ⟨sf0, sf1, sf2⟩, ss, sn⟩ : (w1.cell? ⟨w.heap.size, 0, none⟩ = some (.int .i64 x) ∧ w1.cell? ⟨w.heap.size, 1, none⟩ = some (.int .i64 y) ∧ w1.cell? ⟨w.heap.size, 2, none⟩ = some (.int .i64 z)) ∧ (w1.frozen? ⟨w.heap.size, 0, none⟩ = false ∧ w1.frozen? ⟨w.heap.size, 1, none⟩ = false ∧ w1.frozen? ⟨w.heap.size, 2, none⟩ = false) ∧ w.heap.size < w1.heap.size ∧ ¬ w1.heap.size = w.heap.size := ⟨by (focus (((repeat' apply And.intro) <;> (repeat' (first | (with_reducible assumption) | (with_reducible refine keep_drew ?_) | (with_reducible refine keep_setx (by omega) ?_) | (with_reducible refine keep_hc (by with_reducible assumption) (by omega) ?_) | (focus (go_simp; done)) | (with_reducible refine keep_alloc ?_)))); done)), by (focus (((repeat' apply And.intro) <;> (repeat' (first | (with_reducible assumption) | (with_reducible refine fz_drew ?_) | (with_reducible refine fz_set ?_) | (with_reducible refine fz_hc (by with_reducible assumption) (by omega) ?_) | (focus (go_simp; done)) | (with_reducible refine fz_alloc ?_ ?_) | go_size))); done)), by go_size, by go_size⟩; obtain ⟨⟨u0, u1, u2⟩, ⟨uf0, uf1, uf2⟩, us, un⟩ : (w1.cell? ⟨w.heap.size + 1, 0, none⟩ = some (.int .i64 0) ∧ w1.cell? ⟨w.heap.size + 1, 1, none⟩ = some (.int .i64 0) ∧ w1.cell? ⟨w.heap.size + 1, 2, none⟩ = some (.int .i64 0)) ∧ (w1.frozen? ⟨w.heap.size + 1, 0, none⟩ = false ∧ w1.frozen? ⟨w.heap.size + 1, 1, none⟩ = false ∧ w1.frozen? ⟨w.heap.size + 1, 2, none⟩ = false) ∧ w.heap.size + 1 < w1.heap.size ∧ ¬ w1.heap.size = w.heap.size + 1 := ⟨by (focus (((repeat' apply And.intro) <;> (repeat' (first | (with_reducible assumption) | (with_reducible refine keep_drew ?_) | (with_reducible refine keep_setx (by omega) ?_) | (with_reducible refine keep_hc (by with_reducible assumption) (by omega) ?_) | (focus (go_simp; done)) | (with_reducible refine keep_alloc ?_)))); done)), by (focus (((repeat' apply And.intro) <;> (repeat' (first | (with_reducible assumption) | (with_reducible refine fz_drew ?_) | (with_reducible refine fz_set ?_) | (with_reducible refine fz_hc (by with_reducible assumption) (by omega) ?_) | (focus (go_simp; done)) | (with_reducible refine fz_alloc ?_ ?_) | go_size))); done)), by go_size, by go_size⟩))
      refine bodyPost_ret (by simp [results, Try.results65, go_sem, *]; try rfl) rfl ?_
      exact ⟨by rw [← HT.out, HEN.out], by (repeat' (first | (with_reducible exact Below.refl _ _) | (with_reducible refine Below.alloc ?_ ?_ _) | (with_reducible refine Below.drew ?_) | (with_reducible refine below_drewN' ?_ _) | (with_reducible refine Below.setCell ?_ ?_ _) | (with_reducible refine Below.trans ?_ (Below.mono (by assumption) ?_)) | go_size))⟩
def lenRun (a b c rule : Int) : Int × Int := if codeR a b c rule = 0 then (if okR rule a b c = true then (((runL rule 300 a b c).length : Int) - 1, 0) else (0, 3)) else (0, codeR a b c rule)
def endRun (a b c rule : Int) : Int × Int × Int × Int := if codeR a b c rule = 0 then (if okR rule a b c = true then ((lastR rule a b c).1, (lastR rule a b c).2.1, (lastR rule a b c).2.2, 0) else (0, 0, 0, 3)) else (0, 0, 0, codeR a b c rule)
theorem codeR_pos {a b c rule : Int} (h : ¬ codeR a b c rule = 0) : codeR a b c rule = 1 ∨ codeR a b c rule = 2 := by
  unfold codeR at h ⊢
  split
  · split
    · simp_all
    · exact .inr rfl
  · exact .inl rfl
theorem implLenRun_any (a b c rule : Int) (w : World) : Calls Try.prog 20 #[.agg #[.int .i64 a, .int .i64 b, .int .i64 c], .int .i64 rule] w fun e w' =>
    e = .returned (.tuple #[.int .i64 (lenRun a b c rule).1, .int .i64 (lenRun a b c rule).2]) ∧ Below w.heap.size w w' := by
  have hw := fun W => whole_any a b c rule W
  unfold lenRun
  unfold wholeR at hw
  obtain ⟨q0, x0, y0, z0, hL, hq⟩ := runL_last rule 300 a b c
  rw [hL] at hw ⊢
  obtain ⟨k, ek⟩ : ∃ k, codeR a b c rule = k := ⟨_, rfl⟩
  obtain ⟨n, en⟩ : ∃ n, okR rule a b c = n := ⟨_, rfl⟩
  rw [ek, en] at hw ⊢
  clear ek en hL
  by_cases h0 : k = 0
  · subst h0
    rw [if_pos rfl] at hw ⊢
    cases n
    · rw [if_neg (by decide)] at hw ⊢
      have HW := Lib.hid hw
      clear hw
      go_enter Try.func20, Try.ntmps20
      go_wp2_with (first | (go_at_call 66; (with_reducible refine (HW.out _).mono ?_); rintro e w1 ⟨⟨A, cc, rfl, hS⟩, hb1⟩; clear hS))
      go_returns
      exact ⟨rfl, by (repeat' (first | (with_reducible exact Below.refl _ _) | (with_reducible refine Below.alloc ?_ ?_ _) | (with_reducible refine Below.drew ?_) | (with_reducible refine below_drewN' ?_ _) | (with_reducible refine Below.setCell ?_ ?_ _) | (with_reducible refine Below.trans ?_ (Below.mono (by assumption) ?_)) | go_size))⟩
    · rw [if_pos rfl] at hw ⊢
      simp only [List.length_append, List.length_singleton] at hw ⊢
      have HW := Lib.hid hw
      clear hw
      go_enter Try.func20, Try.ntmps20
      go_wp2_with (first | (go_at_call 66; (with_reducible refine (HW.out _).mono ?_); rintro e w1 ⟨⟨A, cc, rfl, hS⟩, hb1⟩; clear hS))
      go_returns
      exact ⟨by simp, by (repeat' (first | (with_reducible exact Below.refl _ _) | (with_reducible refine Below.alloc ?_ ?_ _) | (with_reducible refine Below.drew ?_) | (with_reducible refine below_drewN' ?_ _) | (with_reducible refine Below.setCell ?_ ?_ _) | (with_reducible refine Below.trans ?_ (Below.mono (by assumption) ?_)) | go_size))⟩
  · rw [if_neg h0] at hw ⊢
    have hd : (k != 0) = true := by simpa using h0
    have HW := Lib.hid hw
    clear hw h0
    go_enter Try.func20, Try.ntmps20
    go_wp2_with (first | (go_at_call 66; (with_reducible refine (HW.out _).mono ?_); rintro e w1 ⟨⟨A, cc, rfl, hS⟩, hb1⟩; clear hS))
    go_returns
    exact ⟨rfl, by (repeat' (first | (with_reducible exact Below.refl _ _) | (with_reducible refine Below.alloc ?_ ?_ _) | (with_reducible refine Below.drew ?_) | (with_reducible refine below_drewN' ?_ _) | (with_reducible refine Below.setCell ?_ ?_ _) | (with_reducible refine Below.trans ?_ (Below.mono (by assumption) ?_)) | go_size))⟩
theorem implEndRun_any (a b c rule : Int) (w : World) : Calls Try.prog 40 #[.agg #[.int .i64 a, .int .i64 b, .int .i64 c], .int .i64 rule] w fun e w' =>
    e = .returned (.tuple #[.agg #[.int .i64 (endRun a b c rule).1, .int .i64 (endRun a b c rule).2.1, .int .i64 (endRun a b c rule).2.2.1], .int .i64 (endRun a b c rule).2.2.2]) ∧ Below w.heap.size w w' := by
  have hw := fun W => whole_any a b c rule W
  unfold endRun lastR
  unfold wholeR at hw
  obtain ⟨q0, x0, y0, z0, hL, hq⟩ := runL_last rule 300 a b c
  rw [hL] at hw ⊢
  obtain ⟨k, ek⟩ : ∃ k, codeR a b c rule = k := ⟨_, rfl⟩
  obtain ⟨n, en⟩ : ∃ n, okR rule a b c = n := ⟨_, rfl⟩
  rw [ek, en] at hw ⊢
  clear ek en hL
  by_cases h0 : k = 0
  · subst h0
    rw [if_pos rfl] at hw ⊢
    cases n
    · rw [if_neg (by decide)] at hw ⊢
      have HW := Lib.hid hw
      clear hw
      go_enter Try.func40, Try.ntmps40
      go_wp2_with (first | (go_at_call 66; (with_reducible refine (HW.out _).mono ?_); rintro e w1 ⟨⟨A, cc, rfl, hS⟩, hb1⟩; clear hS; obtain ⟨hc1, hf1, hz1, hn1⟩ := bstep 2 w hb1 (by go_size); obtain ⟨⟨s0, s1, s2⟩, ⟨sf0, sf1, sf2⟩, ss, sn⟩ : (w1.cell? ⟨w.heap.size + 1, 0, none⟩ = some (.int .i64 0) ∧ w1.cell? ⟨w.heap.size + 1, 1, none⟩ = some (.int .i64 0) ∧ w1.cell? ⟨w.heap.size + 1, 2, none⟩ = some (.int .i64 0)) ∧ (w1.frozen? ⟨w.heap.size + 1, 0, none⟩ = false ∧ w1.frozen? ⟨w.heap.size + 1, 1, none⟩ = false ∧ w1.frozen? ⟨w.heap.size + 1, 2, none⟩ = false) ∧ w.heap.size + 1 < w1.heap.size ∧ ¬ w1.heap.size = w.heap.size + 1 := ⟨by (focus (((repeat' apply And.intro) <;> (repeat' (first | (with_reducible assumption) | (with_reducible refine keep_drew ?_) | (with_reducible refine keep_setx (by omega) ?_) | (with_reducible refine keep_hc (by with_reducible assumption) (by omega) ?_) | (focus (go_simp; done)) | (with_reducible refine keep_alloc ?_)))); done)), by (focus (((repeat' apply And.intro) <;> (repeat' (first | (with_reducible assumption) | (with_reducible refine fz_drew ?_) | (with_reducible refine fz_set ?_) | (with_reducible refine fz_hc (by with_reducible assumption) (by omega) ?_) | (focus (go_simp; done)) | (with_reducible refine fz_alloc ?_ ?_) | go_size))); done)), by go_size, by go_size⟩))
      refine bodyPost_ret (by simp [results, Try.results40, go_sem, *]; try rfl) rfl ?_
      exact ⟨rfl, by (repeat' (first | (with_reducible exact Below.refl _ _) | (with_reducible refine Below.alloc ?_ ?_ _) | (with_reducible refine Below.drew ?_) | (with_reducible refine below_drewN' ?_ _) | (with_reducible refine Below.setCell ?_ ?_ _) | (with_reducible refine Below.trans ?_ (Below.mono (by assumption) ?_)) | go_size))⟩
    · rw [if_pos rfl] at hw ⊢
      simp only [List.length_append, List.length_singleton] at hw
      simp only [List.getLast?_append, List.getLast?_singleton, Option.some_or, Option.getD_some]
      have HW := Lib.hid hw
      clear hw
      go_enter Try.func40, Try.ntmps40
      go_wp2_with (first | (go_at_call 66; (with_reducible refine (HW.out _).mono ?_); rintro e w1 ⟨⟨A, cc, rfl, hS⟩, hb1⟩; obtain ⟨b, off, rfl, _, hr⟩ := hS.2 (by omega); have hr2 := hr q0.length (by simp); simp only [List.getElem?_concat_length, Option.getD_some] at hr2; obtain ⟨d0, d1, d2⟩ := hr2; clear hS hr; obtain ⟨hc1, hf1, hz1, hn1⟩ := bstep 2 w hb1 (by go_size); obtain ⟨⟨s0, s1, s2⟩, ⟨sf0, sf1, sf2⟩, ss, sn⟩ : (w1.cell? ⟨w.heap.size + 1, 0, none⟩ = some (.int .i64 0) ∧ w1.cell? ⟨w.heap.size + 1, 1, none⟩ = some (.int .i64 0) ∧ w1.cell? ⟨w.heap.size + 1, 2, none⟩ = some (.int .i64 0)) ∧ (w1.frozen? ⟨w.heap.size + 1, 0, none⟩ = false ∧ w1.frozen? ⟨w.heap.size + 1, 1, none⟩ = false ∧ w1.frozen? ⟨w.heap.size + 1, 2, none⟩ = false) ∧ w.heap.size + 1 < w1.heap.size ∧ ¬ w1.heap.size = w.heap.size + 1 := ⟨by (focus (((repeat' apply And.intro) <;> (repeat' (first | (with_reducible assumption) | (with_reducible refine keep_drew ?_) | (with_reducible refine keep_setx (by omega) ?_) | (with_reducible refine keep_hc (by with_reducible assumption) (by omega) ?_) | (focus (go_simp; done)) | (with_reducible refine keep_alloc ?_)))); done)), by (focus (((repeat' apply And.intro) <;> (repeat' (first | (with_reducible assumption) | (with_reducible refine fz_drew ?_) | (with_reducible refine fz_set ?_) | (with_reducible refine fz_hc (by with_reducible assumption) (by omega) ?_) | (focus (go_simp; done)) | (with_reducible refine fz_alloc ?_ ?_) | go_size))); done)), by go_size, by go_size⟩))
      refine bodyPost_ret (by simp [results, Try.results40, go_sem, *]; try rfl) rfl ?_
      exact ⟨rfl, by (repeat' (first | (with_reducible exact Below.refl _ _) | (with_reducible refine Below.alloc ?_ ?_ _) | (with_reducible refine Below.drew ?_) | (with_reducible refine below_drewN' ?_ _) | (with_reducible refine Below.setCell ?_ ?_ _) | (with_reducible refine Below.trans ?_ (Below.mono (by assumption) ?_)) | go_size))⟩
  · rw [if_neg h0] at hw ⊢
    have hd : (k != 0) = true := by simpa using h0
    have HW := Lib.hid hw
    clear hw h0
    go_enter Try.func40, Try.ntmps40
    go_wp2_with (first | (go_at_call 66; (with_reducible refine (HW.out _).mono ?_); rintro e w1 ⟨⟨A, cc, rfl, hS⟩, hb1⟩; clear hS; obtain ⟨hc1, hf1, hz1, hn1⟩ := bstep 2 w hb1 (by go_size); obtain ⟨⟨s0, s1, s2⟩, ⟨sf0, sf1, sf2⟩, ss, sn⟩ : (w1.cell? ⟨w.heap.size + 1, 0, none⟩ = some (.int .i64 0) ∧ w1.cell? ⟨w.heap.size + 1, 1, none⟩ = some (.int .i64 0) ∧ w1.cell? ⟨w.heap.size + 1, 2, none⟩ = some (.int .i64 0)) ∧ (w1.frozen? ⟨w.heap.size + 1, 0, none⟩ = false ∧ w1.frozen? ⟨w.heap.size + 1, 1, none⟩ = false ∧ w1.frozen? ⟨w.heap.size + 1, 2, none⟩ = false) ∧ w.heap.size + 1 < w1.heap.size ∧ ¬ w1.heap.size = w.heap.size + 1 := ⟨by (focus (((repeat' apply And.intro) <;> (repeat' (first | (with_reducible assumption) | (with_reducible refine keep_drew ?_) | (with_reducible refine keep_setx (by omega) ?_) | (with_reducible refine keep_hc (by with_reducible assumption) (by omega) ?_) | (focus (go_simp; done)) | (with_reducible refine keep_alloc ?_)))); done)), by (focus (((repeat' apply And.intro) <;> (repeat' (first | (with_reducible assumption) | (with_reducible refine fz_drew ?_) | (with_reducible refine fz_set ?_) | (with_reducible refine fz_hc (by with_reducible assumption) (by omega) ?_) | (focus (go_simp; done)) | (with_reducible refine fz_alloc ?_ ?_) | go_size))); done)), by go_size, by go_size⟩))
    refine bodyPost_ret (by simp [results, Try.results40, go_sem, *]; try rfl) rfl ?_
    exact ⟨rfl, by (repeat' (first | (with_reducible exact Below.refl _ _) | (with_reducible refine Below.alloc ?_ ?_ _) | (with_reducible refine Below.drew ?_) | (with_reducible refine below_drewN' ?_ _) | (with_reducible refine Below.setCell ?_ ?_ _) | (with_reducible refine Below.trans ?_ (Below.mono (by assumption) ?_)) | go_size))⟩
end Go.Proofs.Ytdenfmgmapgpiaa
