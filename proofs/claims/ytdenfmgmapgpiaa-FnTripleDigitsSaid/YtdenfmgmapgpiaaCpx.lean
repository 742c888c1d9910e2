/-
  Sorted triples, the steps of rules: contracts. No condition but what stands in each.
-/
import Derived.Test.YtdenfmgmapgpiaaCps
namespace Go.Proofs.Ytdenfmgmapgpiaa
open Go.RowKit Go.Shelf Go.Sort
set_option maxHeartbeats 1000000
theorem at_any (a b c : Int) (N : Nat) (w : World) (h0 : w.cell? ⟨N, 0, none⟩ = some (.int .i64 (ord3 a b c).1)) (h1 : w.cell? ⟨N, 1, none⟩ = some (.int .i64 (ord3 a b c).2.1)) (h2 : w.cell? ⟨N, 2, none⟩ = some (.int .i64 (ord3 a b c).2.2)) :
    Calls Try.prog 58 #[.agg #[.int .i64 a, .int .i64 b, .int .i64 c], .slice (some ⟨N, 0, none⟩) 3 3] w fun e w' => e = .returned (.agg #[.int .i64 (sort3 a b c).1, .int .i64 (sort3 a b c).2.1, .int .i64 (sort3 a b c).2.2]) ∧ Below w.heap.size w w' := by
  have hN : N < w.heap.size := World.block_lt_of_cell? w _ h0
  rcases ord3_cases a b c with ⟨_, h, hs⟩ | ⟨_, h, hs⟩ | ⟨_, h, hs⟩ | ⟨_, ⟨⟩⟩ | ⟨_, ⟨⟩⟩ | ⟨_, h, hs⟩ | ⟨_, h, hs⟩ | ⟨_, h, hs⟩
  all_goals
    rw [h] at h0 h1 h2
    rw [hs]
    dsimp only at h0 h1 h2
    clear h hs
    go_enter Try.func58, Try.ntmps58
    go_wp2
  · go_region_held3 (fun w' => w'.cell? ⟨w.heap.size, 0, none⟩ = some (.int .i64 a) ∧ w'.cell? ⟨w.heap.size, 1, none⟩ = some (.int .i64 b) ∧ w'.cell? ⟨w.heap.size, 2, none⟩ = some (.int .i64 c) ∧ w'.cell? ⟨N, 0, none⟩ = some (.int .i64 2) ∧ w'.cell? ⟨N, 1, none⟩ = some (.int .i64 1) ∧ w'.cell? ⟨N, 2, none⟩ = some (.int .i64 0)) ((first | (go_split_ands; refine ⟨by go_size, ?_⟩; ((repeat' apply And.intro) <;> (repeat' (first | (with_reducible assumption) | (with_reducible refine keep_alloc ?_) | (with_reducible refine keep_drew ?_) | (with_reducible exact un_alloc1 (by go_size) (by with_reducible assumption)) | (with_reducible exact un_alloc2 (by go_size) (by with_reducible assumption)) | (with_reducible refine keep_setx (by omega) ?_) | (with_reducible refine keep_below hb1 (by go_size) ?_)))); done) | (refine ⟨by go_size, ?_⟩; ((repeat' apply And.intro) <;> (first | (with_reducible assumption) | go_simp)); done))) (fail)
    go_wp2
    refine bodyPost_ret (by simp [results, Try.results58, go_sem, *]; try rfl) rfl ?_
    exact ⟨rfl, by (repeat' (first | (with_reducible exact Below.refl _ _) | (with_reducible refine Below.alloc ?_ ?_ _) | (with_reducible refine Below.drew ?_) | (with_reducible refine below_drewN' ?_ _) | (with_reducible refine Below.setCell ?_ ?_ _) | (with_reducible refine Below.trans ?_ (Below.mono (by assumption) ?_)) | go_size))⟩
  · go_region_held3 (fun w' => w'.cell? ⟨w.heap.size, 0, none⟩ = some (.int .i64 a) ∧ w'.cell? ⟨w.heap.size, 1, none⟩ = some (.int .i64 b) ∧ w'.cell? ⟨w.heap.size, 2, none⟩ = some (.int .i64 c) ∧ w'.cell? ⟨N, 0, none⟩ = some (.int .i64 1) ∧ w'.cell? ⟨N, 1, none⟩ = some (.int .i64 2) ∧ w'.cell? ⟨N, 2, none⟩ = some (.int .i64 0)) ((first | (go_split_ands; refine ⟨by go_size, ?_⟩; ((repeat' apply And.intro) <;> (repeat' (first | (with_reducible assumption) | (with_reducible refine keep_alloc ?_) | (with_reducible refine keep_drew ?_) | (with_reducible exact un_alloc1 (by go_size) (by with_reducible assumption)) | (with_reducible exact un_alloc2 (by go_size) (by with_reducible assumption)) | (with_reducible refine keep_setx (by omega) ?_) | (with_reducible refine keep_below hb1 (by go_size) ?_)))); done) | (refine ⟨by go_size, ?_⟩; ((repeat' apply And.intro) <;> (first | (with_reducible assumption) | go_simp)); done))) (fail)
    go_wp2
    refine bodyPost_ret (by simp [results, Try.results58, go_sem, *]; try rfl) rfl ?_
    exact ⟨rfl, by (repeat' (first | (with_reducible exact Below.refl _ _) | (with_reducible refine Below.alloc ?_ ?_ _) | (with_reducible refine Below.drew ?_) | (with_reducible refine below_drewN' ?_ _) | (with_reducible refine Below.setCell ?_ ?_ _) | (with_reducible refine Below.trans ?_ (Below.mono (by assumption) ?_)) | go_size))⟩
  · go_region_held3 (fun w' => w'.cell? ⟨w.heap.size, 0, none⟩ = some (.int .i64 a) ∧ w'.cell? ⟨w.heap.size, 1, none⟩ = some (.int .i64 b) ∧ w'.cell? ⟨w.heap.size, 2, none⟩ = some (.int .i64 c) ∧ w'.cell? ⟨N, 0, none⟩ = some (.int .i64 1) ∧ w'.cell? ⟨N, 1, none⟩ = some (.int .i64 0) ∧ w'.cell? ⟨N, 2, none⟩ = some (.int .i64 2)) ((first | (go_split_ands; refine ⟨by go_size, ?_⟩; ((repeat' apply And.intro) <;> (repeat' (first | (with_reducible assumption) | (with_reducible refine keep_alloc ?_) | (with_reducible refine keep_drew ?_) | (with_reducible exact un_alloc1 (by go_size) (by with_reducible assumption)) | (with_reducible exact un_alloc2 (by go_size) (by with_reducible assumption)) | (with_reducible refine keep_setx (by omega) ?_) | (with_reducible refine keep_below hb1 (by go_size) ?_)))); done) | (refine ⟨by go_size, ?_⟩; ((repeat' apply And.intro) <;> (first | (with_reducible assumption) | go_simp)); done))) (fail)
    go_wp2
    refine bodyPost_ret (by simp [results, Try.results58, go_sem, *]; try rfl) rfl ?_
    exact ⟨rfl, by (repeat' (first | (with_reducible exact Below.refl _ _) | (with_reducible refine Below.alloc ?_ ?_ _) | (with_reducible refine Below.drew ?_) | (with_reducible refine below_drewN' ?_ _) | (with_reducible refine Below.setCell ?_ ?_ _) | (with_reducible refine Below.trans ?_ (Below.mono (by assumption) ?_)) | go_size))⟩
  · go_region_held3 (fun w' => w'.cell? ⟨w.heap.size, 0, none⟩ = some (.int .i64 a) ∧ w'.cell? ⟨w.heap.size, 1, none⟩ = some (.int .i64 b) ∧ w'.cell? ⟨w.heap.size, 2, none⟩ = some (.int .i64 c) ∧ w'.cell? ⟨N, 0, none⟩ = some (.int .i64 2) ∧ w'.cell? ⟨N, 1, none⟩ = some (.int .i64 0) ∧ w'.cell? ⟨N, 2, none⟩ = some (.int .i64 1)) ((first | (go_split_ands; refine ⟨by go_size, ?_⟩; ((repeat' apply And.intro) <;> (repeat' (first | (with_reducible assumption) | (with_reducible refine keep_alloc ?_) | (with_reducible refine keep_drew ?_) | (with_reducible exact un_alloc1 (by go_size) (by with_reducible assumption)) | (with_reducible exact un_alloc2 (by go_size) (by with_reducible assumption)) | (with_reducible refine keep_setx (by omega) ?_) | (with_reducible refine keep_below hb1 (by go_size) ?_)))); done) | (refine ⟨by go_size, ?_⟩; ((repeat' apply And.intro) <;> (first | (with_reducible assumption) | go_simp)); done))) (fail)
    go_wp2
    refine bodyPost_ret (by simp [results, Try.results58, go_sem, *]; try rfl) rfl ?_
    exact ⟨rfl, by (repeat' (first | (with_reducible exact Below.refl _ _) | (with_reducible refine Below.alloc ?_ ?_ _) | (with_reducible refine Below.drew ?_) | (with_reducible refine below_drewN' ?_ _) | (with_reducible refine Below.setCell ?_ ?_ _) | (with_reducible refine Below.trans ?_ (Below.mono (by assumption) ?_)) | go_size))⟩
  · go_region_held3 (fun w' => w'.cell? ⟨w.heap.size, 0, none⟩ = some (.int .i64 a) ∧ w'.cell? ⟨w.heap.size, 1, none⟩ = some (.int .i64 b) ∧ w'.cell? ⟨w.heap.size, 2, none⟩ = some (.int .i64 c) ∧ w'.cell? ⟨N, 0, none⟩ = some (.int .i64 0) ∧ w'.cell? ⟨N, 1, none⟩ = some (.int .i64 2) ∧ w'.cell? ⟨N, 2, none⟩ = some (.int .i64 1)) ((first | (go_split_ands; refine ⟨by go_size, ?_⟩; ((repeat' apply And.intro) <;> (repeat' (first | (with_reducible assumption) | (with_reducible refine keep_alloc ?_) | (with_reducible refine keep_drew ?_) | (with_reducible exact un_alloc1 (by go_size) (by with_reducible assumption)) | (with_reducible exact un_alloc2 (by go_size) (by with_reducible assumption)) | (with_reducible refine keep_setx (by omega) ?_) | (with_reducible refine keep_below hb1 (by go_size) ?_)))); done) | (refine ⟨by go_size, ?_⟩; ((repeat' apply And.intro) <;> (first | (with_reducible assumption) | go_simp)); done))) (fail)
    go_wp2
    refine bodyPost_ret (by simp [results, Try.results58, go_sem, *]; try rfl) rfl ?_
    exact ⟨rfl, by (repeat' (first | (with_reducible exact Below.refl _ _) | (with_reducible refine Below.alloc ?_ ?_ _) | (with_reducible refine Below.drew ?_) | (with_reducible refine below_drewN' ?_ _) | (with_reducible refine Below.setCell ?_ ?_ _) | (with_reducible refine Below.trans ?_ (Below.mono (by assumption) ?_)) | go_size))⟩
  · go_region_held3 (fun w' => w'.cell? ⟨w.heap.size, 0, none⟩ = some (.int .i64 a) ∧ w'.cell? ⟨w.heap.size, 1, none⟩ = some (.int .i64 b) ∧ w'.cell? ⟨w.heap.size, 2, none⟩ = some (.int .i64 c) ∧ w'.cell? ⟨N, 0, none⟩ = some (.int .i64 0) ∧ w'.cell? ⟨N, 1, none⟩ = some (.int .i64 1) ∧ w'.cell? ⟨N, 2, none⟩ = some (.int .i64 2)) ((first | (go_split_ands; refine ⟨by go_size, ?_⟩; ((repeat' apply And.intro) <;> (repeat' (first | (with_reducible assumption) | (with_reducible refine keep_alloc ?_) | (with_reducible refine keep_drew ?_) | (with_reducible exact un_alloc1 (by go_size) (by with_reducible assumption)) | (with_reducible exact un_alloc2 (by go_size) (by with_reducible assumption)) | (with_reducible refine keep_setx (by omega) ?_) | (with_reducible refine keep_below hb1 (by go_size) ?_)))); done) | (refine ⟨by go_size, ?_⟩; ((repeat' apply And.intro) <;> (first | (with_reducible assumption) | go_simp)); done))) (fail)
    go_wp2
    refine bodyPost_ret (by simp [results, Try.results58, go_sem, *]; try rfl) rfl ?_
    exact ⟨rfl, by (repeat' (first | (with_reducible exact Below.refl _ _) | (with_reducible refine Below.alloc ?_ ?_ _) | (with_reducible refine Below.drew ?_) | (with_reducible refine below_drewN' ?_ _) | (with_reducible refine Below.setCell ?_ ?_ _) | (with_reducible refine Below.trans ?_ (Below.mono (by assumption) ?_)) | go_size))⟩
theorem sorted_any (a b c : Int) (w : World) : Calls Try.prog 92 #[.agg #[.int .i64 a, .int .i64 b, .int .i64 c]] w fun e w' => e = .returned (.bool (decide (b ≤ a) && decide (c ≤ b))) ∧ Below w.heap.size w w' := by
  go_enter Try.func92, Try.ntmps92
  go_wp2
  all_goals
    go_returns
    exact ⟨ret_bool (by (try simp only [*]); (try simp); (try omega)), by (repeat' (first | (with_reducible exact Below.refl _ _) | (with_reducible refine Below.alloc ?_ ?_ _) | (with_reducible refine Below.drew ?_) | (with_reducible refine below_drewN' ?_ _) | (with_reducible refine Below.setCell ?_ ?_ _) | (with_reducible refine Below.trans ?_ (Below.mono (by assumption) ?_)) | go_size))⟩
theorem l07Sort_any (a b c : Int) (w : World) : Calls Try.prog 60 #[.agg #[.int .i64 a, .int .i64 b, .int .i64 c]] w fun e w' => e = .returned (.agg #[.int .i64 (sort3 a b c).1, .int .i64 (sort3 a b c).2.1, .int .i64 (sort3 a b c).2.2]) ∧ Below w.heap.size w w' := by
  have hq := fun W => l07Order_any a b c W
  rcases ord3_cases a b c with ⟨_, h, hs⟩ | ⟨_, h, hs⟩ | ⟨_, h, hs⟩ | ⟨_, ⟨⟩⟩ | ⟨_, ⟨⟩⟩ | ⟨_, h, hs⟩ | ⟨_, h, hs⟩ | ⟨_, h, hs⟩
  all_goals
    rw [h] at hq
    rw [hs]
    have HQ := Lib.hid hq
    clear h hs hq
    go_enter Try.func60, Try.ntmps60
    go_wp2_with (first | (go_at_call 90; (with_reducible refine (HQ.out _).mono ?_); rintro e w1 ⟨⟨N, hN, rfl, c0, c1, c2⟩, hb1⟩; obtain ⟨hc1, hf1, hz1, hn1⟩ := bstep 2 w hb1 (by go_size); (try simp only [World.size_drew] at hN); (try simp only [World.size_alloc] at hN); (try simp only [World.size_setCell] at hN)))
  · go_region_held3 (fun w' => w'.cell? ⟨w.heap.size, 0, none⟩ = some (.int .i64 a) ∧ w'.cell? ⟨w.heap.size, 1, none⟩ = some (.int .i64 b) ∧ w'.cell? ⟨w.heap.size, 2, none⟩ = some (.int .i64 c) ∧ w'.cell? ⟨N, 0, none⟩ = some (.int .i64 2) ∧ w'.cell? ⟨N, 1, none⟩ = some (.int .i64 1) ∧ w'.cell? ⟨N, 2, none⟩ = some (.int .i64 0)) ((focus (((repeat' apply And.intro) <;> (repeat' (first | (with_reducible assumption) | (with_reducible refine keep_drew ?_) | (with_reducible refine keep_setx (by omega) ?_) | (with_reducible refine keep_hc (by with_reducible assumption) (by omega) ?_) | (focus (go_simp; done)) | (with_reducible refine keep_alloc ?_)))); done))) (fail)
    go_wp2
    refine bodyPost_ret (by simp [results, Try.results60, go_sem, *]; try rfl) rfl ?_
    exact ⟨rfl, by (repeat' (first | (with_reducible exact Below.refl _ _) | (with_reducible refine Below.alloc ?_ ?_ _) | (with_reducible refine Below.drew ?_) | (with_reducible refine below_drewN' ?_ _) | (with_reducible refine Below.setCell ?_ ?_ _) | (with_reducible refine Below.trans ?_ (Below.mono (by assumption) ?_)) | go_size))⟩
  · go_region_held3 (fun w' => w'.cell? ⟨w.heap.size, 0, none⟩ = some (.int .i64 a) ∧ w'.cell? ⟨w.heap.size, 1, none⟩ = some (.int .i64 b) ∧ w'.cell? ⟨w.heap.size, 2, none⟩ = some (.int .i64 c) ∧ w'.cell? ⟨N, 0, none⟩ = some (.int .i64 1) ∧ w'.cell? ⟨N, 1, none⟩ = some (.int .i64 2) ∧ w'.cell? ⟨N, 2, none⟩ = some (.int .i64 0)) ((focus (((repeat' apply And.intro) <;> (repeat' (first | (with_reducible assumption) | (with_reducible refine keep_drew ?_) | (with_reducible refine keep_setx (by omega) ?_) | (with_reducible refine keep_hc (by with_reducible assumption) (by omega) ?_) | (focus (go_simp; done)) | (with_reducible refine keep_alloc ?_)))); done))) (fail)
    go_wp2
    refine bodyPost_ret (by simp [results, Try.results60, go_sem, *]; try rfl) rfl ?_
    exact ⟨rfl, by (repeat' (first | (with_reducible exact Below.refl _ _) | (with_reducible refine Below.alloc ?_ ?_ _) | (with_reducible refine Below.drew ?_) | (with_reducible refine below_drewN' ?_ _) | (with_reducible refine Below.setCell ?_ ?_ _) | (with_reducible refine Below.trans ?_ (Below.mono (by assumption) ?_)) | go_size))⟩
  · go_region_held3 (fun w' => w'.cell? ⟨w.heap.size, 0, none⟩ = some (.int .i64 a) ∧ w'.cell? ⟨w.heap.size, 1, none⟩ = some (.int .i64 b) ∧ w'.cell? ⟨w.heap.size, 2, none⟩ = some (.int .i64 c) ∧ w'.cell? ⟨N, 0, none⟩ = some (.int .i64 1) ∧ w'.cell? ⟨N, 1, none⟩ = some (.int .i64 0) ∧ w'.cell? ⟨N, 2, none⟩ = some (.int .i64 2)) ((focus (((repeat' apply And.intro) <;> (repeat' (first | (with_reducible assumption) | (with_reducible refine keep_drew ?_) | (with_reducible refine keep_setx (by omega) ?_) | (with_reducible refine keep_hc (by with_reducible assumption) (by omega) ?_) | (focus (go_simp; done)) | (with_reducible refine keep_alloc ?_)))); done))) (fail)
    go_wp2
    refine bodyPost_ret (by simp [results, Try.results60, go_sem, *]; try rfl) rfl ?_
    exact ⟨rfl, by (repeat' (first | (with_reducible exact Below.refl _ _) | (with_reducible refine Below.alloc ?_ ?_ _) | (with_reducible refine Below.drew ?_) | (with_reducible refine below_drewN' ?_ _) | (with_reducible refine Below.setCell ?_ ?_ _) | (with_reducible refine Below.trans ?_ (Below.mono (by assumption) ?_)) | go_size))⟩
  · go_region_held3 (fun w' => w'.cell? ⟨w.heap.size, 0, none⟩ = some (.int .i64 a) ∧ w'.cell? ⟨w.heap.size, 1, none⟩ = some (.int .i64 b) ∧ w'.cell? ⟨w.heap.size, 2, none⟩ = some (.int .i64 c) ∧ w'.cell? ⟨N, 0, none⟩ = some (.int .i64 2) ∧ w'.cell? ⟨N, 1, none⟩ = some (.int .i64 0) ∧ w'.cell? ⟨N, 2, none⟩ = some (.int .i64 1)) ((focus (((repeat' apply And.intro) <;> (repeat' (first | (with_reducible assumption) | (with_reducible refine keep_drew ?_) | (with_reducible refine keep_setx (by omega) ?_) | (with_reducible refine keep_hc (by with_reducible assumption) (by omega) ?_) | (focus (go_simp; done)) | (with_reducible refine keep_alloc ?_)))); done))) (fail)
    go_wp2
    refine bodyPost_ret (by simp [results, Try.results60, go_sem, *]; try rfl) rfl ?_
    exact ⟨rfl, by (repeat' (first | (with_reducible exact Below.refl _ _) | (with_reducible refine Below.alloc ?_ ?_ _) | (with_reducible refine Below.drew ?_) | (with_reducible refine below_drewN' ?_ _) | (with_reducible refine Below.setCell ?_ ?_ _) | (with_reducible refine Below.trans ?_ (Below.mono (by assumption) ?_)) | go_size))⟩
  · go_region_held3 (fun w' => w'.cell? ⟨w.heap.size, 0, none⟩ = some (.int .i64 a) ∧ w'.cell? ⟨w.heap.size, 1, none⟩ = some (.int .i64 b) ∧ w'.cell? ⟨w.heap.size, 2, none⟩ = some (.int .i64 c) ∧ w'.cell? ⟨N, 0, none⟩ = some (.int .i64 0) ∧ w'.cell? ⟨N, 1, none⟩ = some (.int .i64 2) ∧ w'.cell? ⟨N, 2, none⟩ = some (.int .i64 1)) ((focus (((repeat' apply And.intro) <;> (repeat' (first | (with_reducible assumption) | (with_reducible refine keep_drew ?_) | (with_reducible refine keep_setx (by omega) ?_) | (with_reducible refine keep_hc (by with_reducible assumption) (by omega) ?_) | (focus (go_simp; done)) | (with_reducible refine keep_alloc ?_)))); done))) (fail)
    go_wp2
    refine bodyPost_ret (by simp [results, Try.results60, go_sem, *]; try rfl) rfl ?_
    exact ⟨rfl, by (repeat' (first | (with_reducible exact Below.refl _ _) | (with_reducible refine Below.alloc ?_ ?_ _) | (with_reducible refine Below.drew ?_) | (with_reducible refine below_drewN' ?_ _) | (with_reducible refine Below.setCell ?_ ?_ _) | (with_reducible refine Below.trans ?_ (Below.mono (by assumption) ?_)) | go_size))⟩
  · go_region_held3 (fun w' => w'.cell? ⟨w.heap.size, 0, none⟩ = some (.int .i64 a) ∧ w'.cell? ⟨w.heap.size, 1, none⟩ = some (.int .i64 b) ∧ w'.cell? ⟨w.heap.size, 2, none⟩ = some (.int .i64 c) ∧ w'.cell? ⟨N, 0, none⟩ = some (.int .i64 0) ∧ w'.cell? ⟨N, 1, none⟩ = some (.int .i64 1) ∧ w'.cell? ⟨N, 2, none⟩ = some (.int .i64 2)) ((focus (((repeat' apply And.intro) <;> (repeat' (first | (with_reducible assumption) | (with_reducible refine keep_drew ?_) | (with_reducible refine keep_setx (by omega) ?_) | (with_reducible refine keep_hc (by with_reducible assumption) (by omega) ?_) | (focus (go_simp; done)) | (with_reducible refine keep_alloc ?_)))); done))) (fail)
    go_wp2
    refine bodyPost_ret (by simp [results, Try.results60, go_sem, *]; try rfl) rfl ?_
    exact ⟨rfl, by (repeat' (first | (with_reducible exact Below.refl _ _) | (with_reducible refine Below.alloc ?_ ?_ _) | (with_reducible refine Below.drew ?_) | (with_reducible refine below_drewN' ?_ _) | (with_reducible refine Below.setCell ?_ ?_ _) | (with_reducible refine Below.trans ?_ (Below.mono (by assumption) ?_)) | go_size))⟩
def madeG (a b c rule : Int) : Int × Int × Int :=
  if rule = 0 then (wrap64 (a - b), b, c) else if rule = 1 then (wrap64 (a - c), b, c) else if rule = 2 then (wrap64 (a - b), wrap64 (b - c), c) else (wrap64 (a - c), wrap64 (b - c), c)
theorem rule_cases (rule : Int) : rule = 0 ∨ rule = 1 ∨ rule = 2 ∨ ((rule == 0) = false ∧ (rule == 1) = false ∧ (rule == 2) = false ∧ ¬ rule = 0 ∧ ¬ rule = 1 ∧ ¬ rule = 2) := by
  by_cases h0 : rule = 0
  · exact .inl h0
  · by_cases h1 : rule = 1
    · exact .inr (.inl h1)
    · by_cases h2 : rule = 2
      · exact .inr (.inr (.inl h2))
      · exact .inr (.inr (.inr ⟨by simpa using h0, by simpa using h1, by simpa using h2, h0, h1, h2⟩))
def endB (b c rule : Int) : Bool := if rule = 0 ∨ rule = 2 then b == 0 else c == 0
def sortedB (a b c : Int) : Bool := decide (b ≤ a) && decide (c ≤ b)
def codeR (a b c rule : Int) : Int := if (tripB a b c && sortedB a b c) = true then (if inB rule 0 3 = true then 0 else 2) else 1
theorem sort3_self (a b c : Int) : ((sort3 a b c).1 == a && (sort3 a b c).2.1 == b && (sort3 a b c).2.2 == c) = sortedB a b c := by
  unfold sortedB
  rw [Bool.eq_iff_iff]
  simp only [Bool.and_eq_true, beq_iff_eq, decide_eq_true_eq]
  rcases ord3_cases a b c with ⟨h, _, hs⟩ | ⟨h, _, hs⟩ | ⟨h, _, hs⟩ | ⟨_, ⟨⟩⟩ | ⟨_, ⟨⟩⟩ | ⟨h, _, hs⟩ | ⟨h, _, hs⟩ | ⟨h, _, hs⟩ <;> rw [hs] <;> dsimp only <;> refine ⟨fun hh => ?_, fun hh => ?_⟩ <;> omega
theorem made_any (a b c rule : Int) (w : World) : Calls Try.prog 79 #[.agg #[.int .i64 a, .int .i64 b, .int .i64 c], .int .i64 rule] w fun e w' =>
    e = .returned (.agg #[.int .i64 (madeG a b c rule).1, .int .i64 (madeG a b c rule).2.1, .int .i64 (madeG a b c rule).2.2]) ∧ Below w.heap.size w w' := by
  rcases rule_cases rule with rfl | rfl | rfl | ⟨h0, h1, h2, g0, g1, g2⟩
  · rw [show madeG a b c 0 = (wrap64 (a - b), b, c) from rfl]
    go_enter Try.func79, Try.ntmps79
    go_wp2
    go_quiet (fail)
    go_wp2
    refine bodyPost_ret (by simp [results, Try.results79, go_sem, *]; try rfl) rfl ?_
    exact ⟨rfl, by (repeat' (first | (with_reducible exact Below.refl _ _) | (with_reducible refine Below.alloc ?_ ?_ _) | (with_reducible refine Below.drew ?_) | (with_reducible refine below_drewN' ?_ _) | (with_reducible refine Below.setCell ?_ ?_ _) | (with_reducible refine Below.trans ?_ (Below.mono (by assumption) ?_)) | go_size))⟩
  · rw [show madeG a b c 1 = (wrap64 (a - c), b, c) from rfl]
    go_enter Try.func79, Try.ntmps79
    go_wp2
    go_quiet (fail)
    go_wp2
    refine bodyPost_ret (by simp [results, Try.results79, go_sem, *]; try rfl) rfl ?_
    exact ⟨rfl, by (repeat' (first | (with_reducible exact Below.refl _ _) | (with_reducible refine Below.alloc ?_ ?_ _) | (with_reducible refine Below.drew ?_) | (with_reducible refine below_drewN' ?_ _) | (with_reducible refine Below.setCell ?_ ?_ _) | (with_reducible refine Below.trans ?_ (Below.mono (by assumption) ?_)) | go_size))⟩
  · rw [show madeG a b c 2 = (wrap64 (a - b), wrap64 (b - c), c) from rfl]
    go_enter Try.func79, Try.ntmps79
    go_wp2
    go_quiet (fail)
    go_wp2
    refine bodyPost_ret (by simp [results, Try.results79, go_sem, *]; try rfl) rfl ?_
    exact ⟨rfl, by (repeat' (first | (with_reducible exact Below.refl _ _) | (with_reducible refine Below.alloc ?_ ?_ _) | (with_reducible refine Below.drew ?_) | (with_reducible refine below_drewN' ?_ _) | (with_reducible refine Below.setCell ?_ ?_ _) | (with_reducible refine Below.trans ?_ (Below.mono (by assumption) ?_)) | go_size))⟩
  · rw [show madeG a b c rule = (wrap64 (a - c), wrap64 (b - c), c) from by simp [madeG, g0, g1, g2]]
    go_enter Try.func79, Try.ntmps79
    go_wp2
    go_quiet (fail)
    go_wp2
    refine bodyPost_ret (by simp [results, Try.results79, go_sem, *]; try rfl) rfl ?_
    exact ⟨rfl, by (repeat' (first | (with_reducible exact Below.refl _ _) | (with_reducible refine Below.alloc ?_ ?_ _) | (with_reducible refine Below.drew ?_) | (with_reducible refine below_drewN' ?_ _) | (with_reducible refine Below.setCell ?_ ?_ _) | (with_reducible refine Below.trans ?_ (Below.mono (by assumption) ?_)) | go_size))⟩
theorem l07Less_any (a b c rule : Int) (w : World) : Calls Try.prog 95 #[.agg #[.int .i64 a, .int .i64 b, .int .i64 c], .int .i64 rule] w fun e w' =>
    e = .returned (.agg #[.int .i64 (madeG a b c rule).1, .int .i64 (madeG a b c rule).2.1, .int .i64 (madeG a b c rule).2.2]) ∧ Below w.heap.size w w' := by
  rcases rule_cases rule with rfl | rfl | rfl | ⟨h0, h1, h2, g0, g1, g2⟩
  · rw [show madeG a b c 0 = (wrap64 (a - b), b, c) from rfl]
    go_enter Try.func95, Try.ntmps95
    go_wp2
    go_quiet (fail)
    go_wp2
    refine bodyPost_ret (by simp [results, Try.results95, go_sem, *]; try rfl) rfl ?_
    exact ⟨rfl, by (repeat' (first | (with_reducible exact Below.refl _ _) | (with_reducible refine Below.alloc ?_ ?_ _) | (with_reducible refine Below.drew ?_) | (with_reducible refine below_drewN' ?_ _) | (with_reducible refine Below.setCell ?_ ?_ _) | (with_reducible refine Below.trans ?_ (Below.mono (by assumption) ?_)) | go_size))⟩
  · rw [show madeG a b c 1 = (wrap64 (a - c), b, c) from rfl]
    go_enter Try.func95, Try.ntmps95
    go_wp2
    go_quiet (fail)
    go_wp2
    refine bodyPost_ret (by simp [results, Try.results95, go_sem, *]; try rfl) rfl ?_
    exact ⟨rfl, by (repeat' (first | (with_reducible exact Below.refl _ _) | (with_reducible refine Below.alloc ?_ ?_ _) | (with_reducible refine Below.drew ?_) | (with_reducible refine below_drewN' ?_ _) | (with_reducible refine Below.setCell ?_ ?_ _) | (with_reducible refine Below.trans ?_ (Below.mono (by assumption) ?_)) | go_size))⟩
  · rw [show madeG a b c 2 = (wrap64 (a - b), wrap64 (b - c), c) from rfl]
    go_enter Try.func95, Try.ntmps95
    go_wp2
    go_quiet (fail)
    go_wp2
    refine bodyPost_ret (by simp [results, Try.results95, go_sem, *]; try rfl) rfl ?_
    exact ⟨rfl, by (repeat' (first | (with_reducible exact Below.refl _ _) | (with_reducible refine Below.alloc ?_ ?_ _) | (with_reducible refine Below.drew ?_) | (with_reducible refine below_drewN' ?_ _) | (with_reducible refine Below.setCell ?_ ?_ _) | (with_reducible refine Below.trans ?_ (Below.mono (by assumption) ?_)) | go_size))⟩
  · rw [show madeG a b c rule = (wrap64 (a - c), wrap64 (b - c), c) from by simp [madeG, g0, g1, g2]]
    go_enter Try.func95, Try.ntmps95
    go_wp2
    go_quiet (fail)
    go_wp2
    refine bodyPost_ret (by simp [results, Try.results95, go_sem, *]; try rfl) rfl ?_
    exact ⟨rfl, by (repeat' (first | (with_reducible exact Below.refl _ _) | (with_reducible refine Below.alloc ?_ ?_ _) | (with_reducible refine Below.drew ?_) | (with_reducible refine below_drewN' ?_ _) | (with_reducible refine Below.setCell ?_ ?_ _) | (with_reducible refine Below.trans ?_ (Below.mono (by assumption) ?_)) | go_size))⟩
theorem ended_any (a b c rule : Int) (w : World) : Calls Try.prog 77 #[.agg #[.int .i64 a, .int .i64 b, .int .i64 c], .int .i64 rule] w fun e w' =>
    e = .returned (.bool (endB b c rule)) ∧ Below w.heap.size w w' := by
  rcases rule_cases rule with rfl | rfl | rfl | ⟨h0, h1, h2, g0, g1, g2⟩
  all_goals
    go_enter Try.func77, Try.ntmps77
    go_wp2
    go_returns
    exact ⟨ret_bool (by simp [endB, *]), by (repeat' (first | (with_reducible exact Below.refl _ _) | (with_reducible refine Below.alloc ?_ ?_ _) | (with_reducible refine Below.drew ?_) | (with_reducible refine below_drewN' ?_ _) | (with_reducible refine Below.setCell ?_ ?_ _) | (with_reducible refine Below.trans ?_ (Below.mono (by assumption) ?_)) | go_size))⟩
theorem l07Ended_any (a b c rule : Int) (w : World) : Calls Try.prog 75 #[.agg #[.int .i64 a, .int .i64 b, .int .i64 c], .int .i64 rule] w fun e w' =>
    e = .returned (.bool (endB b c rule)) ∧ Below w.heap.size w w' := by
  rcases rule_cases rule with rfl | rfl | rfl | ⟨h0, h1, h2, g0, g1, g2⟩
  all_goals
    go_enter Try.func75, Try.ntmps75
    go_wp2
    go_returns
    exact ⟨ret_bool (by simp [endB, *]), by (repeat' (first | (with_reducible exact Below.refl _ _) | (with_reducible refine Below.alloc ?_ ?_ _) | (with_reducible refine Below.drew ?_) | (with_reducible refine below_drewN' ?_ _) | (with_reducible refine Below.setCell ?_ ?_ _) | (with_reducible refine Below.trans ?_ (Below.mono (by assumption) ?_)) | go_size))⟩
def stepG (a b c rule : Int) : Int × Int × Int := sort3 (madeG a b c rule).1 (madeG a b c rule).2.1 (madeG a b c rule).2.2
theorem step_any (a b c rule : Int) (w : World) : Calls Try.prog 81 #[.agg #[.int .i64 a, .int .i64 b, .int .i64 c], .int .i64 rule] w fun e w' =>
    e = .returned (.agg #[.int .i64 (stepG a b c rule).1, .int .i64 (stepG a b c rule).2.1, .int .i64 (stepG a b c rule).2.2]) ∧ Below w.heap.size w w' := by
  unfold stepG
  have hm := fun W => made_any a b c rule W
  obtain ⟨⟨x, y, z⟩, hr⟩ : ∃ r, madeG a b c rule = r := ⟨_, rfl⟩
  rw [hr] at hm ⊢
  dsimp only at hm ⊢
  have HM := Lib.hid hm
  clear hm hr
  go_enter Try.func81, Try.ntmps81
  go_wp2_with (first | (go_at_call 79; (with_reducible refine (HM.out _).mono ?_); rintro e w1 ⟨rfl, hb1⟩; obtain ⟨hc1, hf1, hz1, hn1⟩ := bstep 2 w hb1 (by go_size); obtain ⟨⟨r0, r1, r2⟩, ⟨rf0, rf1, rf2⟩, rs, rn⟩ : (w1.cell? ⟨w.heap.size + 1, 0, none⟩ = some (.int .i64 0) ∧ w1.cell? ⟨w.heap.size + 1, 1, none⟩ = some (.int .i64 0) ∧ w1.cell? ⟨w.heap.size + 1, 2, none⟩ = some (.int .i64 0)) ∧ (w1.frozen? ⟨w.heap.size + 1, 0, none⟩ = false ∧ w1.frozen? ⟨w.heap.size + 1, 1, none⟩ = false ∧ w1.frozen? ⟨w.heap.size + 1, 2, none⟩ = false) ∧ w.heap.size + 1 < w1.heap.size ∧ ¬ w1.heap.size = w.heap.size + 1 := ⟨by (focus (((repeat' apply And.intro) <;> (repeat' (first | (with_reducible assumption) | (with_reducible refine keep_drew ?_) | (with_reducible refine keep_setx (by omega) ?_) | (with_reducible refine keep_hc (by with_reducible assumption) (by omega) ?_) | (focus (go_simp; done)) | (with_reducible refine keep_alloc ?_)))); done)), by (focus (((repeat' apply And.intro) <;> (repeat' (first | (with_reducible assumption) | (with_reducible refine fz_drew ?_) | (with_reducible refine fz_set ?_) | (with_reducible refine fz_hc (by with_reducible assumption) (by omega) ?_) | (focus (go_simp; done)) | (with_reducible refine fz_alloc ?_ ?_) | go_size))); done)), by go_size, by go_size⟩))
  go_region_held3 (fun w' => w'.cell? ⟨w1.heap.size, 0, none⟩ = some (.int .i64 x) ∧ w'.cell? ⟨w1.heap.size, 1, none⟩ = some (.int .i64 y) ∧ w'.cell? ⟨w1.heap.size, 2, none⟩ = some (.int .i64 z)) ((focus (((repeat' apply And.intro) <;> (repeat' (first | (with_reducible assumption) | (with_reducible refine keep_drew ?_) | (with_reducible refine keep_setx (by omega) ?_) | (with_reducible refine keep_hc (by with_reducible assumption) (by omega) ?_) | (focus (go_simp; done)) | (with_reducible refine keep_alloc ?_)))); done))) (first | (go_at_call 59; (with_reducible refine (order_any _ _ _ _).mono ?_); rintro e w2 ⟨⟨N, hN, rfl, c0, c1, c2⟩, hb2⟩; (try simp only [World.size_drew] at hN); (try simp only [World.size_alloc] at hN); (try simp only [World.size_setCell] at hN); obtain ⟨hc2, hf2, hz2, hn2⟩ := bstep 2 w hb2 (by go_size); obtain ⟨hg2, hi2, hy2, hx2⟩ := bfull hb2; (try simp only [World.size_drew] at hg2 hi2 hy2 hx2); (try simp only [World.size_alloc] at hg2 hi2 hy2 hx2); (try simp only [World.size_setCell] at hg2 hi2 hy2 hx2); obtain ⟨⟨r0, r1, r2⟩, ⟨rf0, rf1, rf2⟩, rs, rn⟩ : (w2.cell? ⟨w.heap.size + 1, 0, none⟩ = some (.int .i64 0) ∧ w2.cell? ⟨w.heap.size + 1, 1, none⟩ = some (.int .i64 0) ∧ w2.cell? ⟨w.heap.size + 1, 2, none⟩ = some (.int .i64 0)) ∧ (w2.frozen? ⟨w.heap.size + 1, 0, none⟩ = false ∧ w2.frozen? ⟨w.heap.size + 1, 1, none⟩ = false ∧ w2.frozen? ⟨w.heap.size + 1, 2, none⟩ = false) ∧ w.heap.size + 1 < w2.heap.size ∧ ¬ w2.heap.size = w.heap.size + 1 := ⟨by (focus (((repeat' apply And.intro) <;> (repeat' (first | (with_reducible assumption) | (with_reducible refine keep_drew ?_) | (with_reducible refine keep_setx (by omega) ?_) | (with_reducible refine keep_hc (by with_reducible assumption) (by omega) ?_) | (focus (go_simp; done)) | (with_reducible refine keep_alloc ?_)))); done)), by (focus (((repeat' apply And.intro) <;> (repeat' (first | (with_reducible assumption) | (with_reducible refine fz_drew ?_) | (with_reducible refine fz_set ?_) | (with_reducible refine fz_hc (by with_reducible assumption) (by omega) ?_) | (focus (go_simp; done)) | (with_reducible refine fz_alloc ?_ ?_) | go_size))); done)), by go_size, by go_size⟩) | (go_at_call 58; (with_reducible refine (at_any _ _ _ _ _ c0 c1 c2).mono ?_); rintro e w3 ⟨rfl, hb3⟩; obtain ⟨hc3, hf3, hz3, hn3⟩ := bstep 2 w hb3 (by go_size); obtain ⟨hg3, hi3, hy3, hx3⟩ := bfull hb3; (try simp only [World.size_drew] at hg3 hi3 hy3 hx3); (try simp only [World.size_alloc] at hg3 hi3 hy3 hx3); (try simp only [World.size_setCell] at hg3 hi3 hy3 hx3); obtain ⟨⟨r0, r1, r2⟩, ⟨rf0, rf1, rf2⟩, rs, rn⟩ : (w3.cell? ⟨w.heap.size + 1, 0, none⟩ = some (.int .i64 0) ∧ w3.cell? ⟨w.heap.size + 1, 1, none⟩ = some (.int .i64 0) ∧ w3.cell? ⟨w.heap.size + 1, 2, none⟩ = some (.int .i64 0)) ∧ (w3.frozen? ⟨w.heap.size + 1, 0, none⟩ = false ∧ w3.frozen? ⟨w.heap.size + 1, 1, none⟩ = false ∧ w3.frozen? ⟨w.heap.size + 1, 2, none⟩ = false) ∧ w.heap.size + 1 < w3.heap.size ∧ ¬ w3.heap.size = w.heap.size + 1 := ⟨by (focus (((repeat' apply And.intro) <;> (repeat' (first | (with_reducible assumption) | (with_reducible refine keep_drew ?_) | (with_reducible refine keep_setx (by omega) ?_) | (with_reducible refine keep_hc (by with_reducible assumption) (by omega) ?_) | (focus (go_simp; done)) | (with_reducible refine keep_alloc ?_)))); done)), by (focus (((repeat' apply And.intro) <;> (repeat' (first | (with_reducible assumption) | (with_reducible refine fz_drew ?_) | (with_reducible refine fz_set ?_) | (with_reducible refine fz_hc (by with_reducible assumption) (by omega) ?_) | (focus (go_simp; done)) | (with_reducible refine fz_alloc ?_ ?_) | go_size))); done)), by go_size, by go_size⟩))
  go_wp2
  refine bodyPost_ret (by simp [results, Try.results81, go_sem, *]; try rfl) rfl ?_
  exact ⟨rfl, by (repeat' (first | (with_reducible exact Below.refl _ _) | (with_reducible refine Below.alloc ?_ ?_ _) | (with_reducible refine Below.drew ?_) | (with_reducible refine below_drewN' ?_ _) | (with_reducible refine Below.setCell ?_ ?_ _) | (with_reducible refine Below.trans ?_ (Below.mono (by assumption) ?_)) | go_size))⟩
theorem l07Step_any (a b c rule : Int) (w : World) : Calls Try.prog 76 #[.agg #[.int .i64 a, .int .i64 b, .int .i64 c], .int .i64 rule] w fun e w' =>
    e = .returned (.agg #[.int .i64 (stepG a b c rule).1, .int .i64 (stepG a b c rule).2.1, .int .i64 (stepG a b c rule).2.2]) ∧ Below w.heap.size w w' := by
  unfold stepG
  have hm := fun W => l07Less_any a b c rule W
  obtain ⟨⟨x, y, z⟩, hr⟩ : ∃ r, madeG a b c rule = r := ⟨_, rfl⟩
  rw [hr] at hm ⊢
  dsimp only at hm ⊢
  have HM := Lib.hid hm
  clear hm hr
  go_enter Try.func76, Try.ntmps76
  go_wp2_with (first | (go_at_call 95; (with_reducible refine (HM.out _).mono ?_); rintro e w1 ⟨rfl, hb1⟩; obtain ⟨hc1, hf1, hz1, hn1⟩ := bstep 2 w hb1 (by go_size)) | (go_at_call 60; (with_reducible refine (l07Sort_any _ _ _ _).mono ?_); rintro e w1 ⟨rfl, hb1⟩; obtain ⟨hc1, hf1, hz1, hn1⟩ := bstep 2 w hb1 (by go_size)))
  refine bodyPost_ret (by simp [results, Try.results76, go_sem, *]; try rfl) rfl ?_
  exact ⟨rfl, by (repeat' (first | (with_reducible exact Below.refl _ _) | (with_reducible refine Below.alloc ?_ ?_ _) | (with_reducible refine Below.drew ?_) | (with_reducible refine below_drewN' ?_ _) | (with_reducible refine Below.setCell ?_ ?_ _) | (with_reducible refine Below.trans ?_ (Below.mono (by assumption) ?_)) | go_size))⟩
theorem ruleFault_any (a b c rule : Int) (w : World) : Calls Try.prog 63 #[.agg #[.int .i64 a, .int .i64 b, .int .i64 c], .int .i64 rule] w fun e w' =>
    e = .returned (.int .i64 (codeR a b c rule)) ∧ Below w.heap.size w w' := by
  have ht := fun W => IsTriple_any a b c W
  have hs := fun W => sorted_any a b c W
  have hi := fun W => in_any rule 0 3 W
  unfold codeR sortedB
  obtain ⟨t, et⟩ : ∃ t, tripB a b c = t := ⟨_, rfl⟩
  obtain ⟨s, es⟩ : ∃ s, (decide (b ≤ a) && decide (c ≤ b)) = s := ⟨_, rfl⟩
  obtain ⟨i, ei⟩ : ∃ i, inB rule 0 3 = i := ⟨_, rfl⟩
  rw [et] at ht ⊢
  rw [es] at hs ⊢
  rw [ei] at hi ⊢
  have HT := Lib.hid ht
  have HS := Lib.hid hs
  have HI := Lib.hid hi
  clear ht hs hi et es ei
  cases t <;> cases s <;> cases i
  all_goals
    go_enter Try.func63, Try.ntmps63
    go_wp2_with (first | (go_at_call 27; (with_reducible refine (HT.out _).mono ?_); rintro e w1 ⟨rfl, hb1⟩; obtain ⟨hc1, hf1, hz1, hn1⟩ := bstep 1 w hb1 (by go_size)) | (go_at_call 92; (with_reducible refine (HS.out _).mono ?_); rintro e w1 ⟨rfl, hb1⟩; obtain ⟨hc1, hf1, hz1, hn1⟩ := bstep 1 w hb1 (by go_size)) | (go_at_call 85; (with_reducible refine (HI.out _).mono ?_); rintro e w' ⟨rfl, rfl⟩))
    go_returns
    exact ⟨rfl, by (repeat' (first | (with_reducible exact Below.refl _ _) | (with_reducible refine Below.alloc ?_ ?_ _) | (with_reducible refine Below.drew ?_) | (with_reducible refine below_drewN' ?_ _) | (with_reducible refine Below.setCell ?_ ?_ _) | (with_reducible refine Below.trans ?_ (Below.mono (by assumption) ?_)) | go_size))⟩
theorem l07Code_any (a b c rule : Int) (w : World) : Calls Try.prog 64 #[.agg #[.int .i64 a, .int .i64 b, .int .i64 c], .int .i64 rule] w fun e w' =>
    e = .returned (.int .i64 (codeR a b c rule)) ∧ Below w.heap.size w w' := by
  have ht := fun W => l07Is_any a b c W
  have hs := fun W => l07Sort_any a b c W
  have hi := fun W => l01In_any rule 0 3 W
  have hv := fun W => neqTriple_run W (sort3 a b c).1 (sort3 a b c).2.1 (sort3 a b c).2.2 a b c
  unfold codeR
  have hself := sort3_self a b c
  obtain ⟨t, et⟩ : ∃ t, tripB a b c = t := ⟨_, rfl⟩
  obtain ⟨s, es⟩ : ∃ s, sortedB a b c = s := ⟨_, rfl⟩
  obtain ⟨i, ei⟩ : ∃ i, inB rule 0 3 = i := ⟨_, rfl⟩
  rw [es] at hself
  simp only [hself] at hv
  obtain ⟨⟨x, y, z⟩, hr⟩ : ∃ r, sort3 a b c = r := ⟨_, rfl⟩
  rw [hr] at hs hv
  dsimp only at hs hv
  rw [et] at ht ⊢
  rw [es] at ⊢
  rw [ei] at hi ⊢
  have HT := Lib.hid ht
  have HS := Lib.hid hs
  have HI := Lib.hid hi
  clear ht hs hi et es ei hself hr
  cases t <;> cases s <;> cases i
  all_goals
    go_enter Try.func64, Try.ntmps64
    go_wp2
    (refine wp_region_beyond (w.heap.size + 1) (by kernel_rfl) (by kernel_rfl) (by go_size) (fun hBe => ?_); (repeat (first | go_big_quiet_step ((first | (go_at_call 48; exact beyond_of (HT.out _)) | (go_at_call 60; exact beyond_of (HS.out _)))) | quiet_step ((first | (go_at_call 48; exact beyond_of (HT.out _)) | (go_at_call 60; exact beyond_of (HS.out _)))))); refine wpQuiet_nil ?_; clear hBe; intro w1 hb1; obtain ⟨hc1, hf1, hz1, hn1⟩ := bstep 1 w hb1 (by go_size))
    go_wp2_with (first | (go_at_call 57; (with_reducible refine (HI.out _).mono ?_); rintro e w' ⟨rfl, rfl⟩))
    go_returns
    exact ⟨rfl, by (repeat' (first | (with_reducible exact Below.refl _ _) | (with_reducible refine Below.alloc ?_ ?_ _) | (with_reducible refine Below.drew ?_) | (with_reducible refine below_drewN' ?_ _) | (with_reducible refine Below.setCell ?_ ?_ _) | (with_reducible refine Below.trans ?_ (Below.mono (by assumption) ?_)) | go_size))⟩
def endR (a b c rule : Int) : Bool × Int := if codeR a b c rule = 0 then (endB b c rule, 0) else (false, codeR a b c rule)
theorem implHasEnded_any (a b c rule : Int) (w : World) : Calls Try.prog 33 #[.agg #[.int .i64 a, .int .i64 b, .int .i64 c], .int .i64 rule] w fun e w' =>
    e = .returned (.tuple #[.bool (endR a b c rule).1, .int .i64 (endR a b c rule).2]) ∧ Below w.heap.size w w' := by
  have hk := fun W => ruleFault_any a b c rule W
  unfold endR
  obtain ⟨k, ek⟩ : ∃ k, codeR a b c rule = k := ⟨_, rfl⟩
  rw [ek] at hk ⊢
  have HK := Lib.hid hk
  clear hk ek
  by_cases h0 : k = 0
  · subst h0
    rw [if_pos rfl]
    go_enter Try.func33, Try.ntmps33
    go_wp2_with (first | (go_at_call 63; (with_reducible refine (HK.out _).mono ?_); rintro e w1 ⟨rfl, hb1⟩; obtain ⟨hc1, hf1, hz1, hn1⟩ := bstep 1 w hb1 (by go_size)) | (go_at_call 77; (with_reducible refine (ended_any _ _ _ _ _).mono ?_); rintro e w1 ⟨rfl, hb1⟩; obtain ⟨hc1, hf1, hz1, hn1⟩ := bstep 1 w hb1 (by go_size)))
    go_returns
    exact ⟨rfl, by (repeat' (first | (with_reducible exact Below.refl _ _) | (with_reducible refine Below.alloc ?_ ?_ _) | (with_reducible refine Below.drew ?_) | (with_reducible refine below_drewN' ?_ _) | (with_reducible refine Below.setCell ?_ ?_ _) | (with_reducible refine Below.trans ?_ (Below.mono (by assumption) ?_)) | go_size))⟩
  · rw [if_neg h0]
    have hd : (k != 0) = true := by simpa using h0
    have hd' : (k == 0) = false := by simpa using h0
    go_enter Try.func33, Try.ntmps33
    go_wp2_with (first | (go_at_call 63; (with_reducible refine (HK.out _).mono ?_); rintro e w1 ⟨rfl, hb1⟩; obtain ⟨hc1, hf1, hz1, hn1⟩ := bstep 1 w hb1 (by go_size)))
    go_returns
    exact ⟨rfl, by (repeat' (first | (with_reducible exact Below.refl _ _) | (with_reducible refine Below.alloc ?_ ?_ _) | (with_reducible refine Below.drew ?_) | (with_reducible refine below_drewN' ?_ _) | (with_reducible refine Below.setCell ?_ ?_ _) | (with_reducible refine Below.trans ?_ (Below.mono (by assumption) ?_)) | go_size))⟩
theorem specHasEnded_any (a b c rule : Int) (w : World) : Calls Try.prog 43 #[.agg #[.int .i64 a, .int .i64 b, .int .i64 c], .int .i64 rule] w fun e w' =>
    e = .returned (.tuple #[.bool (endR a b c rule).1, .int .i64 (endR a b c rule).2]) ∧ Below w.heap.size w w' := by
  have hk := fun W => l07Code_any a b c rule W
  unfold endR
  obtain ⟨k, ek⟩ : ∃ k, codeR a b c rule = k := ⟨_, rfl⟩
  rw [ek] at hk ⊢
  have HK := Lib.hid hk
  clear hk ek
  by_cases h0 : k = 0
  · subst h0
    rw [if_pos rfl]
    go_enter Try.func43, Try.ntmps43
    go_wp2_with (first | (go_at_call 64; (with_reducible refine (HK.out _).mono ?_); rintro e w1 ⟨rfl, hb1⟩; obtain ⟨hc1, hf1, hz1, hn1⟩ := bstep 1 w hb1 (by go_size)) | (go_at_call 75; (with_reducible refine (l07Ended_any _ _ _ _ _).mono ?_); rintro e w1 ⟨rfl, hb1⟩; obtain ⟨hc1, hf1, hz1, hn1⟩ := bstep 1 w hb1 (by go_size)))
    go_returns
    exact ⟨rfl, by (repeat' (first | (with_reducible exact Below.refl _ _) | (with_reducible refine Below.alloc ?_ ?_ _) | (with_reducible refine Below.drew ?_) | (with_reducible refine below_drewN' ?_ _) | (with_reducible refine Below.setCell ?_ ?_ _) | (with_reducible refine Below.trans ?_ (Below.mono (by assumption) ?_)) | go_size))⟩
  · rw [if_neg h0]
    have hd : (k != 0) = true := by simpa using h0
    have hd' : (k == 0) = false := by simpa using h0
    go_enter Try.func43, Try.ntmps43
    go_wp2_with (first | (go_at_call 64; (with_reducible refine (HK.out _).mono ?_); rintro e w1 ⟨rfl, hb1⟩; obtain ⟨hc1, hf1, hz1, hn1⟩ := bstep 1 w hb1 (by go_size)))
    go_returns
    exact ⟨rfl, by (repeat' (first | (with_reducible exact Below.refl _ _) | (with_reducible refine Below.alloc ?_ ?_ _) | (with_reducible refine Below.drew ?_) | (with_reducible refine below_drewN' ?_ _) | (with_reducible refine Below.setCell ?_ ?_ _) | (with_reducible refine Below.trans ?_ (Below.mono (by assumption) ?_)) | go_size))⟩
def stepR (a b c rule : Int) : Int × Int × Int × Int := if codeR a b c rule = 0 then ((stepG a b c rule).1, (stepG a b c rule).2.1, (stepG a b c rule).2.2, 0) else (0, 0, 0, codeR a b c rule)
theorem codeR_zero {a b c rule : Int} (h : codeR a b c rule = 0) : (tripB a b c = true ∧ sortedB a b c = true) ∧ inB rule 0 3 = true := by
  unfold codeR at h
  split at h
  · rename_i h1
    split at h
    · rename_i h2
      exact ⟨by simpa using h1, h2⟩
    · cases h
  · cases h
theorem tripB_iff {a b c : Int} : tripB a b c = true ↔ (0 ≤ a ∧ a ≤ 1000000) ∧ (0 ≤ b ∧ b ≤ 1000000) ∧ (0 ≤ c ∧ c ≤ 1000000) ∧ ¬ (a = 0 ∧ b = 0 ∧ c = 0) := by
  simp only [tripB, numB, Bool.and_eq_true, inB_iff, Bool.not_eq_true', Bool.and_eq_false_iff, beq_eq_false_iff_ne]
  omega
theorem sortedB_iff {a b c : Int} : sortedB a b c = true ↔ b ≤ a ∧ c ≤ b := by simp [sortedB]
theorem wrap64_id {x : Int} (h : -9223372036854775808 ≤ x ∧ x ≤ 9223372036854775807) : wrap64 x = x := by unfold wrap64; omega
theorem sort3_of {a b c : Int} (h : b ≤ a ∧ c ≤ b) : sort3 a b c = (a, b, c) := by
  unfold sort3
  rw [if_neg (by omega), if_neg (by omega)]
theorem step_ended {a b c rule : Int} (h : codeR a b c rule = 0) (he : endB b c rule = true) : stepG a b c rule = (a, b, c) := by
  obtain ⟨⟨ht, hs⟩, hr⟩ := codeR_zero h
  rw [tripB_iff] at ht
  rw [sortedB_iff] at hs
  rw [inB_iff] at hr
  have hr' : rule = 0 ∨ rule = 1 ∨ rule = 2 ∨ rule = 3 := by omega
  rcases hr' with rfl | rfl | rfl | rfl <;> simp [endB] at he <;> subst he
  · obtain rfl : c = 0 := by omega
    rw [stepG, show madeG a 0 0 0 = (wrap64 (a - 0), 0, 0) from rfl, wrap64_id (by omega), sort3_of (by dsimp only; omega)]
    simp
  · rw [stepG, show madeG a b 0 1 = (wrap64 (a - 0), b, 0) from rfl, wrap64_id (by omega), sort3_of (by dsimp only; omega)]
    simp
  · obtain rfl : c = 0 := by omega
    rw [stepG, show madeG a 0 0 2 = (wrap64 (a - 0), wrap64 (0 - 0), 0) from rfl, wrap64_id (by omega), wrap64_id (by omega), sort3_of (by dsimp only; omega)]
    simp
  · rw [stepG, show madeG a b 0 3 = (wrap64 (a - 0), wrap64 (b - 0), 0) from rfl, wrap64_id (by omega), wrap64_id (by omega), sort3_of (by dsimp only; omega)]
    simp
theorem implStep_any (a b c rule : Int) (w : World) : Calls Try.prog 35 #[.agg #[.int .i64 a, .int .i64 b, .int .i64 c], .int .i64 rule] w fun e w' =>
    e = .returned (.tuple #[.agg #[.int .i64 (stepR a b c rule).1, .int .i64 (stepR a b c rule).2.1, .int .i64 (stepR a b c rule).2.2.1], .int .i64 (stepR a b c rule).2.2.2]) ∧ Below w.heap.size w w' := by
  have hk := fun W => ruleFault_any a b c rule W
  have hen := fun W => ended_any a b c rule W
  have hst := fun W => step_any a b c rule W
  have hse := @step_ended a b c rule
  unfold stepR
  obtain ⟨k, ek⟩ : ∃ k, codeR a b c rule = k := ⟨_, rfl⟩
  rw [ek] at hk hse ⊢
  by_cases h0 : k = 0
  · subst h0
    rw [if_pos rfl]
    obtain ⟨⟨x, y, z⟩, er⟩ : ∃ r, stepG a b c rule = r := ⟨_, rfl⟩
    obtain ⟨n, en⟩ : ∃ n, endB b c rule = n := ⟨_, rfl⟩
    rw [en] at hen hse
    rw [er] at hst hse ⊢
    have HK := Lib.hid hk
    have HE := Lib.hid hen
    have HS := Lib.hid hst
    clear hk ek en er hen hst
    cases n
    · clear hse
      go_enter Try.func35, Try.ntmps35
      go_wp2_with (first | (go_at_call 63; (with_reducible refine (HK.out _).mono ?_); rintro e w1 ⟨rfl, hb1⟩; obtain ⟨hc1, hf1, hz1, hn1⟩ := bstep 2 w hb1 (by go_size)) | (go_at_call 77; (with_reducible refine (HE.out _).mono ?_); rintro e w1 ⟨rfl, hb1⟩; obtain ⟨hc1, hf1, hz1, hn1⟩ := bstep 2 w hb1 (by go_size)) | (go_at_call 81; (with_reducible refine (HS.out _).mono ?_); rintro e w1 ⟨rfl, hb1⟩; obtain ⟨hc1, hf1, hz1, hn1⟩ := bstep 2 w hb1 (by go_size)))
      refine bodyPost_ret (by simp [results, Try.results35, go_sem, *]; try rfl) rfl ?_
      exact ⟨rfl, by (repeat' (first | (with_reducible exact Below.refl _ _) | (with_reducible refine Below.alloc ?_ ?_ _) | (with_reducible refine Below.drew ?_) | (with_reducible refine below_drewN' ?_ _) | (with_reducible refine Below.setCell ?_ ?_ _) | (with_reducible refine Below.trans ?_ (Below.mono (by assumption) ?_)) | go_size))⟩
    · have hxyz := hse rfl rfl
      clear hse
      cases hxyz
      go_enter Try.func35, Try.ntmps35
      go_wp2_with (first | (go_at_call 63; (with_reducible refine (HK.out _).mono ?_); rintro e w1 ⟨rfl, hb1⟩; obtain ⟨hc1, hf1, hz1, hn1⟩ := bstep 2 w hb1 (by go_size)) | (go_at_call 77; (with_reducible refine (HE.out _).mono ?_); rintro e w1 ⟨rfl, hb1⟩; obtain ⟨hc1, hf1, hz1, hn1⟩ := bstep 2 w hb1 (by go_size)) | (go_at_call 81; (with_reducible refine (HS.out _).mono ?_); rintro e w1 ⟨rfl, hb1⟩; obtain ⟨hc1, hf1, hz1, hn1⟩ := bstep 2 w hb1 (by go_size)))
      refine bodyPost_ret (by simp [results, Try.results35, go_sem, *]; try rfl) rfl ?_
      exact ⟨rfl, by (repeat' (first | (with_reducible exact Below.refl _ _) | (with_reducible refine Below.alloc ?_ ?_ _) | (with_reducible refine Below.drew ?_) | (with_reducible refine below_drewN' ?_ _) | (with_reducible refine Below.setCell ?_ ?_ _) | (with_reducible refine Below.trans ?_ (Below.mono (by assumption) ?_)) | go_size))⟩
  · rw [if_neg h0]
    have hd : (k != 0) = true := by simpa using h0
    have hd' : (k == 0) = false := by simpa using h0
    have HK := Lib.hid hk
    clear hk ek hse hst hen h0
    go_enter Try.func35, Try.ntmps35
    go_wp2_with (first | (go_at_call 63; (with_reducible refine (HK.out _).mono ?_); rintro e w1 ⟨rfl, hb1⟩; obtain ⟨hc1, hf1, hz1, hn1⟩ := bstep 2 w hb1 (by go_size)))
    refine bodyPost_ret (by simp [results, Try.results35, go_sem, *]; try rfl) rfl ?_
    exact ⟨rfl, by (repeat' (first | (with_reducible exact Below.refl _ _) | (with_reducible refine Below.alloc ?_ ?_ _) | (with_reducible refine Below.drew ?_) | (with_reducible refine below_drewN' ?_ _) | (with_reducible refine Below.setCell ?_ ?_ _) | (with_reducible refine Below.trans ?_ (Below.mono (by assumption) ?_)) | go_size))⟩
theorem specStep_any (a b c rule : Int) (w : World) : Calls Try.prog 36 #[.agg #[.int .i64 a, .int .i64 b, .int .i64 c], .int .i64 rule] w fun e w' =>
    e = .returned (.tuple #[.agg #[.int .i64 (stepR a b c rule).1, .int .i64 (stepR a b c rule).2.1, .int .i64 (stepR a b c rule).2.2.1], .int .i64 (stepR a b c rule).2.2.2]) ∧ Below w.heap.size w w' := by
  have hk := fun W => l07Code_any a b c rule W
  have hst := fun W => l07Step_any a b c rule W
  unfold stepR
  obtain ⟨k, ek⟩ : ∃ k, codeR a b c rule = k := ⟨_, rfl⟩
  obtain ⟨⟨x, y, z⟩, er⟩ : ∃ r, stepG a b c rule = r := ⟨_, rfl⟩
  rw [ek] at hk ⊢
  rw [er] at hst ⊢
  have HK := Lib.hid hk
  have HS := Lib.hid hst
  clear hk ek er hst
  by_cases h0 : k = 0
  · subst h0
    rw [if_pos rfl]
    go_enter Try.func36, Try.ntmps36
    go_wp2_with (first | (go_at_call 64; (with_reducible refine (HK.out _).mono ?_); rintro e w1 ⟨rfl, hb1⟩; obtain ⟨hc1, hf1, hz1, hn1⟩ := bstep 2 w hb1 (by go_size)) | (go_at_call 76; (with_reducible refine (HS.out _).mono ?_); rintro e w1 ⟨rfl, hb1⟩; obtain ⟨hc1, hf1, hz1, hn1⟩ := bstep 2 w hb1 (by go_size)))
    refine bodyPost_ret (by simp [results, Try.results36, go_sem, *]; try rfl) rfl ?_
    exact ⟨rfl, by (repeat' (first | (with_reducible exact Below.refl _ _) | (with_reducible refine Below.alloc ?_ ?_ _) | (with_reducible refine Below.drew ?_) | (with_reducible refine below_drewN' ?_ _) | (with_reducible refine Below.setCell ?_ ?_ _) | (with_reducible refine Below.trans ?_ (Below.mono (by assumption) ?_)) | go_size))⟩
  · rw [if_neg h0]
    have hd : (k != 0) = true := by simpa using h0
    have hd' : (k == 0) = false := by simpa using h0
    clear h0
    go_enter Try.func36, Try.ntmps36
    go_wp2_with (first | (go_at_call 64; (with_reducible refine (HK.out _).mono ?_); rintro e w1 ⟨rfl, hb1⟩; obtain ⟨hc1, hf1, hz1, hn1⟩ := bstep 2 w hb1 (by go_size)))
    refine bodyPost_ret (by simp [results, Try.results36, go_sem, *]; try rfl) rfl ?_
    exact ⟨rfl, by (repeat' (first | (with_reducible exact Below.refl _ _) | (with_reducible refine Below.alloc ?_ ?_ _) | (with_reducible refine Below.drew ?_) | (with_reducible refine below_drewN' ?_ _) | (with_reducible refine Below.setCell ?_ ?_ _) | (with_reducible refine Below.trans ?_ (Below.mono (by assumption) ?_)) | go_size))⟩
def sortR (a b c : Int) : Int × Int × Int × Int := if tripB a b c = true then ((sort3 a b c).1, (sort3 a b c).2.1, (sort3 a b c).2.2, 0) else (0, 0, 0, 1)
theorem implSort_any (a b c : Int) (w : World) : Calls Try.prog 14 #[.agg #[.int .i64 a, .int .i64 b, .int .i64 c]] w fun e w' =>
    e = .returned (.tuple #[.agg #[.int .i64 (sortR a b c).1, .int .i64 (sortR a b c).2.1, .int .i64 (sortR a b c).2.2.1], .int .i64 (sortR a b c).2.2.2]) ∧ Below w.heap.size w w' := by
  have ht := fun W => IsTriple_any a b c W
  unfold sortR
  obtain ⟨t, et⟩ : ∃ t, tripB a b c = t := ⟨_, rfl⟩
  rw [et] at ht ⊢
  have HT := Lib.hid ht
  clear ht et
  cases t
  · rw [if_neg (by decide)]
    go_enter Try.func14, Try.ntmps14
    go_wp2_with (first | (go_at_call 27; (with_reducible refine (HT.out _).mono ?_); rintro e w1 ⟨rfl, hb1⟩; obtain ⟨hc1, hf1, hz1, hn1⟩ := bstep 2 w hb1 (by go_size)) | (go_at_call 59; (with_reducible refine (order_any _ _ _ _).mono ?_); rintro e w2 ⟨⟨N, hN, rfl, c0, c1, c2⟩, hb2⟩; (try simp only [World.size_drew] at hN); (try simp only [World.size_alloc] at hN); (try simp only [World.size_setCell] at hN); obtain ⟨hc2, hf2, hz2, hn2⟩ := bstep 2 w hb2 (by go_size)) | (go_at_call 58; (with_reducible refine (at_any _ _ _ _ _ c0 c1 c2).mono ?_); rintro e w3 ⟨rfl, hb3⟩; obtain ⟨hc3, hf3, hz3, hn3⟩ := bstep 2 w hb3 (by go_size)))
    refine bodyPost_ret (by simp [results, Try.results14, go_sem, *]; try rfl) rfl ?_
    exact ⟨rfl, by (repeat' (first | (with_reducible exact Below.refl _ _) | (with_reducible refine Below.alloc ?_ ?_ _) | (with_reducible refine Below.drew ?_) | (with_reducible refine below_drewN' ?_ _) | (with_reducible refine Below.setCell ?_ ?_ _) | (with_reducible refine Below.trans ?_ (Below.mono (by assumption) ?_)) | go_size))⟩
  · rw [if_pos rfl]
    go_enter Try.func14, Try.ntmps14
    go_wp2_with (first | (go_at_call 27; (with_reducible refine (HT.out _).mono ?_); rintro e w1 ⟨rfl, hb1⟩; obtain ⟨hc1, hf1, hz1, hn1⟩ := bstep 2 w hb1 (by go_size); obtain ⟨⟨r0, r1, r2⟩, ⟨rf0, rf1, rf2⟩, rs, rn⟩ : (w1.cell? ⟨w.heap.size + 1, 0, none⟩ = some (.int .i64 0) ∧ w1.cell? ⟨w.heap.size + 1, 1, none⟩ = some (.int .i64 0) ∧ w1.cell? ⟨w.heap.size + 1, 2, none⟩ = some (.int .i64 0)) ∧ (w1.frozen? ⟨w.heap.size + 1, 0, none⟩ = false ∧ w1.frozen? ⟨w.heap.size + 1, 1, none⟩ = false ∧ w1.frozen? ⟨w.heap.size + 1, 2, none⟩ = false) ∧ w.heap.size + 1 < w1.heap.size ∧ ¬ w1.heap.size = w.heap.size + 1 := ⟨by (focus (((repeat' apply And.intro) <;> (repeat' (first | (with_reducible assumption) | (with_reducible refine keep_drew ?_) | (with_reducible refine keep_setx (by omega) ?_) | (with_reducible refine keep_hc (by with_reducible assumption) (by omega) ?_) | (focus (go_simp; done)) | (with_reducible refine keep_alloc ?_)))); done)), by (focus (((repeat' apply And.intro) <;> (repeat' (first | (with_reducible assumption) | (with_reducible refine fz_drew ?_) | (with_reducible refine fz_set ?_) | (with_reducible refine fz_hc (by with_reducible assumption) (by omega) ?_) | (focus (go_simp; done)) | (with_reducible refine fz_alloc ?_ ?_) | go_size))); done)), by go_size, by go_size⟩))
    go_region_held3 (fun w' => w'.cell? ⟨w.heap.size, 0, none⟩ = some (.int .i64 a) ∧ w'.cell? ⟨w.heap.size, 1, none⟩ = some (.int .i64 b) ∧ w'.cell? ⟨w.heap.size, 2, none⟩ = some (.int .i64 c)) ((focus (((repeat' apply And.intro) <;> (repeat' (first | (with_reducible assumption) | (with_reducible refine keep_drew ?_) | (with_reducible refine keep_setx (by omega) ?_) | (with_reducible refine keep_hc (by with_reducible assumption) (by omega) ?_) | (focus (go_simp; done)) | (with_reducible refine keep_alloc ?_)))); done))) (first | (go_at_call 59; (with_reducible refine (order_any _ _ _ _).mono ?_); rintro e w2 ⟨⟨N, hN, rfl, c0, c1, c2⟩, hb2⟩; (try simp only [World.size_drew] at hN); (try simp only [World.size_alloc] at hN); (try simp only [World.size_setCell] at hN); obtain ⟨hc2, hf2, hz2, hn2⟩ := bstep 2 w hb2 (by go_size); obtain ⟨⟨r0, r1, r2⟩, ⟨rf0, rf1, rf2⟩, rs, rn⟩ : (w2.cell? ⟨w.heap.size + 1, 0, none⟩ = some (.int .i64 0) ∧ w2.cell? ⟨w.heap.size + 1, 1, none⟩ = some (.int .i64 0) ∧ w2.cell? ⟨w.heap.size + 1, 2, none⟩ = some (.int .i64 0)) ∧ (w2.frozen? ⟨w.heap.size + 1, 0, none⟩ = false ∧ w2.frozen? ⟨w.heap.size + 1, 1, none⟩ = false ∧ w2.frozen? ⟨w.heap.size + 1, 2, none⟩ = false) ∧ w.heap.size + 1 < w2.heap.size ∧ ¬ w2.heap.size = w.heap.size + 1 := ⟨by (focus (((repeat' apply And.intro) <;> (repeat' (first | (with_reducible assumption) | (with_reducible refine keep_drew ?_) | (with_reducible refine keep_setx (by omega) ?_) | (with_reducible refine keep_hc (by with_reducible assumption) (by omega) ?_) | (focus (go_simp; done)) | (with_reducible refine keep_alloc ?_)))); done)), by (focus (((repeat' apply And.intro) <;> (repeat' (first | (with_reducible assumption) | (with_reducible refine fz_drew ?_) | (with_reducible refine fz_set ?_) | (with_reducible refine fz_hc (by with_reducible assumption) (by omega) ?_) | (focus (go_simp; done)) | (with_reducible refine fz_alloc ?_ ?_) | go_size))); done)), by go_size, by go_size⟩) | (go_at_call 58; (with_reducible refine (at_any _ _ _ _ _ c0 c1 c2).mono ?_); rintro e w3 ⟨rfl, hb3⟩; obtain ⟨hc3, hf3, hz3, hn3⟩ := bstep 2 w hb3 (by go_size); obtain ⟨⟨r0, r1, r2⟩, ⟨rf0, rf1, rf2⟩, rs, rn⟩ : (w3.cell? ⟨w.heap.size + 1, 0, none⟩ = some (.int .i64 0) ∧ w3.cell? ⟨w.heap.size + 1, 1, none⟩ = some (.int .i64 0) ∧ w3.cell? ⟨w.heap.size + 1, 2, none⟩ = some (.int .i64 0)) ∧ (w3.frozen? ⟨w.heap.size + 1, 0, none⟩ = false ∧ w3.frozen? ⟨w.heap.size + 1, 1, none⟩ = false ∧ w3.frozen? ⟨w.heap.size + 1, 2, none⟩ = false) ∧ w.heap.size + 1 < w3.heap.size ∧ ¬ w3.heap.size = w.heap.size + 1 := ⟨by (focus (((repeat' apply And.intro) <;> (repeat' (first | (with_reducible assumption) | (with_reducible refine keep_drew ?_) | (with_reducible refine keep_setx (by omega) ?_) | (with_reducible refine keep_hc (by with_reducible assumption) (by omega) ?_) | (focus (go_simp; done)) | (with_reducible refine keep_alloc ?_)))); done)), by (focus (((repeat' apply And.intro) <;> (repeat' (first | (with_reducible assumption) | (with_reducible refine fz_drew ?_) | (with_reducible refine fz_set ?_) | (with_reducible refine fz_hc (by with_reducible assumption) (by omega) ?_) | (focus (go_simp; done)) | (with_reducible refine fz_alloc ?_ ?_) | go_size))); done)), by go_size, by go_size⟩))
    go_wp2
    refine bodyPost_ret (by simp [results, Try.results14, go_sem, *]; try rfl) rfl ?_
    exact ⟨rfl, by (repeat' (first | (with_reducible exact Below.refl _ _) | (with_reducible refine Below.alloc ?_ ?_ _) | (with_reducible refine Below.drew ?_) | (with_reducible refine below_drewN' ?_ _) | (with_reducible refine Below.setCell ?_ ?_ _) | (with_reducible refine Below.trans ?_ (Below.mono (by assumption) ?_)) | go_size))⟩
theorem specSort_any (a b c : Int) (w : World) : Calls Try.prog 15 #[.agg #[.int .i64 a, .int .i64 b, .int .i64 c]] w fun e w' =>
    e = .returned (.tuple #[.agg #[.int .i64 (sortR a b c).1, .int .i64 (sortR a b c).2.1, .int .i64 (sortR a b c).2.2.1], .int .i64 (sortR a b c).2.2.2]) ∧ Below w.heap.size w w' := by
  have ht := fun W => l07Is_any a b c W
  unfold sortR
  obtain ⟨t, et⟩ : ∃ t, tripB a b c = t := ⟨_, rfl⟩
  rw [et] at ht ⊢
  have HT := Lib.hid ht
  clear ht et
  cases t
  · rw [if_neg (by decide)]
    go_enter Try.func15, Try.ntmps15
    go_wp2_with (first | (go_at_call 48; (with_reducible refine (HT.out _).mono ?_); rintro e w1 ⟨rfl, hb1⟩; obtain ⟨hc1, hf1, hz1, hn1⟩ := bstep 2 w hb1 (by go_size)) | (go_at_call 60; (with_reducible refine (l07Sort_any _ _ _ _).mono ?_); rintro e w1 ⟨rfl, hb1⟩; obtain ⟨hc1, hf1, hz1, hn1⟩ := bstep 2 w hb1 (by go_size)))
    refine bodyPost_ret (by simp [results, Try.results15, go_sem, *]; try rfl) rfl ?_
    exact ⟨rfl, by (repeat' (first | (with_reducible exact Below.refl _ _) | (with_reducible refine Below.alloc ?_ ?_ _) | (with_reducible refine Below.drew ?_) | (with_reducible refine below_drewN' ?_ _) | (with_reducible refine Below.setCell ?_ ?_ _) | (with_reducible refine Below.trans ?_ (Below.mono (by assumption) ?_)) | go_size))⟩
  · rw [if_pos rfl]
    go_enter Try.func15, Try.ntmps15
    go_wp2_with (first | (go_at_call 48; (with_reducible refine (HT.out _).mono ?_); rintro e w1 ⟨rfl, hb1⟩; obtain ⟨hc1, hf1, hz1, hn1⟩ := bstep 2 w hb1 (by go_size)) | (go_at_call 60; (with_reducible refine (l07Sort_any _ _ _ _).mono ?_); rintro e w1 ⟨rfl, hb1⟩; obtain ⟨hc1, hf1, hz1, hn1⟩ := bstep 2 w hb1 (by go_size)))
    refine bodyPost_ret (by simp [results, Try.results15, go_sem, *]; try rfl) rfl ?_
    exact ⟨rfl, by (repeat' (first | (with_reducible exact Below.refl _ _) | (with_reducible refine Below.alloc ?_ ?_ _) | (with_reducible refine Below.drew ?_) | (with_reducible refine below_drewN' ?_ _) | (with_reducible refine Below.setCell ?_ ?_ _) | (with_reducible refine Below.trans ?_ (Below.mono (by assumption) ?_)) | go_size))⟩
end Go.Proofs.Ytdenfmgmapgpiaa
