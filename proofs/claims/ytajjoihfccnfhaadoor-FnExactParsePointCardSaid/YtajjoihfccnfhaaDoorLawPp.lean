/-
  The walk of the law of points read out of texts: the call returns true, and nothing that lay before has turned. Conditions: what the library reads.
-/
import Derived.Test.YtajjoihfccnfhaaDoorCpr
import Derived.Test.YtajjoihfccnfhaaDoorHk
import Derived.Deep.RegionHeld3
import Derived.Deep.CutRange
import Derived.Deep.DeepCutAuto
namespace Go.Proofs.YtajjoihfccnfhaaDoor
open Go.RowKit
set_option maxHeartbeats 1000000
theorem specPar_any (s : ByteArray) (hs : s.size ≤ 1048576) (w : World) : Calls Tryd.prog 28 #[.string s] w fun e w' =>
    e = .returned (.tuple #[.agg #[.int .i64 (parR s.data.toList).1, .int .i64 (parR s.data.toList).2.1], .int .i64 (parR s.data.toList).2.2]) ∧ Below w.heap.size w w' := by
  have hr := fun W => l01Read_any s W hs
  unfold parR
  unfold readR at hr
  cases hv : readV s.data.toList with
  | none =>
    rw [hv] at hr
    dsimp only at hr ⊢
    have HR := Lib.hid hr
    clear hr hv hs
    go_enter Tryd.func28, Tryd.ntmps28
    go_wp2_with (first
      | (go_at_call 55; go_must ((with_reducible refine (HR.out _).mono ?_)); rintro e w1 ⟨rfl, hb1⟩; obtain ⟨hc1, hf1, hz1, hn1⟩ := bstep 1 w hb1 (by go_size); (try (refine gcut (p := (w1.cell? ⟨w.heap.size, 0, none⟩ = some (.int .i64 0) ∧ w1.cell? ⟨w.heap.size, 1, none⟩ = some (.int .i64 0)) ∧ (w1.frozen? ⟨w.heap.size, 0, none⟩ = false ∧ w1.frozen? ⟨w.heap.size, 1, none⟩ = false) ∧ w.heap.size < w1.heap.size ∧ ¬ w1.heap.size = w.heap.size) ?_ ?_; (focus (refine ⟨?_, ?_, ?_, ?_⟩; (focus (((repeat' apply And.intro) <;> (repeat' (first | (with_reducible assumption) | (with_reducible refine keep_drew ?_) | (with_reducible refine keep_setx (by omega) ?_) | (with_reducible refine keep_hc (by with_reducible assumption) (by omega) ?_) | (focus (go_simp; done)) | (with_reducible refine keep_alloc ?_)))); done)); (focus (((repeat' apply And.intro) <;> (repeat' (first | (with_reducible assumption) | (with_reducible refine fz_drew ?_) | (with_reducible refine fz_set ?_) | (with_reducible refine fz_hc (by with_reducible assumption) (by omega) ?_) | (focus (go_simp; done)) | (with_reducible refine fz_alloc ?_ ?_) | go_size))); done)); (focus (go_size; done)); (focus (go_size; done)))); rintro ⟨⟨q0, q1⟩, ⟨qf0, qf1⟩, qs, qn⟩))))
    refine post_genP (G := fun W => (W.cell? ⟨w.heap.size, 0, none⟩ = some (.int .i64 0) ∧ W.cell? ⟨w.heap.size, 1, none⟩ = some (.int .i64 0)) ∧ Below w.heap.size w W) ⟨⟨keep_alloc (set2P (o := 0) (by with_reducible assumption) (by with_reducible assumption)).1, keep_alloc (set2P (o := 0) (by with_reducible assumption) (by with_reducible assumption)).2.1⟩, by (repeat' (first | (with_reducible exact Below.refl _ _) | (with_reducible refine Below.alloc ?_ ?_ _) | (with_reducible refine Below.drew ?_) | (with_reducible refine below_drewN' ?_ _) | (with_reducible refine Below.setCell ?_ ?_ _) | (with_reducible refine Below.trans ?_ (Below.mono (by assumption) ?_)) | go_size))⟩ ?_
    rintro W2 ⟨⟨z0, z1⟩, hB⟩
    refine bodyPost_ret (v := .tuple #[.agg #[.int .i64 0, .int .i64 0], .int .i64 6]) (by simp [results, Tryd.results28, go_sem, *]) rfl ?_
    exact ⟨rfl, hB⟩
  | some p =>
    obtain ⟨x, y⟩ := p
    rw [hv] at hr
    dsimp only at hr ⊢
    have HR := Lib.hid hr
    clear hr hv hs
    go_enter Tryd.func28, Tryd.ntmps28
    go_wp2_with (first
      | (go_at_call 55; go_must ((with_reducible refine (HR.out _).mono ?_)); rintro e w1 ⟨rfl, hb1⟩; obtain ⟨hc1, hf1, hz1, hn1⟩ := bstep 1 w hb1 (by go_size); (try (refine gcut (p := (w1.cell? ⟨w.heap.size, 0, none⟩ = some (.int .i64 0) ∧ w1.cell? ⟨w.heap.size, 1, none⟩ = some (.int .i64 0)) ∧ (w1.frozen? ⟨w.heap.size, 0, none⟩ = false ∧ w1.frozen? ⟨w.heap.size, 1, none⟩ = false) ∧ w.heap.size < w1.heap.size ∧ ¬ w1.heap.size = w.heap.size) ?_ ?_; (focus (refine ⟨?_, ?_, ?_, ?_⟩; (focus (((repeat' apply And.intro) <;> (repeat' (first | (with_reducible assumption) | (with_reducible refine keep_drew ?_) | (with_reducible refine keep_setx (by omega) ?_) | (with_reducible refine keep_hc (by with_reducible assumption) (by omega) ?_) | (focus (go_simp; done)) | (with_reducible refine keep_alloc ?_)))); done)); (focus (((repeat' apply And.intro) <;> (repeat' (first | (with_reducible assumption) | (with_reducible refine fz_drew ?_) | (with_reducible refine fz_set ?_) | (with_reducible refine fz_hc (by with_reducible assumption) (by omega) ?_) | (focus (go_simp; done)) | (with_reducible refine fz_alloc ?_ ?_) | go_size))); done)); (focus (go_size; done)); (focus (go_size; done)))); rintro ⟨⟨q0, q1⟩, ⟨qf0, qf1⟩, qs, qn⟩))))
    refine post_genP (G := fun W => (W.cell? ⟨w.heap.size, 0, none⟩ = some (.int .i64 x) ∧ W.cell? ⟨w.heap.size, 1, none⟩ = some (.int .i64 y)) ∧ Below w.heap.size w W) ⟨⟨keep_alloc (set2P (o := 0) (by with_reducible assumption) (by with_reducible assumption)).1, keep_alloc (set2P (o := 0) (by with_reducible assumption) (by with_reducible assumption)).2.1⟩, by (repeat' (first | (with_reducible exact Below.refl _ _) | (with_reducible refine Below.alloc ?_ ?_ _) | (with_reducible refine Below.drew ?_) | (with_reducible refine below_drewN' ?_ _) | (with_reducible refine Below.setCell ?_ ?_ _) | (with_reducible refine Below.trans ?_ (Below.mono (by assumption) ?_)) | go_size))⟩ ?_
    rintro W2 ⟨⟨z0, z1⟩, hB⟩
    refine bodyPost_ret (v := .tuple #[.agg #[.int .i64 x, .int .i64 y], .int .i64 0]) (by simp [results, Tryd.results28, go_sem, *]) rfl ?_
    exact ⟨rfl, hB⟩
theorem FnExactParsePoint_walk (a0 : ByteArray) (w : World) (hl : LibHere w) :
    Calls Tryd.prog 8 #[.string a0] w fun e w' => e = .returned (.bool true) ∧ Below w.heap.size w w' := by
  by_cases hs : 1048576 < a0.size
  · have hsi : (a0.size : Int) > 1048576 := by omega
    go_enter Tryd.func8, Tryd.ntmps8
    go_wp2
    go_returns
    exact ⟨rfl, Below.refl _ _⟩
  · have hsi : ¬ (a0.size : Int) > 1048576 := by omega
    have h1 := fun W => specPar_any a0 (by omega) W
    have h2 := fun W (hW : Below w.heap.size w W) => implPar_any a0 (by omega) W (hl.keep hW)
    obtain ⟨⟨x, y, c⟩, hr⟩ : ∃ r, parR a0.data.toList = r := ⟨_, rfl⟩
    rw [hr] at h1 h2
    dsimp only at h1 h2
    have H1 := Lib.hid h1
    have H2 := Lib.hid h2
    clear h1 h2 hr hl hs
    go_enter Tryd.func8, Tryd.ntmps8
    go_wp2_with (first
      | (go_at_call 28; go_must ((with_reducible refine (H1.out _).mono ?_)); rintro e w1 ⟨rfl, hb1⟩; have hbs := hb1.size)
      | (go_at_call 29; go_must ((with_reducible refine (H2.out _ ?_).mono ?_)); (focus (repeat' (first | (with_reducible exact Below.refl _ _) | (with_reducible refine Below.alloc ?_ ?_ _) | (with_reducible refine Below.drew ?_) | (with_reducible refine below_drewN' ?_ _) | (with_reducible refine Below.setCell ?_ ?_ _) | (with_reducible refine Below.trans ?_ (Below.mono (by assumption) ?_)) | go_size))); rintro e w2 ⟨rfl, hb2⟩; obtain ⟨hd2, he2, hy2, hx2⟩ := bstep 1 w1 hb2 (by go_size); (try (refine gcut (p := (w2.cell? ⟨w1.heap.size, 0, none⟩ = some (.int .i64 x) ∧ w2.cell? ⟨w1.heap.size, 1, none⟩ = some (.int .i64 y)) ∧ (w2.frozen? ⟨w1.heap.size, 0, none⟩ = false ∧ w2.frozen? ⟨w1.heap.size, 1, none⟩ = false) ∧ w1.heap.size < w2.heap.size ∧ ¬ w2.heap.size = w1.heap.size) ?_ ?_; (focus (refine ⟨?_, ?_, ?_, ?_⟩; (focus (((repeat' apply And.intro) <;> (repeat' (first | (with_reducible assumption) | (with_reducible refine keep_drew ?_) | (with_reducible refine keep_setx (by omega) ?_) | (with_reducible refine keep_hc (by with_reducible assumption) (by omega) ?_) | (focus (go_simp; done)) | (with_reducible refine keep_alloc ?_)))); done)); (focus (((repeat' apply And.intro) <;> (repeat' (first | (with_reducible assumption) | (with_reducible refine fz_drew ?_) | (with_reducible refine fz_set ?_) | (with_reducible refine fz_hc (by with_reducible assumption) (by omega) ?_) | (focus (go_simp; done)) | (with_reducible refine fz_alloc ?_ ?_) | go_size))); done)); (focus (go_size; done)); (focus (go_size; done)))); rintro ⟨⟨q0, q1⟩, ⟨qf0, qf1⟩, qs, qn⟩)))
      | (go_at_call 30; go_must ((with_reducible refine (eqPoint_same _ _ _).mono ?_)); rintro e w3 ⟨rfl, hb3⟩))
    go_returns
    exact ⟨rfl, by (repeat' (first | (with_reducible exact Below.refl _ _) | (with_reducible refine Below.alloc ?_ ?_ _) | (with_reducible refine Below.drew ?_) | (with_reducible refine below_drewN' ?_ _) | (with_reducible refine Below.setCell ?_ ?_ _) | (with_reducible refine Below.trans ?_ (Below.mono (by assumption) ?_)) | go_size))⟩
end Go.Proofs.YtajjoihfccnfhaaDoor
