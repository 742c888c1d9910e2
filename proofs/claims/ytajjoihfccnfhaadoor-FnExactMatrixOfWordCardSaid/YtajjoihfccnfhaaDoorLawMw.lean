/-
  The walk of the law of matrices of words: the call returns true, and nothing that lay before has turned. No condition but what stands there.
-/
import Derived.Test.YtajjoihfccnfhaaDoorCmx
namespace Go.Proofs.YtajjoihfccnfhaaDoor
open Go.RowKit
set_option maxHeartbeats 1000000
theorem FnExactMatrixOfWord_walk (a0 : ByteArray) (w : World) (_hm : ∃ m, w.cell? ⟨0, 0, none⟩ = some (.int .i64 m)) :
    Calls Tryd.prog 4 #[.string a0] w fun e w' => e = .returned (.bool true) ∧ Below w.heap.size w w' := by
  clear _hm
  by_cases hs : 1048576 < a0.size
  · have hsi : (a0.size : Int) > 1048576 := by omega
    go_enter Tryd.func4, Tryd.ntmps4
    go_wp2
    go_returns
    exact ⟨rfl, Below.refl _ _⟩
  · have hsi : ¬ (a0.size : Int) > 1048576 := by omega
    have h1 := fun W => specMW_any a0 (by omega) W
    have h2 := fun W => implMW_any a0 (by omega) W
    obtain ⟨⟨x, y, z, t, c⟩, hr⟩ : ∃ r, wmR a0.data.toList = r := ⟨_, rfl⟩
    rw [hr] at h1 h2
    dsimp only at h1 h2
    have H1 := Lib.hid h1
    have H2 := Lib.hid h2
    clear h1 h2 hr hs
    go_enter Tryd.func4, Tryd.ntmps4
    go_wp2_with (first
      | (go_at_call 13; go_must ((with_reducible refine (H1.out _).mono ?_)); rintro e w1 ⟨rfl, hb1⟩; have hbs := hb1.size)
      | (go_at_call 14; go_must ((with_reducible refine (H2.out _).mono ?_)); rintro e w2 ⟨rfl, hb2⟩; obtain ⟨hd2, he2, hy2, hx2⟩ := bstep 1 w1 hb2 (by go_size); (try (refine gcut (p := (w2.cell? ⟨w1.heap.size, 0, none⟩ = some (.int .i64 x) ∧ w2.cell? ⟨w1.heap.size, 1, none⟩ = some (.int .i64 y) ∧ w2.cell? ⟨w1.heap.size, 2, none⟩ = some (.int .i64 z) ∧ w2.cell? ⟨w1.heap.size, 3, none⟩ = some (.int .i64 t)) ∧ (w2.frozen? ⟨w1.heap.size, 0, none⟩ = false ∧ w2.frozen? ⟨w1.heap.size, 1, none⟩ = false ∧ w2.frozen? ⟨w1.heap.size, 2, none⟩ = false ∧ w2.frozen? ⟨w1.heap.size, 3, none⟩ = false) ∧ w1.heap.size < w2.heap.size ∧ ¬ w2.heap.size = w1.heap.size) ?_ ?_; (focus (refine ⟨?_, ?_, ?_, ?_⟩; (focus (((repeat' apply And.intro) <;> (repeat' (first | (with_reducible assumption) | (with_reducible refine keep_drew ?_) | (with_reducible refine keep_setx (by omega) ?_) | (with_reducible refine keep_hc (by with_reducible assumption) (by omega) ?_) | (focus (go_simp; done)) | (with_reducible refine keep_alloc ?_)))); done)); (focus (((repeat' apply And.intro) <;> (repeat' (first | (with_reducible assumption) | (with_reducible refine fz_drew ?_) | (with_reducible refine fz_set ?_) | (with_reducible refine fz_hc (by with_reducible assumption) (by omega) ?_) | (focus (go_simp; done)) | (with_reducible refine fz_alloc ?_ ?_) | go_size))); done)); (focus (go_size; done)); (focus (go_size; done)))); rintro ⟨⟨q0, q1, q2, q3⟩, ⟨qf0, qf1, qf2, qf3⟩, qs, qn⟩)))
      | (go_at_call 15; go_must ((with_reducible refine (eqMatrix_same _ _ _ _ _).mono ?_)); rintro e w3 ⟨rfl, hb3⟩))
    go_returns
    exact ⟨rfl, by (repeat' (first | (with_reducible exact Below.refl _ _) | (with_reducible refine Below.alloc ?_ ?_ _) | (with_reducible refine Below.drew ?_) | (with_reducible refine below_drewN' ?_ _) | (with_reducible refine Below.setCell ?_ ?_ _) | (with_reducible refine Below.trans ?_ (Below.mono (by assumption) ?_)) | go_size))⟩
end Go.Proofs.YtajjoihfccnfhaaDoor
