/-
  Copies and sizes of rows of rows of whole numbers. Condition: the rows' reach.
-/
import Derived.Test.YtdenfmgmapgpiaaCrr
import Derived.Test.YtdenfmgmapgpiaaCsq
import Derived.Laws.MakeOwn
import Derived.Laws.OwnMore
namespace Go.Proofs.Ytdenfmgmapgpiaa
open Go.RowKit
set_option maxHeartbeats 1000000
theorem infoI64c : (Try.prog.info? 2).map (fun i => (i.zero, i.size, i.bytes)) = some (some (.int .i64 0), 1, 8) := by kernel_rfl
theorem mkIc (n : Nat) (hn : n ≤ 1048576) (w : World) : (Instr.makeSlice 59 (.int .i64 (n : Int)) (.int .i64 (n : Int))).run Try.prog w = .ok (.slice (some ⟨w.heap.size, 0, none⟩) n n) (w.alloc (.cells (madeCells #[.int .i64 0] n) 2)) := by
  obtain ⟨i, h1, h5⟩ := Option.map_eq_some_iff.1 infoI64c
  simp only [Prod.mk.injEq] at h5
  obtain ⟨h2, h4, h3⟩ := h5
  have hr := run_make (P := Try.prog) w 59 2 i (.int .i64 0) (by exact Try.underlying59) h1 h2 .i64 .i64 n n (by omega) (by omega) (by rw [h3]; omega) (by omega)
  rw [h4] at hr
  simp only [Int.toNat_natCast, Nat.mul_one] at hr
  exact hr
theorem made_atV (w : World) (v : Value) (T : TypeId) (n j : Nat) (hj : j < n) : (w.alloc (.cells (madeCells #[v] n) T)).cell? ⟨w.heap.size, j, none⟩ = some v ∧ (w.alloc (.cells (madeCells #[v] n) T)).frozen? ⟨w.heap.size, j, none⟩ = false := by
  have h1 := heap_alloc_new w (.cells (madeCells #[v] n) T)
  have h2 : (madeCells #[v] n)[j]? = some v := by
    rw [← Array.getElem?_toList, toList_madeCells_one]
    simp [hj]
  constructor
  · unfold World.cell?
    rw [h1]
    exact h2
  · unfold World.frozen?
    rw [h1]
    simp
theorem infoISc : (Try.prog.info? 59).map (fun i => (i.zero, i.size, i.bytes)) = some (some (.slice none 0 0), 1, 24) := by kernel_rfl
theorem mkIS (n : Nat) (hn : n ≤ 1048576) (w : World) : (Instr.makeSlice 27 (.int .i64 (n : Int)) (.int .i64 (n : Int))).run Try.prog w = .ok (.slice (some ⟨w.heap.size, 0, none⟩) n n) (w.alloc (.cells (madeCells #[.slice none 0 0] n) 59)) := by
  obtain ⟨i, h1, h5⟩ := Option.map_eq_some_iff.1 infoISc
  simp only [Prod.mk.injEq] at h5
  obtain ⟨h2, h4, h3⟩ := h5
  have hr := run_make (P := Try.prog) w 27 59 i (.slice none 0 0) (by exact Try.underlying27) h1 h2 .i64 .i64 n n (by omega) (by omega) (by rw [h3]; omega) (by omega)
  rw [h4] at hr
  simp only [Int.toNat_natCast, Nat.mul_one] at hr
  exact hr
/-- The first k rows are copies. -/
def Cop (W : World) (b : Nat) (rs : List Rw) (k : Nat) : Prop := ∀ j, j < rs.length → ∃ v, W.cell? ⟨b, j, none⟩ = some v ∧ W.frozen? ⟨b, j, none⟩ = false ∧ (j < k → ∃ r : Rw, v = r.v ∧ r.xs = (rs[j]?.getD Rw.nil).xs ∧ ISl W r.A r.xs.length r.xs ∧ ∀ a, r.A = some a → 0 < r.xs.length → a.block ≠ b)
theorem Cop.next {W W1 : World} {b k : Nat} {rs : List Rw} {A' : Option Addr} (h : Cop W b rs k) (hb : b < W.heap.size) (hbw : Below W.heap.size W W1) (hi : ISl W1 A' (rs[k]?.getD Rw.nil).xs.length (rs[k]?.getD Rw.nil).xs) (ha : ∀ a, A' = some a → 0 < (rs[k]?.getD Rw.nil).xs.length → a.block ≠ b) :
    Cop (W1.setCell ⟨b, k, none⟩ (.slice A' (rs[k]?.getD Rw.nil).xs.length (rs[k]?.getD Rw.nil).xs.length)) b rs (k + 1) := by
  intro j hj
  obtain ⟨v, h1, h2, h3⟩ := h j hj
  have g1 := cell_keep hbw h1
  have g2 := (hbw.frozen (p := ⟨b, j, none⟩) hb).trans h2
  have ks : ∀ {A : Option Addr} {n : Nat} {xs : List Int} {u : Value}, ISl W1 A n xs → (∀ a, A = some a → 0 < n → a.block ≠ b) → ISl (W1.setCell ⟨b, k, none⟩ u) A n xs := by
    intro A n xs u hx hne
    refine hx.same (by rw [World.size_setCell]; exact Nat.le_refl _) fun hn b' o hb' => ?_
    obtain ⟨b2, o2, e2, _, _⟩ := hx.2 hn
    have e3 := hb' _ e2
    have e4 := hne _ e2 hn
    dsimp only at e3 e4
    exact World.cell?_setCell_other _ _ _ _ (fun e => e4 (by have := congrArg Addr.block e; dsimp only at this; omega))
  by_cases hjk : j = k
  · subst hjk
    exact ⟨_, World.cell?_setCell_same (h := g1) .., by rw [World.frozen?_setCell]; exact g2, fun _ => ⟨⟨A', (rs[j]?.getD Rw.nil).xs.length, (rs[j]?.getD Rw.nil).xs⟩, rfl, rfl, ks hi ha, ha⟩⟩
  · refine ⟨v, (World.cell?_setCell_other _ _ _ _ (fun e => hjk (by have := congrArg Addr.off e; simp at this; omega))).trans g1, by rw [World.frozen?_setCell]; exact g2, fun hlt => ?_⟩
    obtain ⟨r, e1, e2, e3, e4⟩ := h3 (by omega)
    exact ⟨r, e1, e2, ks (e3.keep hbw) e4, e4⟩
end Go.Proofs.Ytdenfmgmapgpiaa
