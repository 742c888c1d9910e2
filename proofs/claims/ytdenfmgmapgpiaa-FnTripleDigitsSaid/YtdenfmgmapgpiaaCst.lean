/-
  Rows of triples as results: what the laws ask of them, what a call hands back that made one. No condition but what stands in each.
-/
import Derived.Test.YtdenfmgmapgpiaaCsl
import Derived.Test.YtdenfmgmapgpiaaHk
import Derived.Test.YtdenfmgmapgpiaaCpu
import Derived.Laws.AppendOwn
import Derived.Maps.AppendAt
import Derived.Deep.AppendLies
namespace Go.Proofs.Ytdenfmgmapgpiaa
open Go.RowKit
set_option maxHeartbeats 1000000
def flat3 : List (Int × Int × Int) → List Value
  | [] => []
  | t :: ts => .int .i64 t.1 :: .int .i64 t.2.1 :: .int .i64 t.2.2 :: flat3 ts
theorem flat3_len (xs : List (Int × Int × Int)) : (flat3 xs).length = xs.length * 3 := by
  induction xs with
  | nil => rfl
  | cons x xs ih => simp only [flat3, List.length_cons, ih]; omega
theorem flat3_snoc (xs : List (Int × Int × Int)) (t : Int × Int × Int) : flat3 (xs ++ [t]) = flat3 xs ++ [.int .i64 t.1, .int .i64 t.2.1, .int .i64 t.2.2] := by
  induction xs with
  | nil => rfl
  | cons x xs ih => simp only [flat3, List.cons_append, ih]
theorem flat3_at (xs : List (Int × Int × Int)) : ∀ i, i < xs.length → (flat3 xs)[i * 3]? = some (.int .i64 (xs[i]?.getD (0, 0, 0)).1) ∧ (flat3 xs)[i * 3 + 1]? = some (.int .i64 (xs[i]?.getD (0, 0, 0)).2.1) ∧ (flat3 xs)[i * 3 + 2]? = some (.int .i64 (xs[i]?.getD (0, 0, 0)).2.2) := by
  induction xs with
  | nil => intro i h; simp at h
  | cons x xs ih =>
    intro i h
    match i with
    | 0 => exact ⟨rfl, rfl, rfl⟩
    | i + 1 =>
      obtain ⟨h1, h2, h3⟩ := ih i (by simpa using h)
      have e : (i + 1) * 3 = i * 3 + 1 + 1 + 1 := by omega
      rw [e]
      simp only [flat3, List.getElem?_cons_succ]
      exact ⟨h1, h2, h3⟩
theorem SSl.keep {w w1 : World} {A : Option Addr} {n : Nat} {xs : List (Int × Int × Int)} (h : SSl w A n xs) (hb : Below w.heap.size w w1) : SSl w1 A n xs :=
  ⟨h.1, fun hn => by
    obtain ⟨b, off, e, hl, hr⟩ := h.2 hn
    exact ⟨b, off, e, by have := hb.size; omega, fun i hi => ⟨cell_keep hb (hr i hi).1, cell_keep hb (hr i hi).2.1, cell_keep hb (hr i hi).2.2⟩⟩⟩
theorem own_same {w w' : World} {base : Nat} {e : TypeId} {s n : Nat} {v : Value} {xs : List Value} (h : w.ownsRow base e s v n xs) (hs : ∀ k, base ≤ k → k < w.heap.size → w'.heap[k]? = w.heap[k]?) : w'.ownsRow base e s v n xs := by
  obtain ⟨h1, h2 | ⟨g, cap, cur, hv, hb, hg, hr⟩⟩ := h
  · exact ⟨h1, .inl h2⟩
  · refine ⟨h1, .inr ⟨g, cap, cur, hv, hb, ?_, hr⟩⟩
    rw [hs g hb ?_, hg]
    rcases Nat.lt_or_ge g w.heap.size with hlt | hge
    · exact hlt
    · rw [Array.getElem?_eq_none hge] at hg; cases hg
theorem own_below {w w' : World} {base : Nat} {e : TypeId} {s n : Nat} {v : Value} {xs : List Value} (h : w.ownsRow base e s v n xs) (hb : Below w.heap.size w w') : w'.ownsRow base e s v n xs :=
  own_same h fun k _ hk => hb.block k hk
theorem own_set {w : World} {base : Nat} {e : TypeId} {s n : Nat} {v x : Value} {xs : List Value} {p : Addr} (hp : p.block < base) (h : w.ownsRow base e s v n xs) : (w.setCell p x).ownsRow base e s v n xs :=
  own_same h fun k hk _ => Below.heap_setCell _ _ _ _ (by omega)
theorem own_drew {w : World} {base : Nat} {e : TypeId} {s n : Nat} {v : Value} {xs : List Value} (h : w.ownsRow base e s v n xs) : w.drew.ownsRow base e s v n xs := h
theorem new_three (w : World) (x y z : Value) (t : TypeId) : ∀ j u, [x, y, z][j]? = some u → (w.alloc (.cells #[x, y, z] t)).cell? ((⟨w.heap.size, 0, none⟩ : Addr).add j) = some u := by
  intro j u hj
  match j, hj with
  | 0, hj => simp at hj; subst hj; rw [add_at]; simp
  | 1, hj => simp at hj; subst hj; rw [add_at]; simp
  | 2, hj => simp at hj; subst hj; rw [add_at]; simp
theorem own_row1 {w : World} {base H : Nat} {T : TypeId} {x y z : Value} (hH : w.heap.size = H) (hb : base ≤ H) : (w.alloc (.cells #[x, y, z] T)).ownsRow base T 3 (.slice (some ⟨H, 0, none⟩) 1 1) 1 [x, y, z] := by
  subst hH
  exact ⟨rfl, .inr ⟨w.heap.size, 1, #[x, y, z], rfl, hb, heap_alloc_new _ _, Nat.le_refl _, by decide, rfl, rfl⟩⟩
/-- What a call hands back that made a row of triples of its own. -/
theorem owns_SSl {w : World} {B : Nat} {T : TypeId} {v : Value} {xs : List (Int × Int × Int)} (h : w.ownsRow B T 3 v xs.length (flat3 xs)) : ∃ A c, v = .slice A xs.length c ∧ SSl w A xs.length xs ∧ WSl B w A (xs.length * 3) := by
  have hcells := @World.ownsRow.cells w B T 3 v xs.length (flat3 xs) h
  obtain ⟨_, ⟨rfl, h0⟩ | ⟨g, cap, cur, rfl, hB, hg, _, _, _, _⟩⟩ := h
  · rw [h0]
    exact ⟨none, 0, rfl, ⟨h0.symm, fun h => absurd h (by omega)⟩, fun h => absurd h (by omega)⟩
  · have hlt : g < w.heap.size := by
      rcases Nat.lt_or_ge g w.heap.size with hlt | hge
      · exact hlt
      · rw [Array.getElem?_eq_none hge] at hg; cases hg
    refine ⟨some ⟨g, 0, none⟩, cap, rfl, ⟨rfl, fun hn => ⟨g, 0, rfl, hlt, fun i hi => ?_⟩⟩, fun hn => ⟨g, 0, rfl, hB, hlt, fun i hi => ?_⟩⟩
    · obtain ⟨h1, h2, h3⟩ := flat3_at xs i hi
      have c1 := hcells rfl _ _ h1
      have c2 := hcells rfl _ _ h2
      have c3 := hcells rfl _ _ h3
      rw [add_at] at c1 c2 c3
      exact ⟨c1, by rw [Nat.add_assoc]; exact c2, by rw [Nat.add_assoc]; exact c3⟩
    · simp [World.frozen?, hg]
def marks3 (k : Int) (n : Nat) : List (Int × Int × Int) := (List.range n).map fun j : Nat => (k + 3 * (j : Int), k + 3 * (j : Int) + 1, k + 3 * (j : Int) + 2)
theorem marks3_len (k : Int) (n : Nat) : (marks3 k n).length = n := by simp [marks3]
theorem marks3_at {k : Int} {n i : Nat} (h : i < n) : (marks3 k n)[i]?.getD (0, 0, 0) = (k + 3 * (i : Int), k + 3 * (i : Int) + 1, k + 3 * (i : Int) + 2) := by simp [marks3, h]
theorem set3 {w : World} {b o : Nat} {v0 v1 v2 u0 u1 u2 : Value} (h0 : w.cell? ⟨b, o, none⟩ = some u0) (h1 : w.cell? ⟨b, o + 1, none⟩ = some u1) (h2 : w.cell? ⟨b, o + 2, none⟩ = some u2) :
    (((w.setCell ⟨b, o, none⟩ v0).setCell ⟨b, o + 1, none⟩ v1).setCell ⟨b, o + 2, none⟩ v2).cell? ⟨b, o, none⟩ = some v0 ∧ (((w.setCell ⟨b, o, none⟩ v0).setCell ⟨b, o + 1, none⟩ v1).setCell ⟨b, o + 2, none⟩ v2).cell? ⟨b, o + 1, none⟩ = some v1 ∧
    (((w.setCell ⟨b, o, none⟩ v0).setCell ⟨b, o + 1, none⟩ v1).setCell ⟨b, o + 2, none⟩ v2).cell? ⟨b, o + 2, none⟩ = some v2 ∧
    ∀ j, ¬ j = o → ¬ j = o + 1 → ¬ j = o + 2 → (((w.setCell ⟨b, o, none⟩ v0).setCell ⟨b, o + 1, none⟩ v1).setCell ⟨b, o + 2, none⟩ v2).cell? ⟨b, j, none⟩ = w.cell? ⟨b, j, none⟩ := by
  have ne : ∀ {i j : Nat}, ¬ i = j → (⟨b, i, none⟩ : Addr) ≠ ⟨b, j, none⟩ := fun h e => h (by have := congrArg Addr.off e; simpa using this)
  have g1 : (w.setCell ⟨b, o, none⟩ v0).cell? ⟨b, o + 1, none⟩ = some u1 := (World.cell?_setCell_other _ _ _ _ (ne (by omega))).trans h1
  have g2 : ((w.setCell ⟨b, o, none⟩ v0).setCell ⟨b, o + 1, none⟩ v1).cell? ⟨b, o + 2, none⟩ = some u2 := (World.cell?_setCell_other _ _ _ _ (ne (by omega))).trans ((World.cell?_setCell_other _ _ _ _ (ne (by omega))).trans h2)
  refine ⟨?_, ?_, World.cell?_setCell_same (h := g2) .., fun j a1 a2 a3 => ?_⟩
  · exact (World.cell?_setCell_other _ _ _ _ (ne (by omega))).trans ((World.cell?_setCell_other _ _ _ _ (ne (by omega))).trans (World.cell?_setCell_same (h := h0) ..))
  · exact (World.cell?_setCell_other _ _ _ _ (ne (by omega))).trans (World.cell?_setCell_same (h := g1) ..)
  · exact (World.cell?_setCell_other _ _ _ _ (ne (by omega))).trans ((World.cell?_setCell_other _ _ _ _ (ne (by omega))).trans (World.cell?_setCell_other _ _ _ _ (ne (by omega))))
end Go.Proofs.Ytdenfmgmapgpiaa
