/-
  Contract of the draw of digits of triples: it returns some rows of numbers and some triple, and writes nothing but its source. No condition but what stands in each.
-/
import Derived.Test.YtdenfmgmapgpiaaCdy
import Derived.Test.YtdenfmgmapgpiaaCdg
namespace Go.Proofs.Ytdenfmgmapgpiaa
open Go.RowKit
set_option maxHeartbeats 1000000
theorem l01PickV_any (B g b n : Nat) (c : Nat) (w : World) (hs : Src B w g) (hne : b ≠ g) (hx : ∀ i, i < n → ∃ x : Int, w.cell? ⟨b, i, none⟩ = some (.int .i64 x)) (hn : 0 < n) : Calls Try.prog 55 #[.pointer (some ⟨g, 0, none⟩), .slice (some ⟨b, 0, none⟩) n c] w fun e w' =>
    (∃ (r : Int) (i : Nat), e = .returned (.int .i64 r) ∧ i < n ∧ w.cell? ⟨b, i, none⟩ = some (.int .i64 r)) ∧ Src B w' g ∧ w.grownBy w' (some g) := by
  have HS := Lib.hid hs
  have HX := Lib.hid hx
  clear hs hx
  go_enter Try.func55, Try.ntmps55
  go_wp2_with (first | (go_at_call 54; (with_reducible refine (l01Next_any B g _ _ HS.out).mono ?_); rintro e w1 ⟨⟨r, rfl, hr, _⟩, hs1, hg1⟩; obtain ⟨hr0, hr1⟩ := hr (by omega); obtain ⟨j, rfl⟩ : ∃ j : Nat, r = j := ⟨r.toNat, by omega⟩; obtain ⟨x, hx⟩ := HX.out j (by omega); have hx1 := gb_cell hg1 hne hx; have HXJ := Lib.hid hx; clear hx hr; have HS1 := Lib.hid hs1; have HG1 := Lib.hid hg1; clear hs1 hg1))
  go_returns
  exact ⟨⟨_, j, rfl, by omega, HXJ.out⟩, HS1.out, HG1.out⟩
/-- Rows of numbers that a walk over a source has made: the row of rows is its own, each row lies in another block, from B0 on. -/
structure OT (g B0 : Nat) (W : World) (T : TypeId) (v : Value) (rs : List Rw) : Prop where
  own : W.ownsRow B0 T 1 v rs.length (rs.map Rw.v)
  isl : ∀ r ∈ rs, ISl W r.A r.xs.length r.xs
  far : ∀ r ∈ rs, ∀ a, r.A = some a → B0 ≤ a.block ∧ v.ownBlock ≠ some a.block
  len : ∀ r ∈ rs, 0 < r.xs.length ∧ r.xs.length ≤ 2
  hg : g < B0
theorem OT.gb {g B0 : Nat} {W W1 : World} {T : TypeId} {v : Value} {rs : List Rw} (h : OT g B0 W T v rs) (hg : W.grownBy W1 (some g)) : OT g B0 W1 T v rs := by
  refine ⟨h.own.kept hg ?_, fun r hr => ?_, h.far, h.len, h.hg⟩
  · cases e : v.ownBlock with
    | none => exact .inl rfl
    | some k =>
      have := (h.own.lt k e).1
      have := h.hg
      exact .inr (by intro e2; have : k = g := Option.some.inj e2; omega)
  · obtain ⟨h1, h2⟩ := h.isl r hr
    refine ⟨h1, fun hn => ?_⟩
    obtain ⟨b, off, e, hlt, hx⟩ := h2 hn
    have hb : B0 ≤ b := (h.far r hr _ e).1
    have := h.hg
    exact ⟨b, off, e, Nat.lt_of_lt_of_le hlt hg.size, fun i hi => gb_cell hg (by omega) (hx i hi)⟩
theorem OT.below {g B0 : Nat} {W W1 : World} {T : TypeId} {v : Value} {rs : List Rw} (h : OT g B0 W T v rs) (hb : Below W.heap.size W W1) : OT g B0 W1 T v rs :=
  ⟨own_below h.own hb, fun r hr => (h.isl r hr).keep hb, h.far, h.len, h.hg⟩
theorem OT.set {g B0 : Nat} {W : World} {T : TypeId} {v x : Value} {rs : List Rw} {b o : Nat} (h : OT g B0 W T v rs) (hb : b < B0) : OT g B0 (W.setCell ⟨b, o, none⟩ x) T v rs := by
  refine ⟨own_set (p := ⟨b, o, none⟩) hb h.own, fun r hr => ?_, h.far, h.len, h.hg⟩
  obtain ⟨h1, h2⟩ := h.isl r hr
  refine ⟨h1, fun hn => ?_⟩
  obtain ⟨b', off, e, hlt, hx⟩ := h2 hn
  have hb' : B0 ≤ b' := (h.far r hr _ e).1
  exact ⟨b', off, e, by rw [World.size_setCell]; exact hlt, fun i hi => keep_setx (by omega) (hx i hi)⟩
theorem OT.start {g B0 : Nat} {W : World} {T : TypeId} {v : Value} (ho : W.ownsRow B0 T 1 v 0 []) (hg : g < B0) : OT g B0 W T v [] :=
  ⟨ho, fun r hr => (by cases hr), fun r hr => (by cases hr), fun r hr => (by cases hr), hg⟩
theorem OT.more {g B0 : Nat} {W W' : World} {T T1 T2 : TypeId} {v : Value} {rs : List Rw} {p q : Int} {k cap : Nat} (h : OT g B0 W T v rs) (hB : B0 ≤ W.heap.size)
    (hown : W'.ownsRow B0 T 1 (.slice (some ⟨k, 0, none⟩) (rs.length + 1) cap) (rs.length + 1) (rs.map Rw.v ++ [.slice (some ⟨W.heap.size, 0, none⟩) 2 2]))
    (hgrow : ((W.alloc (.cells #[.int .i64 p, .int .i64 q] T1)).alloc (.cells #[.slice (some ⟨W.heap.size, 0, none⟩) 2 2] T2)).grownBy W' v.ownBlock) (hat : v.ownBlock = some k ∨ k = W.heap.size + 2) :
    OT g B0 W' T (.slice (some ⟨k, 0, none⟩) (rs.length + 1) cap) (rs ++ [⟨some ⟨W.heap.size, 0, none⟩, 2, [p, q]⟩]) := by
  have hown0 : ∀ j, v.ownBlock = some j → B0 ≤ j ∧ j < W.heap.size := fun j hj => ⟨(h.own.lt j hj).1, (h.own.lt j hj).2⟩
  have hkv : (Value.slice (some ⟨k, 0, none⟩) (rs.length + 1) cap).ownBlock = some k := rfl
  have far : ∀ b o u, b < W.heap.size → v.ownBlock ≠ some b → W.cell? ⟨b, o, none⟩ = some u → W'.cell? ⟨b, o, none⟩ = some u := fun b o u hb hne hc =>
    (hgrow.cell_far ⟨b, o, none⟩ (by simp; omega) (fun e => hne e.symm)).trans (keep_alloc (keep_alloc hc))
  have nH : v.ownBlock ≠ some W.heap.size := fun e => by have := hown0 _ e; omega
  have hsz : W.heap.size + 2 ≤ W'.heap.size := by have := hgrow.size; simpa using this
  refine ⟨?_, fun r hr => ?_, fun r hr a ha => ?_, fun r hr => ?_, h.hg⟩
  · rw [List.map_append, List.length_append]
    exact hown
  · rcases List.mem_append.1 hr with hr | hr
    · obtain ⟨h1, h2⟩ := h.isl r hr
      refine ⟨h1, fun hn => ?_⟩
      obtain ⟨b, off, e, hlt, hx⟩ := h2 hn
      exact ⟨b, off, e, by omega, fun i hi => far _ _ _ hlt (h.far r hr _ e).2 (hx i hi)⟩
    · obtain rfl := List.mem_singleton.1 hr
      exact isl2 ((hgrow.cell_far ⟨W.heap.size, 0, none⟩ (by simp; omega) (fun e => nH e.symm)).trans (keep_alloc (by simp))) ((hgrow.cell_far ⟨W.heap.size, 1, none⟩ (by simp; omega) (fun e => nH e.symm)).trans (keep_alloc (by simp)))
  · rcases List.mem_append.1 hr with hr | hr
    · have h3 := h.far r hr a ha
      refine ⟨h3.1, ?_⟩
      rw [hkv]
      intro e
      have e' : k = a.block := Option.some.inj e
      rcases hat with hat | hat
      · exact h3.2 (hat.trans e)
      · obtain ⟨h1, h2⟩ := h.isl r hr
        have hn := (h.len r hr).1
        obtain ⟨b, off, e2, hlt, _⟩ := h2 hn
        rw [e2] at ha
        have : a.block = b := by cases ha; rfl
        omega
    · obtain rfl := List.mem_singleton.1 hr
      have ea : a = ⟨W.heap.size, 0, none⟩ := (Option.some.inj ha).symm
      subst ea
      refine ⟨hB, ?_⟩
      rw [hkv]
      intro e
      have e' : k = W.heap.size := Option.some.inj e
      rcases hat with hat | hat
      · have := hown0 _ hat; omega
      · omega
  · rcases List.mem_append.1 hr with hr | hr
    · exact h.len r hr
    · obtain rfl := List.mem_singleton.1 hr
      exact ⟨(by decide : 0 < 2), (by decide : 2 ≤ 2)⟩
end Go.Proofs.Ytdenfmgmapgpiaa
