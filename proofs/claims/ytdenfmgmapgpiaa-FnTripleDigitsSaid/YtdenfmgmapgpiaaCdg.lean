/-
  Digits of triples, by both programs. Condition: none.
-/
import Derived.Test.YtdenfmgmapgpiaaCrr
import Derived.Test.YtdenfmgmapgpiaaCc3
import Derived.Test.YtdenfmgmapgpiaaCsq
import Derived.StillTailTactics
import Derived.Deep.CutBlock
import Derived.Deep.CutRange
import Derived.Deep.DeepCutAuto
import Derived.Test.YtdenfmgmapgpiaaPld
import Derived.Test.YtdenfmgmapgpiaaCrn
namespace Go.Proofs.Ytdenfmgmapgpiaa
open Go.RowKit
set_option maxHeartbeats 2000000
def vals (gs : List Nat) : List Value := gs.map fun g => .slice (some ⟨g, 0, none⟩) 2 2
theorem vals_len (gs : List Nat) : (vals gs).length = gs.length := by simp [vals]
theorem vals_snoc (gs : List Nat) (g : Nat) : vals (gs ++ [g]) = vals gs ++ [.slice (some ⟨g, 0, none⟩) 2 2] := by simp [vals]
/-- The digits so far. -/
structure DS (w W : World) (T : TypeId) (v : Value) (gs : List Nat) (ds : List (Int × Int)) (x y z : Int) : Prop where
  own : W.ownsRow (w.heap.size + 2) T 1 v ds.length (vals gs)
  len : gs.length = ds.length
  c0 : ∀ i, i < ds.length → W.cell? ⟨gs[i]?.getD 0, 0, none⟩ = some (.int .i64 (ds[i]?.getD (0, 0)).1)
  c1 : ∀ i, i < ds.length → W.cell? ⟨gs[i]?.getD 0, 1, none⟩ = some (.int .i64 (ds[i]?.getD (0, 0)).2)
  fz : ∀ i j, i < ds.length → W.frozen? ⟨gs[i]?.getD 0, j, none⟩ = false
  lo : ∀ i, i < ds.length → w.heap.size + 2 ≤ gs[i]?.getD 0
  ap : ∀ i, i < ds.length → v.ownBlock ≠ some (gs[i]?.getD 0)
  dis : ∀ i j, i < j → j < ds.length → gs[i]?.getD 0 ≠ gs[j]?.getD 0
  t : C3 W w.heap.size x y z
  tf : ∀ j, W.frozen? ⟨w.heap.size, j, none⟩ = false
  r : ∃ e f g, C3 W (w.heap.size + 1) e f g
  rf : ∀ j, W.frozen? ⟨w.heap.size + 1, j, none⟩ = false
  hi : w.heap.size + 2 ≤ W.heap.size
  b : Below w.heap.size w W
theorem DS.lt {w W : World} {T : TypeId} {v : Value} {gs : List Nat} {ds : List (Int × Int)} {x y z : Int} (h : DS w W T v gs ds x y z) {i : Nat} (hi : i < ds.length) : gs[i]?.getD 0 < W.heap.size := World.block_lt_of_cell? W _ (h.c0 i hi)
theorem DS.step {w W : World} {T : TypeId} {v : Value} {gs : List Nat} {ds : List (Int × Int)} {x y z : Int} (h : DS w W T v gs ds x y z) (x' y' z' : Int) :
    DS w (((W.setCell ⟨w.heap.size, 0, none⟩ (.int .i64 x')).setCell ⟨w.heap.size, 1, none⟩ (.int .i64 y')).setCell ⟨w.heap.size, 2, none⟩ (.int .i64 z')) T v gs ds x' y' z' := by
  refine ⟨own_set (show w.heap.size < _ by omega) (own_set (show w.heap.size < _ by omega) (own_set (show w.heap.size < _ by omega) h.own)), h.len, fun i hi => ?_, fun i hi => ?_, fun i j hi => ?_, h.lo, h.ap, h.dis, h.t.put, fun j => ?_, ?_, fun j => ?_, by simp only [World.size_setCell]; exact h.hi, ?_⟩
  · have := h.lo i hi
    exact keep_setx (by omega) (keep_setx (by omega) (keep_setx (by omega) (h.c0 i hi)))
  · have := h.lo i hi
    exact keep_setx (by omega) (keep_setx (by omega) (keep_setx (by omega) (h.c1 i hi)))
  · rw [World.frozen?_setCell, World.frozen?_setCell, World.frozen?_setCell]; exact h.fz i j hi
  · rw [World.frozen?_setCell, World.frozen?_setCell, World.frozen?_setCell]; exact h.tf j
  · obtain ⟨e, f, g, hr⟩ := h.r
    exact ⟨e, f, g, ((hr.other (by omega)).other (by omega)).other (by omega)⟩
  · rw [World.frozen?_setCell, World.frozen?_setCell, World.frozen?_setCell]; exact h.rf j
  · exact below_beyond (below_beyond (below_beyond h.b (Nat.le_refl _)) (Nat.le_refl _)) (Nat.le_refl _)
theorem DS.res {w W : World} {T : TypeId} {v : Value} {gs : List Nat} {ds : List (Int × Int)} {x y z : Int} (h : DS w W T v gs ds x y z) (x' y' z' : Int) :
    DS w (((W.setCell ⟨w.heap.size + 1, 0, none⟩ (.int .i64 x')).setCell ⟨w.heap.size + 1, 1, none⟩ (.int .i64 y')).setCell ⟨w.heap.size + 1, 2, none⟩ (.int .i64 z')) T v gs ds x y z := by
  obtain ⟨e, f, g, hr⟩ := h.r
  refine ⟨own_set (show w.heap.size + 1 < _ by omega) (own_set (show w.heap.size + 1 < _ by omega) (own_set (show w.heap.size + 1 < _ by omega) h.own)), h.len, fun i hi => ?_, fun i hi => ?_, fun i j hi => ?_, h.lo, h.ap, h.dis, ((h.t.other (by omega)).other (by omega)).other (by omega), fun j => ?_, ⟨_, _, _, hr.put⟩, fun j => ?_, by simp only [World.size_setCell]; exact h.hi, ?_⟩
  · have := h.lo i hi
    exact keep_setx (by omega) (keep_setx (by omega) (keep_setx (by omega) (h.c0 i hi)))
  · have := h.lo i hi
    exact keep_setx (by omega) (keep_setx (by omega) (keep_setx (by omega) (h.c1 i hi)))
  · rw [World.frozen?_setCell, World.frozen?_setCell, World.frozen?_setCell]; exact h.fz i j hi
  · rw [World.frozen?_setCell, World.frozen?_setCell, World.frozen?_setCell]; exact h.tf j
  · rw [World.frozen?_setCell, World.frozen?_setCell, World.frozen?_setCell]; exact h.rf j
  · exact below_beyond (below_beyond (below_beyond h.b (Nat.le_add_right _ _)) (Nat.le_add_right _ _)) (Nat.le_add_right _ _)
theorem DS.drew {w W : World} {T : TypeId} {v : Value} {gs : List Nat} {ds : List (Int × Int)} {x y z : Int} (h : DS w W T v gs ds x y z) : DS w W.drew T v gs ds x y z :=
  ⟨h.own, h.len, h.c0, h.c1, h.fz, h.lo, h.ap, h.dis, h.t, h.tf, h.r, h.rf, h.hi, h.b.drew⟩
theorem DS.drewN {w W : World} {T : TypeId} {v : Value} {gs : List Nat} {ds : List (Int × Int)} {x y z : Int} (h : DS w W T v gs ds x y z) (n : Nat) : DS w (W.drewN n) T v gs ds x y z :=
  ⟨h.own, h.len, h.c0, h.c1, h.fz, h.lo, h.ap, h.dis, h.t, h.tf, h.r, h.rf, h.hi, below_drewN' h.b n⟩
theorem getD_snoc_lt {α : Type} {l : List α} {a d : α} {i : Nat} (h : i < l.length) : (l ++ [a])[i]?.getD d = l[i]?.getD d := by rw [List.getElem?_append_left h]
theorem getD_snoc_eq {α : Type} {l : List α} {a d : α} {i : Nat} (h : i = l.length) : (l ++ [a])[i]?.getD d = a := by subst h; simp
theorem DS.more {w W W' : World} {T T1 T2 : TypeId} {v : Value} {gs : List Nat} {ds : List (Int × Int)} {x y z p q : Int} {g cap : Nat} (h : DS w W T v gs ds x y z)
    (hown : W'.ownsRow (w.heap.size + 2) T 1 (.slice (some ⟨g, 0, none⟩) (ds.length + 1) cap) (ds.length + 1) (vals gs ++ [.slice (some ⟨W.heap.size, 0, none⟩) 2 2]))
    (hgrow : ((W.alloc (.cells #[.int .i64 p, .int .i64 q] T1)).alloc (.cells #[.slice (some ⟨W.heap.size, 0, none⟩) 2 2] T2)).grownBy W' v.ownBlock) (hat : v.ownBlock = some g ∨ g = W.heap.size + 2) :
    DS w W' T (.slice (some ⟨g, 0, none⟩) (ds.length + 1) cap) (gs ++ [W.heap.size]) (ds ++ [(p, q)]) x y z := by
  have hhi := h.hi
  have hown0 : ∀ k, v.ownBlock = some k → w.heap.size + 2 ≤ k ∧ k < W.heap.size := fun k hk => ⟨(h.own.lt k hk).1, (h.own.lt k hk).2⟩
  have far : ∀ b o u, b < W.heap.size → v.ownBlock ≠ some b → W.cell? ⟨b, o, none⟩ = some u → W'.cell? ⟨b, o, none⟩ = some u := fun b o u hb hne hc =>
    (hgrow.cell_far ⟨b, o, none⟩ (by simp; omega) (fun e => hne e.symm)).trans (keep_alloc (keep_alloc hc))
  have ffar : ∀ b o, b < W.heap.size → v.ownBlock ≠ some b → W.frozen? ⟨b, o, none⟩ = false → W'.frozen? ⟨b, o, none⟩ = false := fun b o hb hne hc =>
    (hgrow.frozen_far ⟨b, o, none⟩ (by simp; omega) (fun e => hne e.symm)).trans (fz_alloc (fz_alloc hc hb) (by simp; omega))
  have nH : v.ownBlock ≠ some W.heap.size := fun e => by have := hown0 _ e; omega
  have e0 : W'.cell? ⟨W.heap.size, 0, none⟩ = some (.int .i64 p) := (hgrow.cell_far ⟨W.heap.size, 0, none⟩ (by simp; omega) (fun e => nH e.symm)).trans (keep_alloc (by simp))
  have e1 : W'.cell? ⟨W.heap.size, 1, none⟩ = some (.int .i64 q) := (hgrow.cell_far ⟨W.heap.size, 1, none⟩ (by simp; omega) (fun e => nH e.symm)).trans (keep_alloc (by simp))
  have ef : ∀ j, W'.frozen? ⟨W.heap.size, j, none⟩ = false := fun j => (hgrow.frozen_far ⟨W.heap.size, j, none⟩ (by simp; omega) (fun e => nH e.symm)).trans (fz_alloc (by simp) (by simp))
  have n0 : v.ownBlock ≠ some w.heap.size := fun e => by have := hown0 _ e; omega
  have n1 : v.ownBlock ≠ some (w.heap.size + 1) := fun e => by have := hown0 _ e; omega
  have hsz : W.heap.size + 2 ≤ W'.heap.size := by have := hgrow.size; simpa using this
  obtain ⟨re, rf, rg, hr⟩ := h.r
  have hob : (Value.slice (some ⟨g, 0, none⟩) (ds.length + 1) cap).ownBlock = some g := rfl
  have hl : (ds ++ [(p, q)]).length = ds.length + 1 := by simp
  refine ⟨?_, by simp [h.len], fun i hi => ?_, fun i hi => ?_, fun i j hi => ?_, fun i hi => ?_, fun i hi => ?_, fun i j hij hj => ?_, ⟨far _ _ _ (by omega) n0 h.t.1, far _ _ _ (by omega) n0 h.t.2.1, far _ _ _ (by omega) n0 h.t.2.2⟩, fun j => ffar _ _ (by omega) n0 (h.tf j),
    ⟨re, rf, rg, far _ _ _ (by omega) n1 hr.1, far _ _ _ (by omega) n1 hr.2.1, far _ _ _ (by omega) n1 hr.2.2⟩, fun j => ffar _ _ (by omega) n1 (h.rf j), by omega, ?_⟩
  · rw [hl, vals_snoc]; exact hown
  · rw [hl] at hi
    rcases Nat.lt_or_ge i ds.length with hlt | hge
    · rw [getD_snoc_lt (by rw [h.len]; exact hlt), getD_snoc_lt hlt]
      exact far _ _ _ (h.lt hlt) (h.ap i hlt) (h.c0 i hlt)
    · rw [getD_snoc_eq (by rw [h.len]; omega), getD_snoc_eq (by omega)]; exact e0
  · rw [hl] at hi
    rcases Nat.lt_or_ge i ds.length with hlt | hge
    · rw [getD_snoc_lt (by rw [h.len]; exact hlt), getD_snoc_lt hlt]
      exact far _ _ _ (h.lt hlt) (h.ap i hlt) (h.c1 i hlt)
    · rw [getD_snoc_eq (by rw [h.len]; omega), getD_snoc_eq (by omega)]; exact e1
  · rw [hl] at hi
    rcases Nat.lt_or_ge i ds.length with hlt | hge
    · rw [getD_snoc_lt (by rw [h.len]; exact hlt)]
      exact ffar _ _ (h.lt hlt) (h.ap i hlt) (h.fz i j hlt)
    · rw [getD_snoc_eq (by rw [h.len]; omega)]; exact ef j
  · rw [hl] at hi
    rcases Nat.lt_or_ge i ds.length with hlt | hge
    · rw [getD_snoc_lt (by rw [h.len]; exact hlt)]; exact h.lo i hlt
    · rw [getD_snoc_eq (by rw [h.len]; omega)]; exact hhi
  · rw [hl] at hi
    rw [hob]
    rcases Nat.lt_or_ge i ds.length with hlt | hge
    · rw [getD_snoc_lt (by rw [h.len]; exact hlt)]
      have a1 := h.lt hlt
      intro e
      rcases hat with hat | hat
      · exact h.ap i hlt (hat.trans e)
      · have : g = gs[i]?.getD 0 := by simpa using e
        omega
    · rw [getD_snoc_eq (by rw [h.len]; omega)]
      intro e
      have e' : g = W.heap.size := by simpa using e
      rcases hat with hat | hat
      · have := hown0 _ hat; omega
      · omega
  · rw [hl] at hj
    rcases Nat.lt_or_ge j ds.length with hlt | hge
    · rw [getD_snoc_lt (by rw [h.len]; omega), getD_snoc_lt (by rw [h.len]; exact hlt)]
      exact h.dis i j hij hlt
    · rw [getD_snoc_lt (by rw [h.len]; omega), getD_snoc_eq (i := j) (by rw [h.len]; omega)]
      have := h.lt (i := i) (by omega)
      omega
  · exact ((h.b.alloc (by omega) _).alloc (by simp; omega) _).grown hgrow (by simp; omega) (fun k e => by have := hown0 k e; omega)
def rsD (gs : List Nat) (ds : List (Int × Int)) : List Rw := (gs.zip ds).map fun p => ⟨some ⟨p.1, 0, none⟩, 2, [p.2.1, p.2.2]⟩
theorem rsD_len {gs : List Nat} {ds : List (Int × Int)} (h : gs.length = ds.length) : (rsD gs ds).length = ds.length := by simp [rsD]; omega
theorem rsD_at {gs : List Nat} {ds : List (Int × Int)} (h : gs.length = ds.length) {i : Nat} (hi : i < ds.length) : (rsD gs ds)[i]?.getD Rw.nil = ⟨some ⟨gs[i]?.getD 0, 0, none⟩, 2, [(ds[i]?.getD (0, 0)).1, (ds[i]?.getD (0, 0)).2]⟩ := by
  have h1 : i < gs.length := by omega
  have hz : i < (gs.zip ds).length := by simp; omega
  simp only [rsD, List.getElem?_map, List.getElem?_eq_getElem hz, List.getElem?_eq_getElem hi, List.getElem?_eq_getElem h1, Option.map_some, Option.getD_some, List.getElem_zip]
theorem rsD_xs : ∀ {gs : List Nat} {ds : List (Int × Int)}, gs.length = ds.length → (rsD gs ds).map (·.xs) = rowsD ds
  | [], [], _ => rfl
  | g :: gs, d :: ds, h => by
    have := rsD_xs (gs := gs) (ds := ds) (by simpa using h)
    simp only [rsD, rowsD, List.zip_cons_cons, List.map_cons] at this ⊢
    rw [this]
  | [], _ :: _, h => by simp at h
  | _ :: _, [], h => by simp at h
theorem rsD_mem {gs : List Nat} {ds : List (Int × Int)} (h : gs.length = ds.length) {r : Rw} (hr : r ∈ rsD gs ds) : ∃ i, i < ds.length ∧ r = ⟨some ⟨gs[i]?.getD 0, 0, none⟩, 2, [(ds[i]?.getD (0, 0)).1, (ds[i]?.getD (0, 0)).2]⟩ := by
  obtain ⟨i, hi, rfl⟩ := List.getElem_of_mem hr
  rw [rsD_len h] at hi
  refine ⟨i, hi, ?_⟩
  have := rsD_at h hi
  rwa [List.getElem?_eq_getElem (by rw [rsD_len h]; exact hi)] at this
theorem isl2 {w : World} {b : Nat} {x y : Int} (h0 : w.cell? ⟨b, 0, none⟩ = some (.int .i64 x)) (h1 : w.cell? ⟨b, 1, none⟩ = some (.int .i64 y)) : ISl w (some ⟨b, 0, none⟩) 2 [x, y] :=
  ⟨rfl, fun _ => ⟨b, 0, rfl, World.block_lt_of_cell? w _ h0, fun i hi => by
    match i, hi with
    | 0, _ => simpa using h0
    | 1, _ => simpa using h1⟩⟩
theorem DS.out {w W : World} {T : TypeId} {v : Value} {gs : List Nat} {ds : List (Int × Int)} {x y z : Int} (h : DS w W T v gs ds x y z) :
    ∃ A c, v = .slice A ds.length c ∧ RSl W A ds.length (rsD gs ds) ∧ (rsD gs ds).map (·.xs) = rowsD ds ∧ Apart w.heap.size W A (rsD gs ds) := by
  have hcells := @World.ownsRow.cells W (w.heap.size + 2) T 1 v ds.length (vals gs) h.own
  have hlen := rsD_len h.len
  have hisl : ∀ r ∈ rsD gs ds, ISl W r.A r.xs.length r.xs := fun r hr => by
    obtain ⟨i, hi, rfl⟩ := rsD_mem h.len hr
    exact isl2 (h.c0 i hi) (h.c1 i hi)
  have hdis : ∀ i j, i < j → j < (rsD gs ds).length → 0 < ((rsD gs ds)[i]?.getD Rw.nil).xs.length → 0 < ((rsD gs ds)[j]?.getD Rw.nil).xs.length → ∀ a a', ((rsD gs ds)[i]?.getD Rw.nil).A = some a → ((rsD gs ds)[j]?.getD Rw.nil).A = some a' → a.block ≠ a'.block := by
    intro i j hij hj _ _ a a' ha ha'
    rw [hlen] at hj
    rw [rsD_at h.len (by omega)] at ha
    rw [rsD_at h.len hj] at ha'
    cases ha
    cases ha'
    exact h.dis i j hij hj
  have hws : ∀ r ∈ rsD gs ds, WSl w.heap.size W r.A r.xs.length := fun r hr => by
    obtain ⟨i, hi, rfl⟩ := rsD_mem h.len hr
    exact fun _ => ⟨_, 0, rfl, by have := h.lo i hi; omega, h.lt hi, fun j _ => h.fz i _ hi⟩
  have hown := h.own
  obtain ⟨_, ⟨rfl, h0⟩ | ⟨g, cap, cur, rfl, hB, hg, _, _, _, _⟩⟩ := hown
  · rw [h0]
    refine ⟨none, 0, rfl, ⟨by rw [hlen, h0], fun h => absurd h (by omega), hisl⟩, rsD_xs h.len, hws, hdis, fun r hr hz a a' ha => by cases ha⟩
  · have hlt : g < W.heap.size := by
      rcases Nat.lt_or_ge g W.heap.size with hlt | hge
      · exact hlt
      · rw [Array.getElem?_eq_none hge] at hg; cases hg
    refine ⟨some ⟨g, 0, none⟩, cap, rfl, ⟨hlen.symm, fun _ => ⟨g, 0, rfl, hlt, fun i hi => ?_⟩, hisl⟩, rsD_xs h.len, hws, hdis, fun r hr hz a a' ha ha' => ?_⟩
    · rw [hlen] at hi
      have hv : (vals gs)[i]? = some (.slice (some ⟨gs[i]?.getD 0, 0, none⟩) 2 2) := by
        have h1 : i < gs.length := by rw [h.len]; exact hi
        simp [vals, h1]
      have c1 := hcells rfl _ _ hv
      rw [add_at] at c1
      rw [rsD_at h.len hi]
      exact c1
    · obtain ⟨i, hi, rfl⟩ := rsD_mem h.len hr
      cases ha
      cases ha'
      have := h.ap i hi
      intro e
      exact this (by show some g = _; rw [show g = gs[i]?.getD 0 from e])
theorem rsD_nil : rsD [] [] = [] := rfl
theorem digRow_nil (W : World) : RSl W none 0 [] := ⟨rfl, fun h => absurd h (by omega), fun r hr => by cases hr⟩
theorem digAp_nil (B : Nat) (W : World) : Apart B W none [] := ⟨fun r hr => (by cases hr), fun i j _ hj => absurd hj (by simp), fun r hr => (by cases hr)⟩
theorem new_one2 (W : World) (X : Obj) (v : Value) (T : TypeId) : ∀ j u, [v][j]? = some u → ((W.alloc X).alloc (.cells #[v] T)).cell? ((⟨W.heap.size + 1, 0, none⟩ : Addr).add j) = some u := by
  intro j u hj
  match j, hj with
  | 0, hj => simp at hj; subst hj; rw [add_at]; simp
def DigP (R : List (Int × Int) × (Int × Int × Int) × Int) (w : World) (e : Ending) (w' : World) : Prop :=
  ∃ A cc rs, e = .returned (.tuple #[.slice A R.1.length cc, .agg #[.int .i64 R.2.1.1, .int .i64 R.2.1.2.1, .int .i64 R.2.1.2.2], .int .i64 R.2.2]) ∧ RSl w' A R.1.length rs ∧ rs.map (·.xs) = rowsD R.1 ∧ Apart w.heap.size w' A rs
theorem infoIS : (Try.prog.info? 59).map (fun i => (i.zero, i.size, i.bytes)) = some (some (.slice none 0 0), 1, 24) := by kernel_rfl
/-- How far the digits are. -/
def DigI (a b c : Int) (ds : List (Int × Int)) (x y z : Int) : Prop := ds.length ≤ 60 ∧ tripB x y z = true ∧ digL 60 a b c = (digL (60 - ds.length) x y z).map (fun r => (ds ++ r.1, r.2))
theorem DigI.ends {a b c x y z : Int} {ds : List (Int × Int)} (h : DigI a b c ds x y z) (hx : ¬ 0 < x) : digL 60 a b c = some (ds, x, y, z) := by
  rw [h.2.2]
  cases 60 - ds.length <;> simp [digL, hx]
theorem DigI.fails {a b c x y z : Int} {ds : List (Int × Int)} (h : DigI a b c ds x y z) (hx : 0 < x) (hl : ds.length = 60) : digL 60 a b c = none := by
  rw [h.2.2, hl]
  simp [digL, hx]
theorem DigI.next {a b c x y z : Int} {ds : List (Int × Int)} (h : DigI a b c ds x y z) (hx : 0 < x) (hl : ds.length < 60) : DigI a b c (ds ++ [(y.tdiv x, z.tdiv x)]) (y.tmod x) (z.tmod x) x := by
  refine ⟨by simp; omega, (dig_trip h.2.1 hx).1, ?_⟩
  rw [h.2.2, show 60 - ds.length = (60 - (ds ++ [(y.tdiv x, z.tdiv x)]).length) + 1 by simp; omega, digL, if_pos hx, Option.map_map]
  simp [Function.comp_def]
set_option maxRecDepth 100000 in
theorem implDig_any (a b c : Int) (w : World) : Calls Try.prog 7 #[.agg #[.int .i64 a, .int .i64 b, .int .i64 c]] w fun e w' =>
    DigP (digR a b c) w e w' ∧ Below w.heap.size w w' := by
  have ht := fun W => IsTriple_any a b c W
  unfold digR
  obtain ⟨k, ek⟩ : ∃ k, tripB a b c = k := ⟨_, rfl⟩
  rw [ek] at ht ⊢
  have HT := Lib.hid ht
  have HK := Lib.hid ek
  clear ht ek
  cases k
  · rw [if_neg (by decide)]
    go_enter Try.func7, Try.ntmps7
    go_wp2_with (first | (go_at_call 27; (with_reducible refine (HT.out _).mono ?_); rintro e w1 ⟨rfl, hb1⟩; obtain ⟨hc1, hf1, hz1, hn1⟩ := bstep 2 w hb1 (by go_size)))
    refine bodyPost_ret (by simp [results, Try.results7, go_sem, *]; try rfl) rfl ?_
    exact ⟨⟨none, 0, [], rfl, digRow_nil _, rfl, digAp_nil _ _⟩, by (repeat' (first | (with_reducible exact Below.refl _ _) | (with_reducible refine Below.alloc ?_ ?_ _) | (with_reducible refine Below.drew ?_) | (with_reducible refine below_drewN' ?_ _) | (with_reducible refine Below.setCell ?_ ?_ _) | (with_reducible refine Below.trans ?_ (Below.mono (by assumption) ?_)) | go_size))⟩
  · rw [if_pos rfl]
    by_cases ha : a = 0
    · rw [if_pos ha]
      subst ha
      go_enter Try.func7, Try.ntmps7
      go_wp2_with (first | (go_at_call 27; (with_reducible refine (HT.out _).mono ?_); rintro e w1 ⟨rfl, hb1⟩; obtain ⟨hc1, hf1, hz1, hn1⟩ := bstep 2 w hb1 (by go_size); obtain ⟨⟨s0, s1, s2⟩, ⟨sf0, sf1, sf2⟩, ss, sn⟩ : (w1.cell? ⟨w.heap.size, 0, none⟩ = some (.int .i64 0) ∧ w1.cell? ⟨w.heap.size, 1, none⟩ = some (.int .i64 b) ∧ w1.cell? ⟨w.heap.size, 2, none⟩ = some (.int .i64 c)) ∧ (w1.frozen? ⟨w.heap.size, 0, none⟩ = false ∧ w1.frozen? ⟨w.heap.size, 1, none⟩ = false ∧ w1.frozen? ⟨w.heap.size, 2, none⟩ = false) ∧ w.heap.size < w1.heap.size ∧ ¬ w1.heap.size = w.heap.size := ⟨by (focus (((repeat' apply And.intro) <;> (repeat' (first | (with_reducible assumption) | (with_reducible refine keep_drew ?_) | (with_reducible refine keep_setx (by omega) ?_) | (with_reducible refine keep_hc (by with_reducible assumption) (by omega) ?_) | (focus (go_simp; done)) | (with_reducible refine keep_alloc ?_)))); done)), by (focus (((repeat' apply And.intro) <;> (repeat' (first | (with_reducible assumption) | (with_reducible refine fz_drew ?_) | (with_reducible refine fz_set ?_) | (with_reducible refine fz_hc (by with_reducible assumption) (by omega) ?_) | (focus (go_simp; done)) | (with_reducible refine fz_alloc ?_ ?_) | go_size))); done)), by go_size, by go_size⟩))
      refine bodyPost_ret (by simp [results, Try.results7, go_sem, *]; try rfl) rfl ?_
      exact ⟨⟨none, 0, [], rfl, digRow_nil _, rfl, digAp_nil _ _⟩, by (repeat' (first | (with_reducible exact Below.refl _ _) | (with_reducible refine Below.alloc ?_ ?_ _) | (with_reducible refine Below.drew ?_) | (with_reducible refine below_drewN' ?_ _) | (with_reducible refine Below.setCell ?_ ?_ _) | (with_reducible refine Below.trans ?_ (Below.mono (by assumption) ?_)) | go_size))⟩
    · rw [if_neg ha]
      have ha' : (a == 0) = false := by simpa using ha
      have h0 : DigI a b c [] a b c := ⟨by simp, HK.out, by cases digL 60 a b c <;> rfl⟩
      have H0 := Lib.hid h0
      clear h0 ha
      obtain ⟨R, eR⟩ : ∃ R, digL 60 a b c = R := ⟨_, rfl⟩
      rw [eR]
      have HR := Lib.hid eR
      clear eR
      obtain ⟨i0, hI0⟩ := info_parts infoIS
      have HI := Lib.hid hI0
      clear hI0
      go_enter Try.func7, Try.ntmps7
      go_wp2_with (first | (go_at_call 27; (with_reducible refine (HT.out _).mono ?_); rintro e w1 ⟨rfl, hb1⟩; obtain ⟨hc1, hf1, hz1, hn1⟩ := bstep 2 w hb1 (by go_size); obtain ⟨⟨s0, s1, s2⟩, ⟨sf0, sf1, sf2⟩, ss, sn⟩ : (w1.cell? ⟨w.heap.size, 0, none⟩ = some (.int .i64 a) ∧ w1.cell? ⟨w.heap.size, 1, none⟩ = some (.int .i64 b) ∧ w1.cell? ⟨w.heap.size, 2, none⟩ = some (.int .i64 c)) ∧ (w1.frozen? ⟨w.heap.size, 0, none⟩ = false ∧ w1.frozen? ⟨w.heap.size, 1, none⟩ = false ∧ w1.frozen? ⟨w.heap.size, 2, none⟩ = false) ∧ w.heap.size < w1.heap.size ∧ ¬ w1.heap.size = w.heap.size := ⟨by (focus (((repeat' apply And.intro) <;> (repeat' (first | (with_reducible assumption) | (with_reducible refine keep_drew ?_) | (with_reducible refine keep_setx (by omega) ?_) | (with_reducible refine keep_hc (by with_reducible assumption) (by omega) ?_) | (focus (go_simp; done)) | (with_reducible refine keep_alloc ?_)))); done)), by (focus (((repeat' apply And.intro) <;> (repeat' (first | (with_reducible assumption) | (with_reducible refine fz_drew ?_) | (with_reducible refine fz_set ?_) | (with_reducible refine fz_hc (by with_reducible assumption) (by omega) ?_) | (focus (go_simp; done)) | (with_reducible refine fz_alloc ?_ ?_) | go_size))); done)), by go_size, by go_size⟩))
      refine wp_gen' (F := fun W => DS w W 59 (.slice (some ⟨w1.heap.size, 0, none⟩) 0 0) [] [] a b c) ?_ (fun W1 hW1 => ?_)
      · clear HT HR H0 HI
        refine ⟨World.ownsRow_made _ _ _ (by omega) (by decide) rfl, rfl, fun i hi => absurd hi (by simp), fun i hi => absurd hi (by simp), fun i j hi => absurd hi (by simp), fun i hi => absurd hi (by simp), fun i hi => absurd hi (by simp), fun i j _ hj => absurd hj (by simp), ⟨?_, ?_, ?_⟩, fun j => ?_, ⟨0, 0, 0, ?_, ?_, ?_⟩, fun j => ?_, by simp; omega, by (repeat' (first | (with_reducible exact Below.refl _ _) | (with_reducible refine Below.alloc ?_ ?_ _) | (with_reducible refine Below.drew ?_) | (with_reducible refine below_drewN' ?_ _) | (with_reducible refine Below.setCell ?_ ?_ _) | (with_reducible refine Below.trans ?_ (Below.mono (by assumption) ?_)) | go_size))⟩
        · exact keep_alloc (keep_hc hc1 (by omega) (by go_simp))
        · exact keep_alloc (keep_hc hc1 (by omega) (by go_simp))
        · exact keep_alloc (keep_hc hc1 (by omega) (by go_simp))
        · exact fz_alloc (fz_hc hf1 (by omega) (by go_simp)) (by omega)
        · exact keep_alloc (keep_hc hc1 (by omega) (by go_simp))
        · exact keep_alloc (keep_hc hc1 (by omega) (by go_simp))
        · exact keep_alloc (keep_hc hc1 (by omega) (by go_simp))
        · exact fz_alloc (fz_hc hf1 (by omega) (by go_simp)) (by omega)
      have HS := Lib.hid hW1
      clear hW1 hb1 hc1 hf1 hz1 hn1 s0 s1 s2 sf0 sf1 sf2 ss sn HT
      go_loopw [5] (fun o W => ∃ (gs : List Nat) (ds : List (Int × Int)) (x y z : Int) (A : Option Addr) (cc : Nat), o = .slice A ds.length cc ∧ DigI a b c ds x y z ∧ DS w W 59 o gs ds x y z) (fun o _ => match o with | .slice _ n _ => 60 - n | _ => 0)
      case atStart => exact ⟨[], [], a, b, c, _, _, rfl, H0.out, HS.out⟩
      case round =>
        clear H0 HS
        obtain ⟨gs, ds, x, y, z, A, cc, rfl, hI, hS⟩ := hrel
        have hlen := hI.1
        have htr := hI.2.1
        obtain ⟨bx, bY, bz, _⟩ := tripB_iff.1 htr
        obtain ⟨c0, c1, c2⟩ := hS.t
        have t0 := hS.tf 0
        have t1 := hS.tf 1
        have t2 := hS.tf 2
        obtain ⟨re, rf, rg, r0, r1, r2⟩ := hS.r
        have f0 := hS.rf 0
        have f1 := hS.rf 1
        have f2 := hS.rf 2
        have hhi := hS.hi
        have HJ := Lib.hid hI
        have HS := Lib.hid hS
        clear hI hS htr
        by_cases hx : 0 < x
        · by_cases hl : ds.length = 60
          · have hfl := HJ.out.fails hx hl
            obtain rfl : R = none := HR.out.symm.trans hfl
            have hl' : ((ds.length : Int) == 60) = true := by simp; omega
            have HB := Lib.hid HS.out.b
            clear hfl hl
            go_wp2
            refine bodyPost_ret (by simp [results, Try.results7, go_sem, *]; try rfl) rfl ?_
            refine ⟨⟨none, 0, [], rfl, digRow_nil _, rfl, digAp_nil _ _⟩, ?_⟩
            have hB := HB.out
            (repeat' (first | (with_reducible exact Below.refl _ _) | (with_reducible refine Below.alloc ?_ ?_ _) | (with_reducible refine Below.drew ?_) | (with_reducible refine below_drewN' ?_ _) | (with_reducible refine Below.setCell ?_ ?_ _) | (with_reducible refine Below.trans ?_ (Below.mono (by assumption) ?_)) | go_size))
          · have hl' : ((ds.length : Int) == 60) = false := by simp; omega
            have hlt : ds.length < 60 := by omega
            have hnext := HJ.out.next hx hlt
            have hx0 : (x == 0) = false := by simp; omega
            have d1 := dig_trip HJ.out.2.1 hx
            obtain ⟨p, hp⟩ : ∃ p, y.tdiv x = p := ⟨_, rfl⟩
            obtain ⟨q, hq⟩ : ∃ p, z.tdiv x = p := ⟨_, rfl⟩
            obtain ⟨u, hu⟩ : ∃ p, y.tmod x = p := ⟨_, rfl⟩
            obtain ⟨v, hv⟩ : ∃ p, z.tmod x = p := ⟨_, rfl⟩
            rw [hp, hq, hu, hv] at hnext d1
            have b1 := numB_iff.1 d1.2.1
            have b2 := numB_iff.1 d1.2.2
            have HN := Lib.hid hnext
            clear hl hnext d1
            have w1 : IntKind.i64.wrap p = p := by rw [wrapEq]; unfold wrap64; omega
            have w2 : IntKind.i64.wrap q = q := by rw [wrapEq]; unfold wrap64; omega
            have hxn : ¬ x = 0 := by omega
            go_upto_region 10 with fail
            go_region_held3 (fun w' => (w'.cell? ⟨w.heap.size, 0, none⟩ = some (.int .i64 x) ∧ w'.cell? ⟨w.heap.size, 1, none⟩ = some (.int .i64 y) ∧ w'.cell? ⟨w.heap.size, 2, none⟩ = some (.int .i64 z))) (first | (with_reducible assumption) | (focus (((repeat' apply And.intro) <;> (repeat' (first | (with_reducible assumption) | (with_reducible refine keep_drew ?_) | (with_reducible refine keep_setx (by omega) ?_) | (with_reducible refine keep_hc (by with_reducible assumption) (by omega) ?_) | (focus (go_simp; done)) | (with_reducible refine keep_alloc ?_)))); done))) ((refine step_append_lies _ (by rfl) _ _ _ (by rfl) (w.heap.size + 2) 59 i0 (.slice none 0 0) 1 24 Try.underlying27 HI.out.1 HI.out.2.1 HI.out.2.2.1 HI.out.2.2.2 rfl (by decide) (.slice A ds.length cc) ds.length (vals gs) (by rfl) (((HS.out.drew.own).alloc _).alloc _) ⟨wr.heap.size + 1, 0, none⟩ 1 1 [.slice (some ⟨wr.heap.size, 0, none⟩) 2 2] (by rfl) (by rfl) (new_one2 _ _ _ _) (by simp [Value.oneCell']) (by omega) (by unfold maxLen; omega) (by omega) (by simp; omega) (wr.heap.size + 2) (by simp) ?_; intro g cap w3 hown3 hgrow3 hat3 hlt3; have HS3 := Lib.hid (HS.out.drew.more hown3 hgrow3 hat3); clear hown3 hgrow3 hat3 hlt3; have s3 := HS3.out.t; unfold C3 at s3))
            go_wp2_with fail
            obtain ⟨a0, a1, a2⟩ := HS3.out.t
            have k0 := HS3.out.tf 0
            have k1 := HS3.out.tf 1
            have k2 := HS3.out.tf 2
            clear s3 c0 c1 c2 t0 t1 t2 r0 r1 r2 f0 f1 f2
            go_still_tail 10, (by kernel_rfl)
            go_wp2
            go_roundw
            case rel => exact ⟨gs ++ [wr.heap.size], ds ++ [(p, q)], u, v, x, some ⟨g, 0, none⟩, cap, by simp, HN.out, by first | exact (HS3.out.step u v x).drew | exact HS3.out.drew.step u v x | exact HS3.out.step u v x⟩
            case measure => simp; omega
        · obtain rfl : R = some (ds, x, y, z) := HR.out.symm.trans (HJ.out.ends hx)
          have HB := Lib.hid HS.out.b
          have HD := Lib.hid HS.out
          go_wp2
          go_region_held3 (fun w' => (w'.cell? ⟨w.heap.size, 0, none⟩ = some (.int .i64 x) ∧ w'.cell? ⟨w.heap.size, 1, none⟩ = some (.int .i64 y) ∧ w'.cell? ⟨w.heap.size, 2, none⟩ = some (.int .i64 z))) ((focus (((repeat' apply And.intro) <;> (repeat' (first | (with_reducible assumption) | (with_reducible refine keep_drew ?_) | (with_reducible refine keep_setx (by omega) ?_) | (with_reducible refine keep_hc (by with_reducible assumption) (by omega) ?_) | (focus (go_simp; done)) | (with_reducible refine keep_alloc ?_)))); done))) (fail)
          go_wp2
          refine bodyPost_ret (by simp [results, Try.results7, go_sem, *]; try rfl) rfl ?_
          obtain ⟨A', c', hv, o1, o2, o3⟩ := (HD.out.res x y z).drew.out
          cases hv
          refine ⟨⟨A, cc, _, rfl, o1, o2, o3⟩, ?_⟩
          have hB := HB.out
          (repeat' (first | (with_reducible exact Below.refl _ _) | (with_reducible refine Below.alloc ?_ ?_ _) | (with_reducible refine Below.drew ?_) | (with_reducible refine below_drewN' ?_ _) | (with_reducible refine Below.setCell ?_ ?_ _) | (with_reducible refine Below.trans ?_ (Below.mono (by assumption) ?_)) | go_size))
set_option maxRecDepth 100000 in
theorem specDig_any (a b c : Int) (w : World) : Calls Try.prog 8 #[.agg #[.int .i64 a, .int .i64 b, .int .i64 c]] w fun e w' =>
    DigP (digR a b c) w e w' ∧ Below w.heap.size w w' := by
  have ht := fun W => l07Is_any a b c W
  unfold digR
  obtain ⟨k, ek⟩ : ∃ k, tripB a b c = k := ⟨_, rfl⟩
  rw [ek] at ht ⊢
  have HT := Lib.hid ht
  have HK := Lib.hid ek
  clear ht ek
  cases k
  · rw [if_neg (by decide)]
    go_enter Try.func8, Try.ntmps8
    go_wp2_with (first | (go_at_call 48; (with_reducible refine (HT.out _).mono ?_); rintro e w1 ⟨rfl, hb1⟩; obtain ⟨hc1, hf1, hz1, hn1⟩ := bstep 2 w hb1 (by go_size)))
    refine bodyPost_ret (by simp [results, Try.results8, go_sem, *]; try rfl) rfl ?_
    exact ⟨⟨none, 0, [], rfl, digRow_nil _, rfl, digAp_nil _ _⟩, by (repeat' (first | (with_reducible exact Below.refl _ _) | (with_reducible refine Below.alloc ?_ ?_ _) | (with_reducible refine Below.drew ?_) | (with_reducible refine below_drewN' ?_ _) | (with_reducible refine Below.setCell ?_ ?_ _) | (with_reducible refine Below.trans ?_ (Below.mono (by assumption) ?_)) | go_size))⟩
  · rw [if_pos rfl]
    by_cases ha : a = 0
    · rw [if_pos ha]
      subst ha
      go_enter Try.func8, Try.ntmps8
      go_wp2_with (first | (go_at_call 48; (with_reducible refine (HT.out _).mono ?_); rintro e w1 ⟨rfl, hb1⟩; obtain ⟨hc1, hf1, hz1, hn1⟩ := bstep 2 w hb1 (by go_size); obtain ⟨⟨s0, s1, s2⟩, ⟨sf0, sf1, sf2⟩, ss, sn⟩ : (w1.cell? ⟨w.heap.size, 0, none⟩ = some (.int .i64 0) ∧ w1.cell? ⟨w.heap.size, 1, none⟩ = some (.int .i64 b) ∧ w1.cell? ⟨w.heap.size, 2, none⟩ = some (.int .i64 c)) ∧ (w1.frozen? ⟨w.heap.size, 0, none⟩ = false ∧ w1.frozen? ⟨w.heap.size, 1, none⟩ = false ∧ w1.frozen? ⟨w.heap.size, 2, none⟩ = false) ∧ w.heap.size < w1.heap.size ∧ ¬ w1.heap.size = w.heap.size := ⟨by (focus (((repeat' apply And.intro) <;> (repeat' (first | (with_reducible assumption) | (with_reducible refine keep_drew ?_) | (with_reducible refine keep_setx (by omega) ?_) | (with_reducible refine keep_hc (by with_reducible assumption) (by omega) ?_) | (focus (go_simp; done)) | (with_reducible refine keep_alloc ?_)))); done)), by (focus (((repeat' apply And.intro) <;> (repeat' (first | (with_reducible assumption) | (with_reducible refine fz_drew ?_) | (with_reducible refine fz_set ?_) | (with_reducible refine fz_hc (by with_reducible assumption) (by omega) ?_) | (focus (go_simp; done)) | (with_reducible refine fz_alloc ?_ ?_) | go_size))); done)), by go_size, by go_size⟩))
      refine bodyPost_ret (by simp [results, Try.results8, go_sem, *]; try rfl) rfl ?_
      exact ⟨⟨none, 0, [], rfl, digRow_nil _, rfl, digAp_nil _ _⟩, by (repeat' (first | (with_reducible exact Below.refl _ _) | (with_reducible refine Below.alloc ?_ ?_ _) | (with_reducible refine Below.drew ?_) | (with_reducible refine below_drewN' ?_ _) | (with_reducible refine Below.setCell ?_ ?_ _) | (with_reducible refine Below.trans ?_ (Below.mono (by assumption) ?_)) | go_size))⟩
    · rw [if_neg ha]
      have ha' : (a == 0) = false := by simpa using ha
      have h0 : DigI a b c [] a b c := ⟨by simp, HK.out, by cases digL 60 a b c <;> rfl⟩
      have H0 := Lib.hid h0
      clear h0 ha
      obtain ⟨R, eR⟩ : ∃ R, digL 60 a b c = R := ⟨_, rfl⟩
      rw [eR]
      have HR := Lib.hid eR
      clear eR
      obtain ⟨i0, hI0⟩ := info_parts infoIS
      have HI := Lib.hid hI0
      clear hI0
      go_enter Try.func8, Try.ntmps8
      go_wp2_with (first | (go_at_call 48; (with_reducible refine (HT.out _).mono ?_); rintro e w1 ⟨rfl, hb1⟩; obtain ⟨hc1, hf1, hz1, hn1⟩ := bstep 2 w hb1 (by go_size); obtain ⟨⟨s0, s1, s2⟩, ⟨sf0, sf1, sf2⟩, ss, sn⟩ : (w1.cell? ⟨w.heap.size, 0, none⟩ = some (.int .i64 a) ∧ w1.cell? ⟨w.heap.size, 1, none⟩ = some (.int .i64 b) ∧ w1.cell? ⟨w.heap.size, 2, none⟩ = some (.int .i64 c)) ∧ (w1.frozen? ⟨w.heap.size, 0, none⟩ = false ∧ w1.frozen? ⟨w.heap.size, 1, none⟩ = false ∧ w1.frozen? ⟨w.heap.size, 2, none⟩ = false) ∧ w.heap.size < w1.heap.size ∧ ¬ w1.heap.size = w.heap.size := ⟨by (focus (((repeat' apply And.intro) <;> (repeat' (first | (with_reducible assumption) | (with_reducible refine keep_drew ?_) | (with_reducible refine keep_setx (by omega) ?_) | (with_reducible refine keep_hc (by with_reducible assumption) (by omega) ?_) | (focus (go_simp; done)) | (with_reducible refine keep_alloc ?_)))); done)), by (focus (((repeat' apply And.intro) <;> (repeat' (first | (with_reducible assumption) | (with_reducible refine fz_drew ?_) | (with_reducible refine fz_set ?_) | (with_reducible refine fz_hc (by with_reducible assumption) (by omega) ?_) | (focus (go_simp; done)) | (with_reducible refine fz_alloc ?_ ?_) | go_size))); done)), by go_size, by go_size⟩))
      refine wp_gen' (F := fun W => DS w W 59 (.slice (some ⟨w1.heap.size, 0, none⟩) 0 0) [] [] a b c) ?_ (fun W1 hW1 => ?_)
      · clear HT HR H0 HI
        refine ⟨World.ownsRow_made _ _ _ (by omega) (by decide) rfl, rfl, fun i hi => absurd hi (by simp), fun i hi => absurd hi (by simp), fun i j hi => absurd hi (by simp), fun i hi => absurd hi (by simp), fun i hi => absurd hi (by simp), fun i j _ hj => absurd hj (by simp), ⟨?_, ?_, ?_⟩, fun j => ?_, ⟨0, 0, 0, ?_, ?_, ?_⟩, fun j => ?_, by simp; omega, by (repeat' (first | (with_reducible exact Below.refl _ _) | (with_reducible refine Below.alloc ?_ ?_ _) | (with_reducible refine Below.drew ?_) | (with_reducible refine below_drewN' ?_ _) | (with_reducible refine Below.setCell ?_ ?_ _) | (with_reducible refine Below.trans ?_ (Below.mono (by assumption) ?_)) | go_size))⟩
        · exact keep_alloc (keep_hc hc1 (by omega) (by go_simp))
        · exact keep_alloc (keep_hc hc1 (by omega) (by go_simp))
        · exact keep_alloc (keep_hc hc1 (by omega) (by go_simp))
        · exact fz_alloc (fz_hc hf1 (by omega) (by go_simp)) (by omega)
        · exact keep_alloc (keep_hc hc1 (by omega) (by go_simp))
        · exact keep_alloc (keep_hc hc1 (by omega) (by go_simp))
        · exact keep_alloc (keep_hc hc1 (by omega) (by go_simp))
        · exact fz_alloc (fz_hc hf1 (by omega) (by go_simp)) (by omega)
      have HS := Lib.hid hW1
      clear hW1 hb1 hc1 hf1 hz1 hn1 s0 s1 s2 sf0 sf1 sf2 ss sn HT
      go_loopw [5] (fun o W => ∃ (gs : List Nat) (ds : List (Int × Int)) (x y z : Int) (A : Option Addr) (cc : Nat), o = .slice A ds.length cc ∧ DigI a b c ds x y z ∧ DS w W 59 o gs ds x y z) (fun o _ => match o with | .slice _ n _ => 60 - n | _ => 0)
      case atStart => exact ⟨[], [], a, b, c, _, _, rfl, H0.out, HS.out⟩
      case round =>
        clear H0 HS
        obtain ⟨gs, ds, x, y, z, A, cc, rfl, hI, hS⟩ := hrel
        have hlen := hI.1
        have htr := hI.2.1
        obtain ⟨bx, bY, bz, _⟩ := tripB_iff.1 htr
        obtain ⟨c0, c1, c2⟩ := hS.t
        have t0 := hS.tf 0
        have t1 := hS.tf 1
        have t2 := hS.tf 2
        obtain ⟨re, rf, rg, r0, r1, r2⟩ := hS.r
        have f0 := hS.rf 0
        have f1 := hS.rf 1
        have f2 := hS.rf 2
        have hhi := hS.hi
        have HJ := Lib.hid hI
        have HS := Lib.hid hS
        clear hI hS htr
        by_cases hx : 0 < x
        · by_cases hl : ds.length = 60
          · have hfl := HJ.out.fails hx hl
            obtain rfl : R = none := HR.out.symm.trans hfl
            have hl' : ((ds.length : Int) == 60) = true := by simp; omega
            have HB := Lib.hid HS.out.b
            clear hfl hl
            go_wp2
            refine bodyPost_ret (by simp [results, Try.results8, go_sem, *]; try rfl) rfl ?_
            refine ⟨⟨none, 0, [], rfl, digRow_nil _, rfl, digAp_nil _ _⟩, ?_⟩
            have hB := HB.out
            (repeat' (first | (with_reducible exact Below.refl _ _) | (with_reducible refine Below.alloc ?_ ?_ _) | (with_reducible refine Below.drew ?_) | (with_reducible refine below_drewN' ?_ _) | (with_reducible refine Below.setCell ?_ ?_ _) | (with_reducible refine Below.trans ?_ (Below.mono (by assumption) ?_)) | go_size))
          · have hl' : ((ds.length : Int) == 60) = false := by simp; omega
            have hlt : ds.length < 60 := by omega
            have hnext := HJ.out.next hx hlt
            have hx0 : (x == 0) = false := by simp; omega
            have d1 := dig_trip HJ.out.2.1 hx
            obtain ⟨p, hp⟩ : ∃ p, y.tdiv x = p := ⟨_, rfl⟩
            obtain ⟨q, hq⟩ : ∃ p, z.tdiv x = p := ⟨_, rfl⟩
            obtain ⟨u, hu⟩ : ∃ p, y.tmod x = p := ⟨_, rfl⟩
            obtain ⟨v, hv⟩ : ∃ p, z.tmod x = p := ⟨_, rfl⟩
            rw [hp, hq, hu, hv] at hnext d1
            have b1 := numB_iff.1 d1.2.1
            have b2 := numB_iff.1 d1.2.2
            have HN := Lib.hid hnext
            clear hl hnext d1
            have w1 : IntKind.i64.wrap p = p := by rw [wrapEq]; unfold wrap64; omega
            have w2 : IntKind.i64.wrap q = q := by rw [wrapEq]; unfold wrap64; omega
            have hxn : ¬ x = 0 := by omega
            have hpx : p * x = y - u := by have := Int.mul_tdiv_add_tmod y x; rw [hp, hu, Int.mul_comm] at this; omega
            have hqx : q * x = z - v := by have := Int.mul_tdiv_add_tmod z x; rw [hq, hv, Int.mul_comm] at this; omega
            have e1 : wrap64 (y - wrap64 (y - u)) = u := by have := (tripB_iff.1 (HN.out.2.1)).1; unfold wrap64; omega
            have e2 : wrap64 (z - wrap64 (z - v)) = v := by have := (tripB_iff.1 (HN.out.2.1)).2.1; unfold wrap64; omega
            have E1 := Lib.hid e1
            have E2 := Lib.hid e2
            clear e1 e2
            go_upto_region 9 with fail
            go_quiet (fail)
            go_upto_region 10 with fail
            refine wp_gen' (F := fun W => DS w W 59 (.slice A ds.length cc) gs ds x y z) (HS.out.drewN _) (fun W2 hW2 => ?_)
            have HS2 := Lib.hid hW2
            have hz2 := hW2.hi
            clear hW2 c0 c1 c2 t0 t1 t2 r0 r1 r2 f0 f1 f2
            go_upto_region 11 with ((at_builtin; refine wpList_append_lies _ rfl _ _ _ rfl (w.heap.size + 2) 59 i0 (.slice none 0 0) 1 24 Try.underlying27 HI.out.1 HI.out.2.1 HI.out.2.2.1 HI.out.2.2.2 rfl (by decide) (.slice A ds.length cc) ds.length (vals gs) rfl (((HS2.out.own).alloc _).alloc _) ⟨W2.heap.size + 1, 0, none⟩ 1 1 [.slice (some ⟨W2.heap.size, 0, none⟩) 2 2] rfl rfl (new_one2 _ _ _ _) (by simp [Value.oneCell']) (by omega) (by unfold maxLen; omega) (by omega) (by simp; omega) (W2.heap.size + 2) (by simp) ?_; intro g cap w3 hown3 hgrow3 hat3 hlt3; have HS3 := Lib.hid (HS2.out.more hown3 hgrow3 hat3); clear hown3 hgrow3 hat3 hlt3))
            obtain ⟨a0, a1, a2⟩ := HS3.out.t
            have k0 := HS3.out.tf 0
            have k1 := HS3.out.tf 1
            have k2 := HS3.out.tf 2
            go_wp2
            go_roundw
            case rel => exact ⟨gs ++ [W2.heap.size], ds ++ [(p, q)], u, v, x, some ⟨g, 0, none⟩, cap, by simp, HN.out, by rw [E1.out, E2.out]; exact HS3.out.step u v x⟩
            case measure => simp; omega
        · obtain rfl : R = some (ds, x, y, z) := HR.out.symm.trans (HJ.out.ends hx)
          have HB := Lib.hid HS.out.b
          have HD := Lib.hid HS.out
          go_wp2
          go_region_held3 (fun w' => (w'.cell? ⟨w.heap.size, 0, none⟩ = some (.int .i64 x) ∧ w'.cell? ⟨w.heap.size, 1, none⟩ = some (.int .i64 y) ∧ w'.cell? ⟨w.heap.size, 2, none⟩ = some (.int .i64 z))) ((focus (((repeat' apply And.intro) <;> (repeat' (first | (with_reducible assumption) | (with_reducible refine keep_drew ?_) | (with_reducible refine keep_setx (by omega) ?_) | (with_reducible refine keep_hc (by with_reducible assumption) (by omega) ?_) | (focus (go_simp; done)) | (with_reducible refine keep_alloc ?_)))); done))) (fail)
          go_wp2
          refine bodyPost_ret (by simp [results, Try.results8, go_sem, *]; try rfl) rfl ?_
          obtain ⟨A', c', hv, o1, o2, o3⟩ := (HD.out.res x y z).drew.out
          cases hv
          refine ⟨⟨A, cc, _, rfl, o1, o2, o3⟩, ?_⟩
          have hB := HB.out
          (repeat' (first | (with_reducible exact Below.refl _ _) | (with_reducible refine Below.alloc ?_ ?_ _) | (with_reducible refine Below.drew ?_) | (with_reducible refine below_drewN' ?_ _) | (with_reducible refine Below.setCell ?_ ?_ _) | (with_reducible refine Below.trans ?_ (Below.mono (by assumption) ?_)) | go_size))
end Go.Proofs.Ytdenfmgmapgpiaa
