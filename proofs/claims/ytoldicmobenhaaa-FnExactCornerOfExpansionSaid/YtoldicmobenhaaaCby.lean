/-
  The corner of an expansion: the iterator's second caller, and the reference. Condition: the rows' reach.
-/
import Derived.Test.YtoldicmobenhaaaCbx
import Derived.Test.YtoldicmobenhaaaHk
namespace Go.Proofs.Ytoldicmobenhaaa
open Go.RowKit Go.Shelf
set_option maxHeartbeats 2000000
attribute [local go_sem] Oper.semAt_some
theorem bx_other {W : World} {B B' o t : Nat} {v : Value} (h : Boxed W B t v) (hne : B ≠ B') (u : Value) : Boxed (W.setCell ⟨B', o, none⟩ u) B t v := (Below.heap_setCell W ⟨B', o, none⟩ u B hne).trans h
theorem set_here0 {w : World} {b o : Nat} {x : Value} (h : w.cell? ⟨b, o, none⟩ = some (.int .i64 0)) : (w.setCell ⟨b, o, none⟩ x).cell? ⟨b, o, none⟩ = some x := World.cell?_setCell_same (h := h) ..
theorem keep_seto {w : World} {b o b' o' : Nat} {x v : Value} (hne : o ≠ o') (h : w.cell? ⟨b', o', none⟩ = some v) : (w.setCell ⟨b, o, none⟩ x).cell? ⟨b', o', none⟩ = some v :=
  (World.cell?_setCell_other _ _ _ _ (fun e => hne (by have := congrArg Addr.off e; simpa using this))).trans h
theorem post_gen {F : Fence} {n : Nat} {P : Program} {fn : Func} {R : Ending → World → Prop} {ex : Exit} {a : Act} {W : World} {G : World → Prop} (hF : G W) (h : ∀ w2, G w2 → bodyPostM F n P fn R ex a w2) : bodyPostM F n P fn R ex a W := h W hF
def foldC : List Int → Int → Int → Int × Int × Bool
  | [], p, q => (p, q, true)
  | a :: l, p, q => if coB (wrap64 (wrap64 (a * p) + q)) = true then foldC l (wrap64 (wrap64 (a * p) + q)) p else (0, 0, false)
theorem foldC_snoc (a : Int) : ∀ (l : List Int) (p0 q0 p q : Int), foldC l p0 q0 = (p, q, true) → foldC (l ++ [a]) p0 q0 = if coB (wrap64 (wrap64 (a * p) + q)) = true then (wrap64 (wrap64 (a * p) + q), p, true) else (0, 0, false)
  | [], p0, q0, p, q, h => by cases h; rfl
  | b :: l, p0, q0, p, q, h => by
    rw [foldC] at h
    rw [List.cons_append, foldC]
    split at h
    · rename_i hc
      rw [if_pos hc]
      exact foldC_snoc a l _ _ p q h
    · cases h
theorem foldC_fail (l2 : List Int) : ∀ (l : List Int) (p0 q0 : Int), foldC l p0 q0 = (0, 0, false) → foldC (l ++ l2) p0 q0 = (0, 0, false)
  | [], p0, q0, h => by cases h
  | b :: l, p0, q0, h => by
    rw [foldC] at h
    rw [List.cons_append, foldC]
    split at h
    · rename_i hc
      rw [if_pos hc]
      exact foldC_fail l2 l _ _ h
    · rename_i hc
      rw [if_neg hc]
def ofF (xs : List Int) : Int × Int × Int × Int × Int :=
  if (foldC xs.reverse 1 0).2.2 = true then (if (foldC xs.reverse 1 0).1 = 0 then (0, 0, 0, 0, 5) else (1, 0, (foldC xs.reverse 1 0).2.1, (foldC xs.reverse 1 0).1, 0)) else (0, 0, 0, 0, 3)
theorem ofF_3 {xs : List Int} (h : foldC xs.reverse 1 0 = (0, 0, false)) : ofF xs = (0, 0, 0, 0, 3) := by simp [ofF, h]
theorem ofF_5 {xs : List Int} {p q : Int} (h : foldC xs.reverse 1 0 = (p, q, true)) (hp : p = 0) : ofF xs = (0, 0, 0, 0, 5) := by simp [ofF, h, hp]
theorem ofF_0 {xs : List Int} {p q : Int} (h : foldC xs.reverse 1 0 = (p, q, true)) (hp : ¬ p = 0) : ofF xs = (1, 0, q, p, 0) := by simp [ofF, h, hp]
set_option maxRecDepth 100000 in
theorem ofList_any (A : Option Addr) (n c : Nat) (xs : List Int) (w : World) (h : ISl w A n xs) (hn : n ≤ 1048576) (h0 : 0 < n) : Calls Try.prog 82 #[.slice A n c] w fun e w' =>
    e = .returned (.tuple #[.agg #[.int .i64 (ofF xs).1, .int .i64 (ofF xs).2.1, .int .i64 (ofF xs).2.2.1, .int .i64 (ofF xs).2.2.2.1], .int .i64 (ofF xs).2.2.2.2]) ∧ Below w.heap.size w w' := by
  obtain ⟨rfl, hx⟩ := h
  obtain ⟨b, off, rfl, hb, hr⟩ := hx h0
  have f3 := @ofF_3 xs
  have f5 := @ofF_5 xs
  have f0 := @ofF_0 xs
  obtain ⟨R, eR⟩ : ∃ R, ofF xs = R := ⟨_, rfl⟩
  rw [eR] at f3 f5 f0 ⊢
  have F3 := Lib.hid f3
  have F5 := Lib.hid (fun (p q : Int) (h : foldC xs.reverse 1 0 = (p, q, true)) => f5 h)
  have F0 := Lib.hid (fun (p q : Int) (h : foldC xs.reverse 1 0 = (p, q, true)) => f0 h)
  have HR := Lib.hid hr
  clear eR f3 f5 f0 hr hx
  refine callsIn_wide.1 (callsIn_of_wp_marks (n := 3) Try.func82 rfl trivial ?_ rfl)
  simp only [Try.ntmps82, List.size_toArray, List.length_cons, List.length_nil, Nat.reduceAdd, Nat.reduceSub, Array.replicate_succ, Array.replicate_zero, List.push_toArray, List.append_toArray, List.nil_append, List.cons_append]
  refine wpIn_wide.2 ?_
  go_wp2_with (first | (go_at_call 78; (with_reducible refine (back_any _ _ _ _).mono ?_); rintro e w' ⟨rfl, rfl⟩))
  simp only [Nat.add_assoc, Nat.reduceAdd]
  refine wp_gen (F := fun W1 => W1.heap.size = w.heap.size + 5 ∧ (W1.cell? ⟨w.heap.size, 0, none⟩ = some (.int .i64 0) ∧ W1.cell? ⟨w.heap.size, 1, none⟩ = some (.int .i64 0) ∧ W1.cell? ⟨w.heap.size, 2, none⟩ = some (.int .i64 0) ∧ W1.cell? ⟨w.heap.size, 3, none⟩ = some (.int .i64 0)) ∧ (W1.frozen? ⟨w.heap.size, 0, none⟩ = false ∧ W1.frozen? ⟨w.heap.size, 1, none⟩ = false ∧ W1.frozen? ⟨w.heap.size, 2, none⟩ = false ∧ W1.frozen? ⟨w.heap.size, 3, none⟩ = false) ∧ Boxed W1 (w.heap.size + 1) 2 (.int .i64 0) ∧ Boxed W1 (w.heap.size + 2) 2 (.int .i64 1) ∧ Boxed W1 (w.heap.size + 3) 2 (.int .i64 0) ∧ Boxed W1 (w.heap.size + 4) 44 (.slice (some ⟨b, off, none⟩) xs.length c) ∧ Below w.heap.size w W1) ?_ (fun W1 hW1 => ?_)
  · refine ⟨by simp, ?_, ?_, ?_, ?_, ?_, ?_, by (repeat' (first | (with_reducible exact Below.refl _ _) | (with_reducible refine Below.alloc ?_ ?_ _) | (with_reducible refine Below.drew ?_) | (with_reducible refine below_drewN' ?_ _) | (with_reducible refine Below.setCell ?_ ?_ _) | (with_reducible refine Below.trans ?_ (Below.mono (by assumption) ?_)) | go_size))⟩
    · (repeat' apply And.intro) <;> go_simp
    · (repeat' apply And.intro) <;> go_simp
    · have := ((((Boxed.new (w.alloc (.cells #[.int .i64 0, .int .i64 0, .int .i64 0, .int .i64 0] 62)) 2 (.int .i64 0)).alloc (.cells #[.int .i64 1] 2)).alloc (.cells #[.int .i64 0] 2)).alloc (.cells #[.slice (some ⟨b, off, none⟩) xs.length c] 44))
      simpa only [World.size_alloc, Nat.add_assoc, Nat.reduceAdd] using this
    · have := (((Boxed.new ((w.alloc (.cells #[.int .i64 0, .int .i64 0, .int .i64 0, .int .i64 0] 62)).alloc (.cells #[.int .i64 0] 2)) 2 (.int .i64 1)).alloc (.cells #[.int .i64 0] 2)).alloc (.cells #[.slice (some ⟨b, off, none⟩) xs.length c] 44))
      simpa only [World.size_alloc, Nat.add_assoc, Nat.reduceAdd] using this
    · have := ((Boxed.new (((w.alloc (.cells #[.int .i64 0, .int .i64 0, .int .i64 0, .int .i64 0] 62)).alloc (.cells #[.int .i64 0] 2)).alloc (.cells #[.int .i64 1] 2)) 2 (.int .i64 0)).alloc (.cells #[.slice (some ⟨b, off, none⟩) xs.length c] 44))
      simpa only [World.size_alloc, Nat.add_assoc, Nat.reduceAdd] using this
    · have := (Boxed.new ((((w.alloc (.cells #[.int .i64 0, .int .i64 0, .int .i64 0, .int .i64 0] 62)).alloc (.cells #[.int .i64 0] 2)).alloc (.cells #[.int .i64 1] 2)).alloc (.cells #[.int .i64 0] 2)) 44 (.slice (some ⟨b, off, none⟩) xs.length c))
      simpa only [World.size_alloc, Nat.add_assoc, Nat.reduceAdd] using this
  · obtain ⟨hz, hcs, hfs, r1, p0, q0, hbox, hB⟩ := hW1
    refine (wpIn_wide (n := 3)).1 ?_
    refine wpIn_rangeFunc_ownG (F := Fence.wide) (n := 3) rfl (by decide) (gf := 96) (lb := #[.pointer (some ⟨w.heap.size + 4, 0, none⟩)]) rfl trivial (enters_of Try.func96 (by kernel_rfl) rfl)
      (back_stops Fence.wide 2 trivial rfl (by decide) (w.heap.size + 4) w.heap.size b off c xs (by omega) W1 (by omega) hb (by omega) hbox.cell (fun j hj => cell_keep hB (HR.out j hj))) (fun h k => KpB.trans h k) (kpB_b (by omega) (by omega)) (Below.refl _ _) (fun _ => rfl)
      (fun pre W => (∃ p q, foldC (pre.map (·.2)) 1 0 = (p, q, true) ∧ Boxed W (w.heap.size + 2) 2 (.int .i64 p) ∧ Boxed W (w.heap.size + 3) 2 (.int .i64 q) ∧ Boxed W (w.heap.size + 1) 2 (.int .i64 0) ∧ (W.cell? ⟨w.heap.size, 0, none⟩ = some (.int .i64 0) ∧ W.cell? ⟨w.heap.size, 1, none⟩ = some (.int .i64 0) ∧ W.cell? ⟨w.heap.size, 2, none⟩ = some (.int .i64 0) ∧ W.cell? ⟨w.heap.size, 3, none⟩ = some (.int .i64 0)) ∧ (W.frozen? ⟨w.heap.size, 0, none⟩ = false ∧ W.frozen? ⟨w.heap.size, 1, none⟩ = false ∧ W.frozen? ⟨w.heap.size, 2, none⟩ = false ∧ W.frozen? ⟨w.heap.size, 3, none⟩ = false)) ∧ Below w.heap.size w W ∧ w.heap.size + 5 ≤ W.heap.size)
      (fun c pre W => (c = .ret ∧ foldC (pre.map (·.2)) 1 0 = (0, 0, false) ∧ Boxed W (w.heap.size + 1) 2 (.int .i64 3) ∧ (W.cell? ⟨w.heap.size, 0, none⟩ = some (.int .i64 0) ∧ W.cell? ⟨w.heap.size, 1, none⟩ = some (.int .i64 0) ∧ W.cell? ⟨w.heap.size, 2, none⟩ = some (.int .i64 0) ∧ W.cell? ⟨w.heap.size, 3, none⟩ = some (.int .i64 0))) ∧ Below w.heap.size w W)
      (OwnFrom.and (Own.from (fun s A B row hs hg hr => by
        obtain ⟨p, q, e, h1, h2, h3, ⟨c0, c1, c2, c3⟩, d0, d1, d2, d3⟩ := hs
        exact ⟨p, q, e, bx_own h1 hg hr, bx_own h2 hg hr, bx_own h3 hg hr, ⟨cell_kept c0 hg hr, cell_kept c1 hg hr, cell_kept c2 hg hr, cell_kept c3 hg hr⟩, (frozen_kept c0 hg hr).trans d0, (frozen_kept c1 hg hr).trans d1, (frozen_kept c2 hg hr).trans d2, (frozen_kept c3 hg hr).trans d3⟩) _) (OwnFrom.and (ownFrom_below (Nat.le_refl _) (by omega)) (fun s A B row hs hg hr => Nat.le_trans hs hg.size)))
      (fun c => OwnFrom.and (Own.from (fun s A B row hs hg hr => by
        obtain ⟨e1, e2, h3, c0, c1, c2, c3⟩ := hs
        exact ⟨e1, e2, bx_own h3 hg hr, cell_kept c0 hg hr, cell_kept c1 hg hr, cell_kept c2 hg hr, cell_kept c3 hg hr⟩) _) (ownFrom_below (Nat.le_refl _) (by omega)))
      ⟨⟨1, 0, rfl, p0, q0, r1, hcs, hfs⟩, hB, by omega⟩
      (fun x => { tmps := #[.slice (some ⟨b, off, none⟩) xs.length c, undef, .pointer (some ⟨w.heap.size, 0, none⟩), .pointer (some ⟨w.heap.size + 1, 0, none⟩), .pointer (some ⟨w.heap.size + 2, 0, none⟩), .pointer (some ⟨w.heap.size + 3, 0, none⟩), undef, .int .i64 x.2, .slice (some ⟨b, off, none⟩) xs.length c, .func (.func 96) #[] #[.pointer (some ⟨w.heap.size + 4, 0, none⟩)], .int .i64 (x.1 : Int), .int .i64 x.2, undef, undef, undef, undef, undef, undef, undef, undef, undef, undef, undef, undef, undef, undef, undef, undef, undef, undef], defers := [] }) ?assign ?body ?done ?stop
    case assign =>
      intro l x W K hK
      gi_wp2
      exact hK
    case body =>
      rintro l pre x W ⟨⟨p, q, e, h2, h3, h1, ⟨c0, c1, c2, c3⟩, d0, d1, d2, d3⟩, hB, hs⟩ _
      have he := foldC_snoc x.2 _ _ _ _ _ e
      have b2 := h2.cell
      have b3 := h3.cell
      have b1 := h1.cell
      have k2 := h2.frozen
      have k3 := h3.frozen
      have k1 := h1.frozen
      have H3 := Lib.hid h3
      have H1 := Lib.hid h1
      have H2 := Lib.hid h2
      have HB := Lib.hid hB
      clear h1 h2 h3 hB e F0 F3 F5 HR p0 q0 r1 hbox hcs hfs
      obtain ⟨np, hnp⟩ : ∃ np, wrap64 (wrap64 (x.2 * p) + q) = np := ⟨_, rfl⟩
      have hc1 := fun W => CallsIn.inRound (n := 0) l (callsIn_wide.2 (isCoord_any np W))
      rw [hnp] at he
      obtain ⟨z1, hz1⟩ : ∃ z, coB np = z := ⟨_, rfl⟩
      rw [hz1] at hc1 he
      have HE := Lib.hid he
      have HC1 := Lib.hid hc1
      clear he hc1 hz1
      cases z1 <;> gi_wp2_with (first | (refine ⟨trivial, (HC1.out _).mono ?_⟩; rintro e w' ⟨rfl, rfl⟩))
      all_goals clear HC1
      all_goals simp only [ownPostG]
      · refine ⟨KeepsOthers.from ?_ _, ⟨trivial, by simpa using HE.out, ?_, ?_⟩, ?_⟩
        · (repeat' (first | (with_reducible exact KeepsOthers.refl _) | (with_reducible refine KeepsOthers.trans ?_ (KeepsOthers.setCell _ _ _))))
        · (repeat' (first | (with_reducible exact H1.out) | (with_reducible refine Boxed.set (B := w.heap.size + 1) (v := .int .i64 0) _ ?_) | (with_reducible refine Boxed.set (B := w.heap.size + 2) (v := .int .i64 p) _ ?_) | (with_reducible refine Boxed.set (B := w.heap.size + 3) (v := .int .i64 q) _ ?_) | (with_reducible refine bx_other ?_ (by omega) _)))
        · (repeat' apply And.intro) <;> (repeat' (first | (with_reducible assumption) | (with_reducible refine set_here0 ?_) | (with_reducible refine keep_seto (by decide) ?_) | (with_reducible refine keep_setx (by omega) ?_)))
        · (repeat' (first | (with_reducible exact HB.out) | (with_reducible refine below_beyond ?_ (by omega))))
      · refine ⟨KeepsOthers.from ?_ _, ?_, ⟨np, p, by simpa using HE.out, ?_, ?_, ?_, ?_, ?_⟩, ?_, by simp only [World.size_setCell]; omega⟩
        · (repeat' (first | (with_reducible exact KeepsOthers.refl _) | (with_reducible refine KeepsOthers.trans ?_ (KeepsOthers.setCell _ _ _))))
        · (repeat' (first | (with_reducible exact KpB.refl _ _ _) | (with_reducible refine kpB_set ?_ (by omega) (by omega) (by (try simp only [World.size_setCell]); omega))))
        · (repeat' (first | (with_reducible exact H2.out) | (with_reducible refine Boxed.set (B := w.heap.size + 1) (v := .int .i64 0) _ ?_) | (with_reducible refine Boxed.set (B := w.heap.size + 2) (v := .int .i64 p) _ ?_) | (with_reducible refine Boxed.set (B := w.heap.size + 3) (v := .int .i64 q) _ ?_) | (with_reducible refine bx_other ?_ (by omega) _)))
        · (repeat' (first | (with_reducible exact H3.out) | (with_reducible refine Boxed.set (B := w.heap.size + 1) (v := .int .i64 0) _ ?_) | (with_reducible refine Boxed.set (B := w.heap.size + 2) (v := .int .i64 p) _ ?_) | (with_reducible refine Boxed.set (B := w.heap.size + 3) (v := .int .i64 q) _ ?_) | (with_reducible refine bx_other ?_ (by omega) _)))
        · (repeat' (first | (with_reducible exact H1.out) | (with_reducible refine Boxed.set (B := w.heap.size + 1) (v := .int .i64 0) _ ?_) | (with_reducible refine Boxed.set (B := w.heap.size + 2) (v := .int .i64 p) _ ?_) | (with_reducible refine Boxed.set (B := w.heap.size + 3) (v := .int .i64 q) _ ?_) | (with_reducible refine bx_other ?_ (by omega) _)))
        · (repeat' apply And.intro) <;> (repeat' (first | (with_reducible assumption) | (with_reducible refine set_here0 ?_) | (with_reducible refine keep_seto (by decide) ?_) | (with_reducible refine keep_setx (by omega) ?_)))
        · (repeat' apply And.intro) <;> (repeat' (first | (with_reducible assumption) | (with_reducible refine fz_set ?_)))
        · (repeat' (first | (with_reducible exact HB.out) | (with_reducible refine below_beyond ?_ (by omega))))
    case done =>
      rintro D ys W hD rfl ⟨⟨p, q, e, h2, h3, h1, ⟨c0, c1, c2, c3⟩, d0, d1, d2, d3⟩, hB, hs⟩ hK
      rw [upto_bk_map] at e
      have f5 := F5.out _ _ e
      have f0 := F0.out _ _ e
      clear e F0 F3 F5 HR p0 q0 r1 hbox hcs hfs
      have b2 := h2.cell
      have b3 := h3.cell
      have b1 := h1.cell
      have k2 := h2.frozen
      have k3 := h3.frozen
      have k1 := h1.frozen
      have H1 := Lib.hid h1
      have HB := Lib.hid hB
      have HK := Lib.hid hK
      clear h1 h2 h3 hB hK
      simp only [Exit.inBlock, Exit.then]
      by_cases hp : p = 0
      · obtain rfl := f5 hp
        clear f0 f5
        go_wp2
        refine post_gen (G := fun W2 => KeepsOthers W W2 ∧ Below w.heap.size w W2 ∧ W2.cell? ⟨w.heap.size + 1, 0, none⟩ = some (.int .i64 5) ∧ W2.cell? ⟨w.heap.size, 0, none⟩ = some (.int .i64 0) ∧ W2.cell? ⟨w.heap.size, 1, none⟩ = some (.int .i64 0) ∧ W2.cell? ⟨w.heap.size, 2, none⟩ = some (.int .i64 0) ∧ W2.cell? ⟨w.heap.size, 3, none⟩ = some (.int .i64 0)) ⟨?_, ?_, ?_, ?_, ?_, ?_, ?_⟩ (fun W2 h2 => ?_)
        · (repeat' (first | (with_reducible exact KeepsOthers.refl _) | (with_reducible refine KeepsOthers.trans ?_ (KeepsOthers.setCell _ _ _))))
        · (repeat' (first | (with_reducible exact HB.out) | (with_reducible refine below_beyond ?_ (by omega))))
        · repeat' (first | (with_reducible assumption) | (with_reducible refine set_here0 ?_) | (with_reducible refine keep_seto (by decide) ?_) | (with_reducible refine keep_setx (by omega) ?_))
        · repeat' (first | (with_reducible assumption) | (with_reducible refine set_here0 ?_) | (with_reducible refine keep_seto (by decide) ?_) | (with_reducible refine keep_setx (by omega) ?_))
        · repeat' (first | (with_reducible assumption) | (with_reducible refine set_here0 ?_) | (with_reducible refine keep_seto (by decide) ?_) | (with_reducible refine keep_setx (by omega) ?_))
        · repeat' (first | (with_reducible assumption) | (with_reducible refine set_here0 ?_) | (with_reducible refine keep_seto (by decide) ?_) | (with_reducible refine keep_setx (by omega) ?_))
        · repeat' (first | (with_reducible assumption) | (with_reducible refine set_here0 ?_) | (with_reducible refine keep_seto (by decide) ?_) | (with_reducible refine keep_setx (by omega) ?_))
        · obtain ⟨hko, hB2, f1, g0, g1, g2, g3⟩ := h2
          have hK' := hko.same D _ HK.out rfl
          refine ⟨by simp, .inl ⟨_, _, rfl, run_takeDeferred hK', ?_⟩⟩
          have hg := grownBy_putObj' W2 D (.deferred none)
          have hw : ∀ r, some D = some r → ∃ o : Obj, W2.heap[r]? = some o ∧ o.isCells = false := fun r e => by cases e; exact ⟨_, hK', rfl⟩
          have e1 := cell_kept f1 hg hw
          have e2 := cell_kept g0 hg hw
          have e3 := cell_kept g1 hg hw
          have e4 := cell_kept g2 hg hw
          have e5 := cell_kept g3 hg hw
          refine ⟨.tuple #[.agg #[.int .i64 0, .int .i64 0, .int .i64 0, .int .i64 0], .int .i64 5], ?_, rfl, hB2.trans (belowK_b (w := w) (Nat.le_refl _) W2 D _ _ (by omega) hK' rfl rfl)⟩
          simp [results, Try.f82, go_sem, e1, e2, e3, e4, e5]
      · obtain rfl := f0 hp
        clear f0 f5
        go_wp2
        refine post_gen (G := fun W2 => KeepsOthers W W2 ∧ Below w.heap.size w W2 ∧ W2.cell? ⟨w.heap.size + 1, 0, none⟩ = some (.int .i64 0) ∧ W2.cell? ⟨w.heap.size, 0, none⟩ = some (.int .i64 1) ∧ W2.cell? ⟨w.heap.size, 1, none⟩ = some (.int .i64 0) ∧ W2.cell? ⟨w.heap.size, 2, none⟩ = some (.int .i64 q) ∧ W2.cell? ⟨w.heap.size, 3, none⟩ = some (.int .i64 p)) ⟨?_, ?_, ?_, ?_, ?_, ?_, ?_⟩ (fun W2 h2 => ?_)
        · (repeat' (first | (with_reducible exact KeepsOthers.refl _) | (with_reducible refine KeepsOthers.trans ?_ (KeepsOthers.setCell _ _ _))))
        · (repeat' (first | (with_reducible exact HB.out) | (with_reducible refine below_beyond ?_ (by omega))))
        · repeat' (first | (with_reducible assumption) | (with_reducible refine set_here0 ?_) | (with_reducible refine keep_seto (by decide) ?_) | (with_reducible refine keep_setx (by omega) ?_))
        · repeat' (first | (with_reducible assumption) | (with_reducible refine set_here0 ?_) | (with_reducible refine keep_seto (by decide) ?_) | (with_reducible refine keep_setx (by omega) ?_))
        · repeat' (first | (with_reducible assumption) | (with_reducible refine set_here0 ?_) | (with_reducible refine keep_seto (by decide) ?_) | (with_reducible refine keep_setx (by omega) ?_))
        · repeat' (first | (with_reducible assumption) | (with_reducible refine set_here0 ?_) | (with_reducible refine keep_seto (by decide) ?_) | (with_reducible refine keep_setx (by omega) ?_))
        · repeat' (first | (with_reducible assumption) | (with_reducible refine set_here0 ?_) | (with_reducible refine keep_seto (by decide) ?_) | (with_reducible refine keep_setx (by omega) ?_))
        · obtain ⟨hko, hB2, f1, g0, g1, g2, g3⟩ := h2
          have hK' := hko.same D _ HK.out rfl
          refine ⟨by simp, .inl ⟨_, _, rfl, run_takeDeferred hK', ?_⟩⟩
          have hg := grownBy_putObj' W2 D (.deferred none)
          have hw : ∀ r, some D = some r → ∃ o : Obj, W2.heap[r]? = some o ∧ o.isCells = false := fun r e => by cases e; exact ⟨_, hK', rfl⟩
          have e1 := cell_kept f1 hg hw
          have e2 := cell_kept g0 hg hw
          have e3 := cell_kept g1 hg hw
          have e4 := cell_kept g2 hg hw
          have e5 := cell_kept g3 hg hw
          refine ⟨.tuple #[.agg #[.int .i64 1, .int .i64 0, .int .i64 q, .int .i64 p], .int .i64 0], ?_, rfl, hB2.trans (belowK_b (w := w) (Nat.le_refl _) W2 D _ _ (by omega) hK' rfl rfl)⟩
          simp [results, Try.f82, go_sem, e1, e2, e3, e4, e5]
    case stop =>
      rintro D c pre W hD ⟨k, hk, rfl⟩ ⟨⟨rfl, hff, h1, c0, c1, c2, c3⟩, hB⟩ hK
      obtain ⟨l2, hl2⟩ := upto_bk_prefix xs hk
      have hfa := foldC_fail l2 _ _ _ hff
      rw [hl2] at hfa
      obtain rfl := F3.out hfa
      gi_wp2
      refine ⟨by simp, .inl ⟨_, _, rfl, run_takeDeferred hK, ?_⟩⟩
      have hg := grownBy_putObj' W D (.deferred none)
      have hw : ∀ r, some D = some r → ∃ o : Obj, W.heap[r]? = some o ∧ o.isCells = false := fun r e => by cases e; exact ⟨_, hK, rfl⟩
      have e1 := (bx_own h1 hg hw).cell
      have e2 := cell_kept c0 hg hw
      have e3 := cell_kept c1 hg hw
      have e4 := cell_kept c2 hg hw
      have e5 := cell_kept c3 hg hw
      refine ⟨.tuple #[.agg #[.int .i64 0, .int .i64 0, .int .i64 0, .int .i64 0], .int .i64 3], ?_, rfl, hB.trans (belowK_b (w := w) (Nat.le_refl _) W D _ _ (by omega) hK rfl rfl)⟩
      simp [results, Try.f82, go_sem, e1, e2, e3, e4, e5]
end Go.Proofs.Ytoldicmobenhaaa
