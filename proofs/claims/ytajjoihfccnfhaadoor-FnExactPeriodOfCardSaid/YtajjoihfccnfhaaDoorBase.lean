/-
  Plain words of these proofs: flat types of int64 cells, what a callee leaves below, comparisons. No condition.
-/
import Derived.WalkKit
import Derived.ProofKit
import Derived.OpenShut
import Derived.ShutString
import Derived.ChangeOld
import Derived.Below
import Derived.Lib.Hide
import Derived.Handy
import Derived.WalkSpells
import Derived.WalkLawsBesides
import Derived.Deep.QuietTactic
import Derived.BigQuiet
import Derived.Deep.LoopGhost
import Derived.Deep.Slices
import Derived.Outline
import Derived.ChangeKeysEq
namespace Go.Proofs.YtajjoihfccnfhaaDoor
open Go.ChangeShapes Go.WideShapes Go.ChangeAt Go.RowKit

/-! ### Types all of whose cells are int64: arrays, arrays of arrays, structs of them -/
def coverF (P : Program) : List Field → Nat → Option Nat
  | [], off => some off
  | f :: fs, off => if f.offset = off then coverF P fs (off + P.cellsOf f.type) else none

theorem coverF_mem {P : Program} {fs : List Field} {off tot j : Nat} (h : coverF P fs off = some tot) (h1 : off ≤ j) (h2 : j < tot) :
    ∃ (i : Nat) (f : Field), fs[i]? = some f ∧ f.offset ≤ j ∧ j < f.offset + P.cellsOf f.type := by
  induction fs generalizing off with
  | nil => simp [coverF] at h; omega
  | cons f fs ih =>
    simp only [coverF] at h
    split at h
    · rename_i hf
      by_cases hj : j < off + P.cellsOf f.type
      · exact ⟨0, f, rfl, by omega, by omega⟩
      · obtain ⟨i, g, hg, hr⟩ := ih h (by omega)
        exact ⟨i + 1, g, by simpa using hg, hr⟩
    · cases h

def flatAt (P : Program) : Nat → TypeId → Bool
  | 0, _ => false
  | n + 1, t =>
    match P.underlying t with
    | some (.int .i64) => P.cellsOf t == 1
    | some (.array k e) => P.cellsOf t == k * P.cellsOf e && (0 < P.cellsOf e) && flatAt P n e
    | some (.struct fs) => coverF P fs.toList 0 == some (P.cellsOf t) && fs.toList.all fun f => flatAt P n f.type
    | _ => false

section
variable {H : Type} {enc : TypeId × Value → H} {P : Program} {w : World} {base : Nat} {spare : Nat → Bool} {held : Bool}

theorem part_mem {α : Type} {cs : List α} {j o m : Nat} {c : α} (hj : cs[j]? = some c) (h1 : o ≤ j) (h2 : j < o + m) : c ∈ (cs.drop o).take m := by
  have : ((cs.drop o).take m)[j - o]? = some c := by
    rw [List.getElem?_take, if_pos (by omega), List.getElem?_drop, ← hj]
    congr 1
    omega
  exact List.mem_of_getElem? this

theorem flat_cells (n : Nat) : ∀ {fuel : Nat} {t : TypeId} {cs : List Value} {x : DataW H × List MemPlace}, flatAt P n t = true → DataW.trod enc P w base spare held fuel t cs = some x →
    ∀ c ∈ cs, ∃ z : Int, c = .int .i64 z ∧ (Lit.int .i64 z).wf = true := by
  induction n with
  | zero => intro _ _ _ _ h; simp [flatAt] at h
  | succ n ih =>
    intro fuel t cs x h ht c hc
    unfold flatAt at h
    split at h
    · rename_i hu
      obtain ⟨z, rfl, _, hz⟩ := DataW.trod_int hu ht
      simp at hc
      exact ⟨z, hc, hz⟩
    · rename_i k e hu
      simp only [Bool.and_eq_true, beq_iff_eq, decide_eq_true_eq] at h
      obtain ⟨xs, m, _, _, hl, hxl, hg⟩ := DataW.trod_array hu ht
      obtain ⟨j, hj⟩ := List.getElem?_of_mem hc
      have hjl : j < cs.length := by
        rcases Nat.lt_or_ge j cs.length with h' | h'
        · exact h'
        · rw [List.getElem?_eq_none h'] at hj; cases hj
      have hi : j / P.cellsOf e < k := by rw [Nat.div_lt_iff_lt_mul h.1.2]; omega
      have hx := hg (j / P.cellsOf e) hi
      rw [List.getElem?_eq_getElem (by omega)] at hx
      refine ih h.2 hx c (part_mem hj (Nat.div_mul_le_self _ _) ?_)
      have := Nat.div_add_mod j (P.cellsOf e)
      have := Nat.mod_lt j h.1.2
      rw [Nat.mul_comm]
      omega
    · rename_i fs hu
      simp only [Bool.and_eq_true, beq_iff_eq, List.all_eq_true] at h
      obtain ⟨xs, m, _, _, hl, hxl, hg⟩ := DataW.trod_struct hu ht
      obtain ⟨j, hj⟩ := List.getElem?_of_mem hc
      have hjl : j < cs.length := by
        rcases Nat.lt_or_ge j cs.length with h' | h'
        · exact h'
        · rw [List.getElem?_eq_none h'] at hj; cases hj
      obtain ⟨i, f, hf, h1, h2⟩ := coverF_mem h.1 (Nat.zero_le j) (by omega)
      have hf' : fs[i]? = some f := by simpa using hf
      have hx := hg i f hf'
      have hil : i < fs.size := by
        rcases Nat.lt_or_ge i fs.size with h' | h'
        · exact h'
        · rw [Array.getElem?_eq_none h'] at hf'; cases hf'
      rw [List.getElem?_eq_getElem (by omega)] at hx
      exact ih (h.2 f (List.mem_of_getElem? hf)) hx c (part_mem hj h1 h2)
    · cases h

theorem ints_of_cells (cs : List Value) (h : ∀ c ∈ cs, ∃ z : Int, c = .int .i64 z ∧ (Lit.int .i64 z).wf = true) :
    ∃ l : List Int, cs = l.map (Value.int .i64) ∧ ∀ z ∈ l, -9223372036854775808 ≤ z ∧ z ≤ 9223372036854775807 := by
  induction cs with
  | nil => exact ⟨[], rfl, by simp⟩
  | cons c cs ih =>
    obtain ⟨l, hl, hb⟩ := ih fun c hc => h c (List.mem_cons_of_mem _ hc)
    obtain ⟨z, rfl, hz⟩ := h c List.mem_cons_self
    refine ⟨z :: l, by simp [hl], ?_⟩
    intro y hy
    rcases List.mem_cons.1 hy with rfl | hy
    · have hmin : IntKind.i64.min = -9223372036854775808 := rfl
      have hmax : IntKind.i64.max = 9223372036854775807 := rfl
      simp only [Lit.wf, Bool.and_eq_true, decide_eq_true_eq] at hz
      omega
    · exact hb y hy

/-- A flat argument, by value: its numbers, each an int64. -/
theorem open_flat {r : Reach} {b0 : Nat} {t : TypeId} {v : Value} {d : DataW H} {p : List MemPlace} (n : Nat)
    (hs : (match P.underlying t with | some (.struct _) => true | some (.array _ _) => true | _ => false) = true) (hf : flatAt P n t = true)
    (hv : Value.okWide P w r b0 t v) (h : DataW.Trod enc P w base spare held t v d p) :
    ∃ l : List Int, v = .agg (l.map (Value.int .i64)).toArray ∧ l.length = P.cellsOf t ∧ ∀ z ∈ l, -9223372036854775808 ≤ z ∧ z ≤ 9223372036854775807 := by
  have hv' : ∃ cs, v = .agg cs ∧ cs.size = P.cellsOf t := by
    unfold Value.okWide at hv
    revert hv hs
    cases P.underlying t with
    | none => intro hs; cases hs
    | some u => cases u <;> intro hs hv <;> first | (cases hs; done) | (obtain ⟨cs, h1, h2, _⟩ := hv; exact ⟨cs, h1, h2⟩)
  obtain ⟨⟨cs⟩, rfl, hsz⟩ := hv'
  obtain ⟨fuel, ht⟩ := h
  obtain ⟨l, hl, hb⟩ := ints_of_cells cs (flat_cells n hf (by simpa [Value.cells] using ht))
  subst hl
  exact ⟨l, rfl, by simpa using hsz, hb⟩
end

theorem list2 {α : Type} (l : List α) (h : l.length = 2) : ∃ a b, l = [a, b] := by
  match l, h with
  | [a, b], _ => exact ⟨a, b, rfl⟩
theorem list3 {α : Type} (l : List α) (h : l.length = 3) : ∃ a b c, l = [a, b, c] := by
  match l, h with
  | [a, b, c], _ => exact ⟨a, b, c, rfl⟩
theorem list4 {α : Type} (l : List α) (h : l.length = 4) : ∃ a b c d, l = [a, b, c, d] := by
  match l, h with
  | [a, b, c, d], _ => exact ⟨a, b, c, d, rfl⟩
theorem list9 {α : Type} (l : List α) (h : l.length = 9) : ∃ a b c d e f g i j, l = [a, b, c, d, e, f, g, i, j] := by
  match l, h with
  | [a, b, c, d, e, f, g, i, j], _ => exact ⟨a, b, c, d, e, f, g, i, j, rfl⟩
theorem list12 {α : Type} (l : List α) (h : l.length = 12) : ∃ a b c d e f g i j k m n, l = [a, b, c, d, e, f, g, i, j, k, m, n] := by
  match l, h with
  | [a, b, c, d, e, f, g, i, j, k, m, n], _ => exact ⟨a, b, c, d, e, f, g, i, j, k, m, n, rfl⟩

theorem wf64 {z : Int} (h : (Lit.int .i64 z).wf = true) : -9223372036854775808 ≤ z ∧ z ≤ 9223372036854775807 := by
  have hmin : IntKind.i64.min = -9223372036854775808 := rfl
  have hmax : IntKind.i64.max = 9223372036854775807 := rfl
  simp only [Lit.wf, Bool.and_eq_true, decide_eq_true_eq] at h
  omega

/-! ### What a callee leaves below: the first k blocks that the caller has laid since w read as they did -/
theorem bstep (k : Nat) (w : World) {W w1 : World} (hb : Below W.heap.size W w1) (h : w.heap.size + k ≤ W.heap.size) :
    (∀ b o, b < w.heap.size + k → w1.cell? ⟨b, o, none⟩ = W.cell? ⟨b, o, none⟩) ∧ (∀ b o, b < w.heap.size + k → w1.frozen? ⟨b, o, none⟩ = W.frozen? ⟨b, o, none⟩) ∧ w.heap.size + k ≤ w1.heap.size ∧ ∀ b, b < w.heap.size + k → b < w1.heap.size ∧ ¬ w1.heap.size = b ∧ ¬ b = w1.heap.size :=
  ⟨fun b o hlt => hb.cell (p := ⟨b, o, none⟩) (show b < _ by omega), fun b o hlt => hb.frozen (p := ⟨b, o, none⟩) (show b < _ by omega), by have := hb.size; omega, fun b hlt => by have := hb.size; refine ⟨?_, ?_, ?_⟩ <;> omega⟩
theorem bfull {W w1 : World} (hb : Below W.heap.size W w1) :
    (∀ b o, b < W.heap.size → w1.cell? ⟨b, o, none⟩ = W.cell? ⟨b, o, none⟩) ∧ (∀ b o, b < W.heap.size → w1.frozen? ⟨b, o, none⟩ = W.frozen? ⟨b, o, none⟩) ∧ W.heap.size ≤ w1.heap.size ∧ ∀ b, b < W.heap.size → b < w1.heap.size ∧ ¬ w1.heap.size = b ∧ ¬ b = w1.heap.size :=
  ⟨fun b o hlt => hb.cell (p := ⟨b, o, none⟩) hlt, fun b o hlt => hb.frozen (p := ⟨b, o, none⟩) hlt, hb.size, fun b hlt => by have := hb.size; refine ⟨?_, ?_, ?_⟩ <;> omega⟩
theorem bcomp {V W w1 : World} {G : Prop} (h : Below V.heap.size V W) (h1 : Below W.heap.size W w1)
    (k : Below V.heap.size V w1 → (∀ b o, b < V.heap.size → w1.cell? ⟨b, o, none⟩ = V.cell? ⟨b, o, none⟩) → (∀ b o, b < V.heap.size → w1.frozen? ⟨b, o, none⟩ = V.frozen? ⟨b, o, none⟩) →
      (∀ b, b < V.heap.size → b < w1.heap.size ∧ ¬ w1.heap.size = b ∧ ¬ b = w1.heap.size) → G) : G := by
  have hb := h.trans (h1.mono h.size)
  obtain ⟨h2, h3, _, h4⟩ := bfull hb
  exact k hb h2 h3 h4
theorem keep_alloc {w : World} {a : Addr} {o : Obj} {v : Value} (h : w.cell? a = some v) : (w.alloc o).cell? a = some v := (World.cell?_alloc_lt _ _ _ (World.block_lt_of_cell? w a h)).trans h
theorem keep_drew {w : World} {a : Addr} {v : Value} (h : w.cell? a = some v) : w.drew.cell? a = some v := h
theorem keep_set {w : World} {p a : Addr} {x v : Value} (hne : p.block ≠ a.block) (h : w.cell? a = some v) : (w.setCell p x).cell? a = some v := (World.cell?_setCell_other w p a x (fun e => hne (by rw [e]))).trans h
theorem keep_below {B : Nat} {W w1 : World} {b o : Nat} {v : Value} (hb : Below B W w1) (hlt : b < B) (h : W.cell? ⟨b, o, none⟩ = some v) : w1.cell? ⟨b, o, none⟩ = some v := (hb.cell (p := ⟨b, o, none⟩) hlt).trans h
theorem below_drewN' {B : Nat} {a w : World} (h : Below B a w) (n : Nat) : Below B a (w.drewN n) := ⟨h.os, h.tape, h.output, h.size, h.block⟩
theorem ret_bool {a b : Bool} (h : a = b) : Ending.returned (.bool a) = .returned (.bool b) := by rw [h]
theorem ret_t2 {a b c d : Int} (h1 : a = c) (h2 : b = d) : Ending.returned (.tuple #[.int .i64 a, .int .i64 b]) = .returned (.tuple #[.int .i64 c, .int .i64 d]) := by rw [h1, h2]
theorem ret_i64 {a b : Int} (h : a = b) : Ending.returned (.int .i64 a) = .returned (.int .i64 b) := by rw [h]

/-! ### A region that draws its order, whose callees make memory: one walk, in a class of worlds: whatever lies beyond W -/
structure Beyond (W : World) where
  w : World
  b : Below W.heap.size W w
instance beyondThere (W : World) : Nonempty (Beyond W) := ⟨⟨W, Below.refl _ _⟩⟩
theorem Beyond.cell {W : World} (n : Beyond W) (b o : Nat) (h : b < W.heap.size) : n.w.cell? ⟨b, o, none⟩ = W.cell? ⟨b, o, none⟩ := n.b.cell (p := ⟨b, o, none⟩) h
theorem Beyond.frozen {W : World} (n : Beyond W) (b o : Nat) (h : b < W.heap.size) : n.w.frozen? ⟨b, o, none⟩ = W.frozen? ⟨b, o, none⟩ := n.b.frozen (p := ⟨b, o, none⟩) h
theorem wp_region_beyond {P : Program} {id : Nat} {Q : Exit → Act → World → Prop} {a : Act} {w : World} {l : List Oper} (B : Nat) (hm : P.follows .mixedOrders = true) (hB : Region.lexB .any l.toArray = true) (hle : B ≤ w.heap.size)
    (h : (∀ (n : Beyond w) (b o : Nat), b < B → n.w.cell? ⟨b, o, none⟩ = w.cell? ⟨b, o, none⟩) →
      wpQuiet P l.toArray (fun w' => ∃ n : Beyond w, w' = n.w) (fun a' => ∀ w', Below w.heap.size w w' → Q .normal a' w') l a) : (Code.region id l.toArray true).wp P Q a w := by
  have h := h fun n b o hb => n.cell b o (by omega)
  have e : (fun a' => ∀ w', Below w.heap.size w w' → Q .normal a' w') = (fun a' => ∀ w', (∃ n : Beyond w, w' = n.w) → Q .normal a' w') :=
    funext fun a' => propext ⟨fun h w' ⟨n, e⟩ => e ▸ h n.w n.b, fun h w' hb => h w' ⟨⟨w', hb⟩, rfl⟩⟩
  rw [e] at h
  exact wp_region_quiet (C := fun w' => ∃ n : Beyond w, w' = n.w) hm hB ⟨⟨w.drew, (Below.refl _ _).drew⟩, rfl⟩ (by simpa using h)
theorem beyond_of {P : Program} {f : FuncId} {args : Array Value} {W : World} {n : Beyond W} {v : Value}
    (h : Calls P f args n.w fun e w' => e = .returned v ∧ Below n.w.heap.size n.w w') : Calls P f args n.w fun e w'' => e = .returned v ∧ ∃ m : Beyond W, w'' = m.w :=
  h.mono fun _ _ ⟨he, hb⟩ => ⟨he, ⟨_, n.b.trans (hb.mono n.b.size)⟩, rfl⟩
theorem beyond_same {P : Program} {f : FuncId} {args : Array Value} {W : World} {n : Beyond W} {v : Value}
    (h : Calls P f args n.w fun e w' => e = .returned v ∧ n.w = w') : Calls P f args n.w fun e w'' => e = .returned v ∧ ∃ m : Beyond W, w'' = m.w :=
  h.mono fun _ _ ⟨he, hb⟩ => ⟨he, n, hb.symm⟩

/-! ### '==' on arrays of whole numbers -/
theorem run_eqItems_ints {P : Program} (w : World) {e : TypeId} (he : P.underlying e = some (.int .i64)) (hagg : ∀ w, (isAgg e).run P w = .ok false w) (d : Nat) (xs ys : List Int) :
    ∀ is : List Nat, (∀ i ∈ is, i < xs.length ∧ i < ys.length) →
      (Op.eqItems (d + 1) e 1 (xs.map (Value.int .i64)).toArray (ys.map (Value.int .i64)).toArray is).run P w = .ok (is.all fun i => xs[i]?.getD 0 == ys[i]?.getD 0) w
  | [], _ => by simp [Op.eqItems]
  | i :: is, h => by
    obtain ⟨h1, h2⟩ := h i List.mem_cons_self
    have p1 : (part e (xs.map (Value.int .i64)).toArray (i * 1)).run P w = .ok (.int .i64 (xs[i]?.getD 0)) w := by simp [part, hagg, h1]
    have p2 : (part e (ys.map (Value.int .i64)).toArray (i * 1)).run P w = .ok (.int .i64 (ys[i]?.getD 0)) w := by simp [part, hagg, h2]
    have ih := run_eqItems_ints w he hagg d xs ys is fun j hj => h j (List.mem_cons_of_mem _ hj)
    simp only [Op.eqItems, Sem.run_bind, p1, p2, Result.andThen_ok, run_equalIn_int w d e .i64 .i64 _ _ he]
    cases hq : (xs[i]?.getD 0 == ys[i]?.getD 0)
    · simp [hq]
    · simp only [Bool.not_true, Bool.false_eq_true, if_false, List.all_cons, hq, Bool.true_and]
      exact ih
theorem run_eqArr {P : Program} (w : World) {t e : TypeId} {n : Nat} {i : TypeInfo} (hu : P.underlying t = some (.array n e)) (hi : P.info? e = some i) (he : P.underlying e = some (.int .i64)) (hc : P.cellsOf e = 1)
    (hagg : ∀ w, (isAgg e).run P w = .ok false w) (xs ys : List Int) (hx : xs.length = n) (hy : ys.length = n) :
    (Op.equalIn 10000 t (.agg (xs.map (Value.int .i64)).toArray) (.agg (ys.map (Value.int .i64)).toArray)).run P w = .ok ((List.range n).all fun i => xs[i]?.getD 0 == ys[i]?.getD 0) w := by
  rw [run_equalIn_array w 9999 _ _ hu hi, hc]
  exact run_eqItems_ints w he hagg 9998 xs ys _ fun j hj => by simp at hj; omega
theorem run_eql2 {P : Program} (w : World) {t e : TypeId} {i : TypeInfo} (hu : P.underlying t = some (.array 2 e)) (hi : P.info? e = some i) (he : P.underlying e = some (.int .i64)) (hc : P.cellsOf e = 1)
    (hagg : ∀ w, (isAgg e).run P w = .ok false w) (a b x y : Int) : (binOp .eql t (.agg #[.int .i64 a, .int .i64 b]) (.agg #[.int .i64 x, .int .i64 y])).run P w = .ok (.bool (a == x && b == y)) w := by
  have h := run_eqArr w hu hi he hc hagg [a, b] [x, y] rfl rfl
  rw [run_eql_struct]
  show ((Op.equalIn 10000 t (.agg ([a, b].map (Value.int .i64)).toArray) (.agg ([x, y].map (Value.int .i64)).toArray)).run P w).andThen _ = _
  rw [h]
  simp [List.range, List.range.loop]
theorem run_neq2 {P : Program} (w : World) {t e : TypeId} {i : TypeInfo} (hu : P.underlying t = some (.array 2 e)) (hi : P.info? e = some i) (he : P.underlying e = some (.int .i64)) (hc : P.cellsOf e = 1)
    (hagg : ∀ w, (isAgg e).run P w = .ok false w) (a b x y : Int) : (binOp .neq t (.agg #[.int .i64 a, .int .i64 b]) (.agg #[.int .i64 x, .int .i64 y])).run P w = .ok (.bool (!(a == x && b == y))) w := by
  have h := run_eqArr w hu hi he hc hagg [a, b] [x, y] rfl rfl
  rw [run_neq_struct]
  show ((Op.equalIn 10000 t (.agg ([a, b].map (Value.int .i64)).toArray) (.agg ([x, y].map (Value.int .i64)).toArray)).run P w).andThen _ = _
  rw [h]
  simp [List.range, List.range.loop]
theorem run_eql3 {P : Program} (w : World) {t e : TypeId} {i : TypeInfo} (hu : P.underlying t = some (.array 3 e)) (hi : P.info? e = some i) (he : P.underlying e = some (.int .i64)) (hc : P.cellsOf e = 1)
    (hagg : ∀ w, (isAgg e).run P w = .ok false w) (a b c x y z : Int) :
    (binOp .eql t (.agg #[.int .i64 a, .int .i64 b, .int .i64 c]) (.agg #[.int .i64 x, .int .i64 y, .int .i64 z])).run P w = .ok (.bool (a == x && b == y && c == z)) w := by
  have h := run_eqArr w hu hi he hc hagg [a, b, c] [x, y, z] rfl rfl
  rw [run_eql_struct]
  show ((Op.equalIn 10000 t (.agg ([a, b, c].map (Value.int .i64)).toArray) (.agg ([x, y, z].map (Value.int .i64)).toArray)).run P w).andThen _ = _
  rw [h]
  simp [List.range, List.range.loop, Bool.and_assoc]
theorem run_neq3 {P : Program} (w : World) {t e : TypeId} {i : TypeInfo} (hu : P.underlying t = some (.array 3 e)) (hi : P.info? e = some i) (he : P.underlying e = some (.int .i64)) (hc : P.cellsOf e = 1)
    (hagg : ∀ w, (isAgg e).run P w = .ok false w) (a b c x y z : Int) :
    (binOp .neq t (.agg #[.int .i64 a, .int .i64 b, .int .i64 c]) (.agg #[.int .i64 x, .int .i64 y, .int .i64 z])).run P w = .ok (.bool (!(a == x && b == y && c == z))) w := by
  have h := run_eqArr w hu hi he hc hagg [a, b, c] [x, y, z] rfl rfl
  rw [run_neq_struct]
  show ((Op.equalIn 10000 t (.agg ([a, b, c].map (Value.int .i64)).toArray) (.agg ([x, y, z].map (Value.int .i64)).toArray)).run P w).andThen _ = _
  rw [h]
  simp [List.range, List.range.loop, Bool.and_assoc]

/-! ### The greatest common divisor as Go reckons it -/
def gcdZ (a b : Int) : Int := if _h : b = 0 then a else gcdZ b (a.tmod b)
termination_by b.natAbs
decreasing_by
  rw [Int.natAbs_tmod]
  exact Nat.mod_lt _ (by omega)
theorem gcdZ_zero (a : Int) : gcdZ a 0 = a := by rw [gcdZ]; simp
theorem gcdZ_step {a b : Int} (h : b ≠ 0) : gcdZ a b = gcdZ b (a.tmod b) := by rw [gcdZ]; simp [h]
def sizeG (n : Int) : Int := max n (wrap64 (-n))
theorem sizeG_nn {n : Int} (h : -9223372036854775807 ≤ n) (h2 : n ≤ 9223372036854775807) : sizeG n = n.natAbs := by unfold sizeG wrap64; omega
theorem gcdZ_lt {x y : Int} (hy : ¬ y = 0) : (x.tmod y).natAbs < y.natAbs := by rw [Int.natAbs_tmod]; exact Nat.mod_lt _ (by omega)
def gcdG (a b : Int) : Int := sizeG (gcdZ a b)
def detG (x y u v : Int) : Int := wrap64 (wrap64 (x * v) - wrap64 (y * u))

theorem gcdZ_abs (a b : Int) : (gcdZ a b).natAbs = Nat.gcd a.natAbs b.natAbs := by
  by_cases h : b = 0
  · subst h; rw [gcdZ_zero]; simp
  · rw [gcdZ_step h, gcdZ_abs b (a.tmod b), Int.natAbs_tmod, Nat.gcd_comm, ← Nat.gcd_rec, Nat.gcd_comm]
termination_by b.natAbs
decreasing_by exact gcdZ_lt h
theorem gcdG_eq {a b : Int} (ha : a.natAbs ≤ 1000000000000000) (hb : b.natAbs ≤ 1000000000000000) : gcdG a b = (Nat.gcd a.natAbs b.natAbs : Int) := by
  have h := gcdZ_abs a b
  have hle : Nat.gcd a.natAbs b.natAbs ≤ 1000000000000000 := by
    rcases Nat.eq_zero_or_pos a.natAbs with h0 | h0
    · rw [h0, Nat.gcd_zero_left]; exact hb
    · exact Nat.le_trans (Nat.gcd_le_left _ h0) ha
  unfold gcdG
  rw [sizeG_nn (by omega) (by omega), h]
theorem gcdG_ne {a b : Int} (ha : a.natAbs ≤ 1000000000000000) (hb : b.natAbs ≤ 1000000000000000) (h : ¬ (a = 0 ∧ b = 0)) : ¬ gcdG a b = 0 := by
  rw [gcdG_eq ha hb]
  intro e
  have e' : Nat.gcd a.natAbs b.natAbs = 0 := by omega
  rw [Nat.gcd_eq_zero_iff] at e'
  omega

/-! ### Ranges, as Bools that the walk does not look into -/
def inB (n a b : Int) : Bool := decide (a ≤ n) && decide (n ≤ b)
theorem inB_iff {n a b : Int} : inB n a b = true ↔ a ≤ n ∧ n ≤ b := by simp [inB]
theorem inB_f {n a b : Int} : inB n a b = false ↔ ¬ (a ≤ n ∧ n ≤ b) := by rw [← inB_iff]; simp
def coB (n : Int) : Bool := inB n (-1000000) 1000000
theorem coB_iff {n : Int} : coB n = true ↔ -1000000 ≤ n ∧ n ≤ 1000000 := by simp [coB, inB]
def ptB (x y : Int) : Bool := coB x && coB y
theorem ptB_iff {x y : Int} : ptB x y = true ↔ (-1000000 ≤ x ∧ x ≤ 1000000) ∧ -1000000 ≤ y ∧ y ≤ 1000000 := by simp [ptB, coB_iff]

/-! ### Rows in memory: whole numbers, points -/
theorem cell_keep {w w1 : World} (hb : Below w.heap.size w w1) {a : Addr} {v : Value} (h : w.cell? a = some v) : w1.cell? a = some v := (hb.cell (World.block_lt_of_cell? w a h)).trans h
theorem cell_keepB {B : Nat} {w w1 : World} (hb : Below B w w1) {a : Addr} {v : Value} (hB : a.block < B) (h : w.cell? a = some v) : w1.cell? a = some v := (hb.cell hB).trans h
def IRow (w : World) (b off : Nat) (xs : List Int) : Prop := ∀ i, i < xs.length → w.cell? ⟨b, off + i, none⟩ = some (.int .i64 (xs[i]?.getD 0))
def PRow (w : World) (b off : Nat) (xs : List (Int × Int)) : Prop :=
  ∀ i, i < xs.length → w.cell? ⟨b, off + i * 2, none⟩ = some (.int .i64 (xs[i]?.getD (0, 0)).1) ∧ w.cell? ⟨b, off + i * 2 + 1, none⟩ = some (.int .i64 (xs[i]?.getD (0, 0)).2)
theorem IRow.keep {w w1 : World} {b off : Nat} {xs : List Int} (h : IRow w b off xs) (hb : Below w.heap.size w w1) : IRow w1 b off xs := fun i hi => cell_keep hb (h i hi)
theorem PRow.keep {w w1 : World} {b off : Nat} {xs : List (Int × Int)} (h : PRow w b off xs) (hb : Below w.heap.size w w1) : PRow w1 b off xs := fun i hi => ⟨cell_keep hb (h i hi).1, cell_keep hb (h i hi).2⟩
theorem IRow.lt {w : World} {b off : Nat} {xs : List Int} (h : IRow w b off xs) (hx : 0 < xs.length) : b < w.heap.size := World.block_lt_of_cell? w _ (h 0 hx)
theorem PRow.lt {w : World} {b off : Nat} {xs : List (Int × Int)} (h : PRow w b off xs) (hx : 0 < xs.length) : b < w.heap.size := World.block_lt_of_cell? w _ (h 0 hx).1

/-- A slice of whole numbers: nil, empty, or a row. -/
def ISl (w : World) (A : Option Addr) (n : Nat) (xs : List Int) : Prop := n = xs.length ∧ (0 < n → ∃ b off, A = some ⟨b, off, none⟩ ∧ b < w.heap.size ∧ IRow w b off xs)
def PSl (w : World) (A : Option Addr) (n : Nat) (xs : List (Int × Int)) : Prop := n = xs.length ∧ (0 < n → ∃ b off, A = some ⟨b, off, none⟩ ∧ b < w.heap.size ∧ PRow w b off xs)
theorem ISl.keep {w w1 : World} {A : Option Addr} {n : Nat} {xs : List Int} (h : ISl w A n xs) (hb : Below w.heap.size w w1) : ISl w1 A n xs :=
  ⟨h.1, fun hn => by obtain ⟨b, off, e, hl, hr⟩ := h.2 hn; exact ⟨b, off, e, by have := hb.size; omega, hr.keep hb⟩⟩
theorem PSl.keep {w w1 : World} {A : Option Addr} {n : Nat} {xs : List (Int × Int)} (h : PSl w A n xs) (hb : Below w.heap.size w w1) : PSl w1 A n xs :=
  ⟨h.1, fun hn => by obtain ⟨b, off, e, hl, hr⟩ := h.2 hn; exact ⟨b, off, e, by have := hb.size; omega, hr.keep hb⟩⟩

section
variable {H : Type} {enc : TypeId × Value → H} {P : Program} {w : World}
theorem spot_of {a : Addr} (h : a.spot = none) : a = ⟨a.block, a.off, none⟩ := by cases a; simp_all
theorem add_at (b off i : Nat) : (⟨b, off, none⟩ : Addr).add i = ⟨b, off + i, none⟩ := by unfold Addr.add; split <;> simp_all
theorem open_row {t e : TypeId} {A : Option Addr} {n c : Nat} {d : DataW H} {p : List MemPlace} (ht : P.underlying t = some (.slice e)) (he : P.underlying e = some (.int .i64)) (hc : P.cellsOf e = 1)
    (h : DataW.Trod enc P w 0 (fun _ => true) true t (.slice A n c) d p) :
    ∃ xs : List Int, ISl w A n xs ∧ (∀ z ∈ xs, -9223372036854775808 ≤ z ∧ z ≤ 9223372036854775807) ∧ n ≤ c ∧ c ≤ maxLen := by
  obtain ⟨fuel, hf⟩ := h
  rcases open_ints ht he hc hf with ⟨hcs, _⟩ | ⟨x, l, cc, zs, hcs, _, hl, hm, hz, _, hcell, hwz⟩
  · simp [Value.cells] at hcs
    obtain ⟨rfl, rfl, rfl⟩ := hcs
    exact ⟨[], ⟨rfl, fun h => absurd h (by omega)⟩, by simp, Nat.le_refl _, Nat.zero_le _⟩
  · simp [Value.cells] at hcs
    obtain ⟨rfl, rfl, rfl⟩ := hcs
    simp only [if_true] at hz
    refine ⟨zs.take n, ⟨by simp; omega, fun hn => ?_⟩, fun z hz' => wf64 (hwz z (List.mem_of_mem_take hz')), hl, hm⟩
    have h0 := hcell 0 (by omega)
    have hs : x.spot = none := by simpa [Addr.add] using World.cell?_spot h0
    have hx := spot_of hs
    refine ⟨x.block, x.off, by rw [← hx], ?_, fun i hi => ?_⟩
    · have := World.block_lt_of_cell? w _ h0
      simpa [Addr.add] using this
    · have hi' : i < n := by simp at hi; omega
      have := hcell i (by omega)
      rw [hx, add_at] at this
      rw [this]
      simp [List.getD, hi']
theorem choose_list {α : Type} (d : α) : ∀ (n : Nat) (Q : Nat → α → Prop), (∀ i, i < n → ∃ z, Q i z) → ∃ xs : List α, xs.length = n ∧ ∀ i, i < n → Q i (xs[i]?.getD d)
  | 0, _, _ => ⟨[], rfl, fun i hi => absurd hi (by omega)⟩
  | n + 1, Q, h => by
    obtain ⟨xs, hl, hq⟩ := choose_list d n Q fun i hi => h i (by omega)
    obtain ⟨z, hz⟩ := h n (by omega)
    refine ⟨xs ++ [z], by simp [hl], fun i hi => ?_⟩
    by_cases hin : i < n
    · have := hq i hin
      rwa [List.getElem?_append_left (by omega)]
    · obtain rfl : i = n := by omega
      rw [List.getElem?_append_right (by omega), hl, Nat.sub_self]
      simpa using hz
theorem open_points {t e : TypeId} {A : Option Addr} {n c : Nat} {d : DataW H} {p : List MemPlace} (m : Nat) (ht : P.underlying t = some (.slice e)) (hf : flatAt P m e = true) (hc : P.cellsOf e = 2)
    (h : DataW.Trod enc P w 0 (fun _ => true) true t (.slice A n c) d p) :
    ∃ xs : List (Int × Int), PSl w A n xs ∧ (∀ z ∈ xs, (-9223372036854775808 ≤ z.1 ∧ z.1 ≤ 9223372036854775807) ∧ -9223372036854775808 ≤ z.2 ∧ z.2 ≤ 9223372036854775807) ∧ n ≤ c ∧ c ≤ maxLen := by
  obtain ⟨fuel, hfu⟩ := h
  rcases Go.Deep.open_slice ht hfu with ⟨hcs, _⟩ | ⟨x, l, cc, mm, k, D, Pl, hcs, _, hl, hm, hmm, _, hi⟩
  · simp [Value.cells] at hcs
    obtain ⟨rfl, rfl, rfl⟩ := hcs
    exact ⟨[], ⟨rfl, fun h => absurd h (by omega)⟩, by simp, Nat.le_refl _, Nat.zero_le _⟩
  · simp [Value.cells] at hcs
    obtain ⟨rfl, rfl, rfl⟩ := hcs
    simp only [if_true] at hmm
    have each : ∀ i, i < n → ∃ z : Int × Int, w.cell? (x.add (i * 2)) = some (.int .i64 z.1) ∧ w.cell? ((x.add (i * 2)).add 1) = some (.int .i64 z.2) ∧
        (-9223372036854775808 ≤ z.1 ∧ z.1 ≤ 9223372036854775807) ∧ -9223372036854775808 ≤ z.2 ∧ z.2 ≤ 9223372036854775807 := by
      intro i hin
      obtain ⟨cs', h1, h2⟩ := hi i (by omega)
      rw [hc] at h1
      obtain ⟨_, hlen, hat⟩ := World.cells?_some h1
      obtain ⟨l, rfl, hb⟩ := ints_of_cells cs' (flat_cells m hf h2)
      obtain ⟨a, b, rfl⟩ := list2 l (by simpa using hlen)
      have e0 := hat 0 (by omega)
      have e1 := hat 1 (by omega)
      have ea : (x.add (i * 2)).add 0 = x.add (i * 2) := by simp [Addr.add]
      rw [ea] at e0
      exact ⟨(a, b), e0, e1, hb a (by simp), hb b (by simp)⟩
    obtain ⟨xs, hlen, hq⟩ := choose_list (0, 0) n _ each
    refine ⟨xs, ⟨hlen.symm, fun hn => ?_⟩, ?_, hl, hm⟩
    · obtain ⟨z, h0, _⟩ := each 0 hn
      have hs : x.spot = none := by simpa [Addr.add] using World.cell?_spot h0
      have hx := spot_of hs
      refine ⟨x.block, x.off, by rw [← hx], ?_, fun i hi => ?_⟩
      · have := World.block_lt_of_cell? w _ h0
        simpa [Addr.add] using this
      · have hz := hq i (by omega)
        rw [hx] at hz
        simp only [add_at] at hz
        exact ⟨hz.1, hz.2.1⟩
    · intro z hz
      obtain ⟨i, hi, rfl⟩ := List.getElem_of_mem hz
      have := (hq i (by omega)).2.2
      simpa [hi] using this
end

def ppB (x y u v : Int) : Bool := ptB x y && ptB u v
theorem ppB_iff {x y u v : Int} : ppB x y u v = true ↔ ptB x y = true ∧ ptB u v = true := by simp [ppB]
def angB (x y u v : Int) : Bool := ppB x y u v && (gcdG x y == 1) && (gcdG u v == 1) && decide (1 ≤ detG x y u v)
def fracB (x y : Int) : Bool := ptB x y && (gcdG x y == 1) && (decide (0 < y) || ((y == 0) && (x == 1)))
def numB (n : Int) : Bool := inB n 0 1000000
def tripB (a b c : Int) : Bool := numB a && numB b && numB c && !((a == 0) && (b == 0) && (c == 0))
def spotN (n : Int) : Bool := inB n (-20) 20
def spotB (a b c : Int) : Bool := spotN a && spotN b && spotN c
def triB (l p h : Int) : Bool := inB l 1 1000 && inB h 1 1000 && inB p 0 (wrap64 (h - 1))
def tanB (s c : Int) : Bool := inB s 1 1000000 && inB c 1 s && (gcdG s c == 1)
def plusG (x y u v k : Int) : Int × Int := (wrap64 (x + wrap64 (k * u)), wrap64 (y + wrap64 (k * v)))
def toldR (p q : Int) : Int × Int × Int := if ptB p q then (p, q, 0) else (0, 0, 3)
def addR (x y u v k : Int) : Int × Int × Int := if ppB x y u v then (if coB k then toldR (plusG x y u v k).1 (plusG x y u v k).2 else (0, 0, 2)) else (0, 0, 1)
def applyG (a b c d x y : Int) : Int × Int := (wrap64 (wrap64 (a * x) + wrap64 (b * y)), wrap64 (wrap64 (c * x) + wrap64 (d * y)))
def appR (a b c d x y : Int) : Int × Int × Int := if (ppB a b c d && ptB x y) then toldR (applyG a b c d x y).1 (applyG a b c d x y).2 else (0, 0, 1)
def lenR (x y u v : Int) : Int × Int := if ppB x y u v then (gcdG (plusG u v x y (-1)).1 (plusG u v x y (-1)).2, 0) else (0, 1)
def primR (x y : Int) : Int × Int × Int := if ptB x y then (if ((x == 0) && (y == 0)) then (0, 0, 5) else (wrap64 (x.tdiv (gcdG x y)), wrap64 (y.tdiv (gcdG x y)), 0)) else (0, 0, 1)
def mulR (a b c d e f g h : Int) : Int × Int × Int × Int × Int :=
  if (ppB a b c d && ppB e f g h) then
    (if ppB (applyG a b c d e g).1 (applyG a b c d f h).1 (applyG a b c d e g).2 (applyG a b c d f h).2 then ((applyG a b c d e g).1, (applyG a b c d f h).1, (applyG a b c d e g).2, (applyG a b c d f h).2, 0) else (0, 0, 0, 0, 3))
  else (0, 0, 0, 0, 1)
def corB (x y u v : Int) : Bool := ppB x y u v && (gcdG x y == 1) && (gcdG u v == 1) && (detG x y u v != 0)
def inAngR (x y u v p q : Int) : Bool × Int := if (angB x y u v && ptB p q) then (decide (0 ≤ detG x y p q) && decide (0 ≤ detG p q u v), 0) else (false, 1)
def turnB (x y : Int) : Bool := decide (y < 0) || ((y == 0) && decide (x < 0))
def fracR (x y : Int) : Int × Int × Int := if ptB x y then (if (gcdG x y == 1) then (if turnB x y then (-x, -y, 0) else (x, y, 0)) else (0, 0, 5)) else (0, 0, 1)
def unimB (d : Int) : Bool := (d == 1) || (d == -1)
theorem unimB_size {d : Int} (h1 : -9223372036854775808 ≤ d) (h2 : d ≤ 9223372036854775807) : (sizeG d == 1) = unimB d := by
  unfold unimB sizeG wrap64
  rw [Bool.eq_iff_iff]
  simp only [beq_iff_eq, Bool.or_eq_true]
  omega
theorem wrap64_neg {x : Int} (h : -1000000 ≤ x ∧ x ≤ 1000000) : wrap64 (-x) = -x := by unfold wrap64; omega
theorem wrapEq (x : Int) : IntKind.i64.wrap x = wrap64 x := by rw [IntKind.wrap_i64, wrap64]
theorem wrap64_bd (x : Int) : -9223372036854775808 ≤ wrap64 x ∧ wrap64 x ≤ 9223372036854775807 := by unfold wrap64; omega
theorem detG_bd (x y u v : Int) : -9223372036854775808 ≤ detG x y u v ∧ detG x y u v ≤ 9223372036854775807 := wrap64_bd _
def invG (d a b c e : Int) : Int × Int × Int × Int := (wrap64 (d * e), wrap64 (wrap64 (-d) * b), wrap64 (wrap64 (-d) * c), wrap64 (d * a))
theorem invG_fits {d a b c e : Int} (hd : unimB d = true) (h : ppB a b c e = true) : ppB (invG d a b c e).1 (invG d a b c e).2.1 (invG d a b c e).2.2.1 (invG d a b c e).2.2.2 = true := by
  simp only [ppB_iff, ptB_iff] at h ⊢
  simp only [unimB, Bool.or_eq_true, beq_iff_eq] at hd
  unfold invG
  have w1 : wrap64 (-1) = -1 := by unfold wrap64; omega
  have w2 : wrap64 (-(-1)) = 1 := by unfold wrap64; omega
  rcases hd with rfl | rfl
  · rw [w1]; simp only [wrap64]; omega
  · rw [w2]; simp only [wrap64]; omega
def invR (a b c e : Int) : Int × Int × Int × Int × Int :=
  if ppB a b c e then (if unimB (detG a b c e) then ((invG (detG a b c e) a b c e).1, (invG (detG a b c e) a b c e).2.1, (invG (detG a b c e) a b c e).2.2.1, (invG (detG a b c e) a b c e).2.2.2, 0) else (0, 0, 0, 0, 5)) else (0, 0, 0, 0, 1)
def typeR (a b c e : Int) : Int × Int := if ppB a b c e then (if (detG a b c e == 1) then ((if a + e = 2 ∨ a + e = -2 then 1 else if a + e > 2 ∨ a + e < -2 then 2 else 0), 0) else (0, 5)) else (0, 1)
theorem psl2 {w : World} {b off : Nat} {x y u v : Int} (h0 : w.cell? ⟨b, off, none⟩ = some (.int .i64 x)) (h1 : w.cell? ⟨b, off + 1, none⟩ = some (.int .i64 y)) (h2 : w.cell? ⟨b, off + 2, none⟩ = some (.int .i64 u))
    (h3 : w.cell? ⟨b, off + 3, none⟩ = some (.int .i64 v)) : PSl w (some ⟨b, off, none⟩) 2 [(x, y), (u, v)] :=
  ⟨rfl, fun _ => ⟨b, off, rfl, World.block_lt_of_cell? w _ h0, fun i hi => by
    match i, hi with
    | 0, _ => exact ⟨by simpa using h0, by simpa using h1⟩
    | 1, _ => exact ⟨by simpa using h2, by simpa using h3⟩⟩⟩
/-! ### Rows of spots -/
def SRow (w : World) (b off : Nat) (xs : List (Int × Int × Int)) : Prop :=
  ∀ i, i < xs.length → w.cell? ⟨b, off + i * 3, none⟩ = some (.int .i64 (xs[i]?.getD (0, 0, 0)).1) ∧ w.cell? ⟨b, off + i * 3 + 1, none⟩ = some (.int .i64 (xs[i]?.getD (0, 0, 0)).2.1) ∧ w.cell? ⟨b, off + i * 3 + 2, none⟩ = some (.int .i64 (xs[i]?.getD (0, 0, 0)).2.2)
def SSl (w : World) (A : Option Addr) (n : Nat) (xs : List (Int × Int × Int)) : Prop := n = xs.length ∧ (0 < n → ∃ b off, A = some ⟨b, off, none⟩ ∧ b < w.heap.size ∧ SRow w b off xs)
def spB (s : Int × Int × Int) : Bool := spotB s.1 s.2.1 s.2.2
def allS (xs : List (Int × Int × Int)) : Bool := xs.all spB
theorem allS_false {xs : List (Int × Int × Int)} {k : Nat} (hk : k < xs.length) (h : spB (xs[k]?.getD (0, 0, 0)) = false) : allS xs = false := by
  have e : xs[k]?.getD (0, 0, 0) = xs[k] := by simp [hk]
  rw [e] at h
  rw [Bool.eq_false_iff]
  intro ha
  have := List.all_eq_true.1 ha xs[k] (List.getElem_mem hk)
  simp [h] at this
theorem allS_true {xs : List (Int × Int × Int)} (h : ∀ k, k < xs.length → spB (xs[k]?.getD (0, 0, 0)) = true) : allS xs = true := by
  unfold allS
  rw [List.all_eq_true]
  intro p hp
  obtain ⟨k, hk, rfl⟩ := List.getElem_of_mem hp
  have := h k hk
  simpa [hk] using this
def sp2B (a b c d e f : Int) : Bool := spotB a b c && spotB d e f
def sp3B (a b c d e f g h i : Int) : Bool := spotB a b c && spotB d e f && spotB g h i
def sp4B (a b c d e f g h i j k l : Int) : Bool := spotB a b c && spotB d e f && spotB g h i && spotB j k l
theorem allS2 {a b c d e f : Int} : allS [(a, b, c), (d, e, f)] = sp2B a b c d e f := by simp [allS, sp2B, spB]
theorem allS3 {a b c d e f g h i : Int} : allS [(a, b, c), (d, e, f), (g, h, i)] = sp3B a b c d e f g h i := by simp [allS, sp3B, spB, Bool.and_assoc]
theorem allS4 {a b c d e f g h i j k l : Int} : allS [(a, b, c), (d, e, f), (g, h, i), (j, k, l)] = sp4B a b c d e f g h i j k l := by simp [allS, sp4B, spB, Bool.and_assoc]
theorem ssl2 {w : World} {b off : Nat} {x0 x1 x2 x3 x4 x5 : Int} (h0 : w.cell? ⟨b, off, none⟩ = some (.int .i64 x0)) (h1 : w.cell? ⟨b, off + 1, none⟩ = some (.int .i64 x1)) (h2 : w.cell? ⟨b, off + 2, none⟩ = some (.int .i64 x2))
    (h3 : w.cell? ⟨b, off + 3, none⟩ = some (.int .i64 x3)) (h4 : w.cell? ⟨b, off + 4, none⟩ = some (.int .i64 x4)) (h5 : w.cell? ⟨b, off + 5, none⟩ = some (.int .i64 x5)) : SSl w (some ⟨b, off, none⟩) 2 [(x0, x1, x2), (x3, x4, x5)] :=
  ⟨rfl, fun _ => ⟨b, off, rfl, World.block_lt_of_cell? w _ h0, fun i hi => by
    match i, hi with
    | 0, _ => exact ⟨by simpa using h0, by simpa using h1, by simpa using h2⟩
    | 1, _ => exact ⟨by simpa using h3, by simpa using h4, by simpa using h5⟩⟩⟩
theorem ssl3 {w : World} {b off : Nat} {x0 x1 x2 x3 x4 x5 x6 x7 x8 : Int} (h0 : w.cell? ⟨b, off, none⟩ = some (.int .i64 x0)) (h1 : w.cell? ⟨b, off + 1, none⟩ = some (.int .i64 x1)) (h2 : w.cell? ⟨b, off + 2, none⟩ = some (.int .i64 x2))
    (h3 : w.cell? ⟨b, off + 3, none⟩ = some (.int .i64 x3)) (h4 : w.cell? ⟨b, off + 4, none⟩ = some (.int .i64 x4)) (h5 : w.cell? ⟨b, off + 5, none⟩ = some (.int .i64 x5))
    (h6 : w.cell? ⟨b, off + 6, none⟩ = some (.int .i64 x6)) (h7 : w.cell? ⟨b, off + 7, none⟩ = some (.int .i64 x7)) (h8 : w.cell? ⟨b, off + 8, none⟩ = some (.int .i64 x8)) :
    SSl w (some ⟨b, off, none⟩) 3 [(x0, x1, x2), (x3, x4, x5), (x6, x7, x8)] :=
  ⟨rfl, fun _ => ⟨b, off, rfl, World.block_lt_of_cell? w _ h0, fun i hi => by
    match i, hi with
    | 0, _ => exact ⟨by simpa using h0, by simpa using h1, by simpa using h2⟩
    | 1, _ => exact ⟨by simpa using h3, by simpa using h4, by simpa using h5⟩
    | 2, _ => exact ⟨by simpa using h6, by simpa using h7, by simpa using h8⟩⟩⟩
theorem ssl4 {w : World} {b off : Nat} {x0 x1 x2 x3 x4 x5 x6 x7 x8 x9 xa xb : Int} (h0 : w.cell? ⟨b, off, none⟩ = some (.int .i64 x0)) (h1 : w.cell? ⟨b, off + 1, none⟩ = some (.int .i64 x1)) (h2 : w.cell? ⟨b, off + 2, none⟩ = some (.int .i64 x2))
    (h3 : w.cell? ⟨b, off + 3, none⟩ = some (.int .i64 x3)) (h4 : w.cell? ⟨b, off + 4, none⟩ = some (.int .i64 x4)) (h5 : w.cell? ⟨b, off + 5, none⟩ = some (.int .i64 x5))
    (h6 : w.cell? ⟨b, off + 6, none⟩ = some (.int .i64 x6)) (h7 : w.cell? ⟨b, off + 7, none⟩ = some (.int .i64 x7)) (h8 : w.cell? ⟨b, off + 8, none⟩ = some (.int .i64 x8))
    (h9 : w.cell? ⟨b, off + 9, none⟩ = some (.int .i64 x9)) (ha : w.cell? ⟨b, off + 10, none⟩ = some (.int .i64 xa)) (hb : w.cell? ⟨b, off + 11, none⟩ = some (.int .i64 xb)) :
    SSl w (some ⟨b, off, none⟩) 4 [(x0, x1, x2), (x3, x4, x5), (x6, x7, x8), (x9, xa, xb)] :=
  ⟨rfl, fun _ => ⟨b, off, rfl, World.block_lt_of_cell? w _ h0, fun i hi => by
    match i, hi with
    | 0, _ => exact ⟨by simpa using h0, by simpa using h1, by simpa using h2⟩
    | 1, _ => exact ⟨by simpa using h3, by simpa using h4, by simpa using h5⟩
    | 2, _ => exact ⟨by simpa using h6, by simpa using h7, by simpa using h8⟩
    | 3, _ => exact ⟨by simpa using h9, by simpa using ha, by simpa using hb⟩⟩⟩
def crossG (a b c d e f : Int) : Int × Int × Int := (wrap64 (wrap64 (b * f) - wrap64 (c * e)), wrap64 (wrap64 (c * d) - wrap64 (a * f)), wrap64 (wrap64 (a * e) - wrap64 (b * d)))
def dotG (a b c d e f : Int) : Int := wrap64 (wrap64 (wrap64 (a * d) + wrap64 (b * e)) + wrap64 (c * f))
def volG (a b c d e f g h i : Int) : Int := dotG a b c (crossG d e f g h i).1 (crossG d e f g h i).2.1 (crossG d e f g h i).2.2
def splusG (a b c d e f k : Int) : Int × Int × Int := (wrap64 (a + wrap64 (k * d)), wrap64 (b + wrap64 (k * e)), wrap64 (c + wrap64 (k * f)))
def coneB (a b c d e f g h i : Int) : Bool := sp3B a b c d e f g h i && (volG a b c d e f g h i != 0)
theorem sizeG_ne0 {d : Int} (h1 : -9223372036854775808 ≤ d) (h2 : d ≤ 9223372036854775807) : (sizeG d != 0) = (d != 0) := by
  unfold sizeG wrap64
  rw [Bool.eq_iff_iff]
  simp only [bne_iff_ne, ne_eq]
  omega
def tvolG (a b c d e f g h i j k l : Int) : Int :=
  sizeG (volG (splusG d e f a b c (-1)).1 (splusG d e f a b c (-1)).2.1 (splusG d e f a b c (-1)).2.2 (splusG g h i a b c (-1)).1 (splusG g h i a b c (-1)).2.1 (splusG g h i a b c (-1)).2.2 (splusG j k l a b c (-1)).1 (splusG j k l a b c (-1)).2.1 (splusG j k l a b c (-1)).2.2)
def tetB (a b c d e f g h i j k l : Int) : Bool := sp4B a b c d e f g h i j k l && (tvolG a b c d e f g h i j k l != 0)
theorem isl3 {w : World} {b off : Nat} {x y z : Int} (h0 : w.cell? ⟨b, off, none⟩ = some (.int .i64 x)) (h1 : w.cell? ⟨b, off + 1, none⟩ = some (.int .i64 y)) (h2 : w.cell? ⟨b, off + 2, none⟩ = some (.int .i64 z)) :
    ISl w (some ⟨b, off, none⟩) 3 [x, y, z] :=
  ⟨rfl, fun _ => ⟨b, off, rfl, World.block_lt_of_cell? w _ h0, fun i hi => by
    match i, hi with
    | 0, _ => simpa using h0
    | 1, _ => simpa using h1
    | 2, _ => simpa using h2⟩⟩
def allI (p : Int → Bool) (xs : List Int) : Bool := xs.all p
theorem all_false {p : Int → Bool} {xs : List Int} {k : Nat} (hk : k < xs.length) (h : p (xs[k]?.getD 0) = false) : allI p xs = false := by
  unfold allI
  have e : xs[k]?.getD 0 = xs[k] := by simp [hk]
  rw [e] at h
  rw [Bool.eq_false_iff]
  intro ha
  have := List.all_eq_true.1 ha xs[k] (List.getElem_mem hk)
  simp [h] at this
theorem all_true {p : Int → Bool} {xs : List Int} (h : ∀ k, k < xs.length → p (xs[k]?.getD 0) = true) : allI p xs = true := by
  unfold allI
  rw [List.all_eq_true]
  intro x hx
  obtain ⟨k, hk, rfl⟩ := List.getElem_of_mem hx
  have := h k hk
  simpa [hk] using this
/-- Are all of these points? Which is the first that is none? -/
def allP (xs : List (Int × Int)) : Bool := xs.all fun p => ptB p.1 p.2
theorem allP_false {xs : List (Int × Int)} {k : Nat} (hk : k < xs.length) (h : ptB (xs[k]?.getD (0, 0)).1 (xs[k]?.getD (0, 0)).2 = false) : allP xs = false := by
  have e : xs[k]?.getD (0, 0) = xs[k] := by simp [hk]
  rw [e] at h
  rw [Bool.eq_false_iff]
  intro ha
  have := List.all_eq_true.1 ha xs[k] (List.getElem_mem hk)
  simp [h] at this
theorem allP_true {xs : List (Int × Int)} (h : ∀ k, k < xs.length → ptB (xs[k]?.getD (0, 0)).1 (xs[k]?.getD (0, 0)).2 = true) : allP xs = true := by
  unfold allP
  rw [List.all_eq_true]
  intro p hp
  obtain ⟨k, hk, rfl⟩ := List.getElem_of_mem hp
  have := h k hk
  simpa [hk] using this
def detR (x y u v : Int) : Int × Int := if (ptB x y && ptB u v) = true then (detG x y u v, 0) else (0, 1)
theorem allP2 {x y u v : Int} : allP [(x, y), (u, v)] = (ptB x y && ptB u v) := by simp [allP]
end Go.Proofs.YtajjoihfccnfhaaDoor
