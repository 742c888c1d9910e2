/-
  Plain words of these proofs: flat types of int64 cells, what a callee leaves below, comparisons. No condition.
-/
import Derived.WalkKit
import Derived.ProofKit
import Derived.OpenShut
import Derived.ShutString
import Derived.ChangeOld
import Derived.Below
import Derived.Lib.Hide
import Derived.Handy
import Derived.WalkSpells
import Derived.WalkLawsBesides
namespace Go.Proofs.Ytpgeiikmcemnkaa
open Go.ChangeShapes Go.WideShapes Go.ChangeAt Go.RowKit

/-! ### Types all of whose cells are int64: arrays, arrays of arrays, structs of them -/
def coverF (P : Program) : List Field → Nat → Option Nat
  | [], off => some off
  | f :: fs, off => if f.offset = off then coverF P fs (off + P.cellsOf f.type) else none

theorem coverF_mem {P : Program} {fs : List Field} {off tot j : Nat} (h : coverF P fs off = some tot) (h1 : off ≤ j) (h2 : j < tot) :
    ∃ (i : Nat) (f : Field), fs[i]? = some f ∧ f.offset ≤ j ∧ j < f.offset + P.cellsOf f.type := by
  induction fs generalizing off with
  | nil => simp [coverF] at h; omega
  | cons f fs ih =>
    simp only [coverF] at h
    split at h
    · rename_i hf
      by_cases hj : j < off + P.cellsOf f.type
      · exact ⟨0, f, rfl, by omega, by omega⟩
      · obtain ⟨i, g, hg, hr⟩ := ih h (by omega)
        exact ⟨i + 1, g, by simpa using hg, hr⟩
    · cases h

def flatAt (P : Program) : Nat → TypeId → Bool
  | 0, _ => false
  | n + 1, t =>
    match P.underlying t with
    | some (.int .i64) => P.cellsOf t == 1
    | some (.array k e) => P.cellsOf t == k * P.cellsOf e && (0 < P.cellsOf e) && flatAt P n e
    | some (.struct fs) => coverF P fs.toList 0 == some (P.cellsOf t) && fs.toList.all fun f => flatAt P n f.type
    | _ => false

section
variable {H : Type} {enc : TypeId × Value → H} {P : Program} {w : World} {base : Nat} {spare : Nat → Bool} {held : Bool}

theorem part_mem {α : Type} {cs : List α} {j o m : Nat} {c : α} (hj : cs[j]? = some c) (h1 : o ≤ j) (h2 : j < o + m) : c ∈ (cs.drop o).take m := by
  have : ((cs.drop o).take m)[j - o]? = some c := by
    rw [List.getElem?_take, if_pos (by omega), List.getElem?_drop, ← hj]
    congr 1
    omega
  exact List.mem_of_getElem? this

theorem flat_cells (n : Nat) : ∀ {fuel : Nat} {t : TypeId} {cs : List Value} {x : DataW H × List MemPlace}, flatAt P n t = true → DataW.trod enc P w base spare held fuel t cs = some x →
    ∀ c ∈ cs, ∃ z : Int, c = .int .i64 z ∧ (Lit.int .i64 z).wf = true := by
  induction n with
  | zero => intro _ _ _ _ h; simp [flatAt] at h
  | succ n ih =>
    intro fuel t cs x h ht c hc
    unfold flatAt at h
    split at h
    · rename_i hu
      obtain ⟨z, rfl, _, hz⟩ := DataW.trod_int hu ht
      simp at hc
      exact ⟨z, hc, hz⟩
    · rename_i k e hu
      simp only [Bool.and_eq_true, beq_iff_eq, decide_eq_true_eq] at h
      obtain ⟨xs, m, _, _, hl, hxl, hg⟩ := DataW.trod_array hu ht
      obtain ⟨j, hj⟩ := List.getElem?_of_mem hc
      have hjl : j < cs.length := by
        rcases Nat.lt_or_ge j cs.length with h' | h'
        · exact h'
        · rw [List.getElem?_eq_none h'] at hj; cases hj
      have hi : j / P.cellsOf e < k := by rw [Nat.div_lt_iff_lt_mul h.1.2]; omega
      have hx := hg (j / P.cellsOf e) hi
      rw [List.getElem?_eq_getElem (by omega)] at hx
      refine ih h.2 hx c (part_mem hj (Nat.div_mul_le_self _ _) ?_)
      have := Nat.div_add_mod j (P.cellsOf e)
      have := Nat.mod_lt j h.1.2
      rw [Nat.mul_comm]
      omega
    · rename_i fs hu
      simp only [Bool.and_eq_true, beq_iff_eq, List.all_eq_true] at h
      obtain ⟨xs, m, _, _, hl, hxl, hg⟩ := DataW.trod_struct hu ht
      obtain ⟨j, hj⟩ := List.getElem?_of_mem hc
      have hjl : j < cs.length := by
        rcases Nat.lt_or_ge j cs.length with h' | h'
        · exact h'
        · rw [List.getElem?_eq_none h'] at hj; cases hj
      obtain ⟨i, f, hf, h1, h2⟩ := coverF_mem h.1 (Nat.zero_le j) (by omega)
      have hf' : fs[i]? = some f := by simpa using hf
      have hx := hg i f hf'
      have hil : i < fs.size := by
        rcases Nat.lt_or_ge i fs.size with h' | h'
        · exact h'
        · rw [Array.getElem?_eq_none h'] at hf'; cases hf'
      rw [List.getElem?_eq_getElem (by omega)] at hx
      exact ih (h.2 f (List.mem_of_getElem? hf)) hx c (part_mem hj h1 h2)
    · cases h

theorem ints_of_cells (cs : List Value) (h : ∀ c ∈ cs, ∃ z : Int, c = .int .i64 z ∧ (Lit.int .i64 z).wf = true) :
    ∃ l : List Int, cs = l.map (Value.int .i64) ∧ ∀ z ∈ l, -9223372036854775808 ≤ z ∧ z ≤ 9223372036854775807 := by
  induction cs with
  | nil => exact ⟨[], rfl, by simp⟩
  | cons c cs ih =>
    obtain ⟨l, hl, hb⟩ := ih fun c hc => h c (List.mem_cons_of_mem _ hc)
    obtain ⟨z, rfl, hz⟩ := h c List.mem_cons_self
    refine ⟨z :: l, by simp [hl], ?_⟩
    intro y hy
    rcases List.mem_cons.1 hy with rfl | hy
    · have hmin : IntKind.i64.min = -9223372036854775808 := rfl
      have hmax : IntKind.i64.max = 9223372036854775807 := rfl
      simp only [Lit.wf, Bool.and_eq_true, decide_eq_true_eq] at hz
      omega
    · exact hb y hy

/-- A flat argument, by value: its numbers, each an int64. -/
theorem open_flat {r : Reach} {b0 : Nat} {t : TypeId} {v : Value} {d : DataW H} {p : List MemPlace} (n : Nat)
    (hs : (match P.underlying t with | some (.struct _) => true | some (.array _ _) => true | _ => false) = true) (hf : flatAt P n t = true)
    (hv : Value.okWide P w r b0 t v) (h : DataW.Trod enc P w base spare held t v d p) :
    ∃ l : List Int, v = .agg (l.map (Value.int .i64)).toArray ∧ l.length = P.cellsOf t ∧ ∀ z ∈ l, -9223372036854775808 ≤ z ∧ z ≤ 9223372036854775807 := by
  have hv' : ∃ cs, v = .agg cs ∧ cs.size = P.cellsOf t := by
    unfold Value.okWide at hv
    revert hv hs
    cases P.underlying t with
    | none => intro hs; cases hs
    | some u => cases u <;> intro hs hv <;> first | (cases hs; done) | (obtain ⟨cs, h1, h2, _⟩ := hv; exact ⟨cs, h1, h2⟩)
  obtain ⟨⟨cs⟩, rfl, hsz⟩ := hv'
  obtain ⟨fuel, ht⟩ := h
  obtain ⟨l, hl, hb⟩ := ints_of_cells cs (flat_cells n hf (by simpa [Value.cells] using ht))
  subst hl
  exact ⟨l, rfl, by simpa using hsz, hb⟩
end

theorem list2 {α : Type} (l : List α) (h : l.length = 2) : ∃ a b, l = [a, b] := by
  match l, h with
  | [a, b], _ => exact ⟨a, b, rfl⟩
theorem list3 {α : Type} (l : List α) (h : l.length = 3) : ∃ a b c, l = [a, b, c] := by
  match l, h with
  | [a, b, c], _ => exact ⟨a, b, c, rfl⟩
theorem list4 {α : Type} (l : List α) (h : l.length = 4) : ∃ a b c d, l = [a, b, c, d] := by
  match l, h with
  | [a, b, c, d], _ => exact ⟨a, b, c, d, rfl⟩
theorem list9 {α : Type} (l : List α) (h : l.length = 9) : ∃ a b c d e f g i j, l = [a, b, c, d, e, f, g, i, j] := by
  match l, h with
  | [a, b, c, d, e, f, g, i, j], _ => exact ⟨a, b, c, d, e, f, g, i, j, rfl⟩
theorem list12 {α : Type} (l : List α) (h : l.length = 12) : ∃ a b c d e f g i j k m n, l = [a, b, c, d, e, f, g, i, j, k, m, n] := by
  match l, h with
  | [a, b, c, d, e, f, g, i, j, k, m, n], _ => exact ⟨a, b, c, d, e, f, g, i, j, k, m, n, rfl⟩

theorem wf64 {z : Int} (h : (Lit.int .i64 z).wf = true) : -9223372036854775808 ≤ z ∧ z ≤ 9223372036854775807 := by
  have hmin : IntKind.i64.min = -9223372036854775808 := rfl
  have hmax : IntKind.i64.max = 9223372036854775807 := rfl
  simp only [Lit.wf, Bool.and_eq_true, decide_eq_true_eq] at h
  omega

/-! ### What a callee leaves below: the first k blocks that the caller has laid since w read as they did -/
theorem bstep (k : Nat) (w : World) {W w1 : World} (hb : Below W.heap.size W w1) (h : w.heap.size + k ≤ W.heap.size) :
    (∀ b o, b < w.heap.size + k → w1.cell? ⟨b, o, none⟩ = W.cell? ⟨b, o, none⟩) ∧ (∀ b o, b < w.heap.size + k → w1.frozen? ⟨b, o, none⟩ = W.frozen? ⟨b, o, none⟩) ∧ w.heap.size + k ≤ w1.heap.size :=
  ⟨fun b o hlt => hb.cell (p := ⟨b, o, none⟩) (show b < _ by omega), fun b o hlt => hb.frozen (p := ⟨b, o, none⟩) (show b < _ by omega), by have := hb.size; omega⟩

theorem below_drewN' {B : Nat} {a w : World} (h : Below B a w) (n : Nat) : Below B a (w.drewN n) := ⟨h.os, h.tape, h.output, h.size, h.block⟩
theorem ret_bool {a b : Bool} (h : a = b) : Ending.returned (.bool a) = .returned (.bool b) := by rw [h]
theorem ret_i64 {a b : Int} (h : a = b) : Ending.returned (.int .i64 a) = .returned (.int .i64 b) := by rw [h]

/-! ### Ranges, as Bools that the walk does not look into -/
def inB (n a b : Int) : Bool := decide (a ≤ n) && decide (n ≤ b)
theorem inB_iff {n a b : Int} : inB n a b = true ↔ a ≤ n ∧ n ≤ b := by simp [inB]
theorem inB_f {n a b : Int} : inB n a b = false ↔ ¬ (a ≤ n ∧ n ≤ b) := by rw [← inB_iff]; simp
def coB (n : Int) : Bool := inB n (-1000000) 1000000
theorem coB_iff {n : Int} : coB n = true ↔ -1000000 ≤ n ∧ n ≤ 1000000 := by simp [coB, inB]
def ptB (x y : Int) : Bool := coB x && coB y
theorem ptB_iff {x y : Int} : ptB x y = true ↔ (-1000000 ≤ x ∧ x ≤ 1000000) ∧ -1000000 ≤ y ∧ y ≤ 1000000 := by simp [ptB, coB_iff]
end Go.Proofs.Ytpgeiikmcemnkaa
