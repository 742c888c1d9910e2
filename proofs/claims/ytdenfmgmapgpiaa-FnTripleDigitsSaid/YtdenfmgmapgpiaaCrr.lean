/-
  Rows of rows of whole numbers as results: the same, marks, marks that are still held. No condition but what stands in each.
-/
import Derived.Test.YtdenfmgmapgpiaaCsl
import Derived.Test.YtdenfmgmapgpiaaHk
namespace Go.Proofs.Ytdenfmgmapgpiaa
open Go.RowKit
set_option maxHeartbeats 1000000
structure Rw where
  A : Option Addr
  c : Nat
  xs : List Int
def Rw.v (r : Rw) : Value := .slice r.A r.xs.length r.c
def Rw.nil : Rw := ⟨none, 0, []⟩
def RSl (W : World) (A : Option Addr) (n : Nat) (rs : List Rw) : Prop :=
  n = rs.length ∧ (0 < n → ∃ b off, A = some ⟨b, off, none⟩ ∧ b < W.heap.size ∧ ∀ i, i < rs.length → W.cell? ⟨b, off + i, none⟩ = some (rs[i]?.getD Rw.nil).v) ∧ ∀ r ∈ rs, ISl W r.A r.xs.length r.xs
theorem RSl.keep {w w1 : World} {A : Option Addr} {n : Nat} {rs : List Rw} (h : RSl w A n rs) (hb : Below w.heap.size w w1) : RSl w1 A n rs :=
  ⟨h.1, fun hn => by obtain ⟨b, off, e, hl, hr⟩ := h.2.1 hn; exact ⟨b, off, e, by have := hb.size; omega, fun i hi => cell_keep hb (hr i hi)⟩, fun r hr => (h.2.2 r hr).keep hb⟩
theorem getD_mem {rs : List Rw} {i : Nat} (h : i < rs.length) : rs[i]?.getD Rw.nil ∈ rs := by
  rw [List.getElem?_eq_getElem h]
  exact List.getElem_mem h
/-- The bound of all rows. -/
def lenB (rs : List Rw) (m : Nat) : Prop := ∀ r ∈ rs, r.xs.length ≤ m
theorem ISl.same {w w' : World} {A : Option Addr} {n : Nat} {xs : List Int} (h : ISl w A n xs) (hs : w.heap.size ≤ w'.heap.size) (hc : 0 < n → ∀ b o, (∀ a, A = some a → a.block = b) → w'.cell? ⟨b, o, none⟩ = w.cell? ⟨b, o, none⟩) : ISl w' A n xs :=
  ⟨h.1, fun hn => by
    obtain ⟨b, off, e, hl, hr⟩ := h.2 hn
    exact ⟨b, off, e, by omega, fun i hi => (hc hn _ _ (fun a ha => by rw [e] at ha; cases ha; rfl)).trans (hr i hi)⟩⟩
def tot : List Rw → Nat
  | [] => 0
  | r :: rs => r.xs.length + tot rs
def markR : Int → List Rw → List Rw
  | _, [] => []
  | m, r :: rs => ⟨r.A, r.c, marks m r.xs.length⟩ :: markR (m + r.xs.length) rs
theorem markR_len : ∀ (m : Int) (rs : List Rw), (markR m rs).length = rs.length
  | _, [] => rfl
  | m, r :: rs => by simp [markR, markR_len]
theorem markR_at : ∀ (m : Int) (rs : List Rw) (i : Nat), i < rs.length → (markR m rs)[i]?.getD Rw.nil = ⟨(rs[i]?.getD Rw.nil).A, (rs[i]?.getD Rw.nil).c, marks (m + tot (rs.take i)) (rs[i]?.getD Rw.nil).xs.length⟩
  | _, [], i, h => by simp at h
  | m, r :: rs, 0, _ => by simp [markR, tot]
  | m, r :: rs, i + 1, h => by
    have := markR_at (m + r.xs.length) rs i (by simpa using h)
    simp only [markR, List.getElem?_cons_succ, this, List.take_succ_cons, tot]
    congr 2
    omega
theorem tot_take : ∀ (rs : List Rw) (i : Nat), i < rs.length → tot (rs.take (i + 1)) = tot (rs.take i) + (rs[i]?.getD Rw.nil).xs.length
  | [], i, h => by simp at h
  | r :: rs, 0, _ => by simp [tot]
  | r :: rs, i + 1, h => by
    have := tot_take rs i (by simpa using h)
    simp only [List.take_succ_cons, tot, this, List.getElem?_cons_succ]
    omega
theorem tot_le : ∀ (rs : List Rw) (i : Nat), tot (rs.take i) ≤ tot rs
  | [], i => by simp [tot]
  | r :: rs, 0 => by simp [tot]
  | r :: rs, i + 1 => by
    have := tot_le rs i
    simp only [List.take_succ_cons, tot]
    omega
theorem tot_mem {rs : List Rw} {r : Rw} (h : r ∈ rs) : r.xs.length ≤ tot rs := by
  induction rs with
  | nil => cases h
  | cons s rs ih =>
    rcases List.mem_cons.1 h with rfl | h
    · simp [tot]
    · have := ih h; simp only [tot]; omega
/-- Rows that may be written, each in a block of its own; the row of rows in another. -/
def Apart (B : Nat) (W : World) (A : Option Addr) (rs : List Rw) : Prop :=
  (∀ r ∈ rs, WSl B W r.A r.xs.length) ∧
  (∀ i j, i < j → j < rs.length → 0 < (rs[i]?.getD Rw.nil).xs.length → 0 < (rs[j]?.getD Rw.nil).xs.length → ∀ a a', (rs[i]?.getD Rw.nil).A = some a → (rs[j]?.getD Rw.nil).A = some a' → a.block ≠ a'.block) ∧
  ∀ r ∈ rs, 0 < r.xs.length → ∀ a a', A = some a → r.A = some a' → a.block ≠ a'.block
theorem WSl.same {B : Nat} {w w' : World} {A : Option Addr} {n : Nat} (h : WSl B w A n) (hs : w.heap.size = w'.heap.size) (hf : ∀ a, w'.frozen? a = w.frozen? a) : WSl B w' A n := fun hn => by
  obtain ⟨b, off, e, hB, hl, hz⟩ := h hn
  exact ⟨b, off, e, hB, by omega, fun i hi => (hf _).trans (hz i hi)⟩
end Go.Proofs.Ytdenfmgmapgpiaa
