/-
  Triples out of digits, by the program: it ranges over the library's backward iterator. Condition: the rows' reach.
-/
import Derived.RangeFuncBox
import Derived.RangeFuncNested
import Derived.RangeFuncBound
import Derived.RangeFuncCalls
import Derived.RangeFuncLeaves
import Derived.Shelf.Abstract
import Derived.Shelf.RegionOpen
import Derived.OwnWalkIn
import Derived.TacticsInMore
import Derived.LoopNIn
import Derived.LoopIn
import Derived.Test.YtdenfmgmapgpiaaCtd
namespace Go.Proofs.Ytdenfmgmapgpiaa
open Go.RowKit Go.Shelf
set_option maxHeartbeats 2000000
attribute [local go_sem] Oper.semAt_some
def uptoR {α : Type} (f : Nat → α) (k : Nat) : List α := (List.range k).map f
theorem uptoR_succ {α : Type} (f : Nat → α) (k : Nat) : uptoR f (k + 1) = uptoR f k ++ [f k] := by simp [uptoR, List.range_succ]
theorem uptoR_length {α : Type} (f : Nat → α) (k : Nat) : (uptoR f k).length = k := by simp [uptoR]
def KpR (n₀ Bs : Nat) (W W' : World) : Prop := Below n₀ W W' ∧ W'.heap[Bs]? = W.heap[Bs]?
theorem KpR.refl (n₀ Bs : Nat) (W : World) : KpR n₀ Bs W W := ⟨Below.refl _ _, rfl⟩
theorem KpR.trans {n₀ Bs : Nat} {A B C : World} (h : KpR n₀ Bs A B) (k : KpR n₀ Bs B C) : KpR n₀ Bs A C := ⟨h.1.trans k.1, k.2.trans h.2⟩
theorem KpR.box {n₀ Bs : Nat} {A B : World} {v : Value} (h : KpR n₀ Bs A B) (hc : A.cell? ⟨Bs, 0, none⟩ = some v) : B.cell? ⟨Bs, 0, none⟩ = some v := (World.cell?_of_block (a := ⟨Bs, 0, none⟩) h.2).trans hc
def bkN (n j : Nat) : Nat := n - 1 - j
set_option maxRecDepth 100000 in
theorem backR_in (F : Fence) (n : Nat) (h7 : F.fn 86) (hro : F.round = none) (hn : 1 ≤ n) (l Bs n₀ cap : Nat) (A : Option Addr) (zs : List Rw) (hreach : zs.length ≤ 281474976710656) (J Jx : List (Fin zs.length) → World → Prop)
    (hY : ∀ pre x W, J pre W → pre.length < zs.length → YieldAt F (n - 1) Try.prog l #[.int .i64 (x.val : Int), zs[x.val].v] W fun e W' =>
      (e = .returned (.bool true) ∧ J (pre ++ [x]) W' ∧ KpR n₀ Bs W W') ∨ (e = .returned (.bool false) ∧ Jx (pre ++ [x]) W'))
    (W : World) (hBs : W.cell? ⟨Bs, 0, none⟩ = some (.slice A zs.length cap)) (hc : 0 < zs.length → ∃ b off, A = some ⟨b, off, none⟩ ∧ b < n₀ ∧ ∀ j, j < zs.length → W.cell? ⟨b, off + j, none⟩ = some (zs[j]?.getD Rw.nil).v) (h0 : J [] W) :
    CallsIn F n Try.prog 86 #[.func (.yield l) #[] #[], .pointer (some ⟨Bs, 0, none⟩)] W fun e W' => (∃ v, e = .returned v) ∧
      ((∃ ys, ys.map (·.val) = uptoR (bkN zs.length) zs.length ∧ J ys W') ∨ (∃ pre, (∃ k, k ≤ zs.length ∧ pre.map (·.val) = uptoR (bkN zs.length) k) ∧ Jx pre W')) := by
  refine callsIn_of_wp Try.func86 rfl h7 ?_ hro
  simp only [Try.ntmps86, List.size_toArray, List.length_cons, List.length_nil, Nat.reduceAdd, Nat.reduceSub, Array.replicate_succ, Array.replicate_zero, List.push_toArray, List.append_toArray, List.nil_append, List.cons_append]
  gi_wp2
  gi_loopw [3] (fun i wr => ∃ (k : Nat) (pre : List (Fin zs.length)), k ≤ zs.length ∧ i = .int .i64 ((zs.length : Int) - 1 - k) ∧ pre.map (·.val) = uptoR (bkN zs.length) k ∧ J pre wr ∧ KpR n₀ Bs W wr)
    (fun i _ => (intOf i + 1).toNat)
  case atStart => exact ⟨0, [], Nat.zero_le _, by go_num, rfl, h0, KpR.refl _ _ _⟩
  case round =>
    obtain ⟨k, pre, hk, rfl, hpre, hJs, hnx⟩ := hrel
    by_cases hlt : k < zs.length
    · obtain ⟨p, hp⟩ : ∃ p : Nat, p = zs.length - 1 - k := ⟨_, rfl⟩
      have hpi : (zs.length : Int) - 1 - k = (p : Int) := by omega
      have hpl : p < zs.length := by omega
      obtain ⟨b, off, rfl, hb, hcc⟩ := hc (by omega)
      have hcx := (hnx.1.cell (p := ⟨b, off + p, none⟩) hb).trans (hcc p hpl)
      have hBx := hnx.box hBs
      have hlp : pre.length = k := by have := congrArg List.length hpre; rwa [List.length_map, uptoR_length] at this
      have hyy := hY pre ⟨p, hpl⟩ wr hJs (by omega)
      have hbk : (pre ++ [(⟨p, hpl⟩ : Fin zs.length)]).map (·.val) = uptoR (bkN zs.length) (k + 1) := by rw [List.map_append, hpre, uptoR_succ, bkN, ← hp]; rfl
      rw [List.getElem?_eq_getElem hpl, Option.getD_some] at hcx
      obtain ⟨xv, hxv⟩ : ∃ v, zs[p].v = v := ⟨_, rfl⟩
      rw [hxv] at hcx hyy
      obtain ⟨fn, tmps, assign, body, hy, hR⟩ := hyy
      dsimp only at hy
      rw [hpi]
      have hstep : (p : Int) - 1 = (zs.length : Int) - 1 - ((k + 1 : Nat) : Int) := by omega
      have HST := Lib.hid hstep
      have HBK := Lib.hid hbk
      have hp0 : (0 : Int) ≤ (p : Int) := by omega
      have hp1 : (p : Int) < (zs.length : Int) := by omega
      clear hp hpi hbk hstep hBs hc hcc hxv hpre hlp
      gi_wp2
      refine hR.mono ?_
      rintro e W3 (⟨rfl, hJ3, hk3⟩ | ⟨rfl, hJx3⟩)
      · gi_wp2
        go_roundw
        case rel => exact ⟨k + 1, _, by omega, by rw [HST.out], HBK.out, hJ3, hnx.trans hk3⟩
        case measure => simp [intOf]
      · gi_wp2
        refine bodyPost_ret (results_none rfl _ _ _) rfl ?_
        exact ⟨⟨_, rfl⟩, .inr ⟨_, ⟨k + 1, by omega, HBK.out⟩, hJx3⟩⟩
    · obtain rfl : k = zs.length := by omega
      have hz : (zs.length : Int) - 1 - (zs.length : Int) = -1 := by omega
      have HP := Lib.hid hpre
      clear hpre
      rw [hz]
      gi_wp2
      go_end0
      exact ⟨⟨_, rfl⟩, .inl ⟨_, HP.out, hJs⟩⟩
theorem backR_any (A : Option Addr) (n c : Nat) (w : World) : Calls Try.prog 53 #[.slice A n c] w fun e w' =>
    e = .returned (.func (.func 86) #[] #[.pointer (some ⟨w.heap.size, 0, none⟩)]) ∧ w' = w.alloc (.cells #[.slice A n c] 27) := by
  go_enter Try.func53, Try.ntmps53
  go_wp2
  go_ret
  exact ⟨rfl, rfl⟩
theorem backR_stops (F : Fence) (n : Nat) (h7 : F.fn 86) (hro : F.round = none) (hn : 1 ≤ n) (Bs n₀ cap : Nat) (A : Option Addr) (zs : List Rw) (hreach : zs.length ≤ 281474976710656) (w : World) (hBs : Bs < w.heap.size) (hn₀ : n₀ ≤ w.heap.size)
    (hc : w.cell? ⟨Bs, 0, none⟩ = some (.slice A zs.length cap)) (hI : 0 < zs.length → ∃ b off, A = some ⟨b, off, none⟩ ∧ b < n₀ ∧ ∀ j, j < zs.length → w.cell? ⟨b, off + j, none⟩ = some (zs[j]?.getD Rw.nil).v) :
    SeqStopsK F n Try.prog 86 #[.pointer (some ⟨Bs, 0, none⟩)] (fun x : Fin zs.length => #[Value.int .i64 (x.val : Int), zs[x.val].v]) (KpR n₀ Bs) (fun ys => ys.map (·.val) = uptoR (bkN zs.length) zs.length) (fun pre => ∃ k, k ≤ zs.length ∧ pre.map (·.val) = uptoR (bkN zs.length) k) zs.length w :=
  fun l J Jx W hW _ _ hY h0 =>
    backR_in F n h7 hro hn l Bs n₀ cap A zs hreach J Jx hY W ((hW.cell (p := ⟨Bs, 0, none⟩) hBs).trans hc) (fun hp => by obtain ⟨b, off, e, hb, hh⟩ := hI hp; exact ⟨b, off, e, hb, fun j hj => (hW.cell (p := ⟨b, off + j, none⟩) (show b < _ by omega)).trans (hh j hj)⟩) h0
theorem kpR_b {n₀ Bs : Nat} {w : World} (hn : n₀ ≤ w.heap.size) (hB : Bs < w.heap.size) : ∀ (W : World) (l : Nat) (o o' : Obj), w.heap.size ≤ l → W.heap[l]? = some o → o.isCells = false → o.isWalk = false → KpR n₀ Bs W (W.putObj l o') := by
  intro W l o o' hl ho h1 h2
  refine ⟨belowK_b hn W l o o' hl ho h1 h2, ?_⟩
  exact (belowK_b (w := w) (Nat.le_refl _) W l o o' hl ho h1 h2).block Bs hB
theorem kpR_set {n₀ Bs b o : Nat} {W W' : World} {v : Value} (h : KpR n₀ Bs W W') (hb : n₀ ≤ b) (hne : Bs ≠ b) : KpR n₀ Bs W (W'.setCell ⟨b, o, none⟩ v) :=
  ⟨h.1.setCell (p := ⟨b, o, none⟩) hb _, (Below.heap_setCell W' ⟨b, o, none⟩ v Bs hne).trans h.2⟩
theorem bx_ownR {A B : World} {row : Option Nat} {k t : Nat} {v : Value} (h : Boxed A k t v) (hg : A.grownBy B row) (hr : ∀ r, row = some r → ∃ o : Obj, A.heap[r]? = some o ∧ o.isCells = false) : Boxed B k t v :=
  h.kept hg (fun e => by
    obtain ⟨o, ho, hc⟩ := hr k e.symm
    rw [show A.heap[k]? = _ from h] at ho
    cases ho
    cases hc)
theorem bx_otherR {W : World} {B B' o t : Nat} {v : Value} (h : Boxed W B t v) (hne : B ≠ B') (u : Value) : Boxed (W.setCell ⟨B', o, none⟩ u) B t v := (Below.heap_setCell W ⟨B', o, none⟩ u B hne).trans h
theorem post_genR {F : Fence} {n : Nat} {P : Program} {fn : Func} {R : Ending → World → Prop} {ex : Exit} {a : Act} {W : World} {G : World → Prop} (hF : G W) (h : ∀ w2, G w2 → bodyPostM F n P fn R ex a w2) : bodyPostM F n P fn R ex a W := h W hF
end Go.Proofs.Ytdenfmgmapgpiaa
