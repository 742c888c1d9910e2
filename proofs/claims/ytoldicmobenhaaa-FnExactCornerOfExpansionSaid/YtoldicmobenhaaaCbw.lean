/-
  The library's backward iterator over a row of whole numbers: its contract. Condition: the row's reach.
-/
import Derived.RangeFuncBox
import Derived.RangeFuncNested
import Derived.RangeFuncBound
import Derived.RangeFuncCalls
import Derived.RangeFuncLeaves
import Derived.Shelf.Abstract
import Derived.Shelf.RegionOpen
import Derived.OwnWalkIn
import Derived.TacticsInMore
import Derived.LoopNIn
import Derived.LoopIn
import Derived.StillTailTactics
import Derived.Test.YtoldicmobenhaaaCsl
import Derived.Test.YtoldicmobenhaaaCpu
namespace Go.Proofs.Ytoldicmobenhaaa
open Go.RowKit Go.Shelf
set_option maxHeartbeats 2000000
attribute [local go_sem] Oper.semAt_some
def upto {α : Type} (f : Nat → α) (k : Nat) : List α := (List.range k).map f
theorem upto_succ {α : Type} (f : Nat → α) (k : Nat) : upto f (k + 1) = upto f k ++ [f k] := by simp [upto, List.range_succ]
theorem upto_length {α : Type} (f : Nat → α) (k : Nat) : (upto f k).length = k := by simp [upto]
/-- What a round keeps: what lay below n₀, and the box of the row. -/
def KpB (n₀ Bs : Nat) (W W' : World) : Prop := Below n₀ W W' ∧ W'.heap[Bs]? = W.heap[Bs]?
theorem KpB.refl (n₀ Bs : Nat) (W : World) : KpB n₀ Bs W W := ⟨Below.refl _ _, rfl⟩
theorem KpB.trans {n₀ Bs : Nat} {A B C : World} (h : KpB n₀ Bs A B) (k : KpB n₀ Bs B C) : KpB n₀ Bs A C := ⟨h.1.trans k.1, k.2.trans h.2⟩
theorem KpB.box {n₀ Bs : Nat} {A B : World} {v : Value} (h : KpB n₀ Bs A B) (hc : A.cell? ⟨Bs, 0, none⟩ = some v) : B.cell? ⟨Bs, 0, none⟩ = some v := (World.cell?_of_block (a := ⟨Bs, 0, none⟩) h.2).trans hc
/-- What comes as number j: place and value, from the end on. -/
def bk (zs : List Int) (j : Nat) : Nat × Int := (zs.length - 1 - j, zs[zs.length - 1 - j]?.getD 0)
set_option maxRecDepth 100000 in
theorem back1_in (F : Fence) (n : Nat) (h7 : F.fn 96) (hro : F.round = none) (hn : 1 ≤ n) (l Bs n₀ b off cap : Nat) (zs : List Int) (hreach : zs.length * 8 ≤ 140737488351232) (hb : b < n₀) (J Jx : List (Nat × Int) → World → Prop)
    (hY : ∀ pre x W, J pre W → pre.length < zs.length → YieldAt F (n - 1) Try.prog l #[.int .i64 (x.1 : Int), .int .i64 x.2] W fun e W' =>
      (e = .returned (.bool true) ∧ J (pre ++ [x]) W' ∧ KpB n₀ Bs W W') ∨ (e = .returned (.bool false) ∧ Jx (pre ++ [x]) W'))
    (W : World) (hBs : W.cell? ⟨Bs, 0, none⟩ = some (.slice (some ⟨b, off, none⟩) zs.length cap)) (hc : ∀ j, j < zs.length → W.cell? ⟨b, off + j, none⟩ = some (.int .i64 (zs[j]?.getD 0))) (h0 : J [] W) :
    CallsIn F n Try.prog 96 #[.func (.yield l) #[] #[], .pointer (some ⟨Bs, 0, none⟩)] W fun e W' => (∃ v, e = .returned v) ∧
      ((∃ ys, ys = upto (bk zs) zs.length ∧ J ys W') ∨ (∃ pre, (∃ k, k ≤ zs.length ∧ pre = upto (bk zs) k) ∧ Jx pre W')) := by
  refine callsIn_of_wp Try.func96 rfl h7 ?_ hro
  simp only [Try.ntmps96, List.size_toArray, List.length_cons, List.length_nil, Nat.reduceAdd, Nat.reduceSub, Array.replicate_succ, Array.replicate_zero, List.push_toArray, List.append_toArray, List.nil_append, List.cons_append]
  gi_wp2
  gi_loopw [3] (fun i wr => ∃ k : Nat, k ≤ zs.length ∧ i = .int .i64 ((zs.length : Int) - 1 - k) ∧ J (upto (bk zs) k) wr ∧ KpB n₀ Bs W wr)
    (fun i _ => (intOf i + 1).toNat)
  case atStart => exact ⟨0, Nat.zero_le _, by go_num, h0, KpB.refl _ _ _⟩
  case round =>
    obtain ⟨k, hk, rfl, hJs, hnx⟩ := hrel
    by_cases hlt : k < zs.length
    · obtain ⟨p, hp⟩ : ∃ p : Nat, p = zs.length - 1 - k := ⟨_, rfl⟩
      have hpi : (zs.length : Int) - 1 - k = (p : Int) := by omega
      have hpl : p < zs.length := by omega
      have hcx := (hnx.1.cell (p := ⟨b, off + p, none⟩) hb).trans (hc p hpl)
      have hBx := hnx.box hBs
      have hyy := hY _ (bk zs k) wr hJs (by rw [upto_length]; exact hlt)
      have hbk : bk zs k = (p, zs[p]?.getD 0) := by rw [bk, hp]
      rw [hbk] at hyy
      obtain ⟨x, hx⟩ : ∃ x, zs[p]?.getD 0 = x := ⟨_, rfl⟩
      rw [hx] at hyy hcx hbk
      obtain ⟨fn, tmps, assign, body, hy, hR⟩ := hyy
      dsimp only at hy
      rw [hpi]
      have hstep : (p : Int) - 1 = (zs.length : Int) - 1 - ((k + 1 : Nat) : Int) := by omega
      have HST := Lib.hid hstep
      have HBK := Lib.hid hbk
      have hp0 : (0 : Int) ≤ (p : Int) := by omega
      have hp1 : (p : Int) < (zs.length : Int) := by omega
      clear hp hpi hbk hx hstep hBs hc
      gi_wp2
      refine hR.mono ?_
      rintro e W3 (⟨rfl, hJ3, hk3⟩ | ⟨rfl, hJx3⟩)
      · gi_wp2
        go_roundw
        case rel => exact ⟨k + 1, by omega, by rw [HST.out], by rw [upto_succ, HBK.out]; exact hJ3, hnx.trans hk3⟩
        case measure => simp [intOf]
      · gi_wp2
        refine bodyPost_ret (results_none rfl _ _ _) rfl ?_
        exact ⟨⟨_, rfl⟩, .inr ⟨_, ⟨k + 1, by omega, by rw [upto_succ, HBK.out]⟩, hJx3⟩⟩
    · obtain rfl : k = zs.length := by omega
      have hz : (zs.length : Int) - 1 - (zs.length : Int) = -1 := by omega
      rw [hz]
      gi_wp2
      go_end0
      exact ⟨⟨_, rfl⟩, .inl ⟨_, rfl, hJs⟩⟩
theorem back_any (A : Option Addr) (n c : Nat) (w : World) : Calls Try.prog 78 #[.slice A n c] w fun e w' =>
    e = .returned (.func (.func 96) #[] #[.pointer (some ⟨w.heap.size, 0, none⟩)]) ∧ w' = w.alloc (.cells #[.slice A n c] 44) := by
  go_enter Try.func78, Try.ntmps78
  go_wp2
  go_ret
  exact ⟨rfl, rfl⟩
theorem back_stops (F : Fence) (n : Nat) (h7 : F.fn 96) (hro : F.round = none) (hn : 1 ≤ n) (Bs n₀ b off cap : Nat) (zs : List Int) (hreach : zs.length * 8 ≤ 140737488351232) (w : World) (hBs : Bs < w.heap.size) (hb : b < n₀) (hn₀ : n₀ ≤ w.heap.size)
    (hc : w.cell? ⟨Bs, 0, none⟩ = some (.slice (some ⟨b, off, none⟩) zs.length cap)) (hI : ∀ j, j < zs.length → w.cell? ⟨b, off + j, none⟩ = some (.int .i64 (zs[j]?.getD 0))) :
    SeqStopsK F n Try.prog 96 #[.pointer (some ⟨Bs, 0, none⟩)] (fun x : Nat × Int => #[Value.int .i64 (x.1 : Int), Value.int .i64 x.2]) (KpB n₀ Bs) (fun ys => ys = upto (bk zs) zs.length) (fun pre => ∃ k, k ≤ zs.length ∧ pre = upto (bk zs) k) zs.length w :=
  fun l J Jx W hW _ _ hY h0 =>
    back1_in F n h7 hro hn l Bs n₀ b off cap zs hreach hb J Jx hY W ((hW.cell (p := ⟨Bs, 0, none⟩) hBs).trans hc) (fun j hj => (hW.cell (p := ⟨b, off + j, none⟩) (show b < _ by omega)).trans (hI j hj)) h0
theorem kpB_b {n₀ Bs : Nat} {w : World} (hn : n₀ ≤ w.heap.size) (hB : Bs < w.heap.size) : ∀ (W : World) (l : Nat) (o o' : Obj), w.heap.size ≤ l → W.heap[l]? = some o → o.isCells = false → o.isWalk = false → KpB n₀ Bs W (W.putObj l o') := by
  intro W l o o' hl ho h1 h2
  refine ⟨belowK_b hn W l o o' hl ho h1 h2, ?_⟩
  have := (belowK_b (w := w) (Nat.le_refl _) W l o o' hl ho h1 h2).block Bs hB
  exact this
def foldF : List Int → Int → Int → Int × Int × Bool
  | [], p, q => (p, q, true)
  | a :: l, p, q => if (coB (wrap64 (wrap64 (a * p) + q)) && coB p) = true then foldF l (wrap64 (wrap64 (a * p) + q)) p else (0, 0, false)
theorem foldF_snoc (a : Int) : ∀ (l : List Int) (p0 q0 p q : Int), foldF l p0 q0 = (p, q, true) → foldF (l ++ [a]) p0 q0 = if (coB (wrap64 (wrap64 (a * p) + q)) && coB p) = true then (wrap64 (wrap64 (a * p) + q), p, true) else (0, 0, false)
  | [], p0, q0, p, q, h => by cases h; rfl
  | b :: l, p0, q0, p, q, h => by
    rw [foldF] at h
    rw [List.cons_append, foldF]
    split at h
    · rename_i hc
      rw [if_pos hc]
      exact foldF_snoc a l _ _ p q h
    · cases h
theorem foldF_fail (l2 : List Int) : ∀ (l : List Int) (p0 q0 : Int), foldF l p0 q0 = (0, 0, false) → foldF (l ++ l2) p0 q0 = (0, 0, false)
  | [], p0, q0, h => by cases h
  | b :: l, p0, q0, h => by
    rw [foldF] at h
    rw [List.cons_append, foldF]
    split at h
    · rename_i hc
      rw [if_pos hc]
      exact foldF_fail l2 l _ _ h
    · rename_i hc
      rw [if_neg hc]
theorem upto_bk_map (zs : List Int) : (upto (bk zs) zs.length).map (·.2) = zs.reverse := by
  apply List.ext_getElem
  · simp [upto]
  · intro i h1 h2
    simp [upto] at h1
    simp [upto, bk, List.getElem_reverse]
    rw [List.getElem?_eq_getElem (by omega)]
    rfl
theorem upto_bk_prefix (zs : List Int) {k : Nat} (hk : k ≤ zs.length) : ∃ l2, (upto (bk zs) k).map (·.2) ++ l2 = zs.reverse := by
  refine ⟨((List.range (zs.length - k)).map fun j => (bk zs (k + j)).2), ?_⟩
  rw [← upto_bk_map zs]
  apply List.ext_getElem
  · simp [upto]; omega
  · intro i h1 h2
    simp [upto] at h1 h2
    rw [List.getElem_append]
    split
    · simp [upto]
    · rename_i hge
      simp [upto] at hge
      simp [upto]
      rw [show k + (i - k) = i by omega]
def itB (i : Nat) (x : Int) : Bool := coB x && (i == 0 || decide (1 ≤ x))
def okF (xs : List Int) : Bool := (List.range xs.length).all fun i => itB i (xs[i]?.getD 0)
theorem okF_true {xs : List Int} (h : ∀ i, i < xs.length → itB i (xs[i]?.getD 0) = true) : okF xs = true := by
  unfold okF
  rw [List.all_eq_true]
  intro i hi
  exact h i (List.mem_range.1 hi)
theorem okF_false {xs : List Int} {i : Nat} (hi : i < xs.length) (h : itB i (xs[i]?.getD 0) = false) : okF xs = false := by
  rw [Bool.eq_false_iff]
  intro ha
  unfold okF at ha
  rw [List.all_eq_true] at ha
  have := ha i (List.mem_range.2 hi)
  rw [h] at this
  cases this
def fracF (xs : List Int) : Int × Int × Int :=
  if inB (xs.length : Int) 1 60 = true then
    (if okF xs = true then (if (foldF xs.reverse 1 0).2.2 = true then ((foldF xs.reverse 1 0).1, (foldF xs.reverse 1 0).2.1, 0) else (0, 0, 3)) else (0, 0, 2))
  else (0, 0, 2)
theorem cell_al {w : World} (o : Obj) {a : Addr} {v : Value} (h : w.cell? a = some v) : (w.alloc o).cell? a = some v := (World.cell?_alloc_lt w o a (World.block_lt_of_cell? w a h)).trans h
theorem kpB_set {n₀ Bs b : Nat} {W W' : World} {v : Value} (h : KpB n₀ Bs W W') (hb : n₀ ≤ b) (hne : Bs ≠ b) (hlt : Bs < W'.heap.size) : KpB n₀ Bs W (W'.setCell ⟨b, 0, none⟩ v) :=
  ⟨h.1.setCell (p := ⟨b, 0, none⟩) hb _, by rw [← h.2]; exact (grownBy_setCell' W' b v).block Bs hlt (fun e => hne (by cases e; rfl))⟩
theorem bx_own {A B : World} {row : Option Nat} {k t : Nat} {v : Value} (h : Boxed A k t v) (hg : A.grownBy B row) (hr : ∀ r, row = some r → ∃ o : Obj, A.heap[r]? = some o ∧ o.isCells = false) : Boxed B k t v :=
  h.kept hg (fun e => by
    obtain ⟨o, ho, hc⟩ := hr k e.symm
    rw [show A.heap[k]? = _ from h] at ho
    cases ho
    cases hc)
theorem bx_drew {W : World} {k t : Nat} {v : Value} (h : Boxed W k t v) : Boxed W.drew k t v := h
theorem fracF_2 {xs : List Int} (h1 : inB (xs.length : Int) 1 60 = true) (h : okF xs = false) : fracF xs = (0, 0, 2) := by simp [fracF, h1, h]
theorem fracF_0 {xs : List Int} (h1 : inB (xs.length : Int) 1 60 = true) (h : okF xs = true) {p q : Int} (hf : foldF xs.reverse 1 0 = (p, q, true)) : fracF xs = (p, q, 0) := by simp [fracF, h1, h, hf]
theorem fracF_3 {xs : List Int} (h1 : inB (xs.length : Int) 1 60 = true) (h : okF xs = true) (hf : foldF xs.reverse 1 0 = (0, 0, false)) : fracF xs = (0, 0, 3) := by simp [fracF, h1, h, hf]
theorem fracF_n {xs : List Int} (h1 : inB (xs.length : Int) 1 60 = false) : fracF xs = (0, 0, 2) := by simp [fracF, h1]
theorem wp_gen {P : Program} {Q : Exit → Act → World → Prop} {c : Code} {a : Act} {W : World} {F : World → Prop} (hF : F W) (h : ∀ w2, F w2 → Code.wp P c Q a w2) : Code.wp P c Q a W := h W hF
set_option maxRecDepth 100000 in
theorem implFrac_any (A : Option Addr) (n c : Nat) (xs : List Int) (w : World) (h : ISl w A n xs) (hn : n ≤ 1048576) : Calls Try.prog 41 #[.slice A n c] w fun e w' =>
    e = .returned (.tuple #[.int .i64 (fracF xs).1, .int .i64 (fracF xs).2.1, .int .i64 (fracF xs).2.2]) ∧ Below w.heap.size w w' := by
  obtain ⟨rfl, hx⟩ := h
  have hin := fun W => in_any (xs.length : Int) 1 60 W
  have hbd := @inB_iff (xs.length : Int) 1 60
  have f2 := @fracF_2 xs
  have f0 := @fracF_0 xs
  have f3 := @fracF_3 xs
  have fn := @fracF_n xs
  obtain ⟨R, eR⟩ : ∃ R, fracF xs = R := ⟨_, rfl⟩
  rw [eR] at f2 f0 f3 fn ⊢
  clear eR
  obtain ⟨p, ep⟩ : ∃ p, inB (xs.length : Int) 1 60 = p := ⟨_, rfl⟩
  rw [ep] at hin hbd f2 f0 f3 fn
  have HI := Lib.hid hin
  clear hin ep
  refine callsIn_wide.1 (callsIn_of_wp_marks (n := 3) Try.func41 rfl trivial ?_ rfl)
  simp only [Try.ntmps41, List.size_toArray, List.length_cons, List.length_nil, Nat.reduceAdd, Nat.reduceSub, Array.replicate_succ, Array.replicate_zero, List.push_toArray, List.append_toArray, List.nil_append, List.cons_append]
  refine wpIn_wide.2 ?_
  cases p
  · obtain rfl := fn rfl
    clear hbd f2 f0 f3 fn
    go_wp2_with (first | (go_at_call 76; (with_reducible refine (HI.out _).mono ?_); rintro e w' ⟨rfl, rfl⟩))
    refine ⟨.tuple #[.int .i64 0, .int .i64 0, .int .i64 2], ?_, rfl, by (repeat' (first | (with_reducible exact Below.refl _ _) | (with_reducible refine Below.alloc ?_ ?_ _) | (with_reducible refine Below.drew ?_) | (with_reducible refine below_drewN' ?_ _) | (with_reducible refine Below.setCell ?_ ?_ _) | (with_reducible refine Below.trans ?_ (Below.mono (by assumption) ?_)) | go_size))⟩
    simp [results, Try.f41, go_sem]
  · have hlen := hbd.1 rfl
    have F2 := Lib.hid (f2 rfl)
    have F0 := Lib.hid (fun (p q : Int) (hok : okF xs = true) (hf : foldF xs.reverse 1 0 = (p, q, true)) => f0 rfl hok hf)
    have F3 := Lib.hid (f3 rfl)
    clear hbd f2 f0 f3 fn
    go_wp2_with (first | (go_at_call 76; (with_reducible refine (HI.out _).mono ?_); rintro e w' ⟨rfl, rfl⟩))
    obtain ⟨b, off, rfl, hb, hr⟩ := hx (by omega)
    clear hx
    go_loop [17] (fun i => ∃ k : Nat, k ≤ xs.length ∧ i = .int .i64 k ∧ ∀ j, j < k → itB j (xs[j]?.getD 0) = true) (fun i => xs.length - (intOf i).toNat)
    case atStart => exact ⟨0, Nat.zero_le _, rfl, fun j hj => absurd hj (by omega)⟩
    case round =>
      obtain ⟨k, hk, rfl, hq⟩ := hrel
      by_cases hlt : k < xs.length
      · have h1 : (((w.alloc (.cells #[.int .i64 0] 2)).alloc (.cells #[.int .i64 0] 2)).alloc (.cells #[.int .i64 0] 2)).cell? ⟨b, off + k, none⟩ = some (.int .i64 (xs[k]?.getD 0)) := cell_al _ (cell_al _ (cell_al _ (hr k hlt)))
        obtain ⟨x, hp⟩ : ∃ p, xs[k]?.getD 0 = p := ⟨_, rfl⟩
        rw [hp] at h1
        have HQ := Lib.hid hq
        have HP := Lib.hid hp
        clear hp hr hq
        have hi0 : (0 : Int) ≤ (k : Int) := by omega
        have hi1 : (k : Int) < (xs.length : Int) := by omega
        have hco := fun W => isCoord_any x W
        obtain ⟨z, hz⟩ : ∃ z, coB x = z := ⟨_, rfl⟩
        rw [hz] at hco
        have HCO := Lib.hid hco
        have HZ := Lib.hid hz
        have HLT := Lib.hid hlt
        clear hco hz
        cases z <;> go_wp2_with (first | (go_at_call 77; (with_reducible refine (HCO.out _).mono ?_); rintro e w' ⟨rfl, rfl⟩))
        all_goals first
          | (obtain rfl := F2.out (okF_false HLT.out (by rw [HP.out]; simp [itB, HZ.out] <;> omega)); refine ⟨.tuple #[.int .i64 0, .int .i64 0, .int .i64 2], ?_, rfl, by (repeat' (first | (with_reducible exact Below.refl _ _) | (with_reducible refine Below.alloc ?_ ?_ _) | (with_reducible refine Below.drew ?_) | (with_reducible refine below_drewN' ?_ _) | (with_reducible refine Below.setCell ?_ ?_ _) | (with_reducible refine Below.trans ?_ (Below.mono (by assumption) ?_)) | go_size))⟩; simp [results, Try.f41, go_sem]; done)
          | (refine ⟨⟨k + 1, by omega, by go_num, fun j hj => ?_⟩, by simp [intOf]; omega⟩; (by_cases hjk : j < k); exact HQ.out j hjk; obtain rfl : j = k := (by omega); rw [HP.out]; simp [itB, HZ.out] <;> omega)
          | skip
      · obtain rfl : k = xs.length := by omega
        have hok := okF_true hq
        have F0' := Lib.hid (fun (p q : Int) => F0.out p q hok)
        have F3' := Lib.hid (F3.out hok)
        have HR := Lib.hid hr
        clear hq hok F2 F0 F3 hr
        go_wp2_with (first | (go_at_call 78; (with_reducible refine (back_any _ _ _ _).mono ?_); rintro e w' ⟨rfl, rfl⟩))
        simp only [Nat.add_assoc, Nat.reduceAdd]
        refine wp_gen (F := fun W1 => W1.heap.size = w.heap.size + 6 ∧ Boxed W1 (w.heap.size) 2 (.int .i64 0) ∧ Boxed W1 (w.heap.size + 1) 2 (.int .i64 0) ∧ Boxed W1 (w.heap.size + 2) 2 (.int .i64 0) ∧ Boxed W1 (w.heap.size + 3) 2 (.int .i64 1) ∧ Boxed W1 (w.heap.size + 4) 2 (.int .i64 0) ∧ Boxed W1 (w.heap.size + 5) 44 (.slice (some ⟨b, off, none⟩) xs.length c) ∧ Below w.heap.size w W1) ?_ (fun W1 hW1 => ?_)
        · refine ⟨by simp, ?_, ?_, ?_, ?_, ?_, ?_, by (repeat' (first | (with_reducible exact Below.refl _ _) | (with_reducible refine Below.alloc ?_ ?_ _) | (with_reducible refine Below.drew ?_) | (with_reducible refine below_drewN' ?_ _) | (with_reducible refine Below.setCell ?_ ?_ _) | (with_reducible refine Below.trans ?_ (Below.mono (by assumption) ?_)) | go_size))⟩
          · exact ((((((Boxed.new w _ _).alloc _).alloc _).alloc _).alloc _).alloc _)
          · have := (((((Boxed.new (w.alloc (.cells #[.int .i64 0] 2)) 2 (.int .i64 0)).alloc (.cells #[.int .i64 0] 2)).alloc (.cells #[.int .i64 1] 2)).alloc (.cells #[.int .i64 0] 2)).alloc (.cells #[.slice (some ⟨b, off, none⟩) xs.length c] 44))
            simpa only [World.size_alloc, Nat.add_assoc, Nat.reduceAdd] using this
          · have := ((((Boxed.new ((w.alloc (.cells #[.int .i64 0] 2)).alloc (.cells #[.int .i64 0] 2)) 2 (.int .i64 0)).alloc (.cells #[.int .i64 1] 2)).alloc (.cells #[.int .i64 0] 2)).alloc (.cells #[.slice (some ⟨b, off, none⟩) xs.length c] 44))
            simpa only [World.size_alloc, Nat.add_assoc, Nat.reduceAdd] using this
          · have := (((Boxed.new (((w.alloc (.cells #[.int .i64 0] 2)).alloc (.cells #[.int .i64 0] 2)).alloc (.cells #[.int .i64 0] 2)) 2 (.int .i64 1)).alloc (.cells #[.int .i64 0] 2)).alloc (.cells #[.slice (some ⟨b, off, none⟩) xs.length c] 44))
            simpa only [World.size_alloc, Nat.add_assoc, Nat.reduceAdd] using this
          · have := ((Boxed.new ((((w.alloc (.cells #[.int .i64 0] 2)).alloc (.cells #[.int .i64 0] 2)).alloc (.cells #[.int .i64 0] 2)).alloc (.cells #[.int .i64 1] 2)) 2 (.int .i64 0)).alloc (.cells #[.slice (some ⟨b, off, none⟩) xs.length c] 44))
            simpa only [World.size_alloc, Nat.add_assoc, Nat.reduceAdd] using this
          · have := (Boxed.new (((((w.alloc (.cells #[.int .i64 0] 2)).alloc (.cells #[.int .i64 0] 2)).alloc (.cells #[.int .i64 0] 2)).alloc (.cells #[.int .i64 1] 2)).alloc (.cells #[.int .i64 0] 2)) 44 (.slice (some ⟨b, off, none⟩) xs.length c))
            simpa only [World.size_alloc, Nat.add_assoc, Nat.reduceAdd] using this
        · obtain ⟨hz, r0, r1, r2, p0, q0, hbox, hB⟩ := hW1
          refine (wpIn_wide (n := 3)).1 ?_
          refine wpIn_rangeFunc_ownG (F := Fence.wide) (n := 3) rfl (by decide) (gf := 96) (lb := #[.pointer (some ⟨w.heap.size + 5, 0, none⟩)]) rfl trivial (enters_of Try.func96 (by kernel_rfl) rfl)
            (back_stops Fence.wide 2 trivial rfl (by decide) (w.heap.size + 5) w.heap.size b off c xs (by omega) W1 (by omega) hb (by omega) hbox.cell (fun j hj => cell_keep hB (HR.out j hj))) (fun h k => KpB.trans h k) (kpB_b (by omega) (by omega)) (Below.refl _ _) (fun _ => rfl)
            (fun pre W => (∃ p q, foldF (pre.map (·.2)) 1 0 = (p, q, true) ∧ Boxed W (w.heap.size + 3) 2 (.int .i64 p) ∧ Boxed W (w.heap.size + 4) 2 (.int .i64 q) ∧ Boxed W (w.heap.size) 2 (.int .i64 0) ∧ Boxed W (w.heap.size + 1) 2 (.int .i64 0) ∧ Boxed W (w.heap.size + 2) 2 (.int .i64 0)) ∧ Below w.heap.size w W ∧ w.heap.size + 6 ≤ W.heap.size)
            (fun c pre W => (c = .ret ∧ foldF (pre.map (·.2)) 1 0 = (0, 0, false) ∧ Boxed W (w.heap.size) 2 (.int .i64 0) ∧ Boxed W (w.heap.size + 1) 2 (.int .i64 0) ∧ Boxed W (w.heap.size + 2) 2 (.int .i64 3)) ∧ Below w.heap.size w W)
            (OwnFrom.and (Own.from (fun s A B row hs hg hr => by
              obtain ⟨p, q, e, h1, h2, h3, h4, h5⟩ := hs
              exact ⟨p, q, e, bx_own h1 hg hr, bx_own h2 hg hr, bx_own h3 hg hr, bx_own h4 hg hr, bx_own h5 hg hr⟩) _) (OwnFrom.and (ownFrom_below (Nat.le_refl _) (by omega)) (fun s A B row hs hg hr => Nat.le_trans hs hg.size)))
            (fun c => OwnFrom.and (Own.from (fun s A B row hs hg hr => ⟨hs.1, hs.2.1, bx_own hs.2.2.1 hg hr, bx_own hs.2.2.2.1 hg hr, bx_own hs.2.2.2.2 hg hr⟩) _) (ownFrom_below (Nat.le_refl _) (by omega)))
            ⟨⟨1, 0, rfl, p0, q0, r0, r1, r2⟩, hB, by omega⟩
            (fun x => { tmps := #[.slice (some ⟨b, off, none⟩) xs.length c, undef, .pointer (some ⟨w.heap.size, 0, none⟩), .pointer (some ⟨w.heap.size + 1, 0, none⟩), .pointer (some ⟨w.heap.size + 2, 0, none⟩), u5, u6, .pointer (some ⟨w.heap.size + 3, 0, none⟩), .pointer (some ⟨w.heap.size + 4, 0, none⟩), undef, .int .i64 x.2, .slice (some ⟨b, off, none⟩) xs.length c, .int .i64 xs.length, .bool true, .bool false, .slice (some ⟨b, off, none⟩) xs.length c, .int .i64 xs.length, .int .i64 xs.length, .bool false, u19, u20, u21, u22, u23, u24, u25, u26, u27, u28, u29, u30, u31, u32, u33, .slice (some ⟨b, off, none⟩) xs.length c, .func (.func 96) #[] #[.pointer (some ⟨w.heap.size + 5, 0, none⟩)], .int .i64 (x.1 : Int), .int .i64 x.2, undef, undef, undef, undef, undef, undef, undef, undef, undef, undef, undef, undef, undef, undef, undef, undef], defers := [] }) ?assign ?body ?done ?stop
          case assign =>
            intro l x W K hK
            gi_wp2
            exact hK
          case body =>
            rintro l pre x W ⟨⟨p, q, e, h3, h4, h0, h1, h2⟩, hB, hs⟩ _
            have he := foldF_snoc x.2 _ _ _ _ _ e
            have c3 := h3.cell
            have c4 := h4.cell
            have c0 := h0.cell
            have c1 := h1.cell
            have c2 := h2.cell
            have d3 := h3.frozen
            have d4 := h4.frozen
            have d0 := h0.frozen
            have d1 := h1.frozen
            have d2 := h2.frozen
            have H3 := Lib.hid h3
            have H4 := Lib.hid h4
            have H0 := Lib.hid h0
            have H1 := Lib.hid h1
            have H2 := Lib.hid h2
            have HB := Lib.hid hB
            clear h0 h1 h2 h3 h4 hB e F0' F3' HR HI p0 q0 r0 r1 r2 hbox
            obtain ⟨np, hnp⟩ : ∃ np, wrap64 (wrap64 (x.2 * p) + q) = np := ⟨_, rfl⟩
            have hc1 := fun W => CallsIn.inRound (n := 0) l (callsIn_wide.2 (isCoord_any np W))
            have hc2 := fun W => CallsIn.inRound (n := 0) l (callsIn_wide.2 (isCoord_any p W))
            rw [hnp] at he
            obtain ⟨z1, hz1⟩ : ∃ z, coB np = z := ⟨_, rfl⟩
            obtain ⟨z2, hz2⟩ : ∃ z, coB p = z := ⟨_, rfl⟩
            rw [hz1] at hc1 he
            rw [hz2] at hc2 he
            have HE := Lib.hid he
            have HC1 := Lib.hid hc1
            have HC2 := Lib.hid hc2
            clear he hc1 hc2 hz1 hz2
            cases z1 <;> cases z2 <;> gi_wp2_with (first | (refine ⟨trivial, (HC1.out _).mono ?_⟩; rintro e w' ⟨rfl, rfl⟩) | (refine ⟨trivial, (HC2.out _).mono ?_⟩; rintro e w' ⟨rfl, rfl⟩))
            all_goals first | (refine And.intro (show Fence.wide.fn _ from trivial) ?_; gi_wp2) | skip
            all_goals clear HC1 HC2
            all_goals simp only [ownPostG]
            · refine ⟨KeepsOthers.from ?_ _, ⟨trivial, by simpa using HE.out, ?_, ?_, ?_⟩, ?_⟩ <;> repeat' (first | (with_reducible exact KeepsOthers.refl _) | (with_reducible refine KeepsOthers.trans ?_ (KeepsOthers.setCell _ _ _)) | (with_reducible exact H0.out) | (with_reducible exact H1.out) | (with_reducible exact H2.out) | (with_reducible refine Boxed.set (B := w.heap.size) (v := .int .i64 0) _ ?_) | (with_reducible refine Boxed.set (B := w.heap.size + 1) (v := .int .i64 0) _ ?_) | (with_reducible refine Boxed.set (B := w.heap.size + 2) (v := .int .i64 0) _ ?_) | (with_reducible refine Boxed.set (B := w.heap.size + 3) (v := .int .i64 p) _ ?_) | (with_reducible refine Boxed.set (B := w.heap.size + 4) (v := .int .i64 q) _ ?_) | (with_reducible refine Boxed.other ?_ (by omega) _) | (with_reducible exact HB.out) | (with_reducible refine below_beyond ?_ (by omega)))
            · refine ⟨KeepsOthers.from ?_ _, ⟨trivial, by simpa using HE.out, ?_, ?_, ?_⟩, ?_⟩ <;> repeat' (first | (with_reducible exact KeepsOthers.refl _) | (with_reducible refine KeepsOthers.trans ?_ (KeepsOthers.setCell _ _ _)) | (with_reducible exact H0.out) | (with_reducible exact H1.out) | (with_reducible exact H2.out) | (with_reducible refine Boxed.set (B := w.heap.size) (v := .int .i64 0) _ ?_) | (with_reducible refine Boxed.set (B := w.heap.size + 1) (v := .int .i64 0) _ ?_) | (with_reducible refine Boxed.set (B := w.heap.size + 2) (v := .int .i64 0) _ ?_) | (with_reducible refine Boxed.set (B := w.heap.size + 3) (v := .int .i64 p) _ ?_) | (with_reducible refine Boxed.set (B := w.heap.size + 4) (v := .int .i64 q) _ ?_) | (with_reducible refine Boxed.other ?_ (by omega) _) | (with_reducible exact HB.out) | (with_reducible refine below_beyond ?_ (by omega)))
            · refine ⟨KeepsOthers.from ?_ _, ⟨trivial, by simpa using HE.out, ?_, ?_, ?_⟩, ?_⟩ <;> repeat' (first | (with_reducible exact KeepsOthers.refl _) | (with_reducible refine KeepsOthers.trans ?_ (KeepsOthers.setCell _ _ _)) | (with_reducible exact H0.out) | (with_reducible exact H1.out) | (with_reducible exact H2.out) | (with_reducible refine Boxed.set (B := w.heap.size) (v := .int .i64 0) _ ?_) | (with_reducible refine Boxed.set (B := w.heap.size + 1) (v := .int .i64 0) _ ?_) | (with_reducible refine Boxed.set (B := w.heap.size + 2) (v := .int .i64 0) _ ?_) | (with_reducible refine Boxed.set (B := w.heap.size + 3) (v := .int .i64 p) _ ?_) | (with_reducible refine Boxed.set (B := w.heap.size + 4) (v := .int .i64 q) _ ?_) | (with_reducible refine Boxed.other ?_ (by omega) _) | (with_reducible exact HB.out) | (with_reducible refine below_beyond ?_ (by omega)))
            refine ⟨KeepsOthers.from ?_ _, ?_, ⟨np, p, by simpa using HE.out, ?_, ?_, ?_, ?_, ?_⟩, ?_, by simp only [World.size_setCell]; omega⟩
            · (repeat' (first | (with_reducible exact KeepsOthers.refl _) | (with_reducible refine KeepsOthers.trans ?_ (KeepsOthers.setCell _ _ _))))
            · (repeat' (first | (with_reducible exact KpB.refl _ _ _) | (with_reducible refine kpB_set ?_ (by omega) (by omega) (by (try simp only [World.size_setCell]); omega))))
            · (repeat' (first | (with_reducible exact H3.out) | (with_reducible refine Boxed.set (B := w.heap.size) (v := .int .i64 0) _ ?_) | (with_reducible refine Boxed.set (B := w.heap.size + 1) (v := .int .i64 0) _ ?_) | (with_reducible refine Boxed.set (B := w.heap.size + 2) (v := .int .i64 0) _ ?_) | (with_reducible refine Boxed.set (B := w.heap.size + 3) (v := .int .i64 p) _ ?_) | (with_reducible refine Boxed.set (B := w.heap.size + 4) (v := .int .i64 q) _ ?_) | (with_reducible refine Boxed.other ?_ (by omega) _)))
            · (repeat' (first | (with_reducible exact H4.out) | (with_reducible refine Boxed.set (B := w.heap.size) (v := .int .i64 0) _ ?_) | (with_reducible refine Boxed.set (B := w.heap.size + 1) (v := .int .i64 0) _ ?_) | (with_reducible refine Boxed.set (B := w.heap.size + 2) (v := .int .i64 0) _ ?_) | (with_reducible refine Boxed.set (B := w.heap.size + 3) (v := .int .i64 p) _ ?_) | (with_reducible refine Boxed.set (B := w.heap.size + 4) (v := .int .i64 q) _ ?_) | (with_reducible refine Boxed.other ?_ (by omega) _)))
            · (repeat' (first | (with_reducible exact H0.out) | (with_reducible refine Boxed.set (B := w.heap.size) (v := .int .i64 0) _ ?_) | (with_reducible refine Boxed.set (B := w.heap.size + 1) (v := .int .i64 0) _ ?_) | (with_reducible refine Boxed.set (B := w.heap.size + 2) (v := .int .i64 0) _ ?_) | (with_reducible refine Boxed.set (B := w.heap.size + 3) (v := .int .i64 p) _ ?_) | (with_reducible refine Boxed.set (B := w.heap.size + 4) (v := .int .i64 q) _ ?_) | (with_reducible refine Boxed.other ?_ (by omega) _)))
            · (repeat' (first | (with_reducible exact H1.out) | (with_reducible refine Boxed.set (B := w.heap.size) (v := .int .i64 0) _ ?_) | (with_reducible refine Boxed.set (B := w.heap.size + 1) (v := .int .i64 0) _ ?_) | (with_reducible refine Boxed.set (B := w.heap.size + 2) (v := .int .i64 0) _ ?_) | (with_reducible refine Boxed.set (B := w.heap.size + 3) (v := .int .i64 p) _ ?_) | (with_reducible refine Boxed.set (B := w.heap.size + 4) (v := .int .i64 q) _ ?_) | (with_reducible refine Boxed.other ?_ (by omega) _)))
            · (repeat' (first | (with_reducible exact H2.out) | (with_reducible refine Boxed.set (B := w.heap.size) (v := .int .i64 0) _ ?_) | (with_reducible refine Boxed.set (B := w.heap.size + 1) (v := .int .i64 0) _ ?_) | (with_reducible refine Boxed.set (B := w.heap.size + 2) (v := .int .i64 0) _ ?_) | (with_reducible refine Boxed.set (B := w.heap.size + 3) (v := .int .i64 p) _ ?_) | (with_reducible refine Boxed.set (B := w.heap.size + 4) (v := .int .i64 q) _ ?_) | (with_reducible refine Boxed.other ?_ (by omega) _)))
            · (repeat' (first | (with_reducible exact HB.out) | (with_reducible refine below_beyond ?_ (by omega))))
          case done =>
            rintro D ys W hD rfl ⟨⟨p, q, e, h3, h4, h0, h1, h2⟩, hB, hs⟩ hK
            rw [upto_bk_map] at e
            obtain rfl := F0'.out _ _ e
            clear e F3' F0' HR HI p0 q0 r0 r1 r2 hbox
            have c3 := h3.cell
            have c4 := h4.cell
            have c0 := h0.cell
            have c1 := h1.cell
            have c2 := h2.cell
            have d3 := h3.frozen
            have d4 := h4.frozen
            have d0 := h0.frozen
            have d1 := h1.frozen
            have d2 := h2.frozen
            have H3 := Lib.hid h3
            have H4 := Lib.hid h4
            have H0 := Lib.hid h0
            have H1 := Lib.hid h1
            have H2 := Lib.hid h2
            have HB := Lib.hid hB
            have HK := Lib.hid hK
            clear h0 h1 h2 h3 h4 hB hK
            simp only [Exit.inBlock, Exit.then]
            go_wp2
            go_region
            all_goals go_wp2
            have hK' := (((((KeepsOthers.setCell W ⟨w.heap.size, 0, none⟩ (.int .i64 p)).trans (KeepsOthers.setCell _ ⟨w.heap.size + 1, 0, none⟩ (.int .i64 q))).trans (KeepsOthers.setCell _ ⟨w.heap.size + 2, 0, none⟩ (.int .i64 0))).trans (KeepsOthers.drew _)).same D _ HK.out rfl)
            have b0 := bx_drew ((((H0.out).set (.int .i64 p)).other (show w.heap.size ≠ w.heap.size + 1 by omega) (.int .i64 q)).other (show w.heap.size ≠ w.heap.size + 2 by omega) (.int .i64 0))
            have b1 := bx_drew ((((H1.out).other (show w.heap.size + 1 ≠ w.heap.size by omega) (.int .i64 p)).set (.int .i64 q)).other (show w.heap.size + 1 ≠ w.heap.size + 2 by omega) (.int .i64 0))
            have b2 := bx_drew ((((H2.out).other (show w.heap.size + 2 ≠ w.heap.size by omega) (.int .i64 p)).other (show w.heap.size + 2 ≠ w.heap.size + 1 by omega) (.int .i64 q)).set (.int .i64 0))
            have hB2 := (below_drewN' (below_beyond (o := 0) (v := .int .i64 0) (below_beyond (o := 0) (v := .int .i64 q) (below_beyond (o := 0) (v := .int .i64 p) HB.out (Nat.le_refl _)) (show w.heap.size ≤ w.heap.size + 1 by omega)) (show w.heap.size ≤ w.heap.size + 2 by omega)) 1)
            refine ⟨by simp, .inl ⟨_, _, rfl, run_takeDeferred hK', ?_⟩⟩
            have e0 := (bx_own b0 (grownBy_putObj' _ D (.deferred none)) (fun r e => by cases e; exact ⟨_, hK', rfl⟩)).cell
            have e1 := (bx_own b1 (grownBy_putObj' _ D (.deferred none)) (fun r e => by cases e; exact ⟨_, hK', rfl⟩)).cell
            have e2 := (bx_own b2 (grownBy_putObj' _ D (.deferred none)) (fun r e => by cases e; exact ⟨_, hK', rfl⟩)).cell
            refine ⟨.tuple #[.int .i64 p, .int .i64 q, .int .i64 0], ?_, rfl, Below.trans hB2 (belowK_b (w := w) (Nat.le_refl _) _ D _ _ (by omega) hK' rfl rfl)⟩
            simp [results, Try.f41, go_sem, e0, e1, e2]
          case stop =>
            rintro D c pre W hD ⟨k, hk, rfl⟩ ⟨⟨rfl, hff, h0, h1, h2⟩, hB⟩ hK
            obtain ⟨l2, hl2⟩ := upto_bk_prefix xs hk
            have hfa := foldF_fail l2 _ _ _ hff
            rw [hl2] at hfa
            obtain rfl := F3'.out hfa
            gi_wp2
            refine ⟨by simp, .inl ⟨_, _, rfl, run_takeDeferred hK, ?_⟩⟩
            have e0 := (bx_own h0 (grownBy_putObj' _ D (.deferred none)) (fun r e => by cases e; exact ⟨_, hK, rfl⟩)).cell
            have e1 := (bx_own h1 (grownBy_putObj' _ D (.deferred none)) (fun r e => by cases e; exact ⟨_, hK, rfl⟩)).cell
            have e2 := (bx_own h2 (grownBy_putObj' _ D (.deferred none)) (fun r e => by cases e; exact ⟨_, hK, rfl⟩)).cell
            refine ⟨.tuple #[.int .i64 0, .int .i64 0, .int .i64 3], ?_, rfl, hB.trans (belowK_b (w := w) (Nat.le_refl _) W D _ _ (by omega) hK rfl rfl)⟩
            simp [results, Try.f41, go_sem, e0, e1, e2]
end Go.Proofs.Ytoldicmobenhaaa
