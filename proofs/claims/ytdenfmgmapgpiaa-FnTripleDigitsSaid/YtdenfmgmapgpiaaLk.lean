/-
  Small words for walks through laws that draw several times: what a call leaves of named cells. No condition but what stands in each.
-/
import Derived.Test.YtdenfmgmapgpiaaCdx
import Derived.Test.YtdenfmgmapgpiaaCst
import Derived.Test.YtdenfmgmapgpiaaCsq
namespace Go.Proofs.Ytdenfmgmapgpiaa
open Go.RowKit
/-- The code behind a region's beginning, on the right spine. -/
def codeHead (n : Nat) : Code → Bool
  | .region id _ _ => id == n
  | .seq (.region id _ _) _ => id == n
  | _ => false
def codeFrom (n : Nat) : Code → Option Code
  | .seq a b => if codeHead n a then some (.seq a b) else codeFrom n b
  | _ => none
def seqHead : Code → Code
  | .seq a _ => a
  | c => c
def seqTail : Code → Code
  | .seq _ b => b
  | c => c
theorem below_chain {w X W : World} (hb : Below X.heap.size X W) (h : Below w.heap.size w X) : Below w.heap.size w W := h.trans (hb.mono h.size)
theorem below_al {w X : World} (h : Below w.heap.size w X) (o : Obj) : Below w.heap.size w (X.alloc o) := h.alloc h.size o
theorem below_dr {w X : World} (h : Below w.heap.size w X) : Below w.heap.size w X.drew := h.drew
theorem new_cell {W : World} {N i : Nat} {cs : Array Value} {T : TypeId} {v : Value} (h : N = W.heap.size) (hv : cs[i]? = some v) : (W.alloc (.cells cs T)).cell? ⟨N, i, none⟩ = some v := by
  subst h
  rw [World.cell?_alloc_new]
  exact hv
theorem lt_below {X W : World} {N : Nat} (hb : Below X.heap.size X W) (h : N < X.heap.size) : N < W.heap.size := Nat.lt_of_lt_of_le h hb.size
theorem ne_below {X W : World} {N : Nat} (hb : Below X.heap.size X W) (h : N < X.heap.size) : ¬ W.heap.size = N := fun e => by have := hb.size; omega
theorem ssl_al {W : World} {A : Option Addr} {n : Nat} {xs : List (Int × Int × Int)} (h : SSl W A n xs) (o : Obj) : SSl (W.alloc o) A n xs := h.keep ((Below.refl _ _).alloc (Nat.le_refl _) o)
theorem ssl_dr {W : World} {A : Option Addr} {n : Nat} {xs : List (Int × Int × Int)} (h : SSl W A n xs) : SSl W.drew A n xs := h
theorem ssl_drN {W : World} {A : Option Addr} {n : Nat} {xs : List (Int × Int × Int)} (h : SSl W A n xs) (m : Nat) : SSl (W.drewN m) A n xs := h
theorem wf8 {z : Int} (h : (Lit.int .u8 z).wf = true) : 0 ≤ z ∧ z ≤ 255 := by
  have hmin : IntKind.u8.min = 0 := rfl
  have hmax : IntKind.u8.max = 255 := rfl
  simp only [Lit.wf, Bool.and_eq_true, decide_eq_true_eq] at h
  omega
theorem open_code {H : Type} {enc : TypeId × Value → H} {P : Program} {w : World} {t e : TypeId} {A : Option Addr} {n c : Nat} {d : DataW H} {p : List MemPlace} (ht : P.underlying t = some (.slice e)) (he : P.underlying e = some (.int .u8)) (hc : P.cellsOf e = 1)
    (h : DataW.Trod enc P w 0 (fun _ => true) true t (.slice A n c) d p) : Code8 w.heap.size w A n := by
  obtain ⟨fuel, hf⟩ := h
  rcases Go.ChangeShapes.open_ints ht he hc hf with ⟨hcs, _⟩ | ⟨x, l, cc, zs, hcs, _, hl, hm, hz, _, hcell, hwz⟩
  · simp [Value.cells] at hcs
    obtain ⟨rfl, rfl, rfl⟩ := hcs
    exact ⟨Nat.zero_le _, fun h => absurd h (by omega)⟩
  · simp [Value.cells] at hcs
    obtain ⟨rfl, rfl, rfl⟩ := hcs
    simp only [if_true] at hz
    refine ⟨by omega, fun hn => ?_⟩
    have h0 := hcell 0 (by omega)
    have hs : x.spot = none := by simpa [Addr.add] using World.cell?_spot h0
    have hx := spot_of hs
    refine ⟨x.block, x.off, by rw [← hx], ?_, fun i hi => ?_⟩
    · have := World.block_lt_of_cell? w _ h0
      simpa [Addr.add] using this
    · have hc1 := hcell i (by omega)
      rw [hx, add_at] at hc1
      have hzi : zs.getD i 0 ∈ zs := by
        have : i < zs.length := by omega
        simp [List.getD, this]
      have hb := wf8 (hwz _ hzi)
      exact ⟨zs.getD i 0, hb.1, hb.2, hc1⟩
theorem big_any (A : Option Addr) (n c : Nat) (w : World) (z : Bool) (hz : decide ((4096 : Int) < n) = z) : Calls Try.prog 5 #[.slice A n c] w fun e w' => e = .returned (.bool z) ∧ w = w' := by
  subst hz
  go_enter Try.func5, Try.ntmps5
  go_wp2
  go_returns
  exact ⟨ret_bool (by simp), rfl⟩
theorem run_eqArrD {P : Program} (w : World) {t e : TypeId} {n : Nat} {i : TypeInfo} (hu : P.underlying t = some (.array n e)) (hi : P.info? e = some i) (he : P.underlying e = some (.int .i64)) (hc : P.cellsOf e = 1)
    (hagg : ∀ w, (isAgg e).run P w = .ok false w) (d : Nat) (xs ys : List Int) (hx : xs.length = n) (hy : ys.length = n) :
    (Op.equalIn (d + 2) t (.agg (xs.map (Value.int .i64)).toArray) (.agg (ys.map (Value.int .i64)).toArray)).run P w = .ok ((List.range n).all fun i => xs[i]?.getD 0 == ys[i]?.getD 0) w := by
  rw [run_equalIn_array w (d + 1) _ _ hu hi, hc]
  exact run_eqItems_ints w he hagg d xs ys _ fun j hj => by simp at hj; omega
set_option maxRecDepth 100000 in
theorem eqlSquare_run (w : World) (a b c d e f g h i : Int) : (binOp .eql 40 (.agg #[.int .i64 a, .int .i64 b, .int .i64 c, .int .i64 d, .int .i64 e, .int .i64 f, .int .i64 g, .int .i64 h, .int .i64 i]) (.agg #[.int .i64 a, .int .i64 b, .int .i64 c, .int .i64 d, .int .i64 e, .int .i64 f, .int .i64 g, .int .i64 h, .int .i64 i])).run Try.prog w = .ok (.bool true) w := by
  have row : ∀ x y z : Int, (Op.equalIn 9999 24 (.agg #[.int .i64 x, .int .i64 y, .int .i64 z]) (.agg #[.int .i64 x, .int .i64 y, .int .i64 z])).run Try.prog w = .ok true w := by
    intro x y z
    have h := run_eqArrD w Try.underlying24 rfl Try.underlying2 (by kernel_rfl) Try.isAgg2 9997 [x, y, z] [x, y, z] rfl rfl
    refine Eq.trans h ?_
    simp [List.range, List.range.loop]
  rw [run_eql_struct]
  show ((Op.equalIn 10000 _ _ _).run Try.prog w).andThen _ = _
  rw [run_equalIn_array w 9999 _ _ Try.underlying40 rfl]
  have hcc : Try.prog.cellsOf 24 = 3 := by kernel_rfl
  rw [hcc]
  simp [Op.eqItems, List.range, List.range.loop, part, row]
end Go.Proofs.Ytdenfmgmapgpiaa
