/-
  Rows of points as results: what the laws ask of them, what a call hands back that made one. No condition but what stands in each.
-/
import Derived.Test.YtajjoihfccnfhaaDoorCsl
import Derived.Test.YtajjoihfccnfhaaDoorCpq
namespace Go.Proofs.YtajjoihfccnfhaaDoor
open Go.RowKit
set_option maxHeartbeats 1000000
def flat2 : List (Int × Int) → List Value
  | [] => []
  | t :: ts => .int .i64 t.1 :: .int .i64 t.2 :: flat2 ts
theorem flat2_len (xs : List (Int × Int)) : (flat2 xs).length = xs.length * 2 := by
  induction xs with
  | nil => rfl
  | cons x xs ih => simp only [flat2, List.length_cons, ih]; omega
theorem flat2_snoc (xs : List (Int × Int)) (t : Int × Int) : flat2 (xs ++ [t]) = flat2 xs ++ [.int .i64 t.1, .int .i64 t.2] := by
  induction xs with
  | nil => rfl
  | cons x xs ih => simp only [flat2, List.cons_append, ih]
theorem flat2_at (xs : List (Int × Int)) : ∀ i, i < xs.length → (flat2 xs)[i * 2]? = some (.int .i64 (xs[i]?.getD (0, 0)).1) ∧ (flat2 xs)[i * 2 + 1]? = some (.int .i64 (xs[i]?.getD (0, 0)).2) := by
  induction xs with
  | nil => intro i h; simp at h
  | cons x xs ih =>
    intro i h
    match i with
    | 0 => exact ⟨rfl, rfl⟩
    | i + 1 =>
      obtain ⟨h1, h2⟩ := ih i (by simpa using h)
      have e : (i + 1) * 2 = i * 2 + 1 + 1 := by omega
      rw [e]
      simp only [flat2, List.getElem?_cons_succ]
      exact ⟨h1, h2⟩
theorem new_two (w : World) (x y : Value) (t : TypeId) : ∀ j u, [x, y][j]? = some u → (w.alloc (.cells #[x, y] t)).cell? ((⟨w.heap.size, 0, none⟩ : Addr).add j) = some u := by
  intro j u hj
  match j, hj with
  | 0, hj => simp at hj; subst hj; rw [add_at]; simp
  | 1, hj => simp at hj; subst hj; rw [add_at]; simp
/-- What a call hands back that made a row of points of its own. -/
theorem owns_PSl {w : World} {B : Nat} {T : TypeId} {v : Value} {xs : List (Int × Int)} (h : w.ownsRow B T 2 v xs.length (flat2 xs)) : ∃ A c, v = .slice A xs.length c ∧ PSl w A xs.length xs ∧ WSl B w A (xs.length * 2) := by
  have hcells := @World.ownsRow.cells w B T 2 v xs.length (flat2 xs) h
  obtain ⟨_, ⟨rfl, h0⟩ | ⟨g, cap, cur, rfl, hB, hg, _, _, _, _⟩⟩ := h
  · rw [h0]
    exact ⟨none, 0, rfl, ⟨h0.symm, fun h => absurd h (by omega)⟩, fun h => absurd h (by omega)⟩
  · have hlt : g < w.heap.size := by
      rcases Nat.lt_or_ge g w.heap.size with hlt | hge
      · exact hlt
      · rw [Array.getElem?_eq_none hge] at hg; cases hg
    refine ⟨some ⟨g, 0, none⟩, cap, rfl, ⟨rfl, fun hn => ⟨g, 0, rfl, hlt, fun i hi => ?_⟩⟩, fun hn => ⟨g, 0, rfl, hB, hlt, fun i hi => ?_⟩⟩
    · obtain ⟨h1, h2⟩ := flat2_at xs i hi
      have c1 := hcells rfl _ _ h1
      have c2 := hcells rfl _ _ h2
      rw [add_at] at c1 c2
      exact ⟨c1, by rw [Nat.add_assoc]; exact c2⟩
    · simp [World.frozen?, hg]
def marks2 (k : Int) (n : Nat) : List (Int × Int) := (List.range n).map fun j : Nat => (k + 2 * (j : Int), k + 2 * (j : Int) + 1)
theorem marks2_len (k : Int) (n : Nat) : (marks2 k n).length = n := by simp [marks2]
theorem marks2_at {k : Int} {n i : Nat} (h : i < n) : (marks2 k n)[i]?.getD (0, 0) = (k + 2 * (i : Int), k + 2 * (i : Int) + 1) := by simp [marks2, h]
theorem markPointS_any (A : Option Addr) (n c : Nat) (B : Nat) (xs : List (Int × Int)) (m : Int) (w : World) (h : PSl w A n xs) (hw : WSl B w A (n * 2)) (hn : n ≤ 281474976710656) (hm : 0 ≤ m ∧ m ≤ 1152921504606846976) :
    Calls Tryd.prog 33 #[.slice A n c, .int .i64 m] w fun e w' => e = .returned (.int .i64 (m + 2 * n)) ∧ PSl w' A n (marks2 m n) ∧ w.heap.size ≤ w'.heap.size ∧ Below B w w' := by
  obtain ⟨rfl, hx⟩ := h
  go_enter Tryd.func33, Tryd.ntmps33
  go_wp2
  go_loopw [1, 5] (fun kk i wr => ∃ k : Nat, k ≤ xs.length ∧ i = .int .i64 k ∧ kk = .int .i64 (m + 2 * k) ∧ Below B w wr ∧ wr.heap.size = w.heap.size ∧
      (0 < xs.length → ∃ b off, A = some ⟨b, off, none⟩ ∧ B ≤ b ∧ (∀ j, j < xs.length * 2 → wr.frozen? ⟨b, off + j, none⟩ = false) ∧ (∀ j, j < xs.length → ∃ v1 v2, wr.cell? ⟨b, off + j * 2, none⟩ = some v1 ∧ wr.cell? ⟨b, off + j * 2 + 1, none⟩ = some v2 ∧
        (j < k → v1 = .int .i64 (m + 2 * j) ∧ v2 = .int .i64 (m + 2 * j + 1))))) (fun _ i _ => xs.length - (intOf i).toNat)
  case atStart =>
    refine ⟨0, Nat.zero_le _, rfl, by simp, Below.refl _ _, rfl, fun hp => ?_⟩
    obtain ⟨b, off, rfl, hb, hr⟩ := hx hp
    obtain ⟨b', off', e, hBb, _, hf⟩ := hw (by omega)
    cases e
    exact ⟨b, off, rfl, hBb, hf, fun j hj => ⟨_, _, (hr j hj).1, (hr j hj).2, fun h => absurd h (by omega)⟩⟩
  case round =>
    obtain ⟨k, hk, rfl, rfl, hB, hsz, hc⟩ := hrel
    clear hx hw
    by_cases hlt : k < xs.length
    · obtain ⟨b, off, rfl, hBb, hfz, hall⟩ := hc (by omega)
      obtain ⟨v1, v2, h1, h2, _⟩ := hall k hlt
      have f1 := hfz (k * 2) (by omega)
      have f2 := hfz (k * 2 + 1) (by omega)
      rw [← Nat.add_assoc] at f2
      have HC := Lib.hid hall
      have HF := Lib.hid hfz
      have HS := Lib.hid hsz
      clear hall hc hsz hfz
      have hi0 : (0 : Int) ≤ (k : Int) := by omega
      have hi1 : (k : Int) < (xs.length : Int) := by omega
      have hset := @set2P wr b (off + k * 2) (.int .i64 (m + 2 * k)) (.int .i64 (m + 2 * k + 1)) v1 v2 h1 h2
      have H3 := Lib.hid hset
      clear hset
      go_wp2
      refine wp_loop_rounds 3 ?_
      repeat any_goals (rw [rounds_succ]; go_wp2)
      go_roundw
      case rel =>
        refine ⟨k + 1, by omega, by go_num, by go_num, below_beyond (below_beyond hB hBb) hBb, by rw [World.size_setCell, World.size_setCell]; exact HS.out, fun _ => ⟨b, off, rfl, hBb, fun j hj => by rw [World.frozen?_setCell, World.frozen?_setCell]; exact HF.out j hj, fun j hj => ?_⟩⟩
        obtain ⟨s1, s2, s4⟩ := H3.out
        by_cases hjk : j = k
        · subst hjk
          exact ⟨_, _, s1, s2, fun _ => ⟨rfl, rfl⟩⟩
        · obtain ⟨u1, u2, g1, g2, g4⟩ := HC.out j hj
          exact ⟨u1, u2, (s4 _ (by omega) (by omega)).trans g1, (s4 _ (by omega) (by omega)).trans g2, fun hlt' => g4 (by omega)⟩
      case measure => simp [intOf]; omega
    · have hkn : k = xs.length := by omega
      subst hkn
      have HC := Lib.hid hc
      have HS := Lib.hid hsz
      clear hc hsz
      go_wp2
      go_returns
      refine ⟨rfl, ⟨by rw [marks2_len], fun hp => ?_⟩, by rw [HS.out]; exact Nat.le_refl _, hB⟩
      obtain ⟨b, off, rfl, hBb, _, hall⟩ := HC.out hp
      refine ⟨b, off, rfl, ?_, fun i hi => ?_⟩
      · obtain ⟨_, _, h1, _⟩ := hall 0 hp
        exact World.block_lt_of_cell? _ _ h1
      · rw [marks2_len] at hi
        obtain ⟨v1, v2, h1, h2, h4⟩ := hall i hi
        obtain ⟨rfl, rfl⟩ := h4 hi
        rw [marks2_at hi]
        exact ⟨h1, h2⟩
theorem heldPointS_any (A : Option Addr) (n c : Nat) (m : Int) (w : World) (h : PSl w A n (marks2 m n)) (hn : n ≤ 281474976710656) (hm : 0 ≤ m ∧ m ≤ 1152921504606846976) :
    Calls Tryd.prog 34 #[.slice A n c, .int .i64 m] w fun e w' => e = .returned (.int .i64 (m + 2 * n)) ∧ Below w.heap.size w w' := by
  have hx := h.2
  clear h
  go_enter Tryd.func34, Tryd.ntmps34
  go_wp2
  go_loopw [1, 5] (fun kk i wr => Below w.heap.size w wr ∧ ∃ k : Nat, k ≤ n ∧ i = .int .i64 k ∧ kk = .int .i64 (m + 2 * k)) (fun _ i _ => n - (intOf i).toNat)
  case atStart => exact ⟨Below.refl _ _, 0, Nat.zero_le _, rfl, by simp⟩
  case round =>
    obtain ⟨hB, k, hk, rfl, rfl⟩ := hrel
    by_cases hlt : k < n
    · obtain ⟨b, off, rfl, hb, hr⟩ := hx (by omega)
      obtain ⟨h1, h2⟩ := hr k (by rw [marks2_len]; exact hlt)
      rw [marks2_at hlt] at h1 h2
      replace h1 := cell_keep hB h1
      replace h2 := cell_keep hB h2
      clear hr hx hb
      have hi0 : (0 : Int) ≤ (k : Int) := by omega
      have hi1 : (k : Int) < (n : Int) := by omega
      go_wp2
      refine wp_loop_rounds 3 ?_
      repeat any_goals (rw [rounds_succ]; go_wp2)
      go_roundw
      case rel => exact ⟨by (repeat' (first | (with_reducible exact Below.refl _ _) | (with_reducible refine Below.alloc ?_ ?_ _) | (with_reducible refine Below.drew ?_) | (with_reducible refine below_drewN' ?_ _) | (with_reducible refine Below.setCell ?_ ?_ _) | (with_reducible refine Below.trans ?_ (Below.mono (by assumption) ?_)) | go_size)), k + 1, by omega, by go_num, by go_num⟩
      case measure => simp [intOf]; omega
    · obtain rfl : k = n := by omega
      go_wp2
      go_returns
      exact ⟨rfl, hB⟩
end Go.Proofs.YtajjoihfccnfhaaDoor
