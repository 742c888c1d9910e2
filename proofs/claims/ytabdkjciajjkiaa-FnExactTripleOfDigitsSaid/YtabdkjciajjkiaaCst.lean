/-
  Rows of triples as results: what the laws ask of them, what a call hands back that made one. No condition but what stands in each.
-/
import Derived.Test.YtabdkjciajjkiaaCsl
import Derived.Test.YtabdkjciajjkiaaHk
import Derived.Test.YtabdkjciajjkiaaCpu
import Derived.Laws.AppendOwn
import Derived.Maps.AppendAt
import Derived.Deep.AppendLies
namespace Go.Proofs.Ytabdkjciajjkiaa
open Go.RowKit
set_option maxHeartbeats 1000000
def flat3 : List (Int × Int × Int) → List Value
  | [] => []
  | t :: ts => .int .i64 t.1 :: .int .i64 t.2.1 :: .int .i64 t.2.2 :: flat3 ts
theorem flat3_len (xs : List (Int × Int × Int)) : (flat3 xs).length = xs.length * 3 := by
  induction xs with
  | nil => rfl
  | cons x xs ih => simp only [flat3, List.length_cons, ih]; omega
theorem flat3_snoc (xs : List (Int × Int × Int)) (t : Int × Int × Int) : flat3 (xs ++ [t]) = flat3 xs ++ [.int .i64 t.1, .int .i64 t.2.1, .int .i64 t.2.2] := by
  induction xs with
  | nil => rfl
  | cons x xs ih => simp only [flat3, List.cons_append, ih]
theorem flat3_at (xs : List (Int × Int × Int)) : ∀ i, i < xs.length → (flat3 xs)[i * 3]? = some (.int .i64 (xs[i]?.getD (0, 0, 0)).1) ∧ (flat3 xs)[i * 3 + 1]? = some (.int .i64 (xs[i]?.getD (0, 0, 0)).2.1) ∧ (flat3 xs)[i * 3 + 2]? = some (.int .i64 (xs[i]?.getD (0, 0, 0)).2.2) := by
  induction xs with
  | nil => intro i h; simp at h
  | cons x xs ih =>
    intro i h
    match i with
    | 0 => exact ⟨rfl, rfl, rfl⟩
    | i + 1 =>
      obtain ⟨h1, h2, h3⟩ := ih i (by simpa using h)
      have e : (i + 1) * 3 = i * 3 + 1 + 1 + 1 := by omega
      rw [e]
      simp only [flat3, List.getElem?_cons_succ]
      exact ⟨h1, h2, h3⟩
theorem SSl.keep {w w1 : World} {A : Option Addr} {n : Nat} {xs : List (Int × Int × Int)} (h : SSl w A n xs) (hb : Below w.heap.size w w1) : SSl w1 A n xs :=
  ⟨h.1, fun hn => by
    obtain ⟨b, off, e, hl, hr⟩ := h.2 hn
    exact ⟨b, off, e, by have := hb.size; omega, fun i hi => ⟨cell_keep hb (hr i hi).1, cell_keep hb (hr i hi).2.1, cell_keep hb (hr i hi).2.2⟩⟩⟩
theorem own_same {w w' : World} {base : Nat} {e : TypeId} {s n : Nat} {v : Value} {xs : List Value} (h : w.ownsRow base e s v n xs) (hs : ∀ k, base ≤ k → k < w.heap.size → w'.heap[k]? = w.heap[k]?) : w'.ownsRow base e s v n xs := by
  obtain ⟨h1, h2 | ⟨g, cap, cur, hv, hb, hg, hr⟩⟩ := h
  · exact ⟨h1, .inl h2⟩
  · refine ⟨h1, .inr ⟨g, cap, cur, hv, hb, ?_, hr⟩⟩
    rw [hs g hb ?_, hg]
    rcases Nat.lt_or_ge g w.heap.size with hlt | hge
    · exact hlt
    · rw [Array.getElem?_eq_none hge] at hg; cases hg
theorem own_below {w w' : World} {base : Nat} {e : TypeId} {s n : Nat} {v : Value} {xs : List Value} (h : w.ownsRow base e s v n xs) (hb : Below w.heap.size w w') : w'.ownsRow base e s v n xs :=
  own_same h fun k _ hk => hb.block k hk
theorem own_set {w : World} {base : Nat} {e : TypeId} {s n : Nat} {v x : Value} {xs : List Value} {p : Addr} (hp : p.block < base) (h : w.ownsRow base e s v n xs) : (w.setCell p x).ownsRow base e s v n xs :=
  own_same h fun k hk _ => Below.heap_setCell _ _ _ _ (by omega)
theorem own_drew {w : World} {base : Nat} {e : TypeId} {s n : Nat} {v : Value} {xs : List Value} (h : w.ownsRow base e s v n xs) : w.drew.ownsRow base e s v n xs := h
theorem new_three (w : World) (x y z : Value) (t : TypeId) : ∀ j u, [x, y, z][j]? = some u → (w.alloc (.cells #[x, y, z] t)).cell? ((⟨w.heap.size, 0, none⟩ : Addr).add j) = some u := by
  intro j u hj
  match j, hj with
  | 0, hj => simp at hj; subst hj; rw [add_at]; simp
  | 1, hj => simp at hj; subst hj; rw [add_at]; simp
  | 2, hj => simp at hj; subst hj; rw [add_at]; simp
theorem own_row1 {w : World} {base H : Nat} {T : TypeId} {x y z : Value} (hH : w.heap.size = H) (hb : base ≤ H) : (w.alloc (.cells #[x, y, z] T)).ownsRow base T 3 (.slice (some ⟨H, 0, none⟩) 1 1) 1 [x, y, z] := by
  subst hH
  exact ⟨rfl, .inr ⟨w.heap.size, 1, #[x, y, z], rfl, hb, heap_alloc_new _ _, Nat.le_refl _, by decide, rfl, rfl⟩⟩
/-- What a call hands back that made a row of triples of its own. -/
theorem owns_SSl {w : World} {B : Nat} {T : TypeId} {v : Value} {xs : List (Int × Int × Int)} (h : w.ownsRow B T 3 v xs.length (flat3 xs)) : ∃ A c, v = .slice A xs.length c ∧ SSl w A xs.length xs ∧ WSl B w A (xs.length * 3) := by
  have hcells := @World.ownsRow.cells w B T 3 v xs.length (flat3 xs) h
  obtain ⟨_, ⟨rfl, h0⟩ | ⟨g, cap, cur, rfl, hB, hg, _, _, _, _⟩⟩ := h
  · rw [h0]
    exact ⟨none, 0, rfl, ⟨h0.symm, fun h => absurd h (by omega)⟩, fun h => absurd h (by omega)⟩
  · have hlt : g < w.heap.size := by
      rcases Nat.lt_or_ge g w.heap.size with hlt | hge
      · exact hlt
      · rw [Array.getElem?_eq_none hge] at hg; cases hg
    refine ⟨some ⟨g, 0, none⟩, cap, rfl, ⟨rfl, fun hn => ⟨g, 0, rfl, hlt, fun i hi => ?_⟩⟩, fun hn => ⟨g, 0, rfl, hB, hlt, fun i hi => ?_⟩⟩
    · obtain ⟨h1, h2, h3⟩ := flat3_at xs i hi
      have c1 := hcells rfl _ _ h1
      have c2 := hcells rfl _ _ h2
      have c3 := hcells rfl _ _ h3
      rw [add_at] at c1 c2 c3
      exact ⟨c1, by rw [Nat.add_assoc]; exact c2, by rw [Nat.add_assoc]; exact c3⟩
    · simp [World.frozen?, hg]
def marks3 (k : Int) (n : Nat) : List (Int × Int × Int) := (List.range n).map fun j : Nat => (k + 3 * (j : Int), k + 3 * (j : Int) + 1, k + 3 * (j : Int) + 2)
theorem marks3_len (k : Int) (n : Nat) : (marks3 k n).length = n := by simp [marks3]
theorem marks3_at {k : Int} {n i : Nat} (h : i < n) : (marks3 k n)[i]?.getD (0, 0, 0) = (k + 3 * (i : Int), k + 3 * (i : Int) + 1, k + 3 * (i : Int) + 2) := by simp [marks3, h]
theorem eqTripleS_same (A A' : Option Addr) (n c c' : Nat) (xs : List (Int × Int × Int)) (w : World) (h : SSl w A n xs) (h' : SSl w A' n xs) (hn : n ≤ 281474976710656) :
    Calls Try.prog 42 #[.slice A n c, .slice A' n c'] w fun e w' => e = .returned (.bool true) ∧ Below w.heap.size w w' := by
  obtain ⟨rfl, hx⟩ := h
  have hx' := h'.2
  clear h'
  go_enter Try.func42, Try.ntmps42
  go_wp2
  go_loopw [5] (fun i wr => Below w.heap.size w wr ∧ ∃ k : Nat, k ≤ xs.length ∧ i = .int .i64 k) (fun i _ => xs.length - (intOf i).toNat)
  case atStart => exact ⟨Below.refl _ _, 0, Nat.zero_le _, rfl⟩
  case round =>
    obtain ⟨hB, k, hk, rfl⟩ := hrel
    by_cases hlt : k < xs.length
    · obtain ⟨b, off, rfl, hb, hr⟩ := hx (by omega)
      obtain ⟨b', off', rfl, hb', hr'⟩ := hx' (by omega)
      have h1 := cell_keep hB (hr k hlt).1
      have h2 := cell_keep hB (hr k hlt).2.1
      have h3 := cell_keep hB (hr k hlt).2.2
      have h4 := cell_keep hB (hr' k hlt).1
      have h5 := cell_keep hB (hr' k hlt).2.1
      have h6 := cell_keep hB (hr' k hlt).2.2
      have hbw : b < wr.heap.size := by have := hB.size; omega
      have hbw' : b' < wr.heap.size := by have := hB.size; omega
      obtain ⟨⟨x, y, v⟩, hp⟩ : ∃ p, xs[k]?.getD (0, 0, 0) = p := ⟨_, rfl⟩
      rw [hp] at h1 h2 h3 h4 h5 h6
      clear hp hr hx hb hr' hx' hb'
      have hi0 : (0 : Int) ≤ (k : Int) := by omega
      have hi1 : (k : Int) < (xs.length : Int) := by omega
      go_wp2
      (refine wp_region_beyond (wr.heap.size + 0) (by kernel_rfl) (by kernel_rfl) (by go_size) (fun hBe => ?_); (repeat (first | go_big_quiet_step ((first | (go_at_call 20; exact beyond_of (eqTriple_same _ _ _ _)))) | quiet_step ((first | (go_at_call 20; exact beyond_of (eqTriple_same _ _ _ _)))))); refine wpQuiet_nil ?_; clear hBe; intro w1 hb1; obtain ⟨hc1, hf1, hz1, hn1⟩ := bstep 0 wr hb1 (by go_size))
      go_wp2
      go_roundw
      case rel => exact ⟨by have hBs := hB.size; exact hB.trans (hb1.mono hBs), k + 1, by omega, by go_num⟩
      case measure => simp [intOf]; omega
    · go_wp2
      go_returns
      exact ⟨rfl, hB⟩
theorem set3 {w : World} {b o : Nat} {v0 v1 v2 u0 u1 u2 : Value} (h0 : w.cell? ⟨b, o, none⟩ = some u0) (h1 : w.cell? ⟨b, o + 1, none⟩ = some u1) (h2 : w.cell? ⟨b, o + 2, none⟩ = some u2) :
    (((w.setCell ⟨b, o, none⟩ v0).setCell ⟨b, o + 1, none⟩ v1).setCell ⟨b, o + 2, none⟩ v2).cell? ⟨b, o, none⟩ = some v0 ∧ (((w.setCell ⟨b, o, none⟩ v0).setCell ⟨b, o + 1, none⟩ v1).setCell ⟨b, o + 2, none⟩ v2).cell? ⟨b, o + 1, none⟩ = some v1 ∧
    (((w.setCell ⟨b, o, none⟩ v0).setCell ⟨b, o + 1, none⟩ v1).setCell ⟨b, o + 2, none⟩ v2).cell? ⟨b, o + 2, none⟩ = some v2 ∧
    ∀ j, ¬ j = o → ¬ j = o + 1 → ¬ j = o + 2 → (((w.setCell ⟨b, o, none⟩ v0).setCell ⟨b, o + 1, none⟩ v1).setCell ⟨b, o + 2, none⟩ v2).cell? ⟨b, j, none⟩ = w.cell? ⟨b, j, none⟩ := by
  have ne : ∀ {i j : Nat}, ¬ i = j → (⟨b, i, none⟩ : Addr) ≠ ⟨b, j, none⟩ := fun h e => h (by have := congrArg Addr.off e; simpa using this)
  have g1 : (w.setCell ⟨b, o, none⟩ v0).cell? ⟨b, o + 1, none⟩ = some u1 := (World.cell?_setCell_other _ _ _ _ (ne (by omega))).trans h1
  have g2 : ((w.setCell ⟨b, o, none⟩ v0).setCell ⟨b, o + 1, none⟩ v1).cell? ⟨b, o + 2, none⟩ = some u2 := (World.cell?_setCell_other _ _ _ _ (ne (by omega))).trans ((World.cell?_setCell_other _ _ _ _ (ne (by omega))).trans h2)
  refine ⟨?_, ?_, World.cell?_setCell_same (h := g2) .., fun j a1 a2 a3 => ?_⟩
  · exact (World.cell?_setCell_other _ _ _ _ (ne (by omega))).trans ((World.cell?_setCell_other _ _ _ _ (ne (by omega))).trans (World.cell?_setCell_same (h := h0) ..))
  · exact (World.cell?_setCell_other _ _ _ _ (ne (by omega))).trans (World.cell?_setCell_same (h := g1) ..)
  · exact (World.cell?_setCell_other _ _ _ _ (ne (by omega))).trans ((World.cell?_setCell_other _ _ _ _ (ne (by omega))).trans (World.cell?_setCell_other _ _ _ _ (ne (by omega))))
theorem markTripleS_any (A : Option Addr) (n c : Nat) (B : Nat) (xs : List (Int × Int × Int)) (m : Int) (w : World) (h : SSl w A n xs) (hw : WSl B w A (n * 3)) (hn : n ≤ 281474976710656) (hm : 0 ≤ m ∧ m ≤ 1152921504606846976) :
    Calls Try.prog 43 #[.slice A n c, .int .i64 m] w fun e w' => e = .returned (.int .i64 (m + 3 * n)) ∧ SSl w' A n (marks3 m n) ∧ w.heap.size ≤ w'.heap.size ∧ Below B w w' := by
  obtain ⟨rfl, hx⟩ := h
  go_enter Try.func43, Try.ntmps43
  go_wp2
  go_loopw [1, 5] (fun kk i wr => ∃ k : Nat, k ≤ xs.length ∧ i = .int .i64 k ∧ kk = .int .i64 (m + 3 * k) ∧ Below B w wr ∧ wr.heap.size = w.heap.size ∧
      (0 < xs.length → ∃ b off, A = some ⟨b, off, none⟩ ∧ B ≤ b ∧ (∀ j, j < xs.length * 3 → wr.frozen? ⟨b, off + j, none⟩ = false) ∧ (∀ j, j < xs.length → ∃ v1 v2 v3, wr.cell? ⟨b, off + j * 3, none⟩ = some v1 ∧ wr.cell? ⟨b, off + j * 3 + 1, none⟩ = some v2 ∧ wr.cell? ⟨b, off + j * 3 + 2, none⟩ = some v3 ∧
        (j < k → v1 = .int .i64 (m + 3 * j) ∧ v2 = .int .i64 (m + 3 * j + 1) ∧ v3 = .int .i64 (m + 3 * j + 2))))) (fun _ i _ => xs.length - (intOf i).toNat)
  case atStart =>
    refine ⟨0, Nat.zero_le _, rfl, by simp, Below.refl _ _, rfl, fun hp => ?_⟩
    obtain ⟨b, off, rfl, hb, hr⟩ := hx hp
    obtain ⟨b', off', e, hBb, _, hf⟩ := hw (by omega)
    cases e
    exact ⟨b, off, rfl, hBb, hf, fun j hj => ⟨_, _, _, (hr j hj).1, (hr j hj).2.1, (hr j hj).2.2, fun h => absurd h (by omega)⟩⟩
  case round =>
    obtain ⟨k, hk, rfl, rfl, hB, hsz, hc⟩ := hrel
    clear hx hw
    by_cases hlt : k < xs.length
    · obtain ⟨b, off, rfl, hBb, hfz, hall⟩ := hc (by omega)
      obtain ⟨v1, v2, v3, h1, h2, h3, _⟩ := hall k hlt
      have f1 := hfz (k * 3) (by omega)
      have f2 := hfz (k * 3 + 1) (by omega)
      have f3 := hfz (k * 3 + 2) (by omega)
      rw [← Nat.add_assoc] at f2 f3
      have HC := Lib.hid hall
      have HF := Lib.hid hfz
      have HS := Lib.hid hsz
      clear hall hc hsz hfz
      have hi0 : (0 : Int) ≤ (k : Int) := by omega
      have hi1 : (k : Int) < (xs.length : Int) := by omega
      have hset := @set3 wr b (off + k * 3) (.int .i64 (m + 3 * k)) (.int .i64 (m + 3 * k + 1)) (.int .i64 (m + 3 * k + 1 + 1)) v1 v2 v3 h1 h2 h3
      have H3 := Lib.hid hset
      clear hset
      go_wp2
      refine wp_loop_rounds 4 ?_
      repeat any_goals (rw [rounds_succ]; go_wp2)
      go_roundw
      case rel =>
        refine ⟨k + 1, by omega, by go_num, by go_num, below_beyond (below_beyond (below_beyond hB hBb) hBb) hBb, by rw [World.size_setCell, World.size_setCell, World.size_setCell]; exact HS.out, fun _ => ⟨b, off, rfl, hBb, fun j hj => by rw [World.frozen?_setCell, World.frozen?_setCell, World.frozen?_setCell]; exact HF.out j hj, fun j hj => ?_⟩⟩
        obtain ⟨s1, s2, s3, s4⟩ := H3.out
        by_cases hjk : j = k
        · subst hjk
          exact ⟨_, _, _, s1, s2, s3, fun _ => ⟨rfl, rfl, by congr 1; omega⟩⟩
        · obtain ⟨u1, u2, u3, g1, g2, g3, g4⟩ := HC.out j hj
          exact ⟨u1, u2, u3, (s4 _ (by omega) (by omega) (by omega)).trans g1, (s4 _ (by omega) (by omega) (by omega)).trans g2, (s4 _ (by omega) (by omega) (by omega)).trans g3, fun hlt' => g4 (by omega)⟩
      case measure => simp [intOf]; omega
    · have hkn : k = xs.length := by omega
      subst hkn
      have HC := Lib.hid hc
      have HS := Lib.hid hsz
      clear hc hsz
      go_wp2
      go_returns
      refine ⟨rfl, ⟨by rw [marks3_len], fun hp => ?_⟩, by rw [HS.out]; exact Nat.le_refl _, hB⟩
      obtain ⟨b, off, rfl, hBb, _, hall⟩ := HC.out hp
      refine ⟨b, off, rfl, ?_, fun i hi => ?_⟩
      · obtain ⟨_, _, _, h1, _⟩ := hall 0 hp
        exact World.block_lt_of_cell? _ _ h1
      · rw [marks3_len] at hi
        obtain ⟨v1, v2, v3, h1, h2, h3, h4⟩ := hall i hi
        obtain ⟨rfl, rfl, rfl⟩ := h4 hi
        rw [marks3_at hi]
        exact ⟨h1, h2, h3⟩
theorem heldTripleS_any (A : Option Addr) (n c : Nat) (m : Int) (w : World) (h : SSl w A n (marks3 m n)) (hn : n ≤ 281474976710656) (hm : 0 ≤ m ∧ m ≤ 1152921504606846976) :
    Calls Try.prog 44 #[.slice A n c, .int .i64 m] w fun e w' => e = .returned (.int .i64 (m + 3 * n)) ∧ Below w.heap.size w w' := by
  have hx := h.2
  clear h
  go_enter Try.func44, Try.ntmps44
  go_wp2
  go_loopw [1, 5] (fun kk i wr => Below w.heap.size w wr ∧ ∃ k : Nat, k ≤ n ∧ i = .int .i64 k ∧ kk = .int .i64 (m + 3 * k)) (fun _ i _ => n - (intOf i).toNat)
  case atStart => exact ⟨Below.refl _ _, 0, Nat.zero_le _, rfl, by simp⟩
  case round =>
    obtain ⟨hB, k, hk, rfl, rfl⟩ := hrel
    by_cases hlt : k < n
    · obtain ⟨b, off, rfl, hb, hr⟩ := hx (by omega)
      obtain ⟨h1, h2, h3⟩ := hr k (by rw [marks3_len]; exact hlt)
      rw [marks3_at hlt] at h1 h2 h3
      replace h1 := cell_keep hB h1
      replace h2 := cell_keep hB h2
      replace h3 := cell_keep hB h3
      clear hr hx hb
      have hi0 : (0 : Int) ≤ (k : Int) := by omega
      have hi1 : (k : Int) < (n : Int) := by omega
      go_wp2
      refine wp_loop_rounds 4 ?_
      repeat any_goals (rw [rounds_succ]; go_wp2)
      go_roundw
      case rel => exact ⟨by (repeat' (first | (with_reducible exact Below.refl _ _) | (with_reducible refine Below.alloc ?_ ?_ _) | (with_reducible refine Below.drew ?_) | (with_reducible refine below_drewN' ?_ _) | (with_reducible refine Below.setCell ?_ ?_ _) | (with_reducible refine Below.trans ?_ (Below.mono (by assumption) ?_)) | go_size)), k + 1, by omega, by go_num, by go_num⟩
      case measure => simp [intOf]; omega
    · obtain rfl : k = n := by omega
      go_wp2
      go_returns
      exact ⟨rfl, hB⟩
end Go.Proofs.Ytabdkjciajjkiaa
