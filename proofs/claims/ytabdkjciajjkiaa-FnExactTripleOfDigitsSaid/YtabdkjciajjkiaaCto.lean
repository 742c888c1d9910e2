/-
  Copies and sizes of rows of rows of whole numbers. Condition: the rows' reach.
-/
import Derived.Test.YtabdkjciajjkiaaCrr
import Derived.Test.YtabdkjciajjkiaaCsq
import Derived.Laws.MakeOwn
import Derived.Laws.OwnMore
namespace Go.Proofs.Ytabdkjciajjkiaa
open Go.RowKit
set_option maxHeartbeats 1000000
theorem infoI64c : (Try.prog.info? 2).map (fun i => (i.zero, i.size, i.bytes)) = some (some (.int .i64 0), 1, 8) := by kernel_rfl
theorem mkIc (n : Nat) (hn : n ≤ 1048576) (w : World) : (Instr.makeSlice 65 (.int .i64 (n : Int)) (.int .i64 (n : Int))).run Try.prog w = .ok (.slice (some ⟨w.heap.size, 0, none⟩) n n) (w.alloc (.cells (madeCells #[.int .i64 0] n) 2)) := by
  obtain ⟨i, h1, h5⟩ := Option.map_eq_some_iff.1 infoI64c
  simp only [Prod.mk.injEq] at h5
  obtain ⟨h2, h4, h3⟩ := h5
  have hr := run_make (P := Try.prog) w 65 2 i (.int .i64 0) (by exact Try.underlying65) h1 h2 .i64 .i64 n n (by omega) (by omega) (by rw [h3]; omega) (by omega)
  rw [h4] at hr
  simp only [Int.toNat_natCast, Nat.mul_one] at hr
  exact hr
theorem made_atV (w : World) (v : Value) (T : TypeId) (n j : Nat) (hj : j < n) : (w.alloc (.cells (madeCells #[v] n) T)).cell? ⟨w.heap.size, j, none⟩ = some v ∧ (w.alloc (.cells (madeCells #[v] n) T)).frozen? ⟨w.heap.size, j, none⟩ = false := by
  have h1 := heap_alloc_new w (.cells (madeCells #[v] n) T)
  have h2 : (madeCells #[v] n)[j]? = some v := by
    rw [← Array.getElem?_toList, toList_madeCells_one]
    simp [hj]
  constructor
  · unfold World.cell?
    rw [h1]
    exact h2
  · unfold World.frozen?
    rw [h1]
    simp
theorem toInt64S_anyc (A : Option Addr) (n c : Nat) (xs : List Int) (w : World) (h : ISl w A n xs) (hn : n ≤ 1048576) : Calls Try.prog 62 #[.slice A n c] w fun e w' =>
    (∃ A', e = .returned (.slice A' n n) ∧ ISl w' A' n xs ∧ ∀ a, A' = some a → w.heap.size ≤ a.block) ∧ Below w.heap.size w w' := by
  obtain ⟨rfl, hx⟩ := h
  have hmk := fun W => mkIc xs.length hn W
  go_enter Try.func62, Try.ntmps62
  go_wp2
  refine wp_gen' (F := fun W1 => Below w.heap.size w W1 ∧ W1.heap.size = w.heap.size + 1 ∧ ∀ j, j < xs.length → W1.cell? ⟨w.heap.size, j, none⟩ = some (.int .i64 0) ∧ W1.frozen? ⟨w.heap.size, j, none⟩ = false) ⟨by (repeat' (first | (with_reducible exact Below.refl _ _) | (with_reducible refine Below.alloc ?_ ?_ _) | (with_reducible refine Below.drew ?_) | (with_reducible refine below_drewN' ?_ _) | (with_reducible refine Below.setCell ?_ ?_ _) | (with_reducible refine Below.trans ?_ (Below.mono (by assumption) ?_)) | go_size)), by simp, fun j hj => made_atV w _ _ xs.length j hj⟩ (fun W1 hW1 => ?_)
  obtain ⟨hB1, hz1, hall1⟩ := hW1
  clear hmk
  go_loopw [4] (fun i wr => ∃ k : Nat, k ≤ xs.length ∧ i = .int .i64 k ∧ Below w.heap.size w wr ∧ wr.heap.size = w.heap.size + 1 ∧
      (∀ j, j < xs.length → ∃ v, wr.cell? ⟨w.heap.size, j, none⟩ = some v ∧ wr.frozen? ⟨w.heap.size, j, none⟩ = false ∧ (j < k → v = .int .i64 (xs[j]?.getD 0)))) (fun i _ => xs.length - (intOf i).toNat)
  case atStart => exact ⟨0, Nat.zero_le _, rfl, hB1, hz1, fun j hj => ⟨_, (hall1 j hj).1, (hall1 j hj).2, fun h => absurd h (by omega)⟩⟩
  case round =>
    obtain ⟨k, hk, rfl, hB, hsz, hall⟩ := hrel
    clear hall1 hB1 hz1
    by_cases hlt : k < xs.length
    · obtain ⟨b, off, rfl, hb, hr⟩ := hx (by omega)
      obtain ⟨v, h1, h2, _⟩ := hall k hlt
      have h3 := cell_keep hB (hr k hlt)
      have HC := Lib.hid hall
      have HS := Lib.hid hsz
      obtain ⟨x, hp⟩ : ∃ p, xs[k]?.getD 0 = p := ⟨_, rfl⟩
      rw [hp] at h3
      have HP := Lib.hid hp
      have HX := Lib.hid hx
      clear hall hsz hr hp hx
      have hi0 : (0 : Int) ≤ (k : Int) := by omega
      have hi1 : (k : Int) < (xs.length : Int) := by omega
      go_wp2
      go_roundw
      case rel =>
        refine ⟨k + 1, by omega, by go_num, below_beyond hB (Nat.le_refl _), by rw [World.size_setCell]; exact HS.out, fun j hj => ?_⟩
        by_cases hjk : j = k
        · subst hjk
          refine ⟨_, World.cell?_setCell_same (h := h1) .., by rw [World.frozen?_setCell]; exact h2, fun _ => by rw [HP.out]⟩
        · obtain ⟨u, g1, g2, g3⟩ := HC.out j hj
          refine ⟨u, (World.cell?_setCell_other _ _ _ _ (fun e => hjk (by have := congrArg Addr.off e; simp at this; omega))).trans g1, by rw [World.frozen?_setCell]; exact g2, fun hlt' => g3 (by omega)⟩
      case measure => simp [intOf]; omega
    · obtain rfl : k = xs.length := by omega
      have HC := Lib.hid hall
      have HS := Lib.hid hsz
      clear hall hsz hx
      go_wp2
      go_returns
      refine ⟨⟨_, rfl, ⟨rfl, fun hp => ⟨w.heap.size, 0, rfl, by rw [HS.out]; omega, fun i hi => ?_⟩⟩, fun a ha => by cases ha; exact Nat.le_refl _⟩, hB⟩
      obtain ⟨v, h1, _, h3⟩ := HC.out i hi
      rw [Nat.zero_add, h1, h3 hi]
theorem infoISc : (Try.prog.info? 65).map (fun i => (i.zero, i.size, i.bytes)) = some (some (.slice none 0 0), 1, 24) := by kernel_rfl
theorem mkIS (n : Nat) (hn : n ≤ 1048576) (w : World) : (Instr.makeSlice 35 (.int .i64 (n : Int)) (.int .i64 (n : Int))).run Try.prog w = .ok (.slice (some ⟨w.heap.size, 0, none⟩) n n) (w.alloc (.cells (madeCells #[.slice none 0 0] n) 65)) := by
  obtain ⟨i, h1, h5⟩ := Option.map_eq_some_iff.1 infoISc
  simp only [Prod.mk.injEq] at h5
  obtain ⟨h2, h4, h3⟩ := h5
  have hr := run_make (P := Try.prog) w 35 65 i (.slice none 0 0) (by exact Try.underlying35) h1 h2 .i64 .i64 n n (by omega) (by omega) (by rw [h3]; omega) (by omega)
  rw [h4] at hr
  simp only [Int.toNat_natCast, Nat.mul_one] at hr
  exact hr
/-- The first k rows are copies. -/
def Cop (W : World) (b : Nat) (rs : List Rw) (k : Nat) : Prop := ∀ j, j < rs.length → ∃ v, W.cell? ⟨b, j, none⟩ = some v ∧ W.frozen? ⟨b, j, none⟩ = false ∧ (j < k → ∃ r : Rw, v = r.v ∧ r.xs = (rs[j]?.getD Rw.nil).xs ∧ ISl W r.A r.xs.length r.xs ∧ ∀ a, r.A = some a → 0 < r.xs.length → a.block ≠ b)
theorem Cop.next {W W1 : World} {b k : Nat} {rs : List Rw} {A' : Option Addr} (h : Cop W b rs k) (hb : b < W.heap.size) (hbw : Below W.heap.size W W1) (hi : ISl W1 A' (rs[k]?.getD Rw.nil).xs.length (rs[k]?.getD Rw.nil).xs) (ha : ∀ a, A' = some a → 0 < (rs[k]?.getD Rw.nil).xs.length → a.block ≠ b) :
    Cop (W1.setCell ⟨b, k, none⟩ (.slice A' (rs[k]?.getD Rw.nil).xs.length (rs[k]?.getD Rw.nil).xs.length)) b rs (k + 1) := by
  intro j hj
  obtain ⟨v, h1, h2, h3⟩ := h j hj
  have g1 := cell_keep hbw h1
  have g2 := (hbw.frozen (p := ⟨b, j, none⟩) hb).trans h2
  have ks : ∀ {A : Option Addr} {n : Nat} {xs : List Int} {u : Value}, ISl W1 A n xs → (∀ a, A = some a → 0 < n → a.block ≠ b) → ISl (W1.setCell ⟨b, k, none⟩ u) A n xs := by
    intro A n xs u hx hne
    refine hx.same (by rw [World.size_setCell]; exact Nat.le_refl _) fun hn b' o hb' => ?_
    obtain ⟨b2, o2, e2, _, _⟩ := hx.2 hn
    have e3 := hb' _ e2
    have e4 := hne _ e2 hn
    dsimp only at e3 e4
    exact World.cell?_setCell_other _ _ _ _ (fun e => e4 (by have := congrArg Addr.block e; dsimp only at this; omega))
  by_cases hjk : j = k
  · subst hjk
    exact ⟨_, World.cell?_setCell_same (h := g1) .., by rw [World.frozen?_setCell]; exact g2, fun _ => ⟨⟨A', (rs[j]?.getD Rw.nil).xs.length, (rs[j]?.getD Rw.nil).xs⟩, rfl, rfl, ks hi ha, ha⟩⟩
  · refine ⟨v, (World.cell?_setCell_other _ _ _ _ (fun e => hjk (by have := congrArg Addr.off e; simp at this; omega))).trans g1, by rw [World.frozen?_setCell]; exact g2, fun hlt => ?_⟩
    obtain ⟨r, e1, e2, e3, e4⟩ := h3 (by omega)
    exact ⟨r, e1, e2, ks (e3.keep hbw) e4, e4⟩
theorem toInt64SS_any (A : Option Addr) (n c : Nat) (rs : List Rw) (w : World) (h : RSl w A n rs) (hn : n ≤ 1048576) (hl : lenB rs 1048576) : Calls Try.prog 28 #[.slice A n c] w fun e w' =>
    (∃ A' rs', e = .returned (.slice A' n n) ∧ RSl w' A' n rs' ∧ rs'.map (·.xs) = rs.map (·.xs)) ∧ Below w.heap.size w w' := by
  have HI := Lib.hid h.2.2
  have HX := Lib.hid h.2.1
  have hnl := h.1
  have HL := Lib.hid hl
  clear h hl
  subst hnl
  have hmk := fun W => mkIS rs.length hn W
  go_enter Try.func28, Try.ntmps28
  go_wp2
  refine wp_gen' (F := fun W1 => Below w.heap.size w W1 ∧ w.heap.size < W1.heap.size ∧ Cop W1 w.heap.size rs 0) ⟨by (repeat' (first | (with_reducible exact Below.refl _ _) | (with_reducible refine Below.alloc ?_ ?_ _) | (with_reducible refine Below.drew ?_) | (with_reducible refine below_drewN' ?_ _) | (with_reducible refine Below.setCell ?_ ?_ _) | (with_reducible refine Below.trans ?_ (Below.mono (by assumption) ?_)) | go_size)), by simp, fun j hj => ⟨_, (made_atV w _ _ rs.length j hj).1, (made_atV w _ _ rs.length j hj).2, fun h => absurd h (by omega)⟩⟩ (fun W1 hW1 => ?_)
  obtain ⟨hB1, hz1, hall1⟩ := hW1
  have HA := Lib.hid hall1
  clear hmk hall1
  go_loopw [4] (fun i wr => ∃ k : Nat, k ≤ rs.length ∧ i = .int .i64 k ∧ Below w.heap.size w wr ∧ w.heap.size < wr.heap.size ∧ Cop wr w.heap.size rs k) (fun i _ => rs.length - (intOf i).toNat)
  case atStart => exact ⟨0, Nat.zero_le _, rfl, hB1, hz1, HA.out⟩
  case round =>
    obtain ⟨k, hk, rfl, hB, hsz, hall⟩ := hrel
    clear HA hB1 hz1
    by_cases hlt : k < rs.length
    · obtain ⟨b, off, rfl, hb, hr⟩ := HX.out (by omega)
      obtain ⟨v, h1, h2, _⟩ := hall k hlt
      have h3 := cell_keep hB (hr k hlt)
      have m1 := getD_mem hlt
      have i1 := (HI.out _ m1).keep hB
      have il := HL.out _ m1
      have hC := fun (W1 : World) (A' : Option Addr) hbw hi ha => hall.next (W1 := W1) (A' := A') hsz hbw hi ha
      have hq := toInt64S_anyc (rs[k]?.getD Rw.nil).A (rs[k]?.getD Rw.nil).xs.length (rs[k]?.getD Rw.nil).c (rs[k]?.getD Rw.nil).xs wr i1 il
      dsimp only [Rw.v] at h3
      obtain ⟨ra, hra⟩ : ∃ x, (rs[k]?.getD Rw.nil).A = x := ⟨_, rfl⟩
      obtain ⟨rc, hrc⟩ : ∃ x, (rs[k]?.getD Rw.nil).c = x := ⟨_, rfl⟩
      obtain ⟨rx, hrx⟩ : ∃ x, (rs[k]?.getD Rw.nil).xs = x := ⟨_, rfl⟩
      rw [hra, hrc, hrx] at h3 hq
      rw [hrx] at hC
      have HC := Lib.hid hC
      have HQ := Lib.hid hq
      clear hall hr hC hq i1 il m1 hra hrc hrx
      have hi0 : (0 : Int) ≤ (k : Int) := by omega
      have hi1 : (k : Int) < (rs.length : Int) := by omega
      go_wp2_with (go_at_call 62; (with_reducible refine HQ.out.mono ?_); rintro e w2 ⟨⟨A', rfl, hI, hA⟩, hb2⟩; have HG := Lib.hid (And.intro hI (And.intro hA hb2)); clear hI hA; have h1 := cell_keepB hb2 hsz h1; have h2 := (hb2.frozen (p := ⟨w.heap.size, k, none⟩) hsz).trans h2)
      go_roundw
      case rel =>
        obtain ⟨hI, hA, hb2⟩ := HG.out
        refine ⟨k + 1, by omega, by go_num, below_beyond (hB.trans (hb2.mono hB.size)) (Nat.le_refl _), by rw [World.size_setCell]; have := hb2.size; omega, ?_⟩
        exact HC.out w2 A' hb2 hI (fun a ha _ => by have := hA a ha; omega)
      case measure => simp [intOf]; omega
    · obtain rfl : k = rs.length := by omega
      have HC := Lib.hid hall
      clear hall
      go_wp2
      go_returns
      have hch : ∀ j, j < rs.length → ∃ r : Rw, wr.cell? ⟨w.heap.size, j, none⟩ = some r.v ∧ r.xs = (rs[j]?.getD Rw.nil).xs ∧ ISl wr r.A r.xs.length r.xs := fun j hj => by
        obtain ⟨v, h1, _, h3⟩ := HC.out j hj
        obtain ⟨r, e1, e2, e3, _⟩ := h3 hj
        exact ⟨r, by rw [h1, e1], e2, e3⟩
      obtain ⟨rs', hlen, hq⟩ := choose_list Rw.nil rs.length _ hch
      refine ⟨⟨_, rs', rfl, ⟨hlen.symm, fun hp => ⟨w.heap.size, 0, rfl, hsz, fun i hi => ?_⟩, fun r hr => ?_⟩, ?_⟩, hB⟩
      · rw [hlen] at hi
        rw [Nat.zero_add]
        exact (hq i hi).1
      · obtain ⟨i, hi, rfl⟩ := List.getElem_of_mem hr
        have := (hq i (by omega)).2.2
        rwa [List.getElem?_eq_getElem hi] at this
      · apply List.ext_getElem
        · simp [hlen]
        · intro i h1 h2
          simp only [List.length_map] at h1 h2
          have := (hq i (by omega)).2.1
          rw [List.getElem?_eq_getElem h1, List.getElem?_eq_getElem h2] at this
          simpa using this
theorem szInt64S_any (A : Option Addr) (n c : Nat) (l : Int) (w : World) (hn : n ≤ 9223372036854775807) (hl : -1 ≤ l ∧ l ≤ 1048576) : Calls Try.prog 60 #[.slice A n c, .int .i64 l] w fun e w' =>
    e = .returned (.int .i64 (if l - n < 0 then -1 else l - n)) ∧ w = w' := by
  by_cases h : l - n < 0
  · rw [if_pos h]
    go_enter Try.func60, Try.ntmps60
    go_wp2
    go_returns
    exact ⟨rfl, rfl⟩
  · rw [if_neg h]
    go_enter Try.func60, Try.ntmps60
    go_wp2
    go_returns
    exact ⟨rfl, rfl⟩
def SzP (n : Nat) (rs : List Rw) (w : World) (e : Ending) (w' : World) : Prop := (∃ l : Int, (l = -1 ∨ (0 ≤ l ∧ n + tot rs ≤ 1048576)) ∧ e = .returned (.int .i64 l)) ∧ w = w'
theorem szInt64SS_any (A : Option Addr) (n c : Nat) (rs : List Rw) (w : World) (h : RSl w A n rs) (hn : n ≤ 9223372036854775807) (hl : lenB rs 9223372036854775807) : Calls Try.prog 26 #[.slice A n c, .int .i64 1048576] w (SzP n rs w) := by
  have HX := Lib.hid h.2.1
  have hnl := h.1
  have HL := Lib.hid hl
  clear h hl
  subst hnl
  by_cases h0 : (1048576 : Int) - rs.length < 0
  · go_enter Try.func26, Try.ntmps26
    go_wp2
    go_returns
    exact ⟨⟨-1, .inl rfl, rfl⟩, rfl⟩
  · have hlen : rs.length ≤ 1048576 := by omega
    go_enter Try.func26, Try.ntmps26
    go_wp2
    go_loop [1, 5] (fun l i => ∃ k : Nat, k ≤ rs.length ∧ i = .int .i64 k ∧ l = .int .i64 (1048576 - (rs.length : Int) - tot (rs.take k)) ∧ rs.length + tot (rs.take k) ≤ 1048576) (fun _ i => rs.length - (intOf i).toNat)
    case atStart => exact ⟨0, Nat.zero_le _, rfl, by simp [tot], by simp [tot]; omega⟩
    case round =>
      obtain ⟨k, hk, rfl, rfl, hb⟩ := hrel
      by_cases hlt : k < rs.length
      · obtain ⟨b, off, rfl, hb', hr⟩ := HX.out (by omega)
        have h1 := hr k hlt
        have il := HL.out _ (getD_mem hlt)
        have ht := tot_take rs k hlt
        dsimp only [Rw.v] at h1
        obtain ⟨ra, hra⟩ : ∃ x, (rs[k]?.getD Rw.nil).A = x := ⟨_, rfl⟩
        obtain ⟨rc, hrc⟩ : ∃ x, (rs[k]?.getD Rw.nil).c = x := ⟨_, rfl⟩
        obtain ⟨rx, hrx⟩ : ∃ x, (rs[k]?.getD Rw.nil).xs.length = x := ⟨_, rfl⟩
        obtain ⟨tk, htk⟩ : ∃ x, tot (rs.take k) = x := ⟨_, rfl⟩
        obtain ⟨tn, htn⟩ : ∃ x, tot (rs.take (k + 1)) = x := ⟨_, rfl⟩
        rw [hra, hrc, hrx] at h1
        rw [hrx] at il
        rw [hrx, htk, htn] at ht
        rw [htk] at hb
        rw [htk]
        have HTN := Lib.hid htn
        clear hr hra hrc hrx htk htn
        have hi0 : (0 : Int) ≤ (k : Int) := by omega
        have hi1 : (k : Int) < (rs.length : Int) := by omega
        obtain ⟨L, hL⟩ : ∃ L : Int, 1048576 - (rs.length : Int) - tk = L := ⟨_, rfl⟩
        have hLb : -1 ≤ L ∧ L ≤ 1048576 := by omega
        have hq := szInt64S_any ra rx rc L w il hLb
        rw [hL]
        by_cases hz : L - rx < 0
        · rw [if_pos hz] at hq
          have HQ := Lib.hid hq
          clear hq hL ht
          go_wp2_with (go_at_call 60; (with_reducible refine HQ.out.mono ?_); rintro e w2 ⟨rfl, rfl⟩)
          go_returns
          exact ⟨⟨-1, .inl rfl, rfl⟩, rfl⟩
        · rw [if_neg hz] at hq
          have HQ := Lib.hid hq
          have e1 : 1048576 - (rs.length : Int) - tn = L - rx := by omega
          have e2 : rs.length + tn ≤ 1048576 := by omega
          have hd : decide (L - (rx : Int) < 0) = false := by simp; omega
          have E1 := Lib.hid e1
          clear hq hL ht e1
          go_wp2_with (go_at_call 60; (with_reducible refine HQ.out.mono ?_); rintro e w2 ⟨rfl, rfl⟩)
          go_round
          case rel => exact ⟨k + 1, by omega, by go_num, by rw [HTN.out, E1.out], by rw [HTN.out]; exact e2⟩
          case measure => simp [intOf]; omega
      · obtain rfl : k = rs.length := by omega
        rw [List.take_length] at hb ⊢
        go_wp2
        go_returns
        exact ⟨⟨_, .inr ⟨by omega, hb⟩, rfl⟩, rfl⟩
end Go.Proofs.Ytabdkjciajjkiaa
