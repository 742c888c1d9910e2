/-
  The product of two squares, by both programs. Condition: none: both add in one order.
-/
import Derived.Test.YtdenfmgmapgpiaaCsq
import Derived.Test.YtdenfmgmapgpiaaHk
import Derived.StillTailTactics
import Derived.Deep.CutRange
import Derived.Deep.CutBlock
import Derived.Deep.DeepCutAuto
namespace Go.Proofs.Ytdenfmgmapgpiaa
open Go.RowKit
set_option maxHeartbeats 2000000
def Mid (M N : Nat → Int) (i j k : Nat) (O : Nat → Int) : Prop := (∀ n, n < i * 3 + j → O n = full9 M N n) ∧ (∀ n, i * 3 + j < n → n < 9 → O n = 0) ∧ (i * 3 + j < 9 → O (i * 3 + j) = part9 M N i j k)
def C9 (W : World) (b : Nat) (M : Nat → Int) : Prop := ∀ n, n < 9 → W.cell? ⟨b, n, none⟩ = some (.int .i64 (M n))
def F9 (W : World) (b : Nat) : Prop := ∀ n, n < 9 → W.frozen? ⟨b, n, none⟩ = false
def St9 (w W : World) (M N O : Nat → Int) : Prop := C9 W w.heap.size M ∧ C9 W (w.heap.size + 1) N ∧ C9 W (w.heap.size + 2) (fun _ => 0) ∧ F9 W (w.heap.size + 2) ∧ C9 W (w.heap.size + 3) O ∧ F9 W (w.heap.size + 3) ∧ W.heap.size = w.heap.size + 4 ∧ Below w.heap.size w W
theorem Mid.start (M N : Nat → Int) : Mid M N 0 0 0 (fun _ => 0) := ⟨fun n h => absurd h (by omega), fun _ _ _ => rfl, fun _ => rfl⟩
theorem Mid.row {M N O : Nat → Int} {i : Nat} (h : Mid M N i 3 0 O) : Mid M N (i + 1) 0 0 O := by
  obtain ⟨h1, h2, h3⟩ := h
  have e : (i + 1) * 3 + 0 = i * 3 + 3 := by omega
  exact ⟨fun n hn => h1 n (by omega), fun n hn hn9 => h2 n (by omega) hn9, fun h9 => by rw [e] at h9 ⊢; exact h3 h9⟩
theorem Mid.cell {M N O : Nat → Int} {i j : Nat} (hi : i < 3) (hj : j < 3) (h : Mid M N i j 3 O) : Mid M N i (j + 1) 0 O := by
  obtain ⟨h1, h2, h3⟩ := h
  refine ⟨fun n hn => ?_, fun n hn hn9 => h2 n (by omega) hn9, fun h9 => ?_⟩
  · rcases Nat.lt_or_ge n (i * 3 + j) with hlt | hge
    · exact h1 n hlt
    · obtain rfl : n = i * 3 + j := by omega
      rw [h3 (by omega)]
      unfold full9
      rw [show (i * 3 + j) / 3 = i by omega, show (i * 3 + j) % 3 = j by omega]
  · rw [h2 _ (by omega) h9]
    rfl
theorem Mid.step {M N O : Nat → Int} {i j k : Nat} (h : Mid M N i j k O) : Mid M N i j (k + 1) (fun n => if n = i * 3 + j then wrap64 (O (i * 3 + j) + wrap64 (M (i * 3 + k) * N (k * 3 + j))) else O n) := by
  obtain ⟨h1, h2, h3⟩ := h
  refine ⟨fun n hn => ?_, fun n hn hn9 => ?_, fun h9 => ?_⟩
  · dsimp only; rw [if_neg (by omega)]; exact h1 n hn
  · dsimp only; rw [if_neg (by omega)]; exact h2 n hn hn9
  · dsimp only; rw [if_pos rfl, h3 h9]; rfl
theorem C9.set {W : World} {b n : Nat} {O : Nat → Int} {x : Int} (h : C9 W b O) (hn : n < 9) : C9 (W.setCell ⟨b, n, none⟩ (.int .i64 x)) b (fun m => if m = n then x else O m) := fun m hm => by
  by_cases e : m = n
  · subst e
    dsimp only
    rw [if_pos rfl]
    exact World.cell?_setCell_same (h := h m hm) ..
  · dsimp only
    rw [if_neg e]
    exact (World.cell?_setCell_other _ _ _ _ (fun e' => e (by have := congrArg Addr.off e'; simp at this; omega))).trans (h m hm)
theorem C9.other {W : World} {b b' n : Nat} {O : Nat → Int} {x : Value} (h : C9 W b O) (hb : b' ≠ b) : C9 (W.setCell ⟨b', n, none⟩ x) b O := fun m hm => keep_setx hb (h m hm)
theorem F9.set {W : World} {b : Nat} {p : Addr} {x : Value} (h : F9 W b) : F9 (W.setCell p x) b := fun m hm => by rw [World.frozen?_setCell]; exact h m hm
theorem St9.set {w W : World} {M N O : Nat → Int} {n : Nat} {x : Int} (h : St9 w W M N O) (hn : n < 9) : St9 w (W.setCell ⟨w.heap.size + 3, n, none⟩ (.int .i64 x)) M N (fun m => if m = n then x else O m) :=
  ⟨h.1.other (by omega), h.2.1.other (by omega), h.2.2.1.other (by omega), h.2.2.2.1.set, h.2.2.2.2.1.set hn, h.2.2.2.2.2.1.set, by rw [World.size_setCell]; exact h.2.2.2.2.2.2.1, h.2.2.2.2.2.2.2.setCell (p := ⟨w.heap.size + 3, n, none⟩) (by simp) _⟩
theorem St9.drew {w W : World} {M N O : Nat → Int} (h : St9 w W M N O) : St9 w W.drew M N O :=
  ⟨h.1, h.2.1, h.2.2.1, h.2.2.2.1, h.2.2.2.2.1, h.2.2.2.2.2.1, h.2.2.2.2.2.2.1, h.2.2.2.2.2.2.2.drew⟩
set_option maxRecDepth 100000 in
theorem sqTimes_any (M N : Nat → Int) (w : World) : Calls Try.prog 80 #[.agg #[.int .i64 (M 0), .int .i64 (M 1), .int .i64 (M 2), .int .i64 (M 3), .int .i64 (M 4), .int .i64 (M 5), .int .i64 (M 6), .int .i64 (M 7), .int .i64 (M 8)], .agg #[.int .i64 (N 0), .int .i64 (N 1), .int .i64 (N 2), .int .i64 (N 3), .int .i64 (N 4), .int .i64 (N 5), .int .i64 (N 6), .int .i64 (N 7), .int .i64 (N 8)]] w fun en w' =>
    en = .returned (.agg #[.int .i64 (full9 M N 0), .int .i64 (full9 M N 1), .int .i64 (full9 M N 2), .int .i64 (full9 M N 3), .int .i64 (full9 M N 4), .int .i64 (full9 M N 5), .int .i64 (full9 M N 6), .int .i64 (full9 M N 7), .int .i64 (full9 M N 8)]) ∧ Below w.heap.size w w' := by
  obtain ⟨Q, hQ⟩ : ∃ Q, full9 M N = Q := ⟨_, rfl⟩
  rw [hQ]
  have HQ := Lib.hid hQ
  clear hQ
  go_enter Try.func80, Try.ntmps80
  go_upto_block 0 with fail
  simp only [Nat.add_assoc, Nat.reduceAdd]
  refine wp_gen' (F := fun W => St9 w W M N (fun _ => 0)) ?_ (fun W1 hW1 => ?_)
  · clear HQ
    refine ⟨?_, ?_, ?_, ?_, ?_, ?_, by simp, by (repeat' (first | (with_reducible exact Below.refl _ _) | (with_reducible refine Below.alloc ?_ ?_ _) | (with_reducible refine Below.drew ?_) | (with_reducible refine below_drewN' ?_ _) | (with_reducible refine Below.setCell ?_ ?_ _) | (with_reducible refine Below.trans ?_ (Below.mono (by assumption) ?_)) | go_size))⟩
    · intro n hn; rcases n9 hn with rfl | rfl | rfl | rfl | rfl | rfl | rfl | rfl | rfl <;> go_simp
    · intro n hn; rcases n9 hn with rfl | rfl | rfl | rfl | rfl | rfl | rfl | rfl | rfl <;> go_simp
    · intro n hn; rcases n9 hn with rfl | rfl | rfl | rfl | rfl | rfl | rfl | rfl | rfl <;> go_simp
    · intro n hn; rcases n9 hn with rfl | rfl | rfl | rfl | rfl | rfl | rfl | rfl | rfl <;> go_simp
    · intro n hn; rcases n9 hn with rfl | rfl | rfl | rfl | rfl | rfl | rfl | rfl | rfl <;> go_simp
    · intro n hn; rcases n9 hn with rfl | rfl | rfl | rfl | rfl | rfl | rfl | rfl | rfl <;> go_simp
  · have HS := Lib.hid hW1
    clear hW1
    go_wp2
    go_loopw [10] (fun iv W => ∃ (i : Nat) (O : Nat → Int), i ≤ 3 ∧ iv = .int .i64 i ∧ Mid M N i 0 0 O ∧ St9 w W M N O) (fun iv _ => 3 - (intOf iv).toNat)
    case atStart => exact ⟨0, fun _ => 0, by omega, rfl, Mid.start M N, HS.out⟩
    case round =>
      clear HS
      obtain ⟨i, O, hi, rfl, hmid, hst⟩ := hrel
      have HS := Lib.hid hst
      have HD := Lib.hid hmid
      clear hst hmid
      by_cases hi3 : i < 3
      · have hii : (i : Int) < 3 := by omega
        go_wp2
        go_loopw [13] (fun jv W => ∃ (j : Nat) (O : Nat → Int), j ≤ 3 ∧ jv = .int .i64 j ∧ Mid M N i j 0 O ∧ St9 w W M N O) (fun jv _ => 3 - (intOf jv).toNat)
        case atStart => exact ⟨0, O, by omega, rfl, HD.out, HS.out⟩
        case round =>
          clear HS HD
          obtain ⟨j, O, hj, rfl, hmid, hst⟩ := hrel
          have HS := Lib.hid hst
          have HD := Lib.hid hmid
          clear hst hmid
          by_cases hj3 : j < 3
          · have hjj : (j : Int) < 3 := by omega
            go_wp2
            go_loopw [16] (fun kv W => ∃ (k : Nat) (O : Nat → Int), k ≤ 3 ∧ kv = .int .i64 k ∧ Mid M N i j k O ∧ St9 w W M N O) (fun kv _ => 3 - (intOf kv).toNat)
            case atStart => exact ⟨0, O, by omega, rfl, HD.out, HS.out⟩
            case round =>
              clear HS HD
              obtain ⟨k, O, hk, rfl, hmid, hst⟩ := hrel
              by_cases hk3 : k < 3
              · have hkk : (k : Int) < 3 := by omega
                have m1 := hst.1 (i * 3 + k) (by omega)
                have m2 := hst.2.1 (k * 3 + j) (by omega)
                have m3 := hst.2.2.2.2.1 (i * 3 + j) (by omega)
                have m4 := hst.2.2.2.2.2.1 (i * 3 + j) (by omega)
                have HS := Lib.hid hst
                have HD := Lib.hid hmid
                clear hst hmid
                go_wp2
                go_still_tail 19, (by kernel_rfl)
                go_wp2
                go_roundw
                case rel => exact ⟨k + 1, _, by omega, by go_num, HD.out.step, by simpa using (HS.out.set (n := i * 3 + j) (by omega)).drew⟩
                case measure => simp [intOf]; omega
              · obtain rfl : k = 3 := by omega
                have HS := Lib.hid hst
                have HD := Lib.hid (hmid.cell hi3 hj3)
                clear hst hmid
                go_wp2
                go_roundw
                case rel => exact ⟨j + 1, O, by omega, by go_num, HD.out, HS.out⟩
                case measure => simp [intOf]; omega
          · obtain rfl : j = 3 := by omega
            have HD' := Lib.hid HD.out.row
            clear HD
            go_wp2
            go_roundw
            case rel => exact ⟨i + 1, O, by omega, by go_num, HD'.out, HS.out⟩
            case measure => simp [intOf]; omega
      · obtain rfl : i = 3 := by omega
        have hO : ∀ n, n < 9 → O n = Q n := fun n hn => by rw [HD.out.1 n (by omega), HQ.out]
        have o0 := HS.out.2.2.2.2.1 0 (by omega)
        have r0 := HS.out.2.2.1 0 (by omega)
        have f0 := HS.out.2.2.2.1 0 (by omega)
        have o1 := HS.out.2.2.2.2.1 1 (by omega)
        have r1 := HS.out.2.2.1 1 (by omega)
        have f1 := HS.out.2.2.2.1 1 (by omega)
        have o2 := HS.out.2.2.2.2.1 2 (by omega)
        have r2 := HS.out.2.2.1 2 (by omega)
        have f2 := HS.out.2.2.2.1 2 (by omega)
        have o3 := HS.out.2.2.2.2.1 3 (by omega)
        have r3 := HS.out.2.2.1 3 (by omega)
        have f3 := HS.out.2.2.2.1 3 (by omega)
        have o4 := HS.out.2.2.2.2.1 4 (by omega)
        have r4 := HS.out.2.2.1 4 (by omega)
        have f4 := HS.out.2.2.2.1 4 (by omega)
        have o5 := HS.out.2.2.2.2.1 5 (by omega)
        have r5 := HS.out.2.2.1 5 (by omega)
        have f5 := HS.out.2.2.2.1 5 (by omega)
        have o6 := HS.out.2.2.2.2.1 6 (by omega)
        have r6 := HS.out.2.2.1 6 (by omega)
        have f6 := HS.out.2.2.2.1 6 (by omega)
        have o7 := HS.out.2.2.2.2.1 7 (by omega)
        have r7 := HS.out.2.2.1 7 (by omega)
        have f7 := HS.out.2.2.2.1 7 (by omega)
        have o8 := HS.out.2.2.2.2.1 8 (by omega)
        have r8 := HS.out.2.2.1 8 (by omega)
        have f8 := HS.out.2.2.2.1 8 (by omega)
        rw [hO 0 (by omega)] at o0
        rw [hO 1 (by omega)] at o1
        rw [hO 2 (by omega)] at o2
        rw [hO 3 (by omega)] at o3
        rw [hO 4 (by omega)] at o4
        rw [hO 5 (by omega)] at o5
        rw [hO 6 (by omega)] at o6
        rw [hO 7 (by omega)] at o7
        rw [hO 8 (by omega)] at o8
        have HB := Lib.hid HS.out.2.2.2.2.2.2.2
        clear HS HD HQ hO
        go_wp2
        refine bodyPost_ret (by simp [results, Try.results80, go_sem, *]; try rfl) rfl ?_
        refine ⟨rfl, ?_⟩
        (repeat' (first | (with_reducible exact Below.refl _ _) | (with_reducible refine Below.alloc ?_ ?_ _) | (with_reducible refine Below.drew ?_) | (with_reducible refine below_drewN' ?_ _) | (with_reducible refine Below.setCell ?_ ?_ _) | (with_reducible refine Below.trans ?_ (Below.mono (by assumption) ?_)) | go_size))
        exact HB.out
set_option maxRecDepth 100000 in
theorem l07Times_any (M N : Nat → Int) (w : World) : Calls Try.prog 82 #[.agg #[.int .i64 (M 0), .int .i64 (M 1), .int .i64 (M 2), .int .i64 (M 3), .int .i64 (M 4), .int .i64 (M 5), .int .i64 (M 6), .int .i64 (M 7), .int .i64 (M 8)], .agg #[.int .i64 (N 0), .int .i64 (N 1), .int .i64 (N 2), .int .i64 (N 3), .int .i64 (N 4), .int .i64 (N 5), .int .i64 (N 6), .int .i64 (N 7), .int .i64 (N 8)]] w fun en w' =>
    en = .returned (.agg #[.int .i64 (full9 M N 0), .int .i64 (full9 M N 1), .int .i64 (full9 M N 2), .int .i64 (full9 M N 3), .int .i64 (full9 M N 4), .int .i64 (full9 M N 5), .int .i64 (full9 M N 6), .int .i64 (full9 M N 7), .int .i64 (full9 M N 8)]) ∧ Below w.heap.size w w' := by
  obtain ⟨Q, hQ⟩ : ∃ Q, full9 M N = Q := ⟨_, rfl⟩
  rw [hQ]
  have HQ := Lib.hid hQ
  clear hQ
  go_enter Try.func82, Try.ntmps82
  go_upto_block 0 with fail
  simp only [Nat.add_assoc, Nat.reduceAdd]
  refine wp_gen' (F := fun W => St9 w W M N (fun _ => 0)) ?_ (fun W1 hW1 => ?_)
  · clear HQ
    refine ⟨?_, ?_, ?_, ?_, ?_, ?_, by simp, by (repeat' (first | (with_reducible exact Below.refl _ _) | (with_reducible refine Below.alloc ?_ ?_ _) | (with_reducible refine Below.drew ?_) | (with_reducible refine below_drewN' ?_ _) | (with_reducible refine Below.setCell ?_ ?_ _) | (with_reducible refine Below.trans ?_ (Below.mono (by assumption) ?_)) | go_size))⟩
    · intro n hn; rcases n9 hn with rfl | rfl | rfl | rfl | rfl | rfl | rfl | rfl | rfl <;> go_simp
    · intro n hn; rcases n9 hn with rfl | rfl | rfl | rfl | rfl | rfl | rfl | rfl | rfl <;> go_simp
    · intro n hn; rcases n9 hn with rfl | rfl | rfl | rfl | rfl | rfl | rfl | rfl | rfl <;> go_simp
    · intro n hn; rcases n9 hn with rfl | rfl | rfl | rfl | rfl | rfl | rfl | rfl | rfl <;> go_simp
    · intro n hn; rcases n9 hn with rfl | rfl | rfl | rfl | rfl | rfl | rfl | rfl | rfl <;> go_simp
    · intro n hn; rcases n9 hn with rfl | rfl | rfl | rfl | rfl | rfl | rfl | rfl | rfl <;> go_simp
  · have HS := Lib.hid hW1
    clear hW1
    go_wp2
    go_loopw [6] (fun iv W => ∃ (i : Nat) (O : Nat → Int), i ≤ 3 ∧ iv = .int .i64 i ∧ Mid M N i 0 0 O ∧ St9 w W M N O) (fun iv _ => 3 - (intOf iv).toNat)
    case atStart => exact ⟨0, fun _ => 0, by omega, rfl, Mid.start M N, HS.out⟩
    case round =>
      clear HS
      obtain ⟨i, O, hi, rfl, hmid, hst⟩ := hrel
      have HS := Lib.hid hst
      have HD := Lib.hid hmid
      clear hst hmid
      by_cases hi3 : i < 3
      · have hii : (i : Int) < 3 := by omega
        go_wp2
        go_loopw [7] (fun jv W => ∃ (j : Nat) (O : Nat → Int), j ≤ 3 ∧ jv = .int .i64 j ∧ Mid M N i j 0 O ∧ St9 w W M N O) (fun jv _ => 3 - (intOf jv).toNat)
        case atStart => exact ⟨0, O, by omega, rfl, HD.out, HS.out⟩
        case round =>
          clear HS HD
          obtain ⟨j, O, hj, rfl, hmid, hst⟩ := hrel
          have HS := Lib.hid hst
          have HD := Lib.hid hmid
          clear hst hmid
          by_cases hj3 : j < 3
          · have hjj : (j : Int) < 3 := by omega
            go_wp2
            go_loopw [8] (fun kv W => ∃ (k : Nat) (O : Nat → Int), k ≤ 3 ∧ kv = .int .i64 k ∧ Mid M N i j k O ∧ St9 w W M N O) (fun kv _ => 3 - (intOf kv).toNat)
            case atStart => exact ⟨0, O, by omega, rfl, HD.out, HS.out⟩
            case round =>
              clear HS HD
              obtain ⟨k, O, hk, rfl, hmid, hst⟩ := hrel
              by_cases hk3 : k < 3
              · have hkk : (k : Int) < 3 := by omega
                have m1 := hst.1 (i * 3 + k) (by omega)
                have m2 := hst.2.1 (k * 3 + j) (by omega)
                have m3 := hst.2.2.2.2.1 (i * 3 + j) (by omega)
                have m4 := hst.2.2.2.2.2.1 (i * 3 + j) (by omega)
                have HS := Lib.hid hst
                have HD := Lib.hid hmid
                clear hst hmid
                go_wp2
                go_still_tail 21, (by kernel_rfl)
                go_wp2
                go_roundw
                case rel => exact ⟨k + 1, _, by omega, by go_num, HD.out.step, by simpa using (HS.out.set (n := i * 3 + j) (by omega)).drew⟩
                case measure => simp [intOf]; omega
              · obtain rfl : k = 3 := by omega
                have HS := Lib.hid hst
                have HD := Lib.hid (hmid.cell hi3 hj3)
                clear hst hmid
                go_wp2
                go_roundw
                case rel => exact ⟨j + 1, O, by omega, by go_num, HD.out, HS.out⟩
                case measure => simp [intOf]; omega
          · obtain rfl : j = 3 := by omega
            have HD' := Lib.hid HD.out.row
            clear HD
            go_wp2
            go_roundw
            case rel => exact ⟨i + 1, O, by omega, by go_num, HD'.out, HS.out⟩
            case measure => simp [intOf]; omega
      · obtain rfl : i = 3 := by omega
        have hO : ∀ n, n < 9 → O n = Q n := fun n hn => by rw [HD.out.1 n (by omega), HQ.out]
        have o0 := HS.out.2.2.2.2.1 0 (by omega)
        have r0 := HS.out.2.2.1 0 (by omega)
        have f0 := HS.out.2.2.2.1 0 (by omega)
        have o1 := HS.out.2.2.2.2.1 1 (by omega)
        have r1 := HS.out.2.2.1 1 (by omega)
        have f1 := HS.out.2.2.2.1 1 (by omega)
        have o2 := HS.out.2.2.2.2.1 2 (by omega)
        have r2 := HS.out.2.2.1 2 (by omega)
        have f2 := HS.out.2.2.2.1 2 (by omega)
        have o3 := HS.out.2.2.2.2.1 3 (by omega)
        have r3 := HS.out.2.2.1 3 (by omega)
        have f3 := HS.out.2.2.2.1 3 (by omega)
        have o4 := HS.out.2.2.2.2.1 4 (by omega)
        have r4 := HS.out.2.2.1 4 (by omega)
        have f4 := HS.out.2.2.2.1 4 (by omega)
        have o5 := HS.out.2.2.2.2.1 5 (by omega)
        have r5 := HS.out.2.2.1 5 (by omega)
        have f5 := HS.out.2.2.2.1 5 (by omega)
        have o6 := HS.out.2.2.2.2.1 6 (by omega)
        have r6 := HS.out.2.2.1 6 (by omega)
        have f6 := HS.out.2.2.2.1 6 (by omega)
        have o7 := HS.out.2.2.2.2.1 7 (by omega)
        have r7 := HS.out.2.2.1 7 (by omega)
        have f7 := HS.out.2.2.2.1 7 (by omega)
        have o8 := HS.out.2.2.2.2.1 8 (by omega)
        have r8 := HS.out.2.2.1 8 (by omega)
        have f8 := HS.out.2.2.2.1 8 (by omega)
        rw [hO 0 (by omega)] at o0
        rw [hO 1 (by omega)] at o1
        rw [hO 2 (by omega)] at o2
        rw [hO 3 (by omega)] at o3
        rw [hO 4 (by omega)] at o4
        rw [hO 5 (by omega)] at o5
        rw [hO 6 (by omega)] at o6
        rw [hO 7 (by omega)] at o7
        rw [hO 8 (by omega)] at o8
        have HB := Lib.hid HS.out.2.2.2.2.2.2.2
        clear HS HD HQ hO
        go_wp2
        refine bodyPost_ret (by simp [results, Try.results82, go_sem, *]; try rfl) rfl ?_
        refine ⟨rfl, ?_⟩
        (repeat' (first | (with_reducible exact Below.refl _ _) | (with_reducible refine Below.alloc ?_ ?_ _) | (with_reducible refine Below.drew ?_) | (with_reducible refine below_drewN' ?_ _) | (with_reducible refine Below.setCell ?_ ?_ _) | (with_reducible refine Below.trans ?_ (Below.mono (by assumption) ?_)) | go_size))
        exact HB.out
end Go.Proofs.Ytdenfmgmapgpiaa
