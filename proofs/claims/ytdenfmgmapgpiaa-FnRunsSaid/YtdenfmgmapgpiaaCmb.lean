/-
  The matrix of a step of a run, by both programs. No condition.
-/
import Derived.Test.YtdenfmgmapgpiaaPlm
import Derived.Test.YtdenfmgmapgpiaaCsm
namespace Go.Proofs.Ytdenfmgmapgpiaa
open Go.RowKit
set_option maxHeartbeats 2000000
theorem back_any9 (rule : Int) (w : World) : Calls Try.prog 78 #[.int .i64 rule] w fun e w' =>
    e = .returned (.agg #[.int .i64 (ownM rule 0), .int .i64 (ownM rule 1), .int .i64 (ownM rule 2), .int .i64 (ownM rule 3), .int .i64 (ownM rule 4), .int .i64 (ownM rule 5), .int .i64 (ownM rule 6), .int .i64 (ownM rule 7), .int .i64 (ownM rule 8)]) ∧ Below w.heap.size w w' := by
  rcases rule_cases rule with rfl | rfl | rfl | ⟨h0, h1, h2, g0, g1, g2⟩
  · go_enter Try.func78, Try.ntmps78
    go_wp2
    refine bodyPost_ret (by simp [results, Try.results78, go_sem, *]; try rfl) rfl ?_
    exact ⟨rfl, by (repeat' (first | (with_reducible exact Below.refl _ _) | (with_reducible refine Below.alloc ?_ ?_ _) | (with_reducible refine Below.drew ?_) | (with_reducible refine below_drewN' ?_ _) | (with_reducible refine Below.setCell ?_ ?_ _) | (with_reducible refine Below.trans ?_ (Below.mono (by assumption) ?_)) | go_size))⟩
  · go_enter Try.func78, Try.ntmps78
    go_wp2
    refine bodyPost_ret (by simp [results, Try.results78, go_sem, *]; try rfl) rfl ?_
    exact ⟨rfl, by (repeat' (first | (with_reducible exact Below.refl _ _) | (with_reducible refine Below.alloc ?_ ?_ _) | (with_reducible refine Below.drew ?_) | (with_reducible refine below_drewN' ?_ _) | (with_reducible refine Below.setCell ?_ ?_ _) | (with_reducible refine Below.trans ?_ (Below.mono (by assumption) ?_)) | go_size))⟩
  · go_enter Try.func78, Try.ntmps78
    go_wp2
    refine bodyPost_ret (by simp [results, Try.results78, go_sem, *]; try rfl) rfl ?_
    exact ⟨rfl, by (repeat' (first | (with_reducible exact Below.refl _ _) | (with_reducible refine Below.alloc ?_ ?_ _) | (with_reducible refine Below.drew ?_) | (with_reducible refine below_drewN' ?_ _) | (with_reducible refine Below.setCell ?_ ?_ _) | (with_reducible refine Below.trans ?_ (Below.mono (by assumption) ?_)) | go_size))⟩
  · rw [show ownM rule = sq9 1 0 1 0 1 1 0 0 1 from by simp [ownM, g0, g1, g2]]
    go_enter Try.func78, Try.ntmps78
    go_wp2
    refine bodyPost_ret (by simp [results, Try.results78, go_sem, *]; try rfl) rfl ?_
    exact ⟨rfl, by (repeat' (first | (with_reducible exact Below.refl _ _) | (with_reducible refine Below.alloc ?_ ?_ _) | (with_reducible refine Below.drew ?_) | (with_reducible refine below_drewN' ?_ _) | (with_reducible refine Below.setCell ?_ ?_ _) | (with_reducible refine Below.trans ?_ (Below.mono (by assumption) ?_)) | go_size))⟩
theorem own_cases (rule : Int) : (rule = 0 ∧ ownM rule = sq9 1 1 0 0 1 0 0 0 1) ∨ (rule = 1 ∧ ownM rule = sq9 1 0 1 0 1 0 0 0 1) ∨ (rule = 2 ∧ ownM rule = sq9 1 1 1 0 1 1 0 0 1) ∨
    (((rule == 0) = false ∧ (rule == 1) = false ∧ (rule == 2) = false) ∧ ownM rule = sq9 1 0 1 0 1 1 0 0 1) := by
  rcases rule_cases rule with rfl | rfl | rfl | ⟨h0, h1, h2, g0, g1, g2⟩
  · exact .inl ⟨rfl, rfl⟩
  · exact .inr (.inl ⟨rfl, rfl⟩)
  · exact .inr (.inr (.inl ⟨rfl, rfl⟩))
  · exact .inr (.inr (.inr ⟨⟨h0, h1, h2⟩, by simp [ownM, g0, g1, g2]⟩))
theorem ord_P (x y z : Int) : ∃ P : Nat → Nat, (ord3 x y z).1 = (P 0 : Int) ∧ (ord3 x y z).2.1 = (P 1 : Int) ∧ (ord3 x y z).2.2 = (P 2 : Int) ∧ ∀ j, j < 3 → P j < 3 := by
  have h : ∀ u v t : Nat, u < 3 → v < 3 → t < 3 → ord3 x y z = ((u : Int), (v : Int), (t : Int)) → ∃ P : Nat → Nat, (ord3 x y z).1 = (P 0 : Int) ∧ (ord3 x y z).2.1 = (P 1 : Int) ∧ (ord3 x y z).2.2 = (P 2 : Int) ∧ ∀ j, j < 3 → P j < 3 := by
    intro u v t h1 h2 h3 h
    refine ⟨fun j => [u, v, t][j]?.getD 0, by rw [h]; rfl, by rw [h]; rfl, by rw [h]; rfl, fun j hj => ?_⟩
    rcases (show j = 0 ∨ j = 1 ∨ j = 2 by omega) with rfl | rfl | rfl <;> simpa
  rcases ord3_cases x y z with ⟨_, e, _⟩ | ⟨_, e, _⟩ | ⟨_, e, _⟩ | ⟨_, ⟨⟩⟩ | ⟨_, ⟨⟩⟩ | ⟨_, e, _⟩ | ⟨_, e, _⟩ | ⟨_, e, _⟩
  · exact h 2 1 0 (by omega) (by omega) (by omega) e
  · exact h 1 2 0 (by omega) (by omega) (by omega) e
  · exact h 1 0 2 (by omega) (by omega) (by omega) e
  · exact h 2 0 1 (by omega) (by omega) (by omega) e
  · exact h 0 2 1 (by omega) (by omega) (by omega) e
  · exact h 0 1 2 (by omega) (by omega) (by omega) e
theorem perm_at (M : Nat → Int) (P : Nat → Nat) {i j : Nat} (hi : i < 3) (hj : j < 3) : perm9 M (P 0 : Int) (P 1 : Int) (P 2 : Int) (i * 3 + j) = M (i * 3 + P j) := by
  rcases (show i = 0 ∨ i = 1 ∨ i = 2 by omega) with rfl | rfl | rfl <;> rcases (show j = 0 ∨ j = 1 ∨ j = 2 by omega) with rfl | rfl | rfl <;> simp [perm9, sq9]
def Sq (w W : World) (own out res N : Nat) (M O : Nat → Int) (P : Nat → Nat) : Prop := C9 W own M ∧ (∀ j, j < 3 → W.cell? ⟨N, j, none⟩ = some (.int .i64 (P j : Int))) ∧ C9 W res (fun _ => 0) ∧ F9 W res ∧ C9 W out O ∧ F9 W out ∧ Below w.heap.size w W
theorem Sq.set {w W : World} {own out res N n : Nat} {M O : Nat → Int} {P : Nat → Nat} {x : Int} (h : Sq w W own out res N M O P) (h1 : out ≠ own) (h2 : out ≠ N) (h3 : out ≠ res) (hw : w.heap.size ≤ out) (hn : n < 9) :
    Sq w (W.setCell ⟨out, n, none⟩ (.int .i64 x)) own out res N M (fun m => if m = n then x else O m) P :=
  ⟨h.1.other h1, fun j hj => keep_setx h2 (h.2.1 j hj), h.2.2.1.other h3, h.2.2.2.1.set, h.2.2.2.2.1.set hn, h.2.2.2.2.2.1.set, h.2.2.2.2.2.2.setCell (p := ⟨out, n, none⟩) hw _⟩
theorem Sq.drew {w W : World} {own out res N : Nat} {M O : Nat → Int} {P : Nat → Nat} (h : Sq w W own out res N M O P) : Sq w W.drew own out res N M O P := ⟨h.1, h.2.1, h.2.2.1, h.2.2.2.1, h.2.2.2.2.1, h.2.2.2.2.2.1, h.2.2.2.2.2.2.drew⟩
theorem C9.drew {W : World} {b : Nat} {O : Nat → Int} (h : C9 W b O) : C9 W.drew b O := h
set_option maxRecDepth 100000 in
theorem l07Matrix_any (a b c rule : Int) (w : World) : Calls Try.prog 83 #[.agg #[.int .i64 a, .int .i64 b, .int .i64 c], .int .i64 rule] w fun e w' =>
    e = .returned (.agg #[.int .i64 (stM a b c rule 0), .int .i64 (stM a b c rule 1), .int .i64 (stM a b c rule 2), .int .i64 (stM a b c rule 3), .int .i64 (stM a b c rule 4), .int .i64 (stM a b c rule 5), .int .i64 (stM a b c rule 6), .int .i64 (stM a b c rule 7), .int .i64 (stM a b c rule 8)]) ∧ Below w.heap.size w w' := by
  have hT : ∀ i j, i < 3 → j < 3 → ∀ P : Nat → Nat, (ordG a b c rule).1 = (P 0 : Int) → (ordG a b c rule).2.1 = (P 1 : Int) → (ordG a b c rule).2.2 = (P 2 : Int) → stM a b c rule (i * 3 + j) = ownM rule (i * 3 + P j) := by
    intro i j hi hj P e0 e1 e2
    unfold stM
    rw [e0, e1, e2, perm_at _ _ hi hj]
  have hm := fun W => l07Less_any a b c rule W
  unfold ordG at hT
  obtain ⟨⟨x, y, z⟩, hr⟩ : ∃ r, madeG a b c rule = r := ⟨_, rfl⟩
  rw [hr] at hm hT
  dsimp only at hm hT
  have hq := fun W => l07Order_any x y z W
  obtain ⟨P, p0, p1, p2, hP⟩ := ord_P x y z
  have hT := fun i j hi hj => hT i j hi hj P p0 p1 p2
  rw [p0, p1, p2] at hq
  clear p0 p1 p2 hr
  obtain ⟨T, eT⟩ : ∃ T, stM a b c rule = T := ⟨_, rfl⟩
  rw [eT] at hT ⊢
  have hown := own_cases rule
  obtain ⟨M, eM⟩ : ∃ M, ownM rule = M := ⟨_, rfl⟩
  rw [eM] at hT hown
  clear eT eM
  have HT := Lib.hid hT
  have HM := Lib.hid hm
  have HQ := Lib.hid hq
  have HP := Lib.hid hP
  clear hT hm hq hP
  rcases hown with ⟨rfl, eM⟩ | ⟨rfl, eM⟩ | ⟨rfl, eM⟩ | ⟨⟨d0, d1, d2⟩, eM⟩
  all_goals
    have HE := Lib.hid eM
    clear eM
    go_enter Try.func83, Try.ntmps83
    go_wp2_with (first | (go_at_call 95; (with_reducible refine (HM.out _).mono ?_); rintro e w1 ⟨rfl, hb1⟩; obtain ⟨hc1, hf1, hz1, hn1⟩ := bstep 3 w hb1 (by go_size)) | (go_at_call 90; (with_reducible refine (HQ.out _).mono ?_); rintro e w2 ⟨⟨N, hN, rfl, c0, c1, c2⟩, hb2⟩; obtain ⟨hc2, hf2, hz2, hn2⟩ := bstep 3 w hb2 (by go_size); (try simp only [World.size_drew] at hN); (try simp only [World.size_alloc] at hN); (try simp only [World.size_setCell] at hN)))
    simp only [Nat.add_assoc, Nat.reduceAdd]
    have hNlt : N < w2.heap.size := World.block_lt_of_cell? w2 _ c0
    have hN3 : w.heap.size + 3 ≤ N := by omega
    refine wp_gen' (F := fun W => Sq w W (w.heap.size + 2) w2.heap.size (w.heap.size + 1) N M (fun _ => 0) P) ?_ (fun W1 hW1 => ?_)
    · clear HT HM HQ HP
      rw [HE.out]
      refine ⟨?_, ?_, ?_, ?_, ?_, ?_, by (repeat' (first | (with_reducible exact Below.refl _ _) | (with_reducible refine Below.alloc ?_ ?_ _) | (with_reducible refine Below.drew ?_) | (with_reducible refine below_drewN' ?_ _) | (with_reducible refine Below.setCell ?_ ?_ _) | (with_reducible refine Below.trans ?_ (Below.mono (by assumption) ?_)) | go_size))⟩
      · intro n hn; rcases n9 hn with rfl | rfl | rfl | rfl | rfl | rfl | rfl | rfl | rfl <;> exact keep_alloc (keep_hc hc2 (by omega) (keep_hc hc1 (by omega) (by simp only [sq9]; go_simp)))
      · intro j hj; rcases (show j = 0 ∨ j = 1 ∨ j = 2 by omega) with rfl | rfl | rfl
        · exact keep_alloc c0
        · exact keep_alloc c1
        · exact keep_alloc c2
      · intro n hn; rcases n9 hn with rfl | rfl | rfl | rfl | rfl | rfl | rfl | rfl | rfl <;> exact keep_alloc (keep_hc hc2 (by omega) (keep_hc hc1 (by omega) (by go_simp)))
      · intro n hn; rcases n9 hn with rfl | rfl | rfl | rfl | rfl | rfl | rfl | rfl | rfl <;> exact fz_alloc (fz_hc hf2 (by omega) (fz_hc hf1 (by omega) (by go_simp))) (by omega)
      · intro n hn; rcases n9 hn with rfl | rfl | rfl | rfl | rfl | rfl | rfl | rfl | rfl <;> go_simp
      · intro n hn; rcases n9 hn with rfl | rfl | rfl | rfl | rfl | rfl | rfl | rfl | rfl <;> go_simp
    · have HS := Lib.hid hW1
      clear hW1 c0 c1 c2 hb1 hb2 hc1 hc2 hf1 hf2 hz1 hz2 hn1 hn2 HM HQ HE hN
      generalize w2.heap.size = D at *
      go_loopw [8] (fun iv W => ∃ (i : Nat) (O : Nat → Int), i ≤ 3 ∧ iv = .int .i64 i ∧ (∀ n, n < i * 3 → O n = T n) ∧ Sq w W (w.heap.size + 2) D (w.heap.size + 1) N M O P) (fun iv _ => 3 - (intOf iv).toNat)
      case atStart => exact ⟨0, fun _ => 0, by omega, rfl, fun n hn => absurd hn (by omega), HS.out⟩
      case round =>
        clear HS
        obtain ⟨i, O, hi, rfl, hmid, hst⟩ := hrel
        have HS := Lib.hid hst
        have HD := Lib.hid hmid
        clear hst hmid
        by_cases hi3 : i < 3
        · have hii : (i : Int) < 3 := by omega
          go_wp2
          go_loopw [9] (fun jv W => ∃ (j : Nat) (O : Nat → Int), j ≤ 3 ∧ jv = .int .i64 j ∧ (∀ n, n < i * 3 + j → O n = T n) ∧ Sq w W (w.heap.size + 2) D (w.heap.size + 1) N M O P) (fun jv _ => 3 - (intOf jv).toNat)
          case atStart => exact ⟨0, O, by omega, rfl, HD.out, HS.out⟩
          case round =>
            clear HS HD
            obtain ⟨j, O, hj, rfl, hmid, hst⟩ := hrel
            by_cases hj3 : j < 3
            · have hjj : (j : Int) < 3 := by omega
              have hPj := HP.out j hj3
              have hpp : (P j : Int) < 3 := by omega
              have hp0 : (0 : Int) ≤ (P j : Int) := by omega
              have m1 := hst.1 (i * 3 + P j) (by omega)
              have m2 := hst.2.1 j hj3
              have m3 := hst.2.2.2.2.1 (i * 3 + j) (by omega)
              have m4 := hst.2.2.2.2.2.1 (i * 3 + j) (by omega)
              have HS := Lib.hid hst
              have HD := Lib.hid hmid
              have HTT := Lib.hid (HT.out i j hi3 hj3)
              obtain ⟨q, hq⟩ : ∃ q, P j = q := ⟨_, rfl⟩
              rw [hq] at m1 m2 hPj hpp hp0
              have HQ := Lib.hid hq
              clear hst hmid hq
              go_wp2
              go_still_tail 12, (by kernel_rfl)
              go_wp2
              go_roundw
              case rel =>
                refine ⟨j + 1, fun n => if n = i * 3 + j then M (i * 3 + q) else O n, by omega, by go_num, fun n hn => ?_, by simpa using (HS.out.set (n := i * 3 + j) (by omega) (by omega) (by omega) (by omega) (by omega)).drew⟩
                by_cases e : n = i * 3 + j
                · subst e; dsimp only; rw [if_pos rfl, HTT.out, HQ.out]
                · dsimp only; rw [if_neg e]; exact HD.out n (by omega)
              case measure => simp [intOf]; omega
            · obtain rfl : j = 3 := by omega
              have HS := Lib.hid hst
              have HD := Lib.hid hmid
              clear hst hmid
              go_wp2
              go_roundw
              case rel => exact ⟨i + 1, O, by omega, by go_num, fun n hn => HD.out n (by omega), HS.out⟩
              case measure => simp [intOf]; omega
        · obtain rfl : i = 3 := by omega
          have hO : ∀ n, n < 9 → O n = T n := fun n hn => HD.out n (by omega)
          have o0 := HS.out.2.2.2.2.1 0 (by omega)
          have r0 := HS.out.2.2.1 0 (by omega)
          have f0 := HS.out.2.2.2.1 0 (by omega)
          rw [hO 0 (by omega)] at o0
          have o1 := HS.out.2.2.2.2.1 1 (by omega)
          have r1 := HS.out.2.2.1 1 (by omega)
          have f1 := HS.out.2.2.2.1 1 (by omega)
          rw [hO 1 (by omega)] at o1
          have o2 := HS.out.2.2.2.2.1 2 (by omega)
          have r2 := HS.out.2.2.1 2 (by omega)
          have f2 := HS.out.2.2.2.1 2 (by omega)
          rw [hO 2 (by omega)] at o2
          have o3 := HS.out.2.2.2.2.1 3 (by omega)
          have r3 := HS.out.2.2.1 3 (by omega)
          have f3 := HS.out.2.2.2.1 3 (by omega)
          rw [hO 3 (by omega)] at o3
          have o4 := HS.out.2.2.2.2.1 4 (by omega)
          have r4 := HS.out.2.2.1 4 (by omega)
          have f4 := HS.out.2.2.2.1 4 (by omega)
          rw [hO 4 (by omega)] at o4
          have o5 := HS.out.2.2.2.2.1 5 (by omega)
          have r5 := HS.out.2.2.1 5 (by omega)
          have f5 := HS.out.2.2.2.1 5 (by omega)
          rw [hO 5 (by omega)] at o5
          have o6 := HS.out.2.2.2.2.1 6 (by omega)
          have r6 := HS.out.2.2.1 6 (by omega)
          have f6 := HS.out.2.2.2.1 6 (by omega)
          rw [hO 6 (by omega)] at o6
          have o7 := HS.out.2.2.2.2.1 7 (by omega)
          have r7 := HS.out.2.2.1 7 (by omega)
          have f7 := HS.out.2.2.2.1 7 (by omega)
          rw [hO 7 (by omega)] at o7
          have o8 := HS.out.2.2.2.2.1 8 (by omega)
          have r8 := HS.out.2.2.1 8 (by omega)
          have f8 := HS.out.2.2.2.1 8 (by omega)
          rw [hO 8 (by omega)] at o8
          have HB := Lib.hid HS.out.2.2.2.2.2.2
          clear HS HD hO HT HP
          go_wp2
          refine bodyPost_ret (by simp [results, Try.results83, go_sem, *]; try rfl) rfl ?_
          refine ⟨rfl, ?_⟩
          (repeat' (first | (with_reducible exact Below.refl _ _) | (with_reducible refine Below.alloc ?_ ?_ _) | (with_reducible refine Below.drew ?_) | (with_reducible refine below_drewN' ?_ _) | (with_reducible refine Below.setCell ?_ ?_ _) | (with_reducible refine Below.trans ?_ (Below.mono (by assumption) ?_)) | go_size))
          exact HB.out
end Go.Proofs.Ytdenfmgmapgpiaa
