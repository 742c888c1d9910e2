/-
  Squares: which fit, what they make of triples. No condition but what stands in each.
-/
import Derived.Test.YtdenfmgmapgpiaaCst
namespace Go.Proofs.Ytdenfmgmapgpiaa
open Go.RowKit
set_option maxHeartbeats 2000000
theorem wp_gen' {P : Program} {Q : Exit → Act → World → Prop} {c : Code} {a : Act} {W : World} {F : World → Prop} (hF : F W) (h : ∀ w2, F w2 → Code.wp P c Q a w2) : Code.wp P c Q a W := h W hF
def rowB (a b c : Int) : Bool := numB a && (numB b && numB c)
def sqB (a b c d e f g h i : Int) : Bool := rowB a b c && (rowB d e f && rowB g h i)
theorem rowB_iff {a b c : Int} : rowB a b c = true ↔ (0 ≤ a ∧ a ≤ 1000000) ∧ (0 ≤ b ∧ b ≤ 1000000) ∧ 0 ≤ c ∧ c ≤ 1000000 := by simp [rowB, numB, inB_iff]
def sq9 (a b c d e f g h i : Int) (n : Nat) : Int := [a, b, c, d, e, f, g, h, i][n]?.getD 0
def part9 (M N : Nat → Int) (r c : Nat) : Nat → Int
  | 0 => 0
  | k + 1 => wrap64 (part9 M N r c k + wrap64 (M (r * 3 + k) * N (k * 3 + c)))
def full9 (M N : Nat → Int) (n : Nat) : Int := part9 M N (n / 3) (n % 3) 3
theorem n9 {n : Nat} (h : n < 9) : n = 0 ∨ n = 1 ∨ n = 2 ∨ n = 3 ∨ n = 4 ∨ n = 5 ∨ n = 6 ∨ n = 7 ∨ n = 8 := by omega
theorem rowB_all (a b c : Int) : allI numB [a, b, c] = rowB a b c := by simp [allI, rowB]
theorem l07Fits_any (a b c d e f g h i : Int) (w : World) : Calls Try.prog 68 #[.agg #[.int .i64 a, .int .i64 b, .int .i64 c, .int .i64 d, .int .i64 e, .int .i64 f, .int .i64 g, .int .i64 h, .int .i64 i]] w fun en w' => en = .returned (.bool (sqB a b c d e f g h i)) ∧ Below w.heap.size w w' := by
  unfold sqB rowB numB
  obtain ⟨p1, hp1⟩ : ∃ zz, inB a 0 1000000 = zz := ⟨_, rfl⟩; have cc1 := fun W => l01In_any a 0 1000000 W; rw [hp1] at cc1; have C1 := Lib.hid cc1; have P1 := Lib.hid hp1; clear cc1 hp1
  obtain ⟨p2, hp2⟩ : ∃ zz, inB b 0 1000000 = zz := ⟨_, rfl⟩; have cc2 := fun W => l01In_any b 0 1000000 W; rw [hp2] at cc2; have C2 := Lib.hid cc2; have P2 := Lib.hid hp2; clear cc2 hp2
  obtain ⟨p3, hp3⟩ : ∃ zz, inB c 0 1000000 = zz := ⟨_, rfl⟩; have cc3 := fun W => l01In_any c 0 1000000 W; rw [hp3] at cc3; have C3 := Lib.hid cc3; have P3 := Lib.hid hp3; clear cc3 hp3
  obtain ⟨p4, hp4⟩ : ∃ zz, inB d 0 1000000 = zz := ⟨_, rfl⟩; have cc4 := fun W => l01In_any d 0 1000000 W; rw [hp4] at cc4; have C4 := Lib.hid cc4; have P4 := Lib.hid hp4; clear cc4 hp4
  obtain ⟨p5, hp5⟩ : ∃ zz, inB e 0 1000000 = zz := ⟨_, rfl⟩; have cc5 := fun W => l01In_any e 0 1000000 W; rw [hp5] at cc5; have C5 := Lib.hid cc5; have P5 := Lib.hid hp5; clear cc5 hp5
  obtain ⟨p6, hp6⟩ : ∃ zz, inB f 0 1000000 = zz := ⟨_, rfl⟩; have cc6 := fun W => l01In_any f 0 1000000 W; rw [hp6] at cc6; have C6 := Lib.hid cc6; have P6 := Lib.hid hp6; clear cc6 hp6
  obtain ⟨p7, hp7⟩ : ∃ zz, inB g 0 1000000 = zz := ⟨_, rfl⟩; have cc7 := fun W => l01In_any g 0 1000000 W; rw [hp7] at cc7; have C7 := Lib.hid cc7; have P7 := Lib.hid hp7; clear cc7 hp7
  obtain ⟨p8, hp8⟩ : ∃ zz, inB h 0 1000000 = zz := ⟨_, rfl⟩; have cc8 := fun W => l01In_any h 0 1000000 W; rw [hp8] at cc8; have C8 := Lib.hid cc8; have P8 := Lib.hid hp8; clear cc8 hp8
  obtain ⟨p9, hp9⟩ : ∃ zz, inB i 0 1000000 = zz := ⟨_, rfl⟩; have cc9 := fun W => l01In_any i 0 1000000 W; rw [hp9] at cc9; have C9 := Lib.hid cc9; have P9 := Lib.hid hp9; clear cc9 hp9
  rw [P1.out, P2.out, P3.out, P4.out, P5.out, P6.out, P7.out, P8.out, P9.out]
  clear P1 P2 P3 P4 P5 P6 P7 P8 P9
  go_enter Try.func68, Try.ntmps68
  go_wp2
  refine wp_loop_rounds 4 ?_
  repeat any_goals (first | (rw [rounds_succ]; go_wp2_with (first | (go_at_call 57; (with_reducible refine (C1.out _).mono ?_); rintro e w' ⟨rfl, rfl⟩) | (go_at_call 57; (with_reducible refine (C2.out _).mono ?_); rintro e w' ⟨rfl, rfl⟩) | (go_at_call 57; (with_reducible refine (C3.out _).mono ?_); rintro e w' ⟨rfl, rfl⟩) | (go_at_call 57; (with_reducible refine (C4.out _).mono ?_); rintro e w' ⟨rfl, rfl⟩) | (go_at_call 57; (with_reducible refine (C5.out _).mono ?_); rintro e w' ⟨rfl, rfl⟩) | (go_at_call 57; (with_reducible refine (C6.out _).mono ?_); rintro e w' ⟨rfl, rfl⟩) | (go_at_call 57; (with_reducible refine (C7.out _).mono ?_); rintro e w' ⟨rfl, rfl⟩) | (go_at_call 57; (with_reducible refine (C8.out _).mono ?_); rintro e w' ⟨rfl, rfl⟩) | (go_at_call 57; (with_reducible refine (C9.out _).mono ?_); rintro e w' ⟨rfl, rfl⟩))) | (refine wp_loop_rounds 4 ?_))
  all_goals
    go_returns
    exact ⟨by simp_all, by (repeat' (first | (with_reducible exact Below.refl _ _) | (with_reducible refine Below.alloc ?_ ?_ _) | (with_reducible refine Below.drew ?_) | (with_reducible refine below_drewN' ?_ _) | (with_reducible refine Below.setCell ?_ ?_ _) | (with_reducible refine Below.trans ?_ (Below.mono (by assumption) ?_)) | go_size))⟩
theorem sqIndex0 (a b c d e f g h i : Int) : ∀ w, (Instr.index 40 (.agg #[.int .i64 a, .int .i64 b, .int .i64 c, .int .i64 d, .int .i64 e, .int .i64 f, .int .i64 g, .int .i64 h, .int .i64 i]) (.int .i64 0)).run Try.prog w = .ok (.agg #[.int .i64 a, .int .i64 b, .int .i64 c]) w := fun _ => by kernel_rfl
theorem sqIndex1 (a b c d e f g h i : Int) : ∀ w, (Instr.index 40 (.agg #[.int .i64 a, .int .i64 b, .int .i64 c, .int .i64 d, .int .i64 e, .int .i64 f, .int .i64 g, .int .i64 h, .int .i64 i]) (.int .i64 1)).run Try.prog w = .ok (.agg #[.int .i64 d, .int .i64 e, .int .i64 f]) w := fun _ => by kernel_rfl
theorem sqIndex2 (a b c d e f g h i : Int) : ∀ w, (Instr.index 40 (.agg #[.int .i64 a, .int .i64 b, .int .i64 c, .int .i64 d, .int .i64 e, .int .i64 f, .int .i64 g, .int .i64 h, .int .i64 i]) (.int .i64 2)).run Try.prog w = .ok (.agg #[.int .i64 g, .int .i64 h, .int .i64 i]) w := fun _ => by kernel_rfl
theorem sqOk_any (a b c d e f g h i : Int) (w : World) : Calls Try.prog 67 #[.agg #[.int .i64 a, .int .i64 b, .int .i64 c, .int .i64 d, .int .i64 e, .int .i64 f, .int .i64 g, .int .i64 h, .int .i64 i]] w fun en w' => en = .returned (.bool (sqB a b c d e f g h i)) ∧ Below w.heap.size w w' := by
  have hc := fun (x y z : Int) (bb cc : Nat) W h0 h1 h2 => ContainsNum_any (some ⟨bb, 0, none⟩) 3 cc [x, y, z] W (isl3 h0 h1 h2) (by omega)
  simp only [rowB_all] at hc
  unfold sqB
  have hc1 := hc a b c
  have hc2 := hc d e f
  have hc3 := hc g h i
  obtain ⟨p, ep⟩ : ∃ p, rowB a b c = p := ⟨_, rfl⟩
  obtain ⟨q, eq⟩ : ∃ q, rowB d e f = q := ⟨_, rfl⟩
  obtain ⟨r, er⟩ : ∃ r, rowB g h i = r := ⟨_, rfl⟩
  rw [ep] at hc1 ⊢
  rw [eq] at hc2 ⊢
  rw [er] at hc3 ⊢
  have C1 := Lib.hid hc1
  have C2 := Lib.hid hc2
  have C3 := Lib.hid hc3
  clear hc hc1 hc2 hc3 ep eq er
  have i0 := sqIndex0 a b c d e f g h i
  have i1 := sqIndex1 a b c d e f g h i
  have i2 := sqIndex2 a b c d e f g h i
  go_enter Try.func67, Try.ntmps67
  go_wp2
  refine wp_loop_rounds 4 ?_
  repeat any_goals (rw [rounds_succ]; go_wp2_with (first | (go_at_call 93; (with_reducible refine (C1.out _ _ _ ?_ ?_ ?_).mono ?_); (iterate 3 (focus (go_simp; done))); rintro e w' ⟨rfl, rfl⟩) | (go_at_call 93; (with_reducible refine (C2.out _ _ _ ?_ ?_ ?_).mono ?_); (iterate 3 (focus (go_simp; done))); rintro e w' ⟨rfl, rfl⟩) | (go_at_call 93; (with_reducible refine (C3.out _ _ _ ?_ ?_ ?_).mono ?_); (iterate 3 (focus (go_simp; done))); rintro e w' ⟨rfl, rfl⟩)))
  all_goals
    go_returns
    exact ⟨by simp_all, by (repeat' (first | (with_reducible exact Below.refl _ _) | (with_reducible refine Below.alloc ?_ ?_ _) | (with_reducible refine Below.drew ?_) | (with_reducible refine below_drewN' ?_ _) | (with_reducible refine Below.setCell ?_ ?_ _) | (with_reducible refine Below.trans ?_ (Below.mono (by assumption) ?_)) | go_size))⟩
end Go.Proofs.Ytdenfmgmapgpiaa
