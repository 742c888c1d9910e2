/-
  The order of three numbers: contracts of both sorts. No condition but what stands in each.
-/
import Derived.Test.YtdenfmgmapgpiaaCpu
import Derived.Test.YtdenfmgmapgpiaaHk
import Derived.Test.YtdenfmgmapgpiaaIns
import Derived.Deep.RegionHeld3
import Derived.Deep.CutRange
import Derived.Deep.DeepCutAuto
namespace Go.Proofs.Ytdenfmgmapgpiaa
open Go.RowKit Go.Shelf Go.Sort
set_option maxHeartbeats 1000000
theorem wp_gen {P : Program} {Q : Exit → Act → World → Prop} {c : Code} {a : Act} {W : World} {F : World → Prop} (hF : F W) (h : ∀ w2, F w2 → Code.wp P c Q a w2) : Code.wp P c Q a W := h W hF
theorem wp_asThen {P : Program} {Q : Exit → Act → World → Prop} {c : Code} {a : Act} {W : World} (h : ∀ K : Act → World → Prop, (∀ a w, Q .normal a w → K a w) → Code.wp P c (Exit.then K Q) a W) : Code.wp P c Q a W :=
  wp_mono (h (fun a w => Q .normal a w) (fun _ _ q => q)) (by intro e a w hq; cases e <;> exact hq)
theorem set_here {w : World} {b o : Nat} {x v : Value} (h : w.cell? ⟨b, o, none⟩ = some v) : (w.setCell ⟨b, o, none⟩ x).cell? ⟨b, o, none⟩ = some x := World.cell?_setCell_same (h := h) ..
theorem keep_seto {w : World} {b o b' o' : Nat} {x v : Value} (hne : o ≠ o') (h : w.cell? ⟨b', o', none⟩ = some v) : (w.setCell ⟨b, o, none⟩ x).cell? ⟨b', o', none⟩ = some v :=
  (World.cell?_setCell_other w ⟨b, o, none⟩ ⟨b', o', none⟩ x (fun e => hne (congrArg Addr.off e))).trans h
theorem keep_drewN {w : World} {n : Nat} {a : Addr} {v : Value} (h : w.cell? a = some v) : (w.drewN n).cell? a = some v := h
def ord3 (a b c : Int) : Int × Int × Int :=
  if a < b then (if a < c then (if b < c then (2, 1, 0) else (1, 2, 0)) else (1, 0, 2)) else (if b < c then (if a < c then (2, 0, 1) else (0, 2, 1)) else (0, 1, 2))
def sort3 (a b c : Int) : Int × Int × Int :=
  if a < b then (if a < c then (if b < c then (c, b, a) else (b, c, a)) else (b, a, c)) else (if b < c then (if a < c then (c, a, b) else (a, c, b)) else (a, b, c))
theorem ord3_cases (a b c : Int) :
    ((a < b ∧ a < c ∧ b < c) ∧ ord3 a b c = (2, 1, 0) ∧ sort3 a b c = (c, b, a)) ∨ ((a < b ∧ a < c ∧ ¬ b < c) ∧ ord3 a b c = (1, 2, 0) ∧ sort3 a b c = (b, c, a)) ∨ ((a < b ∧ ¬ a < c ∧ ¬ b < c) ∧ ord3 a b c = (1, 0, 2) ∧ sort3 a b c = (b, a, c)) ∨
    ((a < b ∧ ¬ a < c ∧ b < c) ∧ False) ∨ ((¬ a < b ∧ a < c ∧ ¬ b < c) ∧ False) ∨
    ((¬ a < b ∧ a < c ∧ b < c) ∧ ord3 a b c = (2, 0, 1) ∧ sort3 a b c = (c, a, b)) ∨ ((¬ a < b ∧ ¬ a < c ∧ b < c) ∧ ord3 a b c = (0, 2, 1) ∧ sort3 a b c = (a, c, b)) ∨ ((¬ a < b ∧ ¬ a < c ∧ ¬ b < c) ∧ ord3 a b c = (0, 1, 2) ∧ sort3 a b c = (a, b, c)) := by
  unfold ord3 sort3
  by_cases p : a < b <;> by_cases q : a < c <;> by_cases r : b < c <;> simp [p, q, r] <;> omega
def cmpG (x y : Int) : Int := if x < y then -1 else if x > y then 1 else 0
theorem cmpG_neg (x y : Int) : cmpG x y < 0 ↔ x < y := by unfold cmpG; omega
def pick3 (a b c n : Int) : Int := if n = 0 then a else if n = 1 then b else c
theorem cmpG_any (x y : Int) (w : World) : Calls Try.prog 89 #[.int .i64 x, .int .i64 y] w fun e w' => e = .returned (.int .i64 (cmpG x y)) ∧ w = w' := by
  go_enter Try.func89, Try.ntmps89
  go_wp2
  all_goals
    go_returns
    exact ⟨ret_i64 (by unfold cmpG; omega), rfl⟩
theorem order1_any (i k : Int) (N : Nat) (a b c : Int) (w : World) (hi : (0 ≤ i ∧ i ≤ 2) ∧ 0 ≤ k ∧ k ≤ 2) (h0 : w.cell? ⟨N, 0, none⟩ = some (.int .i64 a)) (h1 : w.cell? ⟨N, 1, none⟩ = some (.int .i64 b)) (h2 : w.cell? ⟨N, 2, none⟩ = some (.int .i64 c)) :
    Calls Try.prog 88 #[.int .i64 i, .int .i64 k, .pointer (some ⟨N, 0, none⟩)] w fun e w' => e = .returned (.int .i64 (cmpG (pick3 a b c k) (pick3 a b c i))) ∧ ∃ q, w' = w.drewN q := by
  have hi' : i = 0 ∨ i = 1 ∨ i = 2 := by omega
  have hk' : k = 0 ∨ k = 1 ∨ k = 2 := by omega
  clear hi
  rcases hi' with rfl | rfl | rfl <;> rcases hk' with rfl | rfl | rfl
  all_goals
    go_enter Try.func88, Try.ntmps88
    go_wp2
    go_quiet (first | (go_at_call 89; exact Calls.quiet_of_same ((cmpG_any _ _ _).mono fun _ _ h => ⟨h.1, h.2.symm⟩)))
    go_wp2
    go_returns
    exact ⟨rfl, _, rfl⟩
def encF (i : Fin 3) : Value := .int .i64 (i.val : Int)
def cfF (a b c : Int) (i k : Fin 3) : Int := cmpG (pick3 a b c (k.val : Int)) (pick3 a b c (i.val : Int))
theorem insF (a b c : Int) : ∃ x y z : Fin 3, Sort.insertionSort (ltOf (cfF a b c)) #[0, 1, 2] 0 3 = #[x, y, z] ∧ ((x.val : Int), (y.val : Int), (z.val : Int)) = ord3 a b c := by
  have h01 : ltOf (cfF a b c) 1 0 = decide (a < b) := by simp [ltOf, cfF, cmpG_neg, pick3]
  have h02 : ltOf (cfF a b c) 2 0 = decide (a < c) := by simp [ltOf, cfF, cmpG_neg, pick3]
  have h12 : ltOf (cfF a b c) 2 1 = decide (b < c) := by simp [ltOf, cfF, cmpG_neg, pick3]
  generalize ltOf (cfF a b c) = lt at *
  rcases ord3_cases a b c with ⟨⟨p, q, r⟩, h, _⟩ | ⟨⟨p, q, r⟩, h, _⟩ | ⟨⟨p, q, r⟩, h, _⟩ | ⟨_, ⟨⟩⟩ | ⟨_, ⟨⟩⟩ | ⟨⟨p, q, r⟩, h, _⟩ | ⟨⟨p, q, r⟩, h, _⟩ | ⟨⟨p, q, r⟩, h, _⟩
  all_goals
    rw [h]
    simp only [p, q, r, decide_true, decide_false] at h01 h02 h12
    first | (exact ⟨0, 1, 2, by simp [Sort.insertionSort, insOuter, insInner, swp, h01, h02, h12], rfl⟩) | (exact ⟨0, 2, 1, by simp [Sort.insertionSort, insOuter, insInner, swp, h01, h02, h12], rfl⟩) | (exact ⟨1, 0, 2, by simp [Sort.insertionSort, insOuter, insInner, swp, h01, h02, h12], rfl⟩) | (exact ⟨1, 2, 0, by simp [Sort.insertionSort, insOuter, insInner, swp, h01, h02, h12], rfl⟩) | (exact ⟨2, 0, 1, by simp [Sort.insertionSort, insOuter, insInner, swp, h01, h02, h12], rfl⟩) | (exact ⟨2, 1, 0, by simp [Sort.insertionSort, insOuter, insInner, swp, h01, h02, h12], rfl⟩)
theorem insort3_any (a b c : Int) (T N : Nat) (w : World) (hTN : T ≠ N) (h0 : w.cell? ⟨T, 0, none⟩ = some (.int .i64 a)) (h1 : w.cell? ⟨T, 1, none⟩ = some (.int .i64 b)) (h2 : w.cell? ⟨T, 2, none⟩ = some (.int .i64 c))
    (hH : Sort.Holds encF w N 0 #[0, 1, 2]) : Calls Try.prog 99 #[.slice (some ⟨N, 0, none⟩) 3 3, .int .i64 0, .int .i64 3, .func (.func 88) #[] #[.pointer (some ⟨T, 0, none⟩)]] w fun e w' =>
      e = .returned (.tuple #[]) ∧ ∃ n, w' = (Sort.putRow encF w N 0 (Sort.insertionSort (ltOf (cfF a b c)) #[0, 1, 2] 0 3)).drewN n := by
  have eg : ∀ args w, (callFunc 88 args).run Try.prog w = .ok (.enter 88 args) w := enters_of Try.func88 (by kernel_rfl) rfl
  have hc : CmpReads Try.prog 88 #[.pointer (some ⟨T, 0, none⟩)] encF (cfF a b c) N 0 3 w := by
    intro m os dk hdk x y
    have hlt : T < w.heap.size := World.block_lt_of_cell? w _ h0
    have hk : ∀ o v, w.cell? ⟨T, o, none⟩ = some v → (sortWorld encF w N 0 m dk os).cell? ⟨T, o, none⟩ = some v := by
      intro o v h
      unfold sortWorld
      rw [cell?_grow _ _ _ (by simpa using hlt), cell?_putRow_other _ _ _ _ _ _ (Or.inl hTN)]
      exact h
    exact order1_any _ _ T a b c _ ⟨⟨by omega, by omega⟩, by omega, by omega⟩ (hk _ _ h0) (hk _ _ h1) (hk _ _ h2)
  have hcon := Any.insertionSortCmpFunc_one Try.lIns encF (fun _ => rfl) (cfF a b c) 88 #[.pointer (some ⟨T, 0, none⟩)] N 0 3 0 3 #[0, 1, 2] w eg hc hH (by decide) (by decide) (by decide)
  exact hcon
theorem below_row {enc : Fin 3 → Value} {B : Nat} {w0 w : World} {g : Nat} {d : Array (Fin 3)} (h : Below B w0 w) (hg : B ≤ g) : Below B w0 (Sort.putRow enc w g 0 d) :=
  ⟨h.os, h.tape, h.output, by simpa [putRow, mapBlock] using h.size, fun k hk => by
    rw [← h.block k hk]
    simp [putRow, mapBlock, Array.getElem?_modify, show g ≠ k by omega]⟩
theorem hold012 {N : Nat} (w : World) (h0 : w.cell? ⟨N, 0, none⟩ = some (.int .i64 0)) (h1 : w.cell? ⟨N, 1, none⟩ = some (.int .i64 1)) (h2 : w.cell? ⟨N, 2, none⟩ = some (.int .i64 2)) (f0 : w.frozen? ⟨N, 0, none⟩ = false) (f1 : w.frozen? ⟨N, 1, none⟩ = false) (f2 : w.frozen? ⟨N, 2, none⟩ = false) :
    Sort.Holds encF w N 0 #[0, 1, 2] := by
  intro j hj
  have : j = 0 ∨ j = 1 ∨ j = 2 := by simp at hj; omega
  rcases this with rfl | rfl | rfl
  · exact ⟨h0, f0⟩
  · exact ⟨h1, f1⟩
  · exact ⟨h2, f2⟩
theorem order_any (a b c : Int) (w : World) : Calls Try.prog 59 #[.agg #[.int .i64 a, .int .i64 b, .int .i64 c]] w fun e w' =>
    (∃ N, w.heap.size ≤ N ∧ e = .returned (.slice (some ⟨N, 0, none⟩) 3 3) ∧ w'.cell? ⟨N, 0, none⟩ = some (.int .i64 (ord3 a b c).1) ∧ w'.cell? ⟨N, 1, none⟩ = some (.int .i64 (ord3 a b c).2.1) ∧ w'.cell? ⟨N, 2, none⟩ = some (.int .i64 (ord3 a b c).2.2)) ∧ Below w.heap.size w w' := by
  go_enter Try.func59, Try.ntmps59
  go_wp2
  refine wp_loop_rounds 3 ?_
  rw [rounds_succ]
  go_wp2_with (first | (go_at_call 99; (with_reducible refine (insort3_any a b c w.heap.size (w.heap.size + 1) _ (by omega) (by go_simp) (by go_simp) (by go_simp) ?_).mono ?_); rotate_left; rintro e w1 ⟨rfl, n1, rfl⟩) | go_in)
  · refine wp_loop_rounds 3 ?_
    rw [rounds_succ]
    go_wp2
    obtain ⟨x, y, z, hi, ho⟩ := insF a b c
    have hh : Sort.Holds encF ((w.alloc (.cells #[.int .i64 a, .int .i64 b, .int .i64 c] 25)).alloc (.cells #[.int .i64 0, .int .i64 1, .int .i64 2] 3)) (w.heap.size + 1) 0 #[0, 1, 2] := by
      exact hold012 _ (by go_simp) (by go_simp) (by go_simp) (by go_simp) (by go_simp) (by go_simp)
    have hcell := cell?_putRow encF _ _ _ _ #[x, y, z] hh rfl
    rw [← ho, hi]
    go_returns
    refine ⟨⟨_, ?_, rfl, ?_, ?_, ?_⟩, ?_⟩
    · go_size
    · exact hcell 0 (by simp)
    · exact hcell 1 (by simp)
    · exact hcell 2 (by simp)
    · refine below_drewN' (below_row ?_ (by omega)) _
      (repeat' (first | (with_reducible exact Below.refl _ _) | (with_reducible refine Below.alloc ?_ ?_ _) | (with_reducible refine Below.drew ?_) | (with_reducible refine below_drewN' ?_ _) | (with_reducible refine Below.setCell ?_ ?_ _) | (with_reducible refine Below.trans ?_ (Below.mono (by assumption) ?_)) | go_size))
  · exact hold012 _ (by go_simp) (by go_simp) (by go_simp) (by go_simp) (by go_simp) (by go_simp)
theorem l07Order_any (a b c : Int) (w : World) : Calls Try.prog 90 #[.agg #[.int .i64 a, .int .i64 b, .int .i64 c]] w fun e w' =>
    (∃ N, w.heap.size ≤ N ∧ e = .returned (.slice (some ⟨N, 0, none⟩) 3 3) ∧ w'.cell? ⟨N, 0, none⟩ = some (.int .i64 (ord3 a b c).1) ∧ w'.cell? ⟨N, 1, none⟩ = some (.int .i64 (ord3 a b c).2.1) ∧ w'.cell? ⟨N, 2, none⟩ = some (.int .i64 (ord3 a b c).2.2)) ∧ Below w.heap.size w w' := by
  rcases ord3_cases a b c with ⟨⟨p, q, r⟩, h, _⟩ | ⟨⟨p, q, r⟩, h, _⟩ | ⟨⟨p, q, r⟩, h, _⟩ | ⟨_, ⟨⟩⟩ | ⟨_, ⟨⟩⟩ | ⟨⟨p, q, r⟩, h, _⟩ | ⟨⟨p, q, r⟩, h, _⟩ | ⟨⟨p, q, r⟩, h, _⟩
  all_goals
    rw [h]
    clear h
    go_enter Try.func90, Try.ntmps90
    go_wp2
    refine wp_loop_rounds 3 ?_
    repeat any_goals (first | (rw [rounds_succ]; go_wp2) | (refine wp_loop_rounds 3 ?_) | ((first | (refine wp_gen (F := fun w2 => Below w.heap.size w w2 ∧ w.heap.size + 2 ≤ w2.heap.size ∧ w2.cell? ⟨w.heap.size, 0, none⟩ = some (.int .i64 a) ∧ w2.cell? ⟨w.heap.size, 1, none⟩ = some (.int .i64 b) ∧ w2.cell? ⟨w.heap.size, 2, none⟩ = some (.int .i64 c) ∧ w2.cell? ⟨w.heap.size + 1, 0, none⟩ = some (.int .i64 0) ∧ w2.cell? ⟨w.heap.size + 1, 1, none⟩ = some (.int .i64 1) ∧ w2.cell? ⟨w.heap.size + 1, 2, none⟩ = some (.int .i64 2) ∧ w2.frozen? ⟨w.heap.size + 1, 0, none⟩ = false ∧ w2.frozen? ⟨w.heap.size + 1, 1, none⟩ = false ∧ w2.frozen? ⟨w.heap.size + 1, 2, none⟩ = false) ?_ (fun w2 hw2 => ?_); (focus (refine ⟨by (repeat' (first | (with_reducible exact Below.refl _ _) | (with_reducible refine Below.alloc ?_ ?_ _) | (with_reducible refine Below.drew ?_) | (with_reducible refine below_drewN' ?_ _) | (with_reducible refine Below.setCell ?_ ?_ _) | (with_reducible refine Below.trans ?_ (Below.mono (by assumption) ?_)) | go_size)), by go_size, ?_⟩; ((repeat' apply And.intro) <;> (repeat' (first | (with_reducible assumption) | (with_reducible refine set_here ?_) | (with_reducible refine keep_seto (by decide) ?_) | (with_reducible refine keep_setx (by omega) ?_) | (with_reducible refine keep_drewN ?_) | (with_reducible refine keep_below hb1 (by go_size) ?_) | (go_simp; done)))); done)); obtain ⟨hB2, hz2, hw0, hw1, hw2, hw3, hw4, hw5, hw6, hw7, hw8⟩ := hw2) | (refine wp_gen (F := fun w2 => Below w.heap.size w w2 ∧ w.heap.size + 2 ≤ w2.heap.size ∧ w2.cell? ⟨w.heap.size, 0, none⟩ = some (.int .i64 a) ∧ w2.cell? ⟨w.heap.size, 1, none⟩ = some (.int .i64 b) ∧ w2.cell? ⟨w.heap.size, 2, none⟩ = some (.int .i64 c) ∧ w2.cell? ⟨w.heap.size + 1, 0, none⟩ = some (.int .i64 0) ∧ w2.cell? ⟨w.heap.size + 1, 1, none⟩ = some (.int .i64 2) ∧ w2.cell? ⟨w.heap.size + 1, 2, none⟩ = some (.int .i64 1) ∧ w2.frozen? ⟨w.heap.size + 1, 0, none⟩ = false ∧ w2.frozen? ⟨w.heap.size + 1, 1, none⟩ = false ∧ w2.frozen? ⟨w.heap.size + 1, 2, none⟩ = false) ?_ (fun w2 hw2 => ?_); (focus (refine ⟨by (repeat' (first | (with_reducible exact Below.refl _ _) | (with_reducible refine Below.alloc ?_ ?_ _) | (with_reducible refine Below.drew ?_) | (with_reducible refine below_drewN' ?_ _) | (with_reducible refine Below.setCell ?_ ?_ _) | (with_reducible refine Below.trans ?_ (Below.mono (by assumption) ?_)) | go_size)), by go_size, ?_⟩; ((repeat' apply And.intro) <;> (repeat' (first | (with_reducible assumption) | (with_reducible refine set_here ?_) | (with_reducible refine keep_seto (by decide) ?_) | (with_reducible refine keep_setx (by omega) ?_) | (with_reducible refine keep_drewN ?_) | (with_reducible refine keep_below hb1 (by go_size) ?_) | (go_simp; done)))); done)); obtain ⟨hB2, hz2, hw0, hw1, hw2, hw3, hw4, hw5, hw6, hw7, hw8⟩ := hw2) | (refine wp_gen (F := fun w2 => Below w.heap.size w w2 ∧ w.heap.size + 2 ≤ w2.heap.size ∧ w2.cell? ⟨w.heap.size, 0, none⟩ = some (.int .i64 a) ∧ w2.cell? ⟨w.heap.size, 1, none⟩ = some (.int .i64 b) ∧ w2.cell? ⟨w.heap.size, 2, none⟩ = some (.int .i64 c) ∧ w2.cell? ⟨w.heap.size + 1, 0, none⟩ = some (.int .i64 1) ∧ w2.cell? ⟨w.heap.size + 1, 1, none⟩ = some (.int .i64 0) ∧ w2.cell? ⟨w.heap.size + 1, 2, none⟩ = some (.int .i64 2) ∧ w2.frozen? ⟨w.heap.size + 1, 0, none⟩ = false ∧ w2.frozen? ⟨w.heap.size + 1, 1, none⟩ = false ∧ w2.frozen? ⟨w.heap.size + 1, 2, none⟩ = false) ?_ (fun w2 hw2 => ?_); (focus (refine ⟨by (repeat' (first | (with_reducible exact Below.refl _ _) | (with_reducible refine Below.alloc ?_ ?_ _) | (with_reducible refine Below.drew ?_) | (with_reducible refine below_drewN' ?_ _) | (with_reducible refine Below.setCell ?_ ?_ _) | (with_reducible refine Below.trans ?_ (Below.mono (by assumption) ?_)) | go_size)), by go_size, ?_⟩; ((repeat' apply And.intro) <;> (repeat' (first | (with_reducible assumption) | (with_reducible refine set_here ?_) | (with_reducible refine keep_seto (by decide) ?_) | (with_reducible refine keep_setx (by omega) ?_) | (with_reducible refine keep_drewN ?_) | (with_reducible refine keep_below hb1 (by go_size) ?_) | (go_simp; done)))); done)); obtain ⟨hB2, hz2, hw0, hw1, hw2, hw3, hw4, hw5, hw6, hw7, hw8⟩ := hw2) | (refine wp_gen (F := fun w2 => Below w.heap.size w w2 ∧ w.heap.size + 2 ≤ w2.heap.size ∧ w2.cell? ⟨w.heap.size, 0, none⟩ = some (.int .i64 a) ∧ w2.cell? ⟨w.heap.size, 1, none⟩ = some (.int .i64 b) ∧ w2.cell? ⟨w.heap.size, 2, none⟩ = some (.int .i64 c) ∧ w2.cell? ⟨w.heap.size + 1, 0, none⟩ = some (.int .i64 1) ∧ w2.cell? ⟨w.heap.size + 1, 1, none⟩ = some (.int .i64 2) ∧ w2.cell? ⟨w.heap.size + 1, 2, none⟩ = some (.int .i64 0) ∧ w2.frozen? ⟨w.heap.size + 1, 0, none⟩ = false ∧ w2.frozen? ⟨w.heap.size + 1, 1, none⟩ = false ∧ w2.frozen? ⟨w.heap.size + 1, 2, none⟩ = false) ?_ (fun w2 hw2 => ?_); (focus (refine ⟨by (repeat' (first | (with_reducible exact Below.refl _ _) | (with_reducible refine Below.alloc ?_ ?_ _) | (with_reducible refine Below.drew ?_) | (with_reducible refine below_drewN' ?_ _) | (with_reducible refine Below.setCell ?_ ?_ _) | (with_reducible refine Below.trans ?_ (Below.mono (by assumption) ?_)) | go_size)), by go_size, ?_⟩; ((repeat' apply And.intro) <;> (repeat' (first | (with_reducible assumption) | (with_reducible refine set_here ?_) | (with_reducible refine keep_seto (by decide) ?_) | (with_reducible refine keep_setx (by omega) ?_) | (with_reducible refine keep_drewN ?_) | (with_reducible refine keep_below hb1 (by go_size) ?_) | (go_simp; done)))); done)); obtain ⟨hB2, hz2, hw0, hw1, hw2, hw3, hw4, hw5, hw6, hw7, hw8⟩ := hw2) | (refine wp_gen (F := fun w2 => Below w.heap.size w w2 ∧ w.heap.size + 2 ≤ w2.heap.size ∧ w2.cell? ⟨w.heap.size, 0, none⟩ = some (.int .i64 a) ∧ w2.cell? ⟨w.heap.size, 1, none⟩ = some (.int .i64 b) ∧ w2.cell? ⟨w.heap.size, 2, none⟩ = some (.int .i64 c) ∧ w2.cell? ⟨w.heap.size + 1, 0, none⟩ = some (.int .i64 2) ∧ w2.cell? ⟨w.heap.size + 1, 1, none⟩ = some (.int .i64 0) ∧ w2.cell? ⟨w.heap.size + 1, 2, none⟩ = some (.int .i64 1) ∧ w2.frozen? ⟨w.heap.size + 1, 0, none⟩ = false ∧ w2.frozen? ⟨w.heap.size + 1, 1, none⟩ = false ∧ w2.frozen? ⟨w.heap.size + 1, 2, none⟩ = false) ?_ (fun w2 hw2 => ?_); (focus (refine ⟨by (repeat' (first | (with_reducible exact Below.refl _ _) | (with_reducible refine Below.alloc ?_ ?_ _) | (with_reducible refine Below.drew ?_) | (with_reducible refine below_drewN' ?_ _) | (with_reducible refine Below.setCell ?_ ?_ _) | (with_reducible refine Below.trans ?_ (Below.mono (by assumption) ?_)) | go_size)), by go_size, ?_⟩; ((repeat' apply And.intro) <;> (repeat' (first | (with_reducible assumption) | (with_reducible refine set_here ?_) | (with_reducible refine keep_seto (by decide) ?_) | (with_reducible refine keep_setx (by omega) ?_) | (with_reducible refine keep_drewN ?_) | (with_reducible refine keep_below hb1 (by go_size) ?_) | (go_simp; done)))); done)); obtain ⟨hB2, hz2, hw0, hw1, hw2, hw3, hw4, hw5, hw6, hw7, hw8⟩ := hw2) | (refine wp_gen (F := fun w2 => Below w.heap.size w w2 ∧ w.heap.size + 2 ≤ w2.heap.size ∧ w2.cell? ⟨w.heap.size, 0, none⟩ = some (.int .i64 a) ∧ w2.cell? ⟨w.heap.size, 1, none⟩ = some (.int .i64 b) ∧ w2.cell? ⟨w.heap.size, 2, none⟩ = some (.int .i64 c) ∧ w2.cell? ⟨w.heap.size + 1, 0, none⟩ = some (.int .i64 2) ∧ w2.cell? ⟨w.heap.size + 1, 1, none⟩ = some (.int .i64 1) ∧ w2.cell? ⟨w.heap.size + 1, 2, none⟩ = some (.int .i64 0) ∧ w2.frozen? ⟨w.heap.size + 1, 0, none⟩ = false ∧ w2.frozen? ⟨w.heap.size + 1, 1, none⟩ = false ∧ w2.frozen? ⟨w.heap.size + 1, 2, none⟩ = false) ?_ (fun w2 hw2 => ?_); (focus (refine ⟨by (repeat' (first | (with_reducible exact Below.refl _ _) | (with_reducible refine Below.alloc ?_ ?_ _) | (with_reducible refine Below.drew ?_) | (with_reducible refine below_drewN' ?_ _) | (with_reducible refine Below.setCell ?_ ?_ _) | (with_reducible refine Below.trans ?_ (Below.mono (by assumption) ?_)) | go_size)), by go_size, ?_⟩; ((repeat' apply And.intro) <;> (repeat' (first | (with_reducible assumption) | (with_reducible refine set_here ?_) | (with_reducible refine keep_seto (by decide) ?_) | (with_reducible refine keep_setx (by omega) ?_) | (with_reducible refine keep_drewN ?_) | (with_reducible refine keep_below hb1 (by go_size) ?_) | (go_simp; done)))); done)); obtain ⟨hB2, hz2, hw0, hw1, hw2, hw3, hw4, hw5, hw6, hw7, hw8⟩ := hw2)); go_quiet (fail); go_wp2))
    go_returns
    refine ⟨⟨_, ?_, rfl, ?_⟩, by (repeat' (first | (with_reducible exact Below.refl _ _) | (with_reducible refine Below.alloc ?_ ?_ _) | (with_reducible refine Below.drew ?_) | (with_reducible refine below_drewN' ?_ _) | (with_reducible refine Below.setCell ?_ ?_ _) | (with_reducible refine Below.trans ?_ (Below.mono (by assumption) ?_)) | go_size))⟩
    · go_size
    · (repeat' apply And.intro) <;> (repeat' (first | (with_reducible assumption) | (with_reducible refine set_here ?_) | (with_reducible refine keep_seto (by decide) ?_) | (with_reducible refine keep_setx (by omega) ?_) | (with_reducible refine keep_drewN ?_) | (with_reducible refine keep_below hb1 (by go_size) ?_) | (go_simp; done)))
end Go.Proofs.Ytdenfmgmapgpiaa
