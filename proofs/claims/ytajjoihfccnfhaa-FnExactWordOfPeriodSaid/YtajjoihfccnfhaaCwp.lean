/-
  Words of periods, by both programs; copies of rows of whole numbers. Condition: the rows' reach.
-/
import Derived.Test.YtajjoihfccnfhaaCsl
import Derived.Test.YtajjoihfccnfhaaHk

import Derived.Test.YtajjoihfccnfhaaShw
import Derived.Lib.AppendIntMem
import Derived.Laws.MakeOwn
import Derived.Laws.OwnMore
import Derived.Deep.DeepMust
import Derived.Deep.CutRange
import Derived.Deep.DeepCutAuto
namespace Go.Proofs.Ytajjoihfccnfhaa
open Go.RowKit
set_option maxHeartbeats 1000000
theorem wp_gen' {P : Program} {Q : Exit → Act → World → Prop} {c : Code} {a : Act} {W : World} {F : World → Prop} (hF : F W) (h : ∀ w2, F w2 → Code.wp P c Q a w2) : Code.wp P c Q a W := h W hF
theorem infoI64c : (Try.prog.info? 2).map (fun i => (i.zero, i.size, i.bytes)) = some (some (.int .i64 0), 1, 8) := by kernel_rfl
theorem mkIc (n : Nat) (hn : n ≤ 1048576) (w : World) : (Instr.makeSlice 22 (.int .i64 (n : Int)) (.int .i64 (n : Int))).run Try.prog w = .ok (.slice (some ⟨w.heap.size, 0, none⟩) n n) (w.alloc (.cells (madeCells #[.int .i64 0] n) 2)) := by
  obtain ⟨i, h1, h5⟩ := Option.map_eq_some_iff.1 infoI64c
  simp only [Prod.mk.injEq] at h5
  obtain ⟨h2, h4, h3⟩ := h5
  have hr := run_make (P := Try.prog) w 22 2 i (.int .i64 0) (by exact Try.underlying22) h1 h2 .i64 .i64 n n (by omega) (by omega) (by rw [h3]; omega) (by omega)
  rw [h4] at hr
  simp only [Int.toNat_natCast, Nat.mul_one] at hr
  exact hr
theorem made_atV (w : World) (v : Value) (T : TypeId) (n j : Nat) (hj : j < n) : (w.alloc (.cells (madeCells #[v] n) T)).cell? ⟨w.heap.size, j, none⟩ = some v ∧ (w.alloc (.cells (madeCells #[v] n) T)).frozen? ⟨w.heap.size, j, none⟩ = false := by
  have h1 := heap_alloc_new w (.cells (madeCells #[v] n) T)
  have h2 : (madeCells #[v] n)[j]? = some v := by
    rw [← Array.getElem?_toList, toList_madeCells_one]
    simp [hj]
  constructor
  · unfold World.cell?
    rw [h1]
    exact h2
  · unfold World.frozen?
    rw [h1]
    simp
theorem toInt64S_anyc (A : Option Addr) (n c : Nat) (xs : List Int) (w : World) (h : ISl w A n xs) (hn : n ≤ 1048576) : Calls Try.prog 6 #[.slice A n c] w fun e w' =>
    (∃ A', e = .returned (.slice A' n n) ∧ ISl w' A' n xs ∧ ∀ a, A' = some a → w.heap.size ≤ a.block) ∧ Below w.heap.size w w' := by
  obtain ⟨rfl, hx⟩ := h
  have hmk := fun W => mkIc xs.length hn W
  go_enter Try.func6, Try.ntmps6
  go_wp2
  refine wp_gen' (F := fun W1 => Below w.heap.size w W1 ∧ W1.heap.size = w.heap.size + 1 ∧ ∀ j, j < xs.length → W1.cell? ⟨w.heap.size, j, none⟩ = some (.int .i64 0) ∧ W1.frozen? ⟨w.heap.size, j, none⟩ = false) ⟨by (repeat' (first | (with_reducible exact Below.refl _ _) | (with_reducible refine Below.alloc ?_ ?_ _) | (with_reducible refine Below.drew ?_) | (with_reducible refine below_drewN' ?_ _) | (with_reducible refine Below.setCell ?_ ?_ _) | (with_reducible refine Below.trans ?_ (Below.mono (by assumption) ?_)) | go_size)), by simp, fun j hj => made_atV w _ _ xs.length j hj⟩ (fun W1 hW1 => ?_)
  obtain ⟨hB1, hz1, hall1⟩ := hW1
  clear hmk
  go_loopw [4] (fun i wr => ∃ k : Nat, k ≤ xs.length ∧ i = .int .i64 k ∧ Below w.heap.size w wr ∧ wr.heap.size = w.heap.size + 1 ∧
      (∀ j, j < xs.length → ∃ v, wr.cell? ⟨w.heap.size, j, none⟩ = some v ∧ wr.frozen? ⟨w.heap.size, j, none⟩ = false ∧ (j < k → v = .int .i64 (xs[j]?.getD 0)))) (fun i _ => xs.length - (intOf i).toNat)
  case atStart => exact ⟨0, Nat.zero_le _, rfl, hB1, hz1, fun j hj => ⟨_, (hall1 j hj).1, (hall1 j hj).2, fun h => absurd h (by omega)⟩⟩
  case round =>
    obtain ⟨k, hk, rfl, hB, hsz, hall⟩ := hrel
    clear hall1 hB1 hz1
    by_cases hlt : k < xs.length
    · obtain ⟨b, off, rfl, hb, hr⟩ := hx (by omega)
      obtain ⟨v, h1, h2, _⟩ := hall k hlt
      have h3 := cell_keep hB (hr k hlt)
      have HC := Lib.hid hall
      have HS := Lib.hid hsz
      obtain ⟨x, hp⟩ : ∃ p, xs[k]?.getD 0 = p := ⟨_, rfl⟩
      rw [hp] at h3
      have HP := Lib.hid hp
      have HX := Lib.hid hx
      clear hall hsz hr hp hx
      have hi0 : (0 : Int) ≤ (k : Int) := by omega
      have hi1 : (k : Int) < (xs.length : Int) := by omega
      go_wp2
      go_roundw
      case rel =>
        refine ⟨k + 1, by omega, by go_num, below_beyond hB (Nat.le_refl _), by rw [World.size_setCell]; exact HS.out, fun j hj => ?_⟩
        by_cases hjk : j = k
        · subst hjk
          refine ⟨_, World.cell?_setCell_same (h := h1) .., by rw [World.frozen?_setCell]; exact h2, fun _ => by rw [HP.out]⟩
        · obtain ⟨u, g1, g2, g3⟩ := HC.out j hj
          refine ⟨u, (World.cell?_setCell_other _ _ _ _ (fun e => hjk (by have := congrArg Addr.off e; simp at this; omega))).trans g1, by rw [World.frozen?_setCell]; exact g2, fun hlt' => g3 (by omega)⟩
      case measure => simp [intOf]; omega
    · obtain rfl : k = xs.length := by omega
      have HC := Lib.hid hall
      have HS := Lib.hid hsz
      clear hall hsz hx
      go_wp2
      go_returns
      refine ⟨⟨_, rfl, ⟨rfl, fun hp => ⟨w.heap.size, 0, rfl, by rw [HS.out]; omega, fun i hi => ?_⟩⟩, fun a ha => by cases ha; exact Nat.le_refl _⟩, hB⟩
      obtain ⟨v, h1, _, h3⟩ := HC.out i hi
      rw [Nat.zero_add, h1, h3 hi]
def letB (i : Nat) : UInt8 := if i % 2 = 0 then 82 else 76
def lets : Nat → List Int → List UInt8
  | _, [] => []
  | i, n :: ns => List.replicate n.toNat (letB i) ++ lets (i + 1) ns
def okP : Int → List Int → Bool
  | _, [] => true
  | l, n :: ns => inB n 1 l && okP (l - n) ns
def evenB (n : Nat) : Bool := decide (2 ≤ n) && decide (n % 2 = 0)
def wopR (xs : List Int) : List UInt8 × Int := if evenB xs.length && okP 200 xs then (lets 0 xs, 0) else ([], 2)
theorem drop_step {xs : List Int} {k : Nat} (h : k < xs.length) : xs.drop k = xs[k]?.getD 0 :: xs.drop (k + 1) := by
  rw [List.drop_eq_getElem_cons h]
  simp [h]
theorem lets_len : ∀ (xs : List Int) (i : Nat) (l : Int), 0 ≤ l → okP l xs = true → ((lets i xs).length : Int) ≤ l
  | [], _, l, hl, _ => by simpa [lets] using hl
  | n :: ns, i, l, hl, h => by
    simp only [okP, Bool.and_eq_true, inB_iff] at h
    have := lets_len ns (i + 1) (l - n) (by omega) h.2
    simp only [lets, List.length_append, List.length_replicate]
    omega
theorem okP_lets {xs : List Int} {k : Nat} {o : List UInt8} (h : o ++ lets k (xs.drop k) = lets 0 xs) (h2 : okP 200 xs = true) : o.length ≤ 200 := by
  have h1 := lets_len xs 0 200 (by omega) h2
  have := congrArg List.length h
  simp only [List.length_append] at this
  omega
theorem specWop_any (A : Option Addr) (n c : Nat) (xs : List Int) (w : World) (h : ISl w A n xs) (hn : n ≤ 1048576) : Calls Try.prog 5 #[.slice A n c] w fun e w' => e = .returned (.tuple #[.string ⟨(wopR xs).1.toArray⟩, .int .i64 (wopR xs).2]) ∧ Below w.heap.size w w' := by
  obtain ⟨rfl, hx⟩ := h
  obtain ⟨R, hR⟩ : ∃ R, wopR xs = R := ⟨_, rfl⟩
  rw [hR]
  have HR := Lib.hid hR
  clear hR
  by_cases he : evenB xs.length = true
  · have he1 : ¬ (xs.length : Int) < 2 := by simp [evenB] at he; omega
    have he2 : (xs.length : Int) % 2 = 0 := by
      simp only [evenB, Bool.and_eq_true, decide_eq_true_eq] at he
      omega
    have hyes : okP 200 xs = true → R = (lets 0 xs, 0) := fun h => by rw [← HR.out]; unfold wopR; rw [he, h]; rfl
    have hno : okP 200 xs = false → R = ([], 2) := fun h => by rw [← HR.out]; unfold wopR; rw [he, h]; rfl
    have HY := Lib.hid hyes
    have HN := Lib.hid hno
    clear hyes hno HR he
    go_enter Try.func5, Try.ntmps5
    go_wp2
    go_loopw [4, 5, 6] (fun o i k wr => ∃ (j : Nat) (q : List UInt8), o = .string ⟨q.toArray⟩ ∧ i = .int .i64 j ∧ j ≤ xs.length ∧ q.length ≤ 200 ∧ q ++ lets j (xs.drop j) = lets 0 xs ∧ okP (200 - q.length) (xs.drop j) = okP 200 xs ∧ Below w.heap.size w wr) (fun _ i _ _ => xs.length - (intOf i).toNat)
    case atStart => exact ⟨0, [], rfl, rfl, Nat.zero_le _, by simp, by simp, by simp, Below.refl _ _⟩
    case round =>
      obtain ⟨j, q, rfl, rfl, hj, hq, hl, hok, hB⟩ := hrel
      have HL := Lib.hid hl
      have HO := Lib.hid hok
      clear hl hok
      by_cases hjn : j < xs.length
      · obtain ⟨b, off, rfl, hb, hr⟩ := hx (by omega)
        have h3 := cell_keep hB (hr j hjn)
        have hd := drop_step hjn
        obtain ⟨n, hp⟩ : ∃ p, xs[j]?.getD 0 = p := ⟨_, rfl⟩
        rw [hp] at h3 hd
        have HD := Lib.hid hd
        clear hd hr hp
        have ew : wrap64 (200 - (q.length : Int)) = 200 - (q.length : Int) := by unfold wrap64; omega
        obtain ⟨z, hz⟩ : ∃ z, inB n 1 (200 - q.length) = z := ⟨_, rfl⟩
        have hin := fun W => l01In_any n 1 (200 - q.length) W
        rw [hz] at hin
        have HI := Lib.hid hin
        clear hin
        cases z
        · have hf := HN.out (by rw [← HO.out, HD.out]; simp [okP, hz])
          go_wp2_with (go_at_call 13; go_must ((with_reducible refine (HI.out _).mono ?_)); rintro e w1 ⟨rfl, rfl⟩)
          go_returns
          exact ⟨by rw [hf]; rfl, by (repeat' (first | (with_reducible exact Below.refl _ _) | (with_reducible refine Below.alloc ?_ ?_ _) | (with_reducible refine Below.drew ?_) | (with_reducible refine below_drewN' ?_ _) | (with_reducible refine Below.setCell ?_ ?_ _) | (with_reducible refine Below.trans ?_ (Below.mono (by assumption) ?_)) | go_size))⟩
        · obtain ⟨m, rfl⟩ : ∃ m : Nat, n = m := ⟨n.toNat, by have := inB_iff.1 hz; omega⟩
          have hb2 := inB_iff.1 hz
          go_wp2_with (go_at_call 13; go_must ((with_reducible refine (HI.out _).mono ?_)); rintro e w1 ⟨rfl, rfl⟩)
          have hi1 : wrap64 ((j : Int) + 1) = (j : Int) + 1 := by unfold wrap64; omega
          go_loopw [4, 6] (fun o k wr => ∃ t : Nat, t ≤ m ∧ k = .int .i64 t ∧ o = .string ⟨(q ++ List.replicate (m - t) (letB j)).toArray⟩ ∧ Below w.heap.size w wr) (fun _ k _ => (intOf k).toNat)
          case atStart => exact ⟨m, Nat.le_refl _, rfl, by simp, hB⟩
          case round =>
            obtain ⟨t, htm, rfl, rfl, hB2⟩ := hrel
            obtain ⟨s, hs⟩ : ∃ s, (⟨(q ++ List.replicate (m - t) (letB j)).toArray⟩ : ByteArray) = s := ⟨_, rfl⟩
            have hsz : s.size ≤ 400 := by
              rw [← hs]
              show (q ++ List.replicate (m - t) (letB j)).toArray.size ≤ 400
              simp
              omega
            by_cases ht : 0 < t
            · have hz1 : ¬ s.size + 1 > 9223372036854775807 := by omega
              have hone : (⟨#[82]⟩ : ByteArray).size = 1 := rfl
              have htwo : (⟨#[76]⟩ : ByteArray).size = 1 := rfl
              have ew2 : wrap64 ((t : Int) - 1) = (t : Int) - 1 := by unfold wrap64; omega
              have hnext : s ++ ⟨#[letB j]⟩ = ⟨(q ++ List.replicate (m - (t - 1)) (letB j)).toArray⟩ := by
                rw [← hs, show (⟨#[letB j]⟩ : ByteArray) = ⟨[letB j].toArray⟩ from rfl, ByteArray.mk_append_mk, List.append_assoc, ← List.replicate_succ', show m - t + 1 = m - (t - 1) by omega]
              rw [hs]
              have HX := Lib.hid hnext
              clear hnext hs
              rcases Nat.mod_two_eq_zero_or_one j with hj2 | hj2
              · have hjI : (j : Int) % 2 = 0 := by omega
                have hlet : letB j = 82 := by unfold letB; rw [if_pos hj2]
                go_wp2
                refine ⟨⟨t - 1, by omega, by rw [Int.ofNat_sub ht]; rfl, ?_, ?_⟩, by simp [intOf]; omega⟩
                · rw [← HX.out, hlet]
                · have hBs := hB2.size
                  (repeat' (first | (with_reducible exact Below.refl _ _) | (with_reducible refine Below.alloc ?_ ?_ _) | (with_reducible refine Below.drew ?_) | (with_reducible refine below_drewN' ?_ _) | (with_reducible refine Below.setCell ?_ ?_ _) | (with_reducible refine Below.trans ?_ (Below.mono (by assumption) ?_)) | go_size))
              · have hjI : (j : Int) % 2 = 1 := by omega
                have hlet : letB j = 76 := by unfold letB; rw [if_neg (by omega)]
                go_wp2
                refine ⟨⟨t - 1, by omega, by rw [Int.ofNat_sub ht]; rfl, ?_, ?_⟩, by simp [intOf]; omega⟩
                · rw [← HX.out, hlet]
                · have hBs := hB2.size
                  (repeat' (first | (with_reducible exact Below.refl _ _) | (with_reducible refine Below.alloc ?_ ?_ _) | (with_reducible refine Below.drew ?_) | (with_reducible refine below_drewN' ?_ _) | (with_reducible refine Below.setCell ?_ ?_ _) | (with_reducible refine Below.trans ?_ (Below.mono (by assumption) ?_)) | go_size))
            · obtain rfl : t = 0 := by omega
              subst hs
              have hok := HO.out
              have hl := HL.out
              rw [HD.out] at hok hl
              simp only [okP, lets, hz, Bool.true_and, Int.toNat_natCast] at hok hl
              have HO2 := Lib.hid hok
              have HL2 := Lib.hid hl
              clear hok hl
              go_wp2
              go_roundw
              case rel =>
                refine ⟨j + 1, q ++ List.replicate m (letB j), by simp, by go_num, by omega, by simp; omega, ?_, ?_, hB2⟩
                · rw [List.append_assoc]; exact HL2.out
                · rw [← HO2.out]; congr 1; simp; omega
              case measure => simp [intOf]; omega
      · obtain rfl : j = xs.length := by omega
        have hl := HL.out
        have ho := HO.out
        simp [lets, okP] at hl ho
        have hf := HY.out ho
        go_wp2
        go_returns
        exact ⟨by rw [hf, hl]; rfl, hB⟩
  · have hno : R = ([], 2) := by rw [← HR.out]; unfold wopR; rw [Bool.eq_false_iff.2 he]; rfl
    clear HR
    subst hno
    have he' : xs.length < 2 ∨ ¬ xs.length % 2 = 0 := by
      simp only [evenB, Bool.and_eq_true, decide_eq_true_eq, Classical.not_and_iff_not_or_not] at he
      omega
    by_cases h2 : xs.length < 2
    · have he1 : (xs.length : Int) < 2 := by omega
      go_enter Try.func5, Try.ntmps5
      go_wp2
      go_returns
      exact ⟨rfl, Below.refl _ _⟩
    · have he1 : ¬ (xs.length : Int) < 2 := by omega
      have he2 : (xs.length : Int) % 2 = 1 := by omega
      go_enter Try.func5, Try.ntmps5
      go_wp2
      go_returns
      exact ⟨rfl, Below.refl _ _⟩
theorem below_gn {w w1 : World} (h : Below w.heap.size w w1) : w.grownBy w1 none := ⟨h.os, h.tape, h.output, h.size, fun i hi _ => h.block i hi⟩
theorem bldAt_keep {T e : TypeId} {B b : Nat} {p : Value} {bs : List Value} {w w1 : World} (h : Lib.BuilderAt T e B b p bs w) (hb : Below w.heap.size w w1) : Lib.BuilderAt T e B b p bs w1 := by
  obtain ⟨h1, v, h2, h3, h4⟩ := h
  have hlt : b < w.heap.size := by
    rcases Nat.lt_or_ge b w.heap.size with h' | h'
    · exact h'
    · rw [Array.getElem?_eq_none h'] at h2; cases h2
  refine ⟨h1, v, (hb.block b hlt).trans h2, h3.kept (below_gn hb) ?_, h4⟩
  cases v.ownBlock with
  | none => exact .inl rfl
  | some k => exact .inr (by simp)
theorem bld_keep {T e : TypeId} {B b : Nat} {bs : List Value} {w w1 : World} (h : Lib.IsBuilder T e B b bs w) (hb : Below w.heap.size w w1) : Lib.IsBuilder T e B b bs w1 := h.imp (bldAt_keep · hb) (bldAt_keep · hb)
theorem repeatL_one (c : UInt8) : ∀ n : Nat, Lib.repeatL [c] n = List.replicate n c
  | 0 => rfl
  | n + 1 => by rw [Lib.repeatL, repeatL_one c n]; rfl
abbrev Bld (N : Nat) (q : List UInt8) (W : World) : Prop := Lib.IsBuilder 41 5 N N (Lib.byteCells q) W
theorem write_any (N : Nat) (q : List UInt8) (s : List UInt8) (W : World) (h : Bld N q W) (hl : q.length + s.length ≤ 1000) (hN : N ≤ W.heap.size) :
    Calls Try.prog 15 #[.pointer (some ⟨N, 0, none⟩), .string ⟨s.toArray⟩] W fun e w' => (∃ v, e = .returned v) ∧ Bld N (q ++ s) w' ∧ Below N W w' :=
  (Any.Builder_WriteString Try.lays166 Try.Builder_Extra_105 N N (Lib.byteCells q) ⟨s.toArray⟩ W h (by rw [Lib.byteCells_length]; show q.length + s.toArray.size ≤ _; rw [List.size_toArray]; omega) hN).mono fun e w' ⟨h1, h2, h3⟩ =>
    ⟨⟨_, h1⟩, .inr (by rw [Lib.byteCells_append]; exact h2), h3⟩
theorem write_rep (N : Nat) (q : List UInt8) (c : UInt8) (n : Nat) (W : World) (h : Bld N q W) (hl : q.length + n ≤ 1000) (hN : N ≤ W.heap.size) :
    Calls Try.prog 15 #[.pointer (some ⟨N, 0, none⟩), .string ⟨Array.replicate n c⟩] W fun e w' => (∃ v, e = .returned v) ∧ Bld N (q ++ List.replicate n c) w' ∧ Below N W w' := by
  rw [← List.toArray_replicate]
  exact write_any N q (List.replicate n c) W h (by rw [List.length_replicate]; exact hl) hN
theorem string_any (N : Nat) (q : List UInt8) (W : World) (h : Bld N q W) (hN : N ≤ W.heap.size) :
    Calls Try.prog 17 #[.pointer (some ⟨N, 0, none⟩)] W fun e w' => e = .returned (.string ⟨q.toArray⟩) ∧ Below N W w' :=
  Any.Builder_String_any Try.lays169 Try.Builder_Extra_105 N N q W h hN
theorem repeat_any (c : UInt8) (n : Nat) (W : World) (hn : n ≤ 1000) : Calls Try.prog 16 #[.string ⟨#[c]⟩, .int .i64 (n : Int)] W fun e w' => e = .returned (.string ⟨Array.replicate n c⟩) ∧ Below W.heap.size W w' :=
  (Any.strings_Repeat Try.lays105 Try.Builder_Extra_105 ⟨#[c]⟩ n W (by omega) (by show 1 * n ≤ _; omega)).mono fun e w' ⟨h1, h2⟩ => ⟨by rw [h1]; show Ending.returned (.string ⟨(Lib.repeatL [c] n).toArray⟩) = _; rw [repeatL_one, List.toArray_replicate], h2⟩
theorem par0 {j : Nat} (h : j % 2 = 0) : (j : Int) % 2 = 0 := by omega
theorem par1 {j : Nat} (h : j % 2 = 1) : (j : Int) % 2 = 1 := by omega
theorem let0 {j : Nat} (h : j % 2 = 0) : letB j = 82 := by unfold letB; rw [if_pos h]
theorem let1 {j : Nat} (h : j % 2 = 1) : letB j = 76 := by unfold letB; rw [if_neg (by omega)]
/-- The code behind a region's beginning, on the right spine. -/
def codeHead (n : Nat) : Code → Bool
  | .region id _ _ => id == n
  | .seq (.region id _ _) _ => id == n
  | _ => false
def codeFrom (n : Nat) : Code → Option Code
  | .seq a b => if codeHead n a then some (.seq a b) else codeFrom n b
  | _ => none
def seqHead : Code → Code
  | .seq a _ => a
  | c => c
def seqTail : Code → Code
  | .seq _ b => b
  | c => c
noncomputable def headWop : Code := seqHead ((Try.f7.body.bind (codeFrom 11)).getD .skip)
noncomputable def tailWop : Code := seqTail ((Try.f7.body.bind (codeFrom 11)).getD .skip)
theorem implWop2 (xs : List Int) (c : Nat) (A : Option Addr) (w wr : World) (R : List UInt8 × Int) {K : Act → World → Prop} (u1_ u2_ u3_ u4_ u5_ u6_ u7_ u8_ u9_ u10_ u11_ u12_ u13_ u14_ u15_ u16_ u17_ u18_ u19_ u20_ u21_ u22_ u23_ u24_ u25_ u26_ u27_ u28_ u29_ u30_ u31_ u32_ u33_ u34_ u35_ u36_ u37_ u38_ u39_ u40_ u41_ u42_ u43_ u44_ u45_ u46_ u47_ u48_ u49_ u50_ : Value) (hn : xs.length ≤ 1048576) (hx : 0 < xs.length → ∃ b off, A = some ⟨b, off, none⟩ ∧ b < w.heap.size ∧ IRow w b off xs)
    (hall : okP 200 xs = true) (HF : Hid (R = (lets 0 xs, 0))) (hB : Below w.heap.size w wr)
    (hK : ∀ a w1, Code.wp Try.prog tailWop (bodyPost Try.prog Try.f7 fun e w' => e = .returned (.tuple #[.string ⟨R.1.toArray⟩, .int .i64 R.2]) ∧ Below w.heap.size w w') a w1 → K a w1) :
    Code.wp Try.prog headWop (Exit.then K (bodyPost Try.prog Try.f7 fun e w' => e = .returned (.tuple #[.string ⟨R.1.toArray⟩, .int .i64 R.2]) ∧ Below w.heap.size w w')) ⟨#[(.slice A xs.length c), u1_, u2_, u3_, u4_, u5_, u6_, u7_, u8_, u9_, u10_, u11_, u12_, u13_, u14_, u15_, u16_, u17_, u18_, u19_, u20_, u21_, u22_, u23_, u24_, u25_, u26_, u27_, u28_, u29_, u30_, u31_, u32_, u33_, u34_, u35_, u36_, u37_, u38_, u39_, u40_, u41_, u42_, u43_, u44_, u45_, u46_, u47_, u48_, u49_, u50_], []⟩ wr := by
  conv at hK => ext a1 w1; arg 1; arg 2; whnf
  conv => arg 2; whnf
  go_wp2
  have hsz := hB.size
  obtain ⟨N, hNe⟩ : ∃ N, wr.heap.size = N := ⟨_, rfl⟩
  rw [hNe]
  go_loopw [8, 9, 36] (fun _ _ k W => ∃ (j : Nat) (q : List UInt8), k = .int .i64 j ∧ j ≤ xs.length ∧ q.length ≤ 200 ∧ q ++ lets j (xs.drop j) = lets 0 xs ∧ okP (200 - q.length) (xs.drop j) = true ∧ Bld N q W ∧ Below w.heap.size w W ∧ N ≤ W.heap.size) (fun _ _ k _ => xs.length - (intOf k).toNat)
  case atStart => exact ⟨0, [], rfl, Nat.zero_le _, by simp, by simp, by simpa using hall, (by rw [← hNe]; exact Lib.fresh_isBuilder _ _ _), by (repeat' (first | (with_reducible exact Below.refl _ _) | (with_reducible refine Below.alloc ?_ ?_ _) | (with_reducible refine Below.drew ?_) | (with_reducible refine below_drewN' ?_ _) | (with_reducible refine Below.setCell ?_ ?_ _) | (with_reducible refine Below.trans ?_ (Below.mono (by assumption) ?_)) | go_size)), by simp; omega⟩
  case round =>
    obtain ⟨j, q, rfl, hj, hq, hl, hok, hb, hB2, hN⟩ := hrel
    have HL := Lib.hid hl
    have HO := Lib.hid hok
    have HB := Lib.hid hb
    have HB2 := Lib.hid hB2
    clear hl hok hb hB2
    by_cases hjn : j < xs.length
    · obtain ⟨b, off, rfl, hb, hr⟩ := hx (by omega)
      have h3 := cell_keep HB2.out (hr j hjn)
      have hd := drop_step hjn
      obtain ⟨m, hp⟩ : ∃ p, xs[j]?.getD 0 = p := ⟨_, rfl⟩
      rw [hp] at h3 hd
      have hl := HL.out
      have hok := HO.out
      rw [hd] at hl hok
      simp only [okP, lets, Bool.and_eq_true, inB_iff] at hl hok
      obtain ⟨k, rfl⟩ : ∃ k : Nat, m = k := ⟨m.toNat, by omega⟩
      simp only [Int.toNat_natCast] at hl
      have hk200 : k + q.length ≤ 200 := by omega
      have HL2 := Lib.hid hl
      have HO2 := Lib.hid hok.2
      have ej : wrap64 ((j : Int) + 1) = (j : Int) + 1 := by unfold wrap64; omega
      clear hd hr hp hx hl hok HL HO hb
      rcases Nat.mod_two_eq_zero_or_one j with hj2 | hj2
      · have hjI := par0 hj2
        have hlet := let0 hj2
        rw [hlet] at HL2
        go_wp2_with (first
          | (go_at_call 16; go_must ((with_reducible refine (repeat_any 82 k _ (by omega)).mono ?_)); rintro e w5 ⟨rfl, hb5⟩)
          | (go_at_call 15; go_must ((with_reducible refine (write_rep N q 82 k _ ?_ ?_ ?_).mono ?_)); go_must ((focus (exact bld_keep (bld_keep HB.out ((Below.refl _ _).alloc (Nat.le_refl _) _)) hb5))); go_must ((focus omega)); go_must ((focus (have := hb5.size; simp at this; omega))); rintro e w6 ⟨⟨v6, rfl⟩, hbd6, hb6⟩))
        have s5 := hb5.size
        simp at s5
        refine ⟨⟨j + 1, q ++ List.replicate k 82, by go_num, by omega, by simp; omega, by rw [List.append_assoc]; exact HL2.out, ?_, hbd6, ?_, by have := hb6.size; omega⟩, by simp [intOf]; omega⟩
        · rw [← HO2.out]; congr 1; simp; omega
        · have h1 := HB2.out
          have h2 : Below w.heap.size w w5 := (h1.alloc h1.size _).trans (hb5.mono (by simp; have := h1.size; omega))
          exact h2.trans (hb6.mono (by omega))
      · have hjI := par1 hj2
        have hlet := let1 hj2
        rw [hlet] at HL2
        go_wp2_with (first
          | (go_at_call 16; go_must ((with_reducible refine (repeat_any 76 k _ (by omega)).mono ?_)); rintro e w5 ⟨rfl, hb5⟩)
          | (go_at_call 15; go_must ((with_reducible refine (write_rep N q 76 k _ ?_ ?_ ?_).mono ?_)); go_must ((focus (exact bld_keep (bld_keep HB.out ((Below.refl _ _).alloc (Nat.le_refl _) _)) hb5))); go_must ((focus omega)); go_must ((focus (have := hb5.size; simp at this; omega))); rintro e w6 ⟨⟨v6, rfl⟩, hbd6, hb6⟩))
        have s5 := hb5.size
        simp at s5
        refine ⟨⟨j + 1, q ++ List.replicate k 76, by go_num, by omega, by simp; omega, by rw [List.append_assoc]; exact HL2.out, ?_, hbd6, ?_, by have := hb6.size; omega⟩, by simp [intOf]; omega⟩
        · rw [← HO2.out]; congr 1; simp; omega
        · have h1 := HB2.out
          have h2 : Below w.heap.size w w5 := (h1.alloc h1.size _).trans (hb5.mono (by simp; have := h1.size; omega))
          exact h2.trans (hb6.mono (by omega))
    · obtain rfl : j = xs.length := by omega
      have hl := HL.out
      simp [lets] at hl
      go_wp2_with (go_at_call 17; go_must ((with_reducible refine (string_any N q _ HB.out hN).mono ?_)); rintro e w7 ⟨rfl, hb7⟩)
      go_returns
      have h1 := HB2.out
      exact ⟨by first | (rw [HF.out, hl]; rfl) | (rw [HF.out]; rfl), h1.trans (hb7.mono (by omega))⟩
theorem implWop_any (A : Option Addr) (n c : Nat) (xs : List Int) (w : World) (h : ISl w A n xs) (hn : n ≤ 1048576) : Calls Try.prog 7 #[.slice A n c] w fun e w' => e = .returned (.tuple #[.string ⟨(wopR xs).1.toArray⟩, .int .i64 (wopR xs).2]) ∧ Below w.heap.size w w' := by
  obtain ⟨rfl, hx⟩ := h
  obtain ⟨R, hR⟩ : ∃ R, wopR xs = R := ⟨_, rfl⟩
  rw [hR]
  have HR := Lib.hid hR
  clear hR
  go_enter Try.func7, Try.ntmps7
  go_wp2
  go_loopw [4, 6, 12] (fun o _ k wr => ∃ (j : Nat) (l : Int), o = .int .i64 l ∧ k = .int .i64 j ∧ j ≤ xs.length ∧ (0 ≤ l ∧ l ≤ 200) ∧ okP l (xs.drop j) = okP 200 xs ∧ Below w.heap.size w wr) (fun _ _ k _ => xs.length - (intOf k).toNat)
  case atStart => exact ⟨0, 200, rfl, rfl, Nat.zero_le _, by omega, by simp, Below.refl _ _⟩
  case round =>
    obtain ⟨j, l, rfl, rfl, hj, ⟨hl0, hl1⟩, hok, hB⟩ := hrel
    have HO := Lib.hid hok
    clear hok
    by_cases hjn : j < xs.length
    · obtain ⟨b, off, rfl, hb, hr⟩ := hx (by omega)
      have h3 := cell_keep hB (hr j hjn)
      have hd := drop_step hjn
      obtain ⟨m, hp⟩ : ∃ p, xs[j]?.getD 0 = p := ⟨_, rfl⟩
      rw [hp] at h3 hd
      have HD := Lib.hid hd
      have HX := Lib.hid hx
      clear hd hr hp hx
      obtain ⟨z, hz⟩ : ∃ z, inB m 1 l = z := ⟨_, rfl⟩
      have hin := fun W => in_any m 1 l W
      rw [hz] at hin
      have HI := Lib.hid hin
      clear hin
      cases z
      · have hf : R = ([], 2) := by
          have h0 : okP 200 xs = false := by rw [← HO.out, HD.out]; simp [okP, hz]
          rw [← HR.out]; unfold wopR; rw [h0, Bool.and_false]; rfl
        go_wp2_with (go_at_call 14; go_must ((with_reducible refine (HI.out _).mono ?_)); rintro e w1 ⟨rfl, rfl⟩)
        go_returns
        exact ⟨by first | rfl | (rw [hf]; rfl), by (repeat' (first | (with_reducible exact Below.refl _ _) | (with_reducible refine Below.alloc ?_ ?_ _) | (with_reducible refine Below.drew ?_) | (with_reducible refine below_drewN' ?_ _) | (with_reducible refine Below.setCell ?_ ?_ _) | (with_reducible refine Below.trans ?_ (Below.mono (by assumption) ?_)) | go_size))⟩
      · have hb2 := inB_iff.1 hz
        have ew : wrap64 (l - m) = l - m := by unfold wrap64; omega
        have ej : wrap64 ((j : Int) + 1) = (j : Int) + 1 := by unfold wrap64; omega
        go_wp2_with (go_at_call 14; go_must ((with_reducible refine (HI.out _).mono ?_)); rintro e w1 ⟨rfl, rfl⟩)
        refine ⟨⟨j + 1, l - m, rfl, by go_num, by omega, by omega, ?_, hB⟩, by simp [intOf]; omega⟩
        rw [← HO.out, HD.out]
        simp [okP, hz]
    · obtain rfl : j = xs.length := by omega
      have hall : okP 200 xs = true := by rw [← HO.out]; simp [okP]
      clear HO hjn
      by_cases he : evenB xs.length = true
      · have he1 : ¬ (xs.length : Int) < 2 := by simp [evenB] at he; omega
        have he2 : (xs.length : Int) % 2 = 0 := by
          simp only [evenB, Bool.and_eq_true, decide_eq_true_eq] at he
          omega
        have hf : R = (lets 0 xs, 0) := by rw [← HR.out]; unfold wopR; rw [he, hall]; rfl
        have HF := Lib.hid hf
        clear HR hf he
        go_upto_region 11 with fail
        refine implWop2 xs c A w wr R _ _ _ _ _ _ _ _ _ _ _ _ _ _ _ _ _ _ _ _ _ _ _ _ _ _ _ _ _ _ _ _ _ _ _ _ _ _ _ _ _ _ _ _ _ _ _ _ _ _ hn hx hall HF hB ?_
        assumption
      · have hf : R = ([], 2) := by rw [← HR.out]; unfold wopR; rw [Bool.eq_false_iff.2 he]; rfl
        have he' : xs.length < 2 ∨ ¬ xs.length % 2 = 0 := by
          simp only [evenB, Bool.and_eq_true, decide_eq_true_eq, Classical.not_and_iff_not_or_not] at he
          omega
        by_cases h2 : xs.length < 2
        · have he1 : (xs.length : Int) < 2 := by omega
          go_wp2
          go_returns
          exact ⟨by first | rfl | (rw [hf]; rfl), hB⟩
        · have he1 : ¬ (xs.length : Int) < 2 := by omega
          have he2 : (xs.length : Int) % 2 = 1 := by omega
          go_wp2
          go_returns
          exact ⟨by first | rfl | (rw [hf]; rfl), hB⟩
end Go.Proofs.Ytajjoihfccnfhaa
