/-
  Contracts of texts of numbers and points. Conditions: the sizes, and the table that the library reads, as each says.
-/
import Derived.Test.YtajjoihfccnfhaaDoorCpu
import Derived.Test.YtajjoihfccnfhaaDoorHk
import Derived.Test.YtajjoihfccnfhaaDoorShf
import Derived.Lib.ItoaMem
import Derived.Lib.AppendIntMem
import Derived.Deep.RegionWith
import Derived.Deep.DeepMust
namespace Go.Proofs.YtajjoihfccnfhaaDoor
open Go.RowKit
set_option maxHeartbeats 1000000
def decB (u : Nat) : ByteArray := ⟨(Lib.decDigits u).toArray⟩
def byteB (x : Nat) : ByteArray := ⟨[UInt8.ofNat x].toArray⟩
theorem byteB_size (x : Nat) : (byteB x).size = 1 := rfl
theorem nDigits_le : ∀ (k u : Nat), u < 10 ^ (k + 1) → Lib.nDigits u ≤ k + 1
  | 0, u, h => by rw [Lib.nDigits_small (by omega)]; omega
  | k + 1, u, h => by
    by_cases h10 : u < 10
    · rw [Lib.nDigits_small h10]; omega
    · rw [Lib.nDigits, dif_neg h10]
      have := nDigits_le k (u / 10) (by rw [Nat.pow_succ] at h; omega)
      omega
theorem decB_size {u : Nat} (h : u ≤ 9223372036854775807) : (decB u).size ≤ 20 := by
  have := nDigits_le 19 u (by omega)
  show (Lib.decDigits u).toArray.size ≤ 20
  rw [List.size_toArray, Lib.decDigits_length]
  exact this
theorem decB_small {u : Nat} (h : u < 10) : decB u = byteB (48 + u) := by unfold decB byteB; rw [Lib.decDigits, dif_pos h]
theorem decB_more {u : Nat} (h : ¬ u < 10) : decB (u / 10) ++ byteB (48 + u % 10) = decB u := by
  unfold decB byteB
  rw [ByteArray.mk_append_mk]
  conv => rhs; rw [Lib.decDigits, dif_neg h]
theorem conv_one {P : Program} (src dst e : TypeId) (hs : P.underlying src = some (.slice e)) (he : P.underlying e = some (.int .u8)) (hd : P.underlying dst = some .string) (x : Nat) (hx : x < 256) (W : World) (N : Nat) (hc : W.cell? ⟨N, 0, none⟩ = some (.int .u8 (x : Int))) :
    (convert src dst (.slice (some ⟨N, 0, none⟩) 1 1)).run P W = .ok (.string (byteB x)) W := by
  have h := run_convert_bytes_back W src dst e ⟨N, 0, none⟩ 1 [UInt8.ofNat x] hs he hd (fun j hj => by
    obtain rfl : j = 0 := by simpa using hj
    rw [show (⟨N, 0, none⟩ : Addr).add 0 = ⟨N, 0, none⟩ by simp [Addr.add], hc]
    simp [Nat.mod_eq_of_lt hx])
  exact h
set_option maxRecDepth 100000 in
theorem dec_nat (u : Nat) (hu : u ≤ 9223372036854775807) (w : World) : Calls Tryd.prog 61 #[.int .i64 (u : Int)] w fun e w' => e = .returned (.string (decB u)) ∧ Below w.heap.size w w' := by
  induction u using Nat.strongRecOn generalizing w with
  | ind u ih =>
    have hn : ¬ (u : Int) < 0 := by omega
    by_cases h10 : u < 10
    · have h10' : (u : Int) < 10 := by omega
      have hc := fun W N (h : W.cell? ⟨N, 0, none⟩ = some (.int .u8 (48 + (u : Int)))) => conv_one (P := Tryd.prog) 100 9 5 Tryd.underlying100 Tryd.underlying5 Tryd.underlying9 (48 + u) (by omega) W N (by rw [h]; congr 2)
      rw [decB_small h10]
      go_enter Tryd.func61, Tryd.ntmps61
      go_wp2_with fail
      go_returns
      exact ⟨rfl, by (repeat' (first | (with_reducible exact Below.refl _ _) | (with_reducible refine Below.alloc ?_ ?_ _) | (with_reducible refine Below.drew ?_) | (with_reducible refine below_drewN' ?_ _) | (with_reducible refine Below.setCell ?_ ?_ _) | (with_reducible refine Below.trans ?_ (Below.mono (by assumption) ?_)) | go_size))⟩
    · have h10' : ¬ (u : Int) < 10 := by omega
      have ih' := fun W => ih (u / 10) (by omega) (by omega) W
      have e1 : IntKind.i64.wrap ((u : Int) / 10) = ((u / 10 : Nat) : Int) := by rw [wrapEq]; unfold wrap64; omega
      have e2 : (u : Int).tmod 10 = ((u % 10 : Nat) : Int) := by rw [Int.tmod_eq_emod_of_nonneg (by omega)]; omega
      have hab := decB_more h10
      have hsz : ¬ (decB (u / 10)).size + (byteB (48 + u % 10)).size > 9223372036854775807 := by
        have := decB_size (u := u / 10) (by omega)
        rw [byteB_size]; omega
      rw [← hab]
      obtain ⟨k, hk⟩ : ∃ k, u % 10 = k := ⟨_, rfl⟩
      have hk10 : k < 10 := by omega
      rw [hk] at hsz e2 ⊢
      have hc := fun W N (h : W.cell? ⟨N, 0, none⟩ = some (.int .u8 (48 + (k : Int)))) => conv_one (P := Tryd.prog) 100 9 5 Tryd.underlying100 Tryd.underlying5 Tryd.underlying9 (48 + k) (by omega) W N (by rw [h]; congr 2)
      have e3 : IntKind.i64.wrap (48 + (k : Int)) = 48 + (k : Int) := by rw [wrapEq]; unfold wrap64; omega
      have e4 : IntKind.u8.wrap (48 + (k : Int)) = 48 + (k : Int) := by simp only [IntKind.wrap, IntKind.bits, IntKind.signed]; simp; omega
      obtain ⟨a, ha⟩ : ∃ a, decB (u / 10) = a := ⟨_, rfl⟩
      obtain ⟨b, hb⟩ : ∃ b, byteB (48 + k) = b := ⟨_, rfl⟩
      obtain ⟨v, hv⟩ : ∃ v, u / 10 = v := ⟨_, rfl⟩
      rw [ha] at ih' hsz ⊢
      rw [hb] at hc hsz ⊢
      rw [hv] at ih' e1
      have IH := Lib.hid ih'
      clear ih ih' hab ha hb hk hv
      go_enter Tryd.func61, Tryd.ntmps61
      go_wp2_with fail
      go_region_with (first
        | (go_at_call 61; go_must ((with_reducible refine (IH.out _).mono ?_)); rintro e w1 ⟨rfl, hb1⟩; obtain ⟨hg1, hi1, hy1, hx1⟩ := bfull hb1; (try simp only [World.size_drew] at hg1 hi1 hy1 hx1); (try simp only [World.size_alloc] at hg1 hi1 hy1 hx1); (try simp only [World.size_setCell] at hg1 hi1 hy1 hx1)))
      all_goals
        go_wp2
        go_returns
        exact ⟨rfl, by (repeat' (first | (with_reducible exact Below.refl _ _) | (with_reducible refine Below.alloc ?_ ?_ _) | (with_reducible refine Below.drew ?_) | (with_reducible refine below_drewN' ?_ _) | (with_reducible refine Below.setCell ?_ ?_ _) | (with_reducible refine Below.trans ?_ (Below.mono (by assumption) ?_)) | go_size))⟩
def txtB (n : Int) : ByteArray := ⟨(Lib.itoa n).toArray⟩
theorem txtB_nat (u : Nat) : txtB (u : Int) = decB u := by unfold txtB decB; rw [Lib.itoa_nonneg]
theorem txtB_neg {u : Nat} (h : 1 ≤ u) : txtB (-(u : Int)) = ⟨#[45]⟩ ++ decB u := by
  unfold txtB decB
  rw [Lib.itoa_neg u h, show (⟨#[45]⟩ : ByteArray) = ⟨[45].toArray⟩ from rfl, ByteArray.mk_append_mk]
  rfl
theorem txtB_size {n : Int} (h : -1000000 ≤ n ∧ n ≤ 1000000) : (txtB n).size ≤ 21 := by
  by_cases h0 : n < 0
  · obtain ⟨u, rfl⟩ : ∃ u : Nat, n = -(u : Int) := ⟨n.natAbs, by omega⟩
    rw [txtB_neg (by omega), ByteArray.size_append]
    have := decB_size (u := u) (by omega)
    show 1 + _ ≤ 21
    omega
  · obtain ⟨u, rfl⟩ : ∃ u : Nat, n = (u : Int) := ⟨n.natAbs, by omega⟩
    rw [txtB_nat]
    have := decB_size (u := u) (by omega)
    omega
def pointB (x y : Int) : ByteArray := txtB x ++ ⟨#[44]⟩ ++ txtB y
set_option maxRecDepth 100000 in
theorem l01Dec_any (n : Int) (h : -1000000 ≤ n ∧ n ≤ 1000000) (w : World) : Calls Tryd.prog 61 #[.int .i64 n] w fun e w' => e = .returned (.string (txtB n)) ∧ Below w.heap.size w w' := by
  by_cases h0 : n < 0
  · obtain ⟨u, rfl⟩ : ∃ u : Nat, n = -(u : Int) := ⟨n.natAbs, by omega⟩
    rw [txtB_neg (by omega)]
    have hd := fun W => dec_nat u (by omega) W
    have hsz : ¬ 1 + (decB u).size > 9223372036854775807 := by
      have := decB_size (u := u) (by omega)
      omega
    have e1 : wrap64 (u : Int) = u := by unfold wrap64; omega
    have e2 : wrap64 (- -(u : Int)) = u := by unfold wrap64; omega
    obtain ⟨b, hb⟩ : ∃ b, decB u = b := ⟨_, rfl⟩
    rw [hb] at hd hsz ⊢
    have HD := Lib.hid hd
    clear hd hb
    have hone : (⟨#[45]⟩ : ByteArray).size = 1 := rfl
    go_enter Tryd.func61, Tryd.ntmps61
    go_wp2_with (go_at_call 61; go_must ((with_reducible refine (HD.out _).mono ?_)); rintro e w1 ⟨rfl, hb1⟩)
    go_returns
    exact ⟨rfl, by (repeat' (first | (with_reducible exact Below.refl _ _) | (with_reducible refine Below.alloc ?_ ?_ _) | (with_reducible refine Below.drew ?_) | (with_reducible refine below_drewN' ?_ _) | (with_reducible refine Below.setCell ?_ ?_ _) | (with_reducible refine Below.trans ?_ (Below.mono (by assumption) ?_)) | go_size))⟩
  · obtain ⟨u, rfl⟩ : ∃ u : Nat, n = (u : Int) := ⟨n.natAbs, by omega⟩
    rw [txtB_nat]
    exact dec_nat u (by omega) w
theorem l01Text_any (x y : Int) (hx : -1000000 ≤ x ∧ x ≤ 1000000) (hy : -1000000 ≤ y ∧ y ≤ 1000000) (w : World) : Calls Tryd.prog 36 #[.agg #[.int .i64 x, .int .i64 y]] w fun e w' => e = .returned (.string (pointB x y)) ∧ Below w.heap.size w w' := by
  have h1 := fun W => l01Dec_any x hx W
  have h2 := fun W => l01Dec_any y hy W
  have s1 := txtB_size hx
  have s2 := txtB_size hy
  unfold pointB
  obtain ⟨a, ha⟩ : ∃ b, txtB x = b := ⟨_, rfl⟩
  obtain ⟨b, hb⟩ : ∃ b, txtB y = b := ⟨_, rfl⟩
  rw [ha] at h1 s1 ⊢
  rw [hb] at h2 s2 ⊢
  have H1 := Lib.hid h1
  have H2 := Lib.hid h2
  clear h1 h2 ha hb hx hy
  have hone : (⟨#[44]⟩ : ByteArray).size = 1 := rfl
  have z1 : ¬ a.size + 1 > 9223372036854775807 := by omega
  have z2 : ¬ a.size + 1 + b.size > 9223372036854775807 := by omega
  have z3 : (a ++ ⟨#[44]⟩).size = a.size + 1 := by rw [ByteArray.size_append]; rfl
  clear s1 s2
  go_enter Tryd.func36, Tryd.ntmps36
  go_wp2_with fail
  (refine wp_region_beyond (w.heap.size + 1) (by kernel_rfl) (by kernel_rfl) (by go_size) (fun hBe => ?_); (repeat (first | go_big_quiet_step (first | (go_at_call_of 61 (Value.int .i64 x); exact beyond_of (H1.out _)) | (go_at_call_of 61 (Value.int .i64 y); exact beyond_of (H2.out _))) | quiet_step (first | (go_at_call_of 61 (Value.int .i64 x); exact beyond_of (H1.out _)) | (go_at_call_of 61 (Value.int .i64 y); exact beyond_of (H2.out _))))); refine wpQuiet_nil ?_; clear hBe; intro w1 hb1)
  go_wp2_with fail
  go_returns
  exact ⟨rfl, by (repeat' (first | (with_reducible exact Below.refl _ _) | (with_reducible refine Below.alloc ?_ ?_ _) | (with_reducible refine Below.drew ?_) | (with_reducible refine below_drewN' ?_ _) | (with_reducible refine Below.setCell ?_ ?_ _) | (with_reducible refine Below.trans ?_ (Below.mono (by assumption) ?_)) | go_size))⟩
theorem below_grow {w : World} (k : Nat) (os : Array Obj) : Below w.heap.size w (Go.Sort.grow (w.drewN k) os) :=
  ⟨rfl, rfl, rfl, by simp [Go.Sort.grow, World.drewN], fun i hi => by
    show (w.heap ++ os)[i]? = _
    rw [Array.getElem?_append_left hi]⟩
abbrev TabHere (w : World) : Prop := Lib.TabIs Tryd.prog w "internal/strconv.uint64pow10" .u64 Lib.pow10Tab
theorem decimal_any (n : Int) (h : -1000000 ≤ n ∧ n ≤ 1000000) (w : World) (ht : TabHere w) : Calls Tryd.prog 63 #[.int .i64 n] w fun e w' => e = .returned (.string (txtB n)) ∧ Below w.heap.size w w' := by
  have hf : ∀ W, TabHere W → Calls Tryd.prog 87 #[.int .i64 n, .int .i64 10] W fun e w' => e = .returned (.string (txtB n)) ∧ ∃ k os, w' = Go.Sort.grow (W.drewN k) os := fun W ht => Any.strconv_FormatInt_10 Tryd.laysM173 n (by omega) (by omega) W ht
  have HF := Lib.hid hf
  have HT := Lib.hid ht
  clear hf ht
  go_enter Tryd.func63, Tryd.ntmps63
  go_wp2_with (go_at_call 87; go_must ((with_reducible refine (HF.out _ HT.out).mono ?_)); rintro e w1 ⟨rfl, k, os, rfl⟩)
  go_returns
  exact ⟨rfl, below_grow _ _⟩
theorem ptext_any (x y : Int) (hx : -1000000 ≤ x ∧ x ≤ 1000000) (hy : -1000000 ≤ y ∧ y ≤ 1000000) (w : World) (ht : TabHere w) : Calls Tryd.prog 38 #[.agg #[.int .i64 x, .int .i64 y]] w fun e w' => e = .returned (.string (pointB x y)) ∧ Below w.heap.size w w' := by
  have hv : TabHere (w.alloc (.cells #[.int .i64 x, .int .i64 y] 25)) := Lib.tabIs_alloc ht _
  have h1 := fun W (hW : Below (w.alloc (.cells #[.int .i64 x, .int .i64 y] 25)).heap.size (w.alloc (.cells #[.int .i64 x, .int .i64 y] 25)) W) => decimal_any x hx W (Lib.tabBelow_of_tabIs hv W hW)
  have h2 := fun W (hW : Below (w.alloc (.cells #[.int .i64 x, .int .i64 y] 25)).heap.size (w.alloc (.cells #[.int .i64 x, .int .i64 y] 25)) W) => decimal_any y hy W (Lib.tabBelow_of_tabIs hv W hW)
  have s1 := txtB_size hx
  have s2 := txtB_size hy
  unfold pointB
  obtain ⟨a, ha⟩ : ∃ b, txtB x = b := ⟨_, rfl⟩
  obtain ⟨b, hb⟩ : ∃ b, txtB y = b := ⟨_, rfl⟩
  rw [ha] at h1 s1 ⊢
  rw [hb] at h2 s2 ⊢
  have H1 := Lib.hid h1
  have H2 := Lib.hid h2
  clear h1 h2 ha hb hx hy ht hv
  have hone : (⟨#[44]⟩ : ByteArray).size = 1 := rfl
  have z1 : ¬ a.size + 1 > 9223372036854775807 := by omega
  have z2 : ¬ a.size + 1 + b.size > 9223372036854775807 := by omega
  have z3 : (a ++ ⟨#[44]⟩).size = a.size + 1 := by rw [ByteArray.size_append]; rfl
  clear s1 s2
  go_enter Tryd.func38, Tryd.ntmps38
  go_wp2_with fail
  (refine wp_region_beyond (w.heap.size + 1) (by kernel_rfl) (by kernel_rfl) (by go_size) (fun hBe => ?_); (repeat (first | go_big_quiet_step (first | (go_at_call_of 63 (Value.int .i64 x); exact beyond_of (H1.out _ (Beyond.b _))) | (go_at_call_of 63 (Value.int .i64 y); exact beyond_of (H2.out _ (Beyond.b _)))) | quiet_step (first | (go_at_call_of 63 (Value.int .i64 x); exact beyond_of (H1.out _ (Beyond.b _))) | (go_at_call_of 63 (Value.int .i64 y); exact beyond_of (H2.out _ (Beyond.b _)))))); refine wpQuiet_nil ?_; clear hBe; intro w1 hb1)
  go_wp2_with fail
  go_returns
  exact ⟨rfl, by (repeat' (first | (with_reducible exact Below.refl _ _) | (with_reducible refine Below.alloc ?_ ?_ _) | (with_reducible refine Below.drew ?_) | (with_reducible refine below_drewN' ?_ _) | (with_reducible refine Below.setCell ?_ ?_ _) | (with_reducible refine Below.trans ?_ (Below.mono (by assumption) ?_)) | go_size))⟩
def ptR (x y : Int) : ByteArray × Int := if ptB x y then (pointB x y, 0) else (⟨#[]⟩, 1)
theorem specPT_any (x y : Int) (w : World) : Calls Tryd.prog 10 #[.agg #[.int .i64 x, .int .i64 y]] w fun e w' => e = .returned (.tuple #[.string (ptR x y).1, .int .i64 (ptR x y).2]) ∧ Below w.heap.size w w' := by
  have hi := fun W => l01Is_any x y W
  unfold ptR
  obtain ⟨z, hz⟩ : ∃ z, ptB x y = z := ⟨_, rfl⟩
  rw [hz] at hi ⊢
  have HI := Lib.hid hi
  clear hi
  cases z
  · rw [if_neg (by decide)]
    go_enter Tryd.func10, Tryd.ntmps10
    go_wp2_with (go_at_call 35; go_must ((with_reducible refine (HI.out _).mono ?_)); rintro e w1 ⟨rfl, hb1⟩; obtain ⟨hc1, hf1, hz1, hn1⟩ := bstep 1 w hb1 (by go_size))
    go_returns
    exact ⟨rfl, by (repeat' (first | (with_reducible exact Below.refl _ _) | (with_reducible refine Below.alloc ?_ ?_ _) | (with_reducible refine Below.drew ?_) | (with_reducible refine below_drewN' ?_ _) | (with_reducible refine Below.setCell ?_ ?_ _) | (with_reducible refine Below.trans ?_ (Below.mono (by assumption) ?_)) | go_size))⟩
  · rw [if_pos rfl]
    rw [ptB_iff] at hz
    have ht := fun W => l01Text_any x y (by omega) (by omega) W
    have HT := Lib.hid ht
    clear ht hz
    go_enter Tryd.func10, Tryd.ntmps10
    go_wp2_with (first | (go_at_call 35; go_must ((with_reducible refine (HI.out _).mono ?_)); rintro e w1 ⟨rfl, hb1⟩; obtain ⟨hc1, hf1, hz1, hn1⟩ := bstep 1 w hb1 (by go_size)) | (go_at_call 36; go_must ((with_reducible refine (HT.out _).mono ?_)); rintro e w2 ⟨rfl, hb2⟩))
    go_returns
    exact ⟨rfl, by (repeat' (first | (with_reducible exact Below.refl _ _) | (with_reducible refine Below.alloc ?_ ?_ _) | (with_reducible refine Below.drew ?_) | (with_reducible refine below_drewN' ?_ _) | (with_reducible refine Below.setCell ?_ ?_ _) | (with_reducible refine Below.trans ?_ (Below.mono (by assumption) ?_)) | go_size))⟩
theorem implPT_any (x y : Int) (w : World) (ht : TabHere w) : Calls Tryd.prog 12 #[.agg #[.int .i64 x, .int .i64 y]] w fun e w' => e = .returned (.tuple #[.string (ptR x y).1, .int .i64 (ptR x y).2]) ∧ Below w.heap.size w w' := by
  have hi := fun W => IsPoint_any x y W
  unfold ptR
  obtain ⟨z, hz⟩ : ∃ z, ptB x y = z := ⟨_, rfl⟩
  rw [hz] at hi ⊢
  have HI := Lib.hid hi
  clear hi
  cases z
  · rw [if_neg (by decide)]
    go_enter Tryd.func12, Tryd.ntmps12
    go_wp2_with (go_at_call 37; go_must ((with_reducible refine (HI.out _).mono ?_)); rintro e w1 ⟨rfl, hb1⟩; obtain ⟨hc1, hf1, hz1, hn1⟩ := bstep 1 w hb1 (by go_size))
    go_returns
    exact ⟨rfl, by (repeat' (first | (with_reducible exact Below.refl _ _) | (with_reducible refine Below.alloc ?_ ?_ _) | (with_reducible refine Below.drew ?_) | (with_reducible refine below_drewN' ?_ _) | (with_reducible refine Below.setCell ?_ ?_ _) | (with_reducible refine Below.trans ?_ (Below.mono (by assumption) ?_)) | go_size))⟩
  · rw [if_pos rfl]
    rw [ptB_iff] at hz
    have ht2 := fun W (hW : Below (w.alloc (.cells #[.int .i64 x, .int .i64 y] 25)).heap.size (w.alloc (.cells #[.int .i64 x, .int .i64 y] 25)) W) => ptext_any x y (by omega) (by omega) W (Lib.tabBelow_of_tabIs (Lib.tabIs_alloc ht _) W hW)
    have HT := Lib.hid ht2
    clear ht2 hz ht
    go_enter Tryd.func12, Tryd.ntmps12
    go_wp2_with (first | (go_at_call 37; go_must ((with_reducible refine (HI.out _).mono ?_)); rintro e w1 ⟨rfl, hb1⟩; obtain ⟨hc1, hf1, hz1, hn1⟩ := bstep 1 w hb1 (by go_size)) | (go_at_call 38; go_must ((with_reducible refine (HT.out _ hb1).mono ?_)); rintro e w2 ⟨rfl, hb2⟩))
    go_returns
    exact ⟨rfl, by (repeat' (first | (with_reducible exact Below.refl _ _) | (with_reducible refine Below.alloc ?_ ?_ _) | (with_reducible refine Below.drew ?_) | (with_reducible refine below_drewN' ?_ _) | (with_reducible refine Below.setCell ?_ ?_ _) | (with_reducible refine Below.trans ?_ (Below.mono (by assumption) ?_)) | go_size))⟩
end Go.Proofs.YtajjoihfccnfhaaDoor
