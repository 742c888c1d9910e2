/-
  Rows of rows of whole numbers as results: the same, marks, marks that are still held. No condition but what stands in each.
-/
import Derived.Test.YtabdkjciajjkiaaCsl
import Derived.Test.YtabdkjciajjkiaaHk
namespace Go.Proofs.Ytabdkjciajjkiaa
open Go.RowKit
set_option maxHeartbeats 1000000
structure Rw where
  A : Option Addr
  c : Nat
  xs : List Int
def Rw.v (r : Rw) : Value := .slice r.A r.xs.length r.c
def Rw.nil : Rw := ⟨none, 0, []⟩
def RSl (W : World) (A : Option Addr) (n : Nat) (rs : List Rw) : Prop :=
  n = rs.length ∧ (0 < n → ∃ b off, A = some ⟨b, off, none⟩ ∧ b < W.heap.size ∧ ∀ i, i < rs.length → W.cell? ⟨b, off + i, none⟩ = some (rs[i]?.getD Rw.nil).v) ∧ ∀ r ∈ rs, ISl W r.A r.xs.length r.xs
theorem RSl.keep {w w1 : World} {A : Option Addr} {n : Nat} {rs : List Rw} (h : RSl w A n rs) (hb : Below w.heap.size w w1) : RSl w1 A n rs :=
  ⟨h.1, fun hn => by obtain ⟨b, off, e, hl, hr⟩ := h.2.1 hn; exact ⟨b, off, e, by have := hb.size; omega, fun i hi => cell_keep hb (hr i hi)⟩, fun r hr => (h.2.2 r hr).keep hb⟩
theorem getD_mem {rs : List Rw} {i : Nat} (h : i < rs.length) : rs[i]?.getD Rw.nil ∈ rs := by
  rw [List.getElem?_eq_getElem h]
  exact List.getElem_mem h
/-- The bound of all rows. -/
def lenB (rs : List Rw) (m : Nat) : Prop := ∀ r ∈ rs, r.xs.length ≤ m
theorem eqInt64SS_same (A A' : Option Addr) (n c c' : Nat) (rs rs' : List Rw) (w : World) (h : RSl w A n rs) (h' : RSl w A' n rs') (he : rs.map (·.xs) = rs'.map (·.xs)) (hn : n ≤ 281474976710656) (hl : lenB rs 281474976710656) :
    Calls Try.prog 23 #[.slice A n c, .slice A' n c'] w fun e w' => e = .returned (.bool true) ∧ Below w.heap.size w w' := by
  have HI := Lib.hid h.2.2
  have HI' := Lib.hid h'.2.2
  have hx := h.2.1
  have hx' := h'.2.1
  have hle : rs.length ≤ rs'.length := by have := h'.1; have := h.1; omega
  have hnl := h.1
  have HE := Lib.hid he
  have HL := Lib.hid hl
  clear h h' he hl
  subst hnl
  go_enter Try.func23, Try.ntmps23
  go_wp2
  go_loopw [5] (fun i wr => Below w.heap.size w wr ∧ ∃ k : Nat, k ≤ rs.length ∧ i = .int .i64 k) (fun i _ => rs.length - (intOf i).toNat)
  case atStart => exact ⟨Below.refl _ _, 0, Nat.zero_le _, rfl⟩
  case round =>
    obtain ⟨hB, k, hk, rfl⟩ := hrel
    by_cases hlt : k < rs.length
    · obtain ⟨b, off, rfl, hb, hr⟩ := hx (by omega)
      obtain ⟨b', off', rfl, hb', hr'⟩ := hx' (by omega)
      have h1 := cell_keep hB (hr k hlt)
      have h2 := cell_keep hB (hr' k (by omega))
      have m1 := getD_mem hlt
      have m2 := getD_mem (rs := rs') (i := k) (by omega)
      have e1 : (rs[k]?.getD Rw.nil).xs = (rs'[k]?.getD Rw.nil).xs := by
        have := congrArg (fun l => l[k]?.getD []) HE.out
        simp only [List.getElem?_map] at this
        rw [List.getElem?_eq_getElem hlt, List.getElem?_eq_getElem (show k < rs'.length by omega)] at this ⊢
        simpa using this
      obtain ⟨⟨ra, rc, rx⟩, hp⟩ : ∃ p, rs[k]?.getD Rw.nil = p := ⟨_, rfl⟩
      obtain ⟨⟨ra', rc', rx'⟩, hp'⟩ : ∃ p, rs'[k]?.getD Rw.nil = p := ⟨_, rfl⟩
      rw [hp] at h1 m1 e1
      rw [hp'] at h2 m2 e1
      dsimp only [Rw.v] at h1 h2 e1
      subst e1
      have i1 := (HI.out _ m1).keep hB
      have i2 := (HI'.out _ m2).keep hB
      have il := HL.out _ m1
      dsimp only at i1 i2 il
      have hbw : b < wr.heap.size := by have := hB.size; omega
      have hbw' : b' < wr.heap.size := by have := hB.size; omega
      have H1 := Lib.hid i1
      have H2 := Lib.hid i2
      have H3 := Lib.hid il
      clear i1 i2 il hp hp' hr hx hb hr' hx' hb' m1 m2
      have hi0 : (0 : Int) ≤ (k : Int) := by omega
      have hi1 : (k : Int) < (rs.length : Int) := by omega
      have hq := fun (W : World) (hW : Below wr.heap.size wr W) => eqInt64S_same ra ra' rx.length rc rc' rx W (H1.out.keep hW) (H2.out.keep hW) H3.out
      have HQ := Lib.hid hq
      clear hq
      go_wp2
      (refine wp_region_beyond (wr.heap.size + 0) (by kernel_rfl) (by kernel_rfl) (by go_size) (fun hBe => ?_); (repeat (first | go_big_quiet_step ((first | (go_at_call 57; exact beyond_of (HQ.out _ (Beyond.b _))))) | quiet_step ((first | (go_at_call 57; exact beyond_of (HQ.out _ (Beyond.b _))))))); refine wpQuiet_nil ?_; clear hBe; intro w1 hb1; obtain ⟨hc1, hf1, hz1, hn1⟩ := bstep 0 wr hb1 (by go_size))
      go_wp2
      go_roundw
      case rel => exact ⟨by have hBs := hB.size; exact hB.trans (hb1.mono hBs), k + 1, by omega, by go_num⟩
      case measure => simp [intOf]; omega
    · go_wp2
      go_returns
      exact ⟨rfl, hB⟩
theorem ISl.same {w w' : World} {A : Option Addr} {n : Nat} {xs : List Int} (h : ISl w A n xs) (hs : w.heap.size ≤ w'.heap.size) (hc : 0 < n → ∀ b o, (∀ a, A = some a → a.block = b) → w'.cell? ⟨b, o, none⟩ = w.cell? ⟨b, o, none⟩) : ISl w' A n xs :=
  ⟨h.1, fun hn => by
    obtain ⟨b, off, e, hl, hr⟩ := h.2 hn
    exact ⟨b, off, e, by omega, fun i hi => (hc hn _ _ (fun a ha => by rw [e] at ha; cases ha; rfl)).trans (hr i hi)⟩⟩
theorem markInt64S_own (A : Option Addr) (n c : Nat) (B : Nat) (xs : List Int) (m : Int) (w : World) (h : ISl w A n xs) (hw : WSl B w A n) (hn : n ≤ 281474976710656) (hm : 0 ≤ m ∧ m ≤ 1152921504606846976) :
    Calls Try.prog 58 #[.slice A n c, .int .i64 m] w fun e w' => e = .returned (.int .i64 (m + n)) ∧ ISl w' A n (marks m n) ∧ w.heap.size = w'.heap.size ∧ Below B w w' ∧ (∀ a, w'.frozen? a = w.frozen? a) ∧ ∀ b o, (∀ a, 0 < n → A = some a → a.block ≠ b) → w'.cell? ⟨b, o, none⟩ = w.cell? ⟨b, o, none⟩ := by
  obtain ⟨rfl, hx⟩ := h
  go_enter Try.func58, Try.ntmps58
  go_wp2
  go_loopw [1, 5] (fun kk i wr => ∃ k : Nat, k ≤ xs.length ∧ i = .int .i64 k ∧ kk = .int .i64 (m + k) ∧ Below B w wr ∧ wr.heap.size = w.heap.size ∧
      (0 < xs.length → ∃ b off, A = some ⟨b, off, none⟩ ∧ B ≤ b ∧ (∀ j, j < xs.length → ∃ v, wr.cell? ⟨b, off + j, none⟩ = some v ∧ wr.frozen? ⟨b, off + j, none⟩ = false ∧ (j < k → v = .int .i64 (m + j)))) ∧
      (∀ a, wr.frozen? a = w.frozen? a) ∧ ∀ b o, (∀ a, 0 < xs.length → A = some a → a.block ≠ b) → wr.cell? ⟨b, o, none⟩ = w.cell? ⟨b, o, none⟩) (fun _ i _ => xs.length - (intOf i).toNat)
  case atStart =>
    refine ⟨0, Nat.zero_le _, rfl, by simp, Below.refl _ _, rfl, fun hp => ?_, fun _ => rfl, fun _ _ _ => rfl⟩
    obtain ⟨b, off, rfl, hb, hr⟩ := hx hp
    obtain ⟨b', off', e, hBb, _, hf⟩ := hw hp
    cases e
    exact ⟨b, off, rfl, hBb, fun j hj => ⟨_, hr j hj, hf j hj, fun h => absurd h (by omega)⟩⟩
  case round =>
    obtain ⟨k, hk, rfl, rfl, hB, hsz, hc, hfz, hcl⟩ := hrel
    clear hx hw
    by_cases hlt : k < xs.length
    · obtain ⟨b, off, rfl, hBb, hall⟩ := hc (by omega)
      obtain ⟨v, h1, h2, _⟩ := hall k hlt
      have HC := Lib.hid hall
      have HS := Lib.hid hsz
      have HF := Lib.hid hfz
      have HL := Lib.hid hcl
      clear hall hc hsz hfz hcl
      have hi0 : (0 : Int) ≤ (k : Int) := by omega
      have hi1 : (k : Int) < (xs.length : Int) := by omega
      go_wp2
      go_roundw
      case rel =>
        refine ⟨k + 1, by omega, by go_num, by go_num, below_beyond hB hBb, by rw [World.size_setCell]; exact HS.out, fun _ => ⟨b, off, rfl, hBb, fun j hj => ?_⟩, fun a => by rw [World.frozen?_setCell]; exact HF.out a, fun b' o hb' => ?_⟩
        · by_cases hjk : j = k
          · subst hjk
            refine ⟨_, World.cell?_setCell_same (h := h1) .., by rw [World.frozen?_setCell]; exact h2, fun _ => rfl⟩
          · obtain ⟨u, g1, g2, g3⟩ := HC.out j hj
            refine ⟨u, (World.cell?_setCell_other _ _ _ _ (fun e => hjk (by have := congrArg Addr.off e; simp at this; omega))).trans g1, by rw [World.frozen?_setCell]; exact g2, fun hlt' => g3 (by omega)⟩
        · exact (World.cell?_setCell_other _ _ _ _ (fun e => hb' _ (by omega) rfl (by have := congrArg Addr.block e; simpa using this))).trans (HL.out b' o hb')
      case measure => simp [intOf]; omega
    · have hkn : k = xs.length := by omega
      subst hkn
      have HC := Lib.hid hc
      have HS := Lib.hid hsz
      have HF := Lib.hid hfz
      have HL := Lib.hid hcl
      clear hc hsz hfz hcl
      go_wp2
      go_returns
      refine ⟨rfl, ⟨by rw [marks_len], fun hp => ?_⟩, HS.out.symm, hB, HF.out, HL.out⟩
      obtain ⟨b, off, rfl, hBb, hall⟩ := HC.out hp
      refine ⟨b, off, rfl, ?_, fun i hi => ?_⟩
      · obtain ⟨v, h1, _⟩ := hall 0 hp
        exact World.block_lt_of_cell? _ _ h1
      · rw [marks_len] at hi
        obtain ⟨v, h1, _, h3⟩ := hall i hi
        rw [h1, h3 hi, marks_at hi]
def tot : List Rw → Nat
  | [] => 0
  | r :: rs => r.xs.length + tot rs
def markR : Int → List Rw → List Rw
  | _, [] => []
  | m, r :: rs => ⟨r.A, r.c, marks m r.xs.length⟩ :: markR (m + r.xs.length) rs
theorem markR_len : ∀ (m : Int) (rs : List Rw), (markR m rs).length = rs.length
  | _, [] => rfl
  | m, r :: rs => by simp [markR, markR_len]
theorem markR_at : ∀ (m : Int) (rs : List Rw) (i : Nat), i < rs.length → (markR m rs)[i]?.getD Rw.nil = ⟨(rs[i]?.getD Rw.nil).A, (rs[i]?.getD Rw.nil).c, marks (m + tot (rs.take i)) (rs[i]?.getD Rw.nil).xs.length⟩
  | _, [], i, h => by simp at h
  | m, r :: rs, 0, _ => by simp [markR, tot]
  | m, r :: rs, i + 1, h => by
    have := markR_at (m + r.xs.length) rs i (by simpa using h)
    simp only [markR, List.getElem?_cons_succ, this, List.take_succ_cons, tot]
    congr 2
    omega
theorem tot_take : ∀ (rs : List Rw) (i : Nat), i < rs.length → tot (rs.take (i + 1)) = tot (rs.take i) + (rs[i]?.getD Rw.nil).xs.length
  | [], i, h => by simp at h
  | r :: rs, 0, _ => by simp [tot]
  | r :: rs, i + 1, h => by
    have := tot_take rs i (by simpa using h)
    simp only [List.take_succ_cons, tot, this, List.getElem?_cons_succ]
    omega
theorem tot_le : ∀ (rs : List Rw) (i : Nat), tot (rs.take i) ≤ tot rs
  | [], i => by simp [tot]
  | r :: rs, 0 => by simp [tot]
  | r :: rs, i + 1 => by
    have := tot_le rs i
    simp only [List.take_succ_cons, tot]
    omega
theorem tot_mem {rs : List Rw} {r : Rw} (h : r ∈ rs) : r.xs.length ≤ tot rs := by
  induction rs with
  | nil => cases h
  | cons s rs ih =>
    rcases List.mem_cons.1 h with rfl | h
    · simp [tot]
    · have := ih h; simp only [tot]; omega
/-- Rows that may be written, each in a block of its own; the row of rows in another. -/
def Apart (B : Nat) (W : World) (A : Option Addr) (rs : List Rw) : Prop :=
  (∀ r ∈ rs, WSl B W r.A r.xs.length) ∧
  (∀ i j, i < j → j < rs.length → 0 < (rs[i]?.getD Rw.nil).xs.length → 0 < (rs[j]?.getD Rw.nil).xs.length → ∀ a a', (rs[i]?.getD Rw.nil).A = some a → (rs[j]?.getD Rw.nil).A = some a' → a.block ≠ a'.block) ∧
  ∀ r ∈ rs, 0 < r.xs.length → ∀ a a', A = some a → r.A = some a' → a.block ≠ a'.block
theorem WSl.same {B : Nat} {w w' : World} {A : Option Addr} {n : Nat} (h : WSl B w A n) (hs : w.heap.size = w'.heap.size) (hf : ∀ a, w'.frozen? a = w.frozen? a) : WSl B w' A n := fun hn => by
  obtain ⟨b, off, e, hB, hl, hz⟩ := h hn
  exact ⟨b, off, e, hB, by omega, fun i hi => (hf _).trans (hz i hi)⟩
theorem markInt64SS_any (A : Option Addr) (n c : Nat) (B : Nat) (rs : List Rw) (m : Int) (w : World) (h : RSl w A n rs) (ha : Apart B w A rs) (hn : n ≤ 281474976710656) (hm : 0 ≤ m ∧ m + tot rs ≤ 1152921504606846976) (hl : lenB rs 281474976710656) :
    Calls Try.prog 24 #[.slice A n c, .int .i64 m] w fun e w' => e = .returned (.int .i64 (m + tot rs)) ∧ RSl w' A n (markR m rs) ∧ w.heap.size = w'.heap.size ∧ Below B w w' := by
  have HI := Lib.hid h.2.2
  have hx := h.2.1
  have hnl := h.1
  have HA := Lib.hid ha
  have HL := Lib.hid hl
  clear h ha hl
  subst hnl
  have HX := Lib.hid hx
  clear hx
  have hs0 : ∀ j, j < rs.length → ISl w (rs[j]?.getD Rw.nil).A (rs[j]?.getD Rw.nil).xs.length (if j < 0 then marks (m + tot (rs.take j)) (rs[j]?.getD Rw.nil).xs.length else (rs[j]?.getD Rw.nil).xs) := fun j hj => by
    rw [if_neg (by omega)]; exact HI.out _ (getD_mem hj)
  have HS0 := Lib.hid hs0
  clear hs0
  go_enter Try.func24, Try.ntmps24
  go_wp2
  go_loopw [1, 5] (fun kk i wr => ∃ k : Nat, k ≤ rs.length ∧ i = .int .i64 k ∧ kk = .int .i64 (m + tot (rs.take k)) ∧ Below B w wr ∧ wr.heap.size = w.heap.size ∧ (∀ a, wr.frozen? a = w.frozen? a) ∧
      (∀ b o, (∀ a, A = some a → a.block = b) → 0 < rs.length → wr.cell? ⟨b, o, none⟩ = w.cell? ⟨b, o, none⟩) ∧
      ∀ j, j < rs.length → ISl wr (rs[j]?.getD Rw.nil).A (rs[j]?.getD Rw.nil).xs.length (if j < k then marks (m + tot (rs.take j)) (rs[j]?.getD Rw.nil).xs.length else (rs[j]?.getD Rw.nil).xs)) (fun _ i _ => rs.length - (intOf i).toNat)
  case atStart => exact ⟨0, Nat.zero_le _, rfl, by simp [tot], Below.refl _ _, rfl, fun _ => rfl, fun _ _ _ _ => rfl, HS0.out⟩
  case round =>
    obtain ⟨k, hk, rfl, rfl, hB, hsz, hfz, hcl, hall⟩ := hrel
    have htk := tot_le rs k
    by_cases hlt : k < rs.length
    · obtain ⟨b, off, rfl, hb, hr⟩ := HX.out (by omega)
      have h1 := (hcl b (off + k) (fun a ha => by cases ha; rfl) (by omega)).trans (hr k hlt)
      have m1 := getD_mem hlt
      have i1 := hall k hlt
      rw [if_neg (by omega)] at i1
      have w1 := (HA.out.1 _ m1).same hsz.symm hfz
      have il := HL.out _ m1
      have ht1 := tot_take rs k hlt
      have ht2 := tot_le rs (k + 1)
      have hq := markInt64S_own (rs[k]?.getD Rw.nil).A (rs[k]?.getD Rw.nil).xs.length (rs[k]?.getD Rw.nil).c B (rs[k]?.getD Rw.nil).xs (m + tot (rs.take k)) wr i1 w1 il (by omega)
      have e0 : m + (tot (rs.take (k + 1)) : Int) = m + tot (rs.take k) + (rs[k]?.getD Rw.nil).xs.length := by omega
      have hvk : (rs[k]?.getD Rw.nil).v = .slice (rs[k]?.getD Rw.nil).A (rs[k]?.getD Rw.nil).xs.length (rs[k]?.getD Rw.nil).c := rfl
      rw [hvk] at h1
      have hap : ∀ j, j < rs.length → j ≠ k → ∀ W', (∀ b o, (∀ a, 0 < (rs[k]?.getD Rw.nil).xs.length → (rs[k]?.getD Rw.nil).A = some a → a.block ≠ b) → W'.cell? ⟨b, o, none⟩ = wr.cell? ⟨b, o, none⟩) → wr.heap.size = W'.heap.size →
          ∀ ys, ISl wr (rs[j]?.getD Rw.nil).A (rs[j]?.getD Rw.nil).xs.length ys → ISl W' (rs[j]?.getD Rw.nil).A (rs[j]?.getD Rw.nil).xs.length ys := by
        intro j hj hjk W' hcell hsize ys hys
        refine hys.same (by omega) fun hz b' o hb' => ?_
        refine hcell b' o fun a hzk ha e => ?_
        obtain ⟨b2, off2, eA, _, _⟩ := hys.2 hz
        have e2 := hb' _ eA
        dsimp only at e2
        rcases Nat.lt_or_gt_of_ne hjk with h | h
        · exact HA.out.2.1 j k h hlt hz hzk _ _ eA ha (by rw [e, ← e2])
        · exact HA.out.2.1 k j h hj hzk hz _ _ ha eA (by rw [e, ← e2])
      have hak : ∀ a', (rs[k]?.getD Rw.nil).A = some a' → 0 < (rs[k]?.getD Rw.nil).xs.length → b ≠ a'.block := fun a' ha' hz => HA.out.2.2 _ m1 hz _ a' rfl ha'
      have HQ := Lib.hid hq
      have HP := Lib.hid hap
      have HE := Lib.hid e0
      have HC := Lib.hid hcl
      have HF := Lib.hid hfz
      have HL2 := Lib.hid hall
      have HSZ := Lib.hid hsz
      have HK := Lib.hid hak
      clear hq hap e0 hcl hfz hall hsz i1 w1 il m1 ht1 hr hvk hak
      have hi0 : (0 : Int) ≤ (k : Int) := by omega
      have hi1 : (k : Int) < (rs.length : Int) := by omega
      have hbw : b < wr.heap.size := by have := HSZ.out; omega
      obtain ⟨ra, hra⟩ : ∃ x, (rs[k]?.getD Rw.nil).A = x := ⟨_, rfl⟩
      obtain ⟨rc, hrc⟩ : ∃ x, (rs[k]?.getD Rw.nil).c = x := ⟨_, rfl⟩
      obtain ⟨rx, hrx⟩ : ∃ x, (rs[k]?.getD Rw.nil).xs = x := ⟨_, rfl⟩
      obtain ⟨tk, htk'⟩ : ∃ x, m + (tot (rs.take k) : Int) = x := ⟨_, rfl⟩
      rw [hra, hrc, hrx] at h1
      have hq := HQ.out
      rw [hra, hrc, hrx, htk'] at hq
      rw [htk']
      have HQ2 := Lib.hid hq
      have HR := Lib.hid (And.intro hra (And.intro hrc (And.intro hrx htk')))
      clear hq HQ hra hrc hrx htk'
      go_wp2_with (go_at_call 58; (with_reducible refine HQ2.out.mono ?_); rintro e w2 ⟨rfl, hi2, hs2, hb2, hf2, hc2⟩; have HG := Lib.hid (And.intro hi2 (And.intro hs2 (And.intro hb2 (And.intro hf2 hc2)))); clear hi2 hs2 hb2 hf2 hc2)
      go_roundw
      case rel =>
        obtain ⟨hi2, hs2, hb2, hf2, hc2⟩ := HG.out
        obtain ⟨hra, hrc, hrx, htk'⟩ := HR.out
        refine ⟨k + 1, by omega, by go_num, ?_, hB.trans hb2, by rw [← hs2]; exact HSZ.out, fun a => (hf2 a).trans (HF.out a), fun b' o hb' hz => ?_, fun j hj => ?_⟩
        · rw [HE.out, htk', hrx]
        · have eb := hb' _ rfl
          dsimp only at eb
          refine (hc2 b' o fun a hzk ha e => ?_).trans (HC.out b' o hb' hz)
          exact HK.out a (by rw [hra]; exact ha) (by rw [hrx]; exact hzk) (by rw [eb, e])
        · by_cases hjk : j = k
          · subst hjk
            rw [if_pos (by omega), hra, hrx, htk']
            exact hi2
          · have := HL2.out j hj
            rw [show (if j < k + 1 then marks (m + (tot (rs.take j) : Int)) (rs[j]?.getD Rw.nil).xs.length else (rs[j]?.getD Rw.nil).xs) = (if j < k then marks (m + (tot (rs.take j) : Int)) (rs[j]?.getD Rw.nil).xs.length else (rs[j]?.getD Rw.nil).xs) from by
              by_cases h : j < k
              · rw [if_pos h, if_pos (by omega)]
              · rw [if_neg h, if_neg (by omega)]]
            exact HP.out j hj hjk w2 (fun b o hh => hc2 b o (by rw [← hra, ← hrx]; exact hh)) hs2 _ this
      case measure => simp [intOf]; omega
    · obtain rfl : k = rs.length := by omega
      have HC := Lib.hid hcl
      have HSZ := Lib.hid hsz
      have HL2 := Lib.hid hall
      clear hcl hsz hall hfz
      rw [List.take_length]
      go_wp2
      go_returns
      refine ⟨rfl, ⟨by rw [markR_len], fun hp => ?_, fun r hr => ?_⟩, HSZ.out.symm, hB⟩
      · obtain ⟨b, off, rfl, hb, hr⟩ := HX.out hp
        refine ⟨b, off, rfl, by have := HSZ.out; omega, fun i hi => ?_⟩
        rw [markR_len] at hi
        rw [HC.out b (off + i) (fun a ha => by cases ha; rfl) hp, hr i hi, markR_at m rs i hi]
        simp [Rw.v, marks_len]
      · obtain ⟨i, hi, rfl⟩ := List.getElem_of_mem hr
        rw [markR_len] at hi
        have e := markR_at m rs i hi
        rw [List.getElem?_eq_getElem (by rw [markR_len]; exact hi)] at e
        simp only [Option.getD_some] at e
        rw [e]
        have := HL2.out i hi
        rw [if_pos hi] at this
        simpa [marks_len] using this
theorem heldInt64SS_any (A : Option Addr) (n c : Nat) (rs : List Rw) (m : Int) (w : World) (h : RSl w A n (markR m rs)) (hn : n ≤ 281474976710656) (hm : 0 ≤ m ∧ m + tot rs ≤ 1152921504606846976) (hl : lenB rs 281474976710656) :
    Calls Try.prog 25 #[.slice A n c, .int .i64 m] w fun e w' => e = .returned (.int .i64 (m + tot rs)) ∧ Below w.heap.size w w' := by
  have HI := Lib.hid h.2.2
  have HX := Lib.hid h.2.1
  have hnl : n = rs.length := by rw [h.1, markR_len]
  have HL := Lib.hid hl
  clear h hl
  subst hnl
  go_enter Try.func25, Try.ntmps25
  go_wp2
  go_loopw [1, 5] (fun kk i wr => Below w.heap.size w wr ∧ ∃ k : Nat, k ≤ rs.length ∧ i = .int .i64 k ∧ kk = .int .i64 (m + tot (rs.take k))) (fun _ i _ => rs.length - (intOf i).toNat)
  case atStart => exact ⟨Below.refl _ _, 0, Nat.zero_le _, rfl, by simp [tot]⟩
  case round =>
    obtain ⟨hB, k, hk, rfl, rfl⟩ := hrel
    have htk := tot_le rs k
    by_cases hlt : k < rs.length
    · obtain ⟨b, off, rfl, hb, hr⟩ := HX.out (by omega)
      have hlm : k < (markR m rs).length := by rw [markR_len]; exact hlt
      have h1 := cell_keep hB (hr k hlm)
      have m1 := getD_mem hlm
      have i1 := (HI.out _ m1).keep hB
      rw [markR_at m rs k hlt] at h1 i1
      have il := HL.out _ (getD_mem hlt)
      have ht1 := tot_take rs k hlt
      have ht2 := tot_le rs (k + 1)
      have e0 : m + (tot (rs.take (k + 1)) : Int) = m + tot (rs.take k) + (rs[k]?.getD Rw.nil).xs.length := by omega
      dsimp only [Rw.v] at h1 i1
      rw [marks_len] at h1 i1
      obtain ⟨ra, hra⟩ : ∃ x, (rs[k]?.getD Rw.nil).A = x := ⟨_, rfl⟩
      obtain ⟨rc, hrc⟩ : ∃ x, (rs[k]?.getD Rw.nil).c = x := ⟨_, rfl⟩
      obtain ⟨rx, hrx⟩ : ∃ x, (rs[k]?.getD Rw.nil).xs.length = x := ⟨_, rfl⟩
      obtain ⟨tk, htk'⟩ : ∃ x, m + (tot (rs.take k) : Int) = x := ⟨_, rfl⟩
      rw [hrx] at ht1 il
      have hq := fun (W : World) (hW : Below wr.heap.size wr W) => heldInt64S_any (rs[k]?.getD Rw.nil).A rx (rs[k]?.getD Rw.nil).c (m + tot (rs.take k)) W ((by rw [← hrx]; exact i1 : ISl wr (rs[k]?.getD Rw.nil).A rx (marks (m + tot (rs.take k)) rx)).keep hW) il (by omega)
      rw [hra, hrc, htk'] at hq
      rw [hra, hrc, hrx] at h1
      have hbd : 0 ≤ tk ∧ tk + rx ≤ 1152921504606846976 := by omega
      rw [htk', hrx] at e0
      rw [htk']
      have HQ := Lib.hid hq
      have HE := Lib.hid e0
      clear hq e0 i1 m1 hr hra hrc hrx htk' ht1 ht2 hlm il
      have hi0 : (0 : Int) ≤ (k : Int) := by omega
      have hi1 : (k : Int) < (rs.length : Int) := by omega
      have hd : decide (tk + (rx : Int) < 0) = false := by simp; omega
      go_wp2_with (go_at_call 59; (with_reducible refine (HQ.out _ (Below.refl _ _)).mono ?_); rintro e w2 ⟨rfl, hb2⟩)
      go_roundw
      case rel => exact ⟨by have hBs := hB.size; exact hB.trans (hb2.mono hBs), k + 1, by omega, by go_num, by rw [HE.out]⟩
      case measure => simp [intOf]; omega
    · obtain rfl : k = rs.length := by omega
      rw [List.take_length]
      go_wp2
      go_returns
      exact ⟨rfl, hB⟩
end Go.Proofs.Ytabdkjciajjkiaa
