/-
  Equal rows of numbers, and equal rows of rows, are alike: laws.likeInts, laws.rows5 return true. Condition: the rows stand for the same numbers.
-/
import Derived.Test.YtdenfmgmapgpiaaCrr
import Derived.Test.YtdenfmgmapgpiaaCsl
namespace Go.Proofs.Ytdenfmgmapgpiaa
open Go.RowKit
set_option maxHeartbeats 1000000
theorem likeInts_same (A A' : Option Addr) (n c c' : Nat) (xs : List Int) (w : World) (h : ISl w A n xs) (h' : ISl w A' n xs) (hn : n ≤ 281474976710656) :
    Calls Try.prog 49 #[.slice A n c, .slice A' n c'] w fun e w' => e = .returned (.bool true) ∧ Below w.heap.size w w' := by
  obtain ⟨rfl, hx⟩ := h
  have hx' := h'.2
  clear h'
  go_enter Try.func49, Try.ntmps49
  go_wp2
  go_loopw [5] (fun i wr => Below w.heap.size w wr ∧ ∃ k : Nat, k ≤ xs.length ∧ i = .int .i64 k) (fun i _ => xs.length - (intOf i).toNat)
  case atStart => exact ⟨Below.refl _ _, 0, Nat.zero_le _, rfl⟩
  case round =>
    obtain ⟨hB, k, hk, rfl⟩ := hrel
    by_cases hlt : k < xs.length
    · obtain ⟨b, off, rfl, hb, hr⟩ := hx (by omega)
      obtain ⟨b', off', rfl, hb', hr'⟩ := hx' (by omega)
      have h1 := cell_keep hB (hr k hlt)
      have h2 := cell_keep hB (hr' k hlt)
      obtain ⟨x, hp⟩ : ∃ p, xs[k]?.getD 0 = p := ⟨_, rfl⟩
      rw [hp] at h1 h2
      clear hp hr hx hb hr' hx' hb'
      have hi0 : (0 : Int) ≤ (k : Int) := by omega
      have hi1 : (k : Int) < (xs.length : Int) := by omega
      go_wp2
      (try (go_quiet (fail)))
      go_wp2
      go_roundw
      case rel => exact ⟨by (repeat' (first | (with_reducible exact Below.refl _ _) | (with_reducible refine Below.alloc ?_ ?_ _) | (with_reducible refine Below.drew ?_) | (with_reducible refine below_drewN' ?_ _) | (with_reducible refine Below.setCell ?_ ?_ _) | (with_reducible refine Below.trans ?_ (Below.mono (by assumption) ?_)) | go_size)), k + 1, by omega, by go_num⟩
      case measure => simp [intOf]; omega
    · go_wp2
      go_returns
      exact ⟨rfl, hB⟩
theorem rows5_same (A A' : Option Addr) (n c c' : Nat) (rs rs' : List Rw) (w : World) (h : RSl w A n rs) (h' : RSl w A' n rs') (he : rs.map (·.xs) = rs'.map (·.xs)) (hn : n ≤ 281474976710656) (hl : lenB rs 281474976710656) :
    Calls Try.prog 9 #[.slice A n c, .slice A' n c'] w fun e w' => e = .returned (.bool true) ∧ Below w.heap.size w w' := by
  have HI := Lib.hid h.2.2
  have HI' := Lib.hid h'.2.2
  have hx := h.2.1
  have hx' := h'.2.1
  have hle : rs.length ≤ rs'.length := by have := h'.1; have := h.1; omega
  have hnl := h.1
  have HE := Lib.hid he
  have HL := Lib.hid hl
  clear h h' he hl
  subst hnl
  go_enter Try.func9, Try.ntmps9
  go_wp2
  go_loopw [5] (fun i wr => Below w.heap.size w wr ∧ ∃ k : Nat, k ≤ rs.length ∧ i = .int .i64 k) (fun i _ => rs.length - (intOf i).toNat)
  case atStart => exact ⟨Below.refl _ _, 0, Nat.zero_le _, rfl⟩
  case round =>
    obtain ⟨hB, k, hk, rfl⟩ := hrel
    by_cases hlt : k < rs.length
    · obtain ⟨b, off, rfl, hb, hr⟩ := hx (by omega)
      obtain ⟨b', off', rfl, hb', hr'⟩ := hx' (by omega)
      have h1 := cell_keep hB (hr k hlt)
      have h2 := cell_keep hB (hr' k (by omega))
      have m1 := getD_mem hlt
      have m2 := getD_mem (rs := rs') (i := k) (by omega)
      have e1 : (rs[k]?.getD Rw.nil).xs = (rs'[k]?.getD Rw.nil).xs := by
        have := congrArg (fun l => l[k]?.getD []) HE.out
        simp only [List.getElem?_map] at this
        rw [List.getElem?_eq_getElem hlt, List.getElem?_eq_getElem (show k < rs'.length by omega)] at this ⊢
        simpa using this
      obtain ⟨⟨ra, rc, rx⟩, hp⟩ : ∃ p, rs[k]?.getD Rw.nil = p := ⟨_, rfl⟩
      obtain ⟨⟨ra', rc', rx'⟩, hp'⟩ : ∃ p, rs'[k]?.getD Rw.nil = p := ⟨_, rfl⟩
      rw [hp] at h1 m1 e1
      rw [hp'] at h2 m2 e1
      dsimp only [Rw.v] at h1 h2 e1
      subst e1
      have i1 := (HI.out _ m1).keep hB
      have i2 := (HI'.out _ m2).keep hB
      have il := HL.out _ m1
      dsimp only at i1 i2 il
      have hbw : b < wr.heap.size := by have := hB.size; omega
      have hbw' : b' < wr.heap.size := by have := hB.size; omega
      have H1 := Lib.hid i1
      have H2 := Lib.hid i2
      have H3 := Lib.hid il
      clear i1 i2 il hp hp' hr hx hb hr' hx' hb' m1 m2
      have hi0 : (0 : Int) ≤ (k : Int) := by omega
      have hi1 : (k : Int) < (rs.length : Int) := by omega
      have hq := fun (W : World) (hW : Below wr.heap.size wr W) => likeInts_same ra ra' rx.length rc rc' rx W (H1.out.keep hW) (H2.out.keep hW) H3.out
      have HQ := Lib.hid hq
      clear hq
      go_wp2
      (refine wp_region_beyond (wr.heap.size + 0) (by kernel_rfl) (by kernel_rfl) (by go_size) (fun hBe => ?_); (repeat (first | go_big_quiet_step ((first | (go_at_call 49; exact beyond_of (HQ.out _ (Beyond.b _))))) | quiet_step ((first | (go_at_call 49; exact beyond_of (HQ.out _ (Beyond.b _))))))); refine wpQuiet_nil ?_; clear hBe; intro w1 hb1; obtain ⟨hc1, hf1, hz1, hn1⟩ := bstep 0 wr hb1 (by go_size))
      go_wp2
      go_roundw
      case rel => exact ⟨by have hBs := hB.size; exact hB.trans (hb1.mono hBs), k + 1, by omega, by go_num⟩
      case measure => simp [intOf]; omega
    · go_wp2
      go_returns
      exact ⟨rfl, hB⟩
end Go.Proofs.Ytdenfmgmapgpiaa
