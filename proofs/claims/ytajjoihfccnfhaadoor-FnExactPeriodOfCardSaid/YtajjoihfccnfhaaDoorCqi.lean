/-
  Periods, by the program. Condition: what stands in each.
-/
import Derived.Test.YtajjoihfccnfhaaDoorCqh
import Derived.Deep.RegionWith
namespace Go.Proofs.YtajjoihfccnfhaaDoor
open Go.RowKit
set_option maxHeartbeats 2000000
set_option maxRecDepth 1000000 in
theorem iper_any (s : ByteArray) (g : Nat) (hs : s.size ≤ 1000) (hw : ∀ c ∈ s.data.toList, c = 76 ∨ c = 82) (hg : good s.data.toList g) (w : World) (hm : MaxHere w) : Calls Tryd.prog 54 #[.string s] w fun e w' =>
    (∃ v, e = .returned v ∧ w'.ownsRow w.heap.size 2 1 v (perL s.data.toList g).length (ivs (perL s.data.toList g))) ∧ Below w.heap.size w w' := by
  have hlen : s.data.toList.length = s.size := Array.length_toList
  have hrun := runs_any s g hs hg w hm
  have hfin : ∀ a, good s.data.toList a → (runF (ltr s.data.toList a) s.size).length % 2 = 0 ∧ 0 < (runF (ltr s.data.toList a) s.size).length ∧ (runF (ltr s.data.toList a) s.size).length ≤ 1000 ∧ bestI (runF (ltr s.data.toList a) s.size) ((runF (ltr s.data.toList a) s.size).length / 2) = perL s.data.toList g := fun a ha => by
    have he := runs_even hw ha
    have hl := (runF_le (ltr s.data.toList a) s.size).1
    rw [hlen] at he
    refine ⟨he.1, he.2, by omega, ?_⟩
    rw [← perL_same hw ha hg]
    unfold perL
    rw [hlen]
  have HRU := Lib.hid hrun
  have HF := Lib.hid hfin
  clear hrun hfin hm hg hw hlen
  go_enter Tryd.func54, Tryd.ntmps54
  go_wp2_with fail
  with_reducible refine HRU.out.mono ?_
  rintro e w1 ⟨⟨v, a, hga, rfl, hv⟩, hb1⟩
  obtain ⟨hev, hpos, hle, hbest⟩ := HF.out a hga
  obtain ⟨xs, hxs⟩ : ∃ xs, runF (ltr s.data.toList a) s.size = xs := ⟨_, rfl⟩
  rw [hxs] at hv hev hpos hle hbest
  obtain ⟨n, hn⟩ : ∃ n, xs.length = n := ⟨_, rfl⟩
  rw [hn] at hv hev hpos hle hbest
  obtain ⟨b, c, rfl, _, _⟩ := hv.form hpos
  obtain ⟨A0, c0, e0, hI0, _⟩ := owns_irow hv hn
  obtain ⟨rfl, rfl⟩ : some ⟨b, 0, none⟩ = A0 ∧ c = c0 := by injection e0 with e1 _ e3; exact ⟨e1, e3⟩
  obtain ⟨b', off', eb, hbl, hr⟩ := hI0.2 hpos
  obtain ⟨rfl, rfl⟩ : b = b' ∧ 0 = off' := by injection eb with eb; injection eb with e1 e2; exact ⟨e1, e2⟩
  have hcap := owns_cap hv
  have HV := Lib.hid hv
  have HB1 := Lib.hid hb1
  have HR := Lib.hid hr
  have HN := Lib.hid hn
  have HBE := Lib.hid hbest
  clear hv hb1 hr hI0 e0 eb hn hbest hga hxs
  go_upto_region 4 with fail
  go_loopw [4, 5] (fun o i W => ∃ (v : Value) (j k : Nat), o = v ∧ i = .int .i64 (k : Int) ∧ k = 2 * j ∧ k ≤ n ∧ W.ownsRow w.heap.size 2 1 v n (ivs (bestI xs j)) ∧ Below w1.heap.size w1 W) (fun _ i _ => n - (intOf i).toNat)
  case atStart => exact ⟨_, 0, 0, rfl, rfl, rfl, by omega, HV.out, Below.refl _ _⟩
  case round =>
    obtain ⟨v, j, k, rfl, rfl, hkj, hkn, hv, hb⟩ := hrel
    have HO := Lib.hid hv
    have HBW := Lib.hid hb
    have HK := Lib.hid hkj
    clear hv hb hkj
    by_cases hlt : k < n
    · have hin : (k : Int) < (n : Int) := by omega
      have hk0 : (0 : Int) ≤ (k : Int) := by omega
      have hk1 : (k : Int) ≤ (n : Int) := by omega
      have hck : ¬ c = k := by omega
      have hck1 : k ≤ c := by omega
      have hbl2 : (bestI xs j).length = n := by
        rcases Nat.eq_zero_or_pos j with rfl | hj
        · exact HN.out
        · exact (bestI_len hj (by have := HK.out; rw [HN.out]; omega)).trans HN.out
      obtain ⟨A2, c2, rfl, hI2, _⟩ := owns_irow HO.out hbl2
      have HI2 := Lib.hid hI2
      clear hI2 hbl2
      go_upto_region 6 with fail
      go_region_with (go_at_call 77; (with_reducible refine (concat_any wr.heap.size b n c (c - k) k xs _ HN.out hlt hle ?_ ?_ ?_).mono ?_); (focus exact (fun i hi => keep_alloc (HR.out.keep HBW.out i hi))); (focus (go_simp; done)); (focus (go_simp; done)); rintro e w2 ⟨⟨v2, rfl, hv2⟩, hb2⟩; have HV2 := Lib.hid hv2; have HB2 := Lib.hid (((Below.refl wr.heap.size wr).alloc (Nat.le_refl _) _).drew.trans (hb2.mono (by simp))); clear hv2 hb2)
      all_goals
        obtain ⟨A1, c1, rfl, hI1, _⟩ := owns_irow HV2.out ((rotI_len (by rw [HN.out]; omega)).trans HN.out)
        have HI1 := Lib.hid hI1
        clear hI1
        go_wp2_with fail
        with_reducible refine (compare_any A1 A2 n c1 c2 (rotI xs k) (bestI xs j) _ HI1.out (HI2.out.keep HB2.out) (by omega)).mono ?_
        rintro e w3 ⟨⟨r, rfl, hd⟩, hb3⟩
        have hd2 : bestI xs (j + 1) = if r < 0 then rotI xs k else bestI xs j := by
          rw [bestI_succ, ← HK.out, ← hd]
          by_cases h : r < 0 <;> simp [h]
        have HB3 := Lib.hid hb3
        have HD := Lib.hid hd2
        clear hd hb3 hd2
        by_cases hr0 : r < 0
        · go_wp2
          go_roundw
          case rel =>
            refine ⟨_, j + 1, k + 2, rfl, by go_num, by have := HK.out; omega, by have := HK.out; omega, ?_, HBW.out.trans ((HB2.out.trans (HB3.out.mono HB2.out.size)).mono HBW.out.size)⟩
            rw [HD.out, if_pos (show r < 0 by omega)]
            exact owns_below HV2.out HB3.out (by have := HB1.out.size; have := HBW.out.size; simp; omega)
          case measure => simp [intOf]; omega
        · go_wp2
          go_roundw
          case rel =>
            refine ⟨_, j + 1, k + 2, rfl, by go_num, by have := HK.out; omega, by have := HK.out; omega, ?_, HBW.out.trans ((HB2.out.trans (HB3.out.mono HB2.out.size)).mono HBW.out.size)⟩
            rw [HD.out, if_neg (show ¬ r < 0 by omega)]
            exact owns_below (owns_below HO.out HB2.out (Nat.le_refl _)) HB3.out (Nat.le_refl _)
          case measure => simp [intOf]; omega
    · obtain rfl : k = n := by omega
      have hin : ¬ (k : Int) < (k : Int) := by omega
      go_wp2
      refine bodyPost_ret (by simp [results, Tryd.results54, go_sem, *]; try rfl) rfl ?_
      have h3 := HO.out
      have e2 : j = k / 2 := by have := HK.out; omega
      rw [e2, HBE.out] at h3
      have e3 : (perL s.data.toList g).length = k := by rw [← HBE.out, bestI_len (by have := HK.out; omega) (by rw [HN.out]; omega), HN.out]
      rw [e3]
      exact ⟨⟨_, rfl, h3⟩, HB1.out.trans (HBW.out.mono HB1.out.size)⟩
end Go.Proofs.YtajjoihfccnfhaaDoor
