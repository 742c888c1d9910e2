/-
  Points read out of texts, by both programs. Conditions: the sizes, and what the library reads, as each says.
-/
import Derived.Test.YtajjoihfccnfhaaDoorPpl
namespace Go.Proofs.YtajjoihfccnfhaaDoor
open Go.RowKit
set_option maxHeartbeats 1000000
theorem l01Number_any (s : ByteArray) (w : World) : Calls Tryd.prog 97 #[.string s] w fun e w' => e = .returned (.int .i64 (numV s.data.toList)) ∧ Below w.heap.size w w' := by
  have hlen : s.data.toList.length = s.size := Array.length_toList
  by_cases h0 : s.size = 0
  · have hi : (s.size : Int) = 0 := by omega
    have hv : numV s.data.toList = -1 := by unfold numV; rw [hlen, if_pos (.inl h0)]
    rw [hv]
    go_enter Tryd.func97, Tryd.ntmps97
    go_wp2
    go_returns
    exact ⟨rfl, Below.refl _ _⟩
  · have hi : ¬ (s.size : Int) = 0 := by omega
    by_cases h9 : 9 < s.size
    · have hj : 9 < (s.size : Int) := by omega
      have hv : numV s.data.toList = -1 := by unfold numV; rw [hlen, if_pos (.inr (.inl h9))]
      rw [hv]
      go_enter Tryd.func97, Tryd.ntmps97
      go_wp2
      go_returns
      exact ⟨rfl, Below.refl _ _⟩
    · have hj : ¬ 9 < (s.size : Int) := by omega
      by_cases h1 : 1 < s.size
      · have hk : 1 < (s.size : Int) := by omega
        have hs0 : 0 < s.size := by omega
        have e0 : s.data.toList[0]? = some s[0] := by
          rw [List.getElem?_eq_getElem (by rw [hlen]; exact hs0)]; rfl
        by_cases hz : s[0] = 48
        · have hz' : (s[0].toNat : Int) = 48 := by rw [hz]; rfl
          have hv : numV s.data.toList = -1 := by unfold numV; rw [hlen, if_pos (.inr (.inr ⟨h1, by rw [e0, hz]⟩))]
          rw [hv]
          go_enter Tryd.func97, Tryd.ntmps97
          go_wp2
          go_returns
          exact ⟨rfl, Below.refl _ _⟩
        · have hz' : ¬ (s[0].toNat : Int) = 48 := fun h => hz (by apply UInt8.toNat_inj.1; show s[0].toNat = 48; omega)
          have hzb : ((s[0].toNat : Int) == 48) = false := by simpa using hz'
          have hib : ((s.size : Int) == 0) = false := by simpa using h0
          have hv : numV s.data.toList = numGo 0 s.data.toList := by
            unfold numV; rw [hlen, if_neg (by rw [e0]; rintro (h | h | ⟨_, h⟩); exact h0 h; exact h9 h; exact hz (Option.some.inj h))]
          have HV := Lib.hid hv
          clear hv
          go_enter Tryd.func97, Tryd.ntmps97
          go_wp2
          go_loopw [3, 4] (fun n i wr => ∃ (k : Nat) (a : Int), i = .int .i64 k ∧ n = .int .i64 a ∧ k ≤ s.size ∧ 0 ≤ a ∧ a < 10 ^ k ∧ numGo 0 s.data.toList = numGo a (s.data.toList.drop k) ∧ wr = w) (fun _ i _ => s.size - (intOf i).toNat)
          case atStart => exact ⟨0, 0, rfl, rfl, Nat.zero_le _, by omega, by decide, rfl, rfl⟩
          case round =>
            obtain ⟨k, a, rfl, rfl, hkn, ha0, ha1, hgo, rfl⟩ := hrel
            have HG := Lib.hid hgo
            clear hgo
            by_cases hlt : k < s.size
            · have hds : s.data.toList.drop k = s[k] :: s.data.toList.drop (k + 1) := by
                rw [List.drop_eq_getElem_cons (by rw [hlen]; exact hlt)]; rfl
              have hin : (k : Int) < (s.size : Int) := by omega
              by_cases ha : (s[k].toNat : Int) < 48
              · have hv2 : numV s.data.toList = -1 := by rw [HV.out, HG.out, hds]; unfold numGo; rw [if_pos (.inl ha)]
                clear hds
                go_wp2
                go_returns
                exact ⟨(by first | rfl | (rw [hv2]; rfl)), Below.refl _ _⟩
              · by_cases hb : 57 < (s[k].toNat : Int)
                · have hv2 : numV s.data.toList = -1 := by rw [HV.out, HG.out, hds]; unfold numGo; rw [if_pos (.inr hb)]
                  clear hds
                  go_wp2
                  go_returns
                  exact ⟨(by first | rfl | (rw [hv2]; rfl)), Below.refl _ _⟩
                · have hg2 : numGo 0 s.data.toList = numGo (a * 10 + ((s[k].toNat : Int) - 48)) (s.data.toList.drop (k + 1)) := by rw [HG.out, hds]; rw [numGo, if_neg (by omega)]
                  have HG2 := Lib.hid hg2
                  have hk9 : (10 : Int) ^ k ≤ 100000000 := by have h := Nat.pow_le_pow_right (n := 10) (by decide) (show k ≤ 8 by omega); rw [show (10 : Nat) ^ 8 = 100000000 by decide] at h; have h2 := Int.ofNat_le.2 h; rw [Int.natCast_pow] at h2; exact h2
                  have hp : (10 : Int) ^ (k + 1) = 10 ^ k * 10 := Int.pow_succ ..
                  clear hds hg2
                  go_wp2
                  exact ⟨⟨k + 1, _, by go_num, rfl, by omega, by omega, by omega, HG2.out, trivial⟩, by simp [intOf]; omega⟩
            · obtain rfl : k = s.size := by omega
              go_wp2
              go_returns
              refine ⟨?_, Below.refl _ _⟩
              rw [HV.out, HG.out, List.drop_eq_nil_of_le (by rw [hlen]; exact Nat.le_refl _)]
              rfl
      · have hk : ¬ 1 < (s.size : Int) := by omega
        have hv : numV s.data.toList = numGo 0 s.data.toList := by
          unfold numV; rw [hlen, if_neg (by rintro (h | h | ⟨h, _⟩); exact h0 h; exact h9 h; exact h1 h)]
        have HV := Lib.hid hv
        clear hv
        go_enter Tryd.func97, Tryd.ntmps97
        go_wp2
        go_loopw [3, 4] (fun n i wr => ∃ (k : Nat) (a : Int), i = .int .i64 k ∧ n = .int .i64 a ∧ k ≤ s.size ∧ 0 ≤ a ∧ a < 10 ^ k ∧ numGo 0 s.data.toList = numGo a (s.data.toList.drop k) ∧ wr = w) (fun _ i _ => s.size - (intOf i).toNat)
        case atStart => exact ⟨0, 0, rfl, rfl, Nat.zero_le _, by omega, by decide, rfl, rfl⟩
        case round =>
          obtain ⟨k, a, rfl, rfl, hkn, ha0, ha1, hgo, rfl⟩ := hrel
          have HG := Lib.hid hgo
          clear hgo
          by_cases hlt : k < s.size
          · have hds : s.data.toList.drop k = s[k] :: s.data.toList.drop (k + 1) := by
              rw [List.drop_eq_getElem_cons (by rw [hlen]; exact hlt)]; rfl
            have hin : (k : Int) < (s.size : Int) := by omega
            by_cases ha : (s[k].toNat : Int) < 48
            · have hv2 : numV s.data.toList = -1 := by rw [HV.out, HG.out, hds]; unfold numGo; rw [if_pos (.inl ha)]
              clear hds
              go_wp2
              go_returns
              exact ⟨(by first | rfl | (rw [hv2]; rfl)), Below.refl _ _⟩
            · by_cases hb : 57 < (s[k].toNat : Int)
              · have hv2 : numV s.data.toList = -1 := by rw [HV.out, HG.out, hds]; unfold numGo; rw [if_pos (.inr hb)]
                clear hds
                go_wp2
                go_returns
                exact ⟨(by first | rfl | (rw [hv2]; rfl)), Below.refl _ _⟩
              · have hg2 : numGo 0 s.data.toList = numGo (a * 10 + ((s[k].toNat : Int) - 48)) (s.data.toList.drop (k + 1)) := by rw [HG.out, hds]; rw [numGo, if_neg (by omega)]
                have HG2 := Lib.hid hg2
                have hk9 : (10 : Int) ^ k ≤ 100000000 := by have h := Nat.pow_le_pow_right (n := 10) (by decide) (show k ≤ 8 by omega); rw [show (10 : Nat) ^ 8 = 100000000 by decide] at h; have h2 := Int.ofNat_le.2 h; rw [Int.natCast_pow] at h2; exact h2
                have hp : (10 : Int) ^ (k + 1) = 10 ^ k * 10 := Int.pow_succ ..
                clear hds hg2
                go_wp2
                exact ⟨⟨k + 1, _, by go_num, rfl, by omega, by omega, by omega, HG2.out, trivial⟩, by simp [intOf]; omega⟩
          · obtain rfl : k = s.size := by omega
            go_wp2
            go_returns
            refine ⟨?_, Below.refl _ _⟩
            rw [HV.out, HG.out, List.drop_eq_nil_of_le (by rw [hlen]; exact Nat.le_refl _)]
            rfl
theorem l01Signed_any (s : ByteArray) (w : World) : Calls Tryd.prog 80 #[.string s] w fun e w' => e = .returned (.tuple #[.int .i64 (sgnV s.data.toList).1, .bool (sgnV s.data.toList).2]) ∧ Below w.heap.size w w' := by
  have hlen : s.data.toList.length = s.size := Array.length_toList
  have hN := fun t W => l01Number_any t W
  have HN := Lib.hid hN
  clear hN
  by_cases h0 : s.size = 0
  · have hi : ¬ (s.size : Int) > 0 := by omega
    have hv : sgnV s.data.toList = (numV s.data.toList, decide (0 ≤ numV s.data.toList)) := by
      unfold sgnV
      rw [if_neg]
      intro e
      rw [List.eq_nil_of_length_eq_zero (hlen.trans h0)] at e
      cases e
    rw [hv]
    clear hv
    go_enter Tryd.func80, Tryd.ntmps80
    go_wp2_with (go_at_call 97; go_must ((with_reducible refine (HN.out _ _).mono ?_)); rintro e w1 ⟨rfl, hb1⟩)
    go_returns
    exact ⟨rfl, hb1⟩
  · have hi : (s.size : Int) > 0 := by omega
    have e0 : s.data.toList.head? = some s[0] := by
      rw [List.head?_eq_getElem?, List.getElem?_eq_getElem (by rw [hlen]; omega)]; rfl
    by_cases hm : s[0] = 45
    · have hm' : (s[0].toNat : Int) = 45 := by rw [hm]; rfl
      have hv : sgnV s.data.toList = (-numV s.data.toList.tail, decide (0 < numV s.data.toList.tail)) := by
        unfold sgnV
        rw [if_pos (by rw [e0, hm])]
      rw [hv]
      have hx := numV_bd s.data.toList.tail
      have ht : (s.extract 1 s.size).data.toList = s.data.toList.tail := by
        simp only [ByteArray.data_extract, Array.toList_extract, List.extract_eq_take_drop, List.drop_one]
        exact List.take_of_length_le (by rw [List.length_tail, hlen]; exact Nat.le_refl _)
      have hN1 := fun W => l01Number_any (s.extract 1 s.size) W
      rw [ht] at hN1
      obtain ⟨v, hv1⟩ : ∃ v, numV s.data.toList.tail = v := ⟨_, rfl⟩
      rw [hv1] at hN1 hx ⊢
      have hw : wrap64 (-v) = -v := by unfold wrap64; omega
      have HN1 := Lib.hid hN1
      clear hv hN1 ht HN hv1 hx e0 hlen
      rw [← hw]
      go_enter Tryd.func80, Tryd.ntmps80
      go_wp2_with (go_at_call 97; go_must ((with_reducible refine (HN1.out _).mono ?_)); rintro e w1 ⟨rfl, hb1⟩)
      go_returns
      exact ⟨rfl, hb1⟩
    · have hm' : ¬ (s[0].toNat : Int) = 45 := fun h => hm (by apply UInt8.toNat_inj.1; show s[0].toNat = 45; omega)
      have hv : sgnV s.data.toList = (numV s.data.toList, decide (0 ≤ numV s.data.toList)) := by
        unfold sgnV
        rw [if_neg]
        rw [e0]
        exact fun e => hm (Option.some.inj e)
      rw [hv]
      clear hv
      go_enter Tryd.func80, Tryd.ntmps80
      go_wp2_with (go_at_call 97; go_must ((with_reducible refine (HN.out _ _).mono ?_)); rintro e w1 ⟨rfl, hb1⟩)
      go_returns
      exact ⟨rfl, hb1⟩
end Go.Proofs.YtajjoihfccnfhaaDoor
