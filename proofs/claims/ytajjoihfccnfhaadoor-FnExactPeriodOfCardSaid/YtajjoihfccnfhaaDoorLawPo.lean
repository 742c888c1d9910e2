/-
  The walk of the law of periods: the call returns true, and nothing that lay before has turned. Conditions: what the library reads.
-/
import Derived.Test.YtajjoihfccnfhaaDoorCqj
namespace Go.Proofs.YtajjoihfccnfhaaDoor
open Go.RowKit
set_option maxHeartbeats 1000000
theorem perR_len (l : List UInt8) : (perR l).1.length ≤ 200 := by
  unfold perR
  cases e1 : wordB l
  · simp
  · have hwd := wordB_iff.1 e1
    rw [if_pos rfl]
    cases e2 : bothB l
    · simp
    · rw [if_pos rfl]
      obtain ⟨g, hg⟩ := good_ex hwd.2 e2
      have he := runs_even hwd.2 hg
      have hl := (runF_le (ltr l g) l.length).1
      show (perV l).length ≤ 200
      rw [← perV_eq hwd.2 hg]
      unfold perL
      rw [bestI_len (by omega) (by omega)]
      omega
theorem FnExactPeriodOf_walk (a0 : ByteArray) (w : World) (hl : MaxHere w) :
    Calls Tryd.prog 7 #[.string a0] w fun e w' => e = .returned (.bool true) ∧ Below w.heap.size w w' := by
  by_cases hs : 1048576 < a0.size
  · have hsi : (a0.size : Int) > 1048576 := by omega
    go_enter Tryd.func7, Tryd.ntmps7
    go_wp2
    go_returns
    exact ⟨rfl, Below.refl _ _⟩
  · have hsi : ¬ (a0.size : Int) > 1048576 := by omega
    have hsp := fun W => specPer_any a0 (by omega) W
    have hip := fun W (hW : Below w.heap.size w W) => implPer_any a0 (by omega) W (hl.keep hW)
    have hn := perR_len a0.data.toList
    obtain ⟨⟨xs, rc⟩, hr⟩ : ∃ r, perR a0.data.toList = r := ⟨_, rfl⟩
    rw [hr] at hsp hip hn
    unfold PerP at hsp hip
    dsimp only at hsp hip hn
    have HS := Lib.hid hsp
    have HI := Lib.hid hip
    have hn2 : xs.length ≤ 281474976710656 := by omega
    have HN := Lib.hid hn2
    clear hsp hip hr hl hs hn2
    go_enter Tryd.func7, Tryd.ntmps7
    go_wp2_with fail
    refine (HS.out _).mono ?_
    rintro e w2 ⟨⟨A1, c1, rfl, hI1, _⟩, hb2⟩
    have k2 := hb2
    go_wp2_with fail
    refine (HI.out _ k2).mono ?_
    rintro e w4 ⟨⟨A2, c2, rfl, hI2, hW2⟩, hb4⟩
    have k4 := k2.trans (hb4.mono k2.size)
    have j4 := hb4
    go_wp2_with fail
    refine (eqInt64S_same A2 A1 _ _ _ xs _ hI2 (hI1.keep j4) HN.out).mono ?_
    rintro e w5 ⟨rfl, hb5⟩
    have k5 := k4.trans (hb5.mono k4.size)
    have j5 := j4.trans (hb5.mono j4.size)
    go_wp2_with fail
    refine (markInt64S_any A2 _ _ w2.heap.size xs 1 _ (hI2.keep hb5) (hW2.keep hb5) HN.out ⟨by omega, by omega⟩).mono ?_
    rintro e w6 ⟨rfl, hM, _, hb6⟩
    have k6 := k5.trans (hb6.mono k2.size)
    have j6 := j5.trans hb6
    go_wp2_with fail
    refine (heldInt64S_any A2 _ _ 1 _ hM HN.out ⟨by omega, by omega⟩).mono ?_
    rintro e w7 ⟨rfl, hb7⟩
    have k7 := k6.trans (hb7.mono k6.size)
    have j7 := j6.trans (hb7.mono j6.size)
    have m7 := hb7
    go_wp2_with fail
    refine (HI.out _ k7).mono ?_
    rintro e w9 ⟨⟨A3, c3, rfl, hI3, _⟩, hb9⟩
    have k9 := k7.trans (hb9.mono k7.size)
    have j9 := j7.trans (hb9.mono j7.size)
    have m9 := m7.trans (hb9.mono m7.size)
    go_wp2_with fail
    refine (eqInt64S_same A3 A1 _ _ _ xs _ hI3 (hI1.keep j9) HN.out).mono ?_
    rintro e w10 ⟨rfl, hb10⟩
    have k10 := k9.trans (hb10.mono k9.size)
    have m10 := m9.trans (hb10.mono m9.size)
    go_wp2_with fail
    refine (heldInt64S_any A2 _ _ 1 _ (hM.keep m10) HN.out ⟨by omega, by omega⟩).mono ?_
    rintro e w11 ⟨rfl, hb11⟩
    have k11 := k10.trans (hb11.mono k10.size)
    go_wp2
    go_returns
    exact ⟨rfl, k11⟩
end Go.Proofs.YtajjoihfccnfhaaDoor
