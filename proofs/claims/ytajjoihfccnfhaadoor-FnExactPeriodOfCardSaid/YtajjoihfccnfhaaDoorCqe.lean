/-
  Lengths of runs, by the program: from the place that the search finds. Condition: what stands in each.
-/
import Derived.Test.YtajjoihfccnfhaaDoorPpr
namespace Go.Proofs.YtajjoihfccnfhaaDoor
open Go.RowKit
set_option maxHeartbeats 1000000
theorem contains_index (s : ByteArray) (i : Nat) (hs : s.size ≤ 1000) (hx : Lib.index (s.data.toList ++ s.data.toList) [76, 82] = (i : Int)) (w : World) (hm : MaxHere w) :
    Calls Tryd.prog 69 #[.string (s ++ s), .string ⟨#[76, 82]⟩] w fun e w' => e = .returned (.int .i64 (i : Int)) ∧ w' = w := by
  obtain ⟨m, hm⟩ := hm
  have h := Tryd.strings_Index (s ++ s) ⟨#[76, 82]⟩ m w (by rw [ByteArray.size_append]; omega) hm
  rw [show (s ++ s).data.toList = s.data.toList ++ s.data.toList by rw [ByteArray.data_append, Array.toList_append], show (⟨#[76, 82]⟩ : ByteArray).data.toList = [76, 82] from rfl, hx] at h
  exact h
theorem ext_size {s : ByteArray} {i : Nat} (hi : i + 1 ≤ s.size) : ((s ++ s).extract (i + 1) (i + 1 + s.size)).size = s.size := by
  rw [ByteArray.size_extract, ByteArray.size_append]
  omega
theorem ext_runs {s : ByteArray} {i a : Nat} (hi : i + 1 ≤ s.size) (hall : ∀ j, j < s.size → (s.data.toList ++ s.data.toList)[i + 1 + j]? = some (ltr s.data.toList a j)) :
    runF (byt ((s ++ s).extract (i + 1) (i + 1 + s.size)).data.toList) ((s ++ s).extract (i + 1) (i + 1 + s.size)).size = runF (ltr s.data.toList a) s.size := by
  rw [ext_size hi]
  refine runF_congr fun j hj => ?_
  unfold byt
  rw [ByteArray.data_extract, Array.toList_extract, List.extract_eq_take_drop, List.getElem?_take, if_pos (by omega), List.getElem?_drop, ByteArray.data_append, Array.toList_append, hall j hj]
  rfl
set_option maxRecDepth 1000000 in
theorem runs_any (s : ByteArray) (g : Nat) (hs : s.size ≤ 1000) (hg : good s.data.toList g) (w : World) (hm : MaxHere w) : Calls Tryd.prog 76 #[.string s] w fun e w' =>
    (∃ v a, good s.data.toList a ∧ e = .returned v ∧ w'.ownsRow w.heap.size 2 1 v (runF (ltr s.data.toList a) s.size).length (ivs (runF (ltr s.data.toList a) s.size))) ∧ Below w.heap.size w w' := by
  have hlen : s.data.toList.length = s.size := Array.length_toList
  obtain ⟨i, hx, hi, hgo, hall⟩ := find_run hg
  rw [hlen] at hi hgo hall
  have hidx := fun W (hW : MaxHere W) => contains_index s i hs hx W hW
  have hvv : ¬ s.size + s.size > 9223372036854775807 := by omega
  have hR : ∀ (e : Ending) (w' : World), ((∃ v, e = .returned v ∧ w'.ownsRow w.heap.size 2 1 v (runF (byt ((s ++ s).extract (i + 1) (i + 1 + s.size)).data.toList) ((s ++ s).extract (i + 1) (i + 1 + s.size)).size).length (ivs (runF (byt ((s ++ s).extract (i + 1) (i + 1 + s.size)).data.toList) ((s ++ s).extract (i + 1) (i + 1 + s.size)).size))) ∧ Below w.heap.size w w') →
      ((∃ v a, good s.data.toList a ∧ e = .returned v ∧ w'.ownsRow w.heap.size 2 1 v (runF (ltr s.data.toList a) s.size).length (ivs (runF (ltr s.data.toList a) s.size))) ∧ Below w.heap.size w w') := by
    rintro e w' ⟨⟨v, rfl, hv⟩, hb⟩
    rw [ext_runs hi hall] at hv
    exact ⟨⟨v, _, hgo, rfl, hv⟩, hb⟩
  have hz := ext_size (s := s) hi
  have HX := Lib.hid hidx
  have HR := Lib.hid hR
  have HZ := Lib.hid hz
  have HM := Lib.hid hm
  clear hidx hR hz hm hx hgo hall hg hlen
  go_enter Tryd.func76, Tryd.ntmps76
  go_upto_region 3 with (first | (go_at_call 69; (with_reducible refine (HX.out _ HM.out).mono ?_); rintro e w1 ⟨rfl, rfl⟩))
  refine runB ((s ++ s).extract (i + 1) (i + 1 + s.size)) _ _ _ _ _ _ _ _ _ _ _ _ _ _ _ _ _ _ _ _ _ _ _ _ _ _ _ _ _ _ _ _ _ _ _ _ _ _ _ _ _ _ _ _ _ _ _ _ _ _ _ _ (Below.refl _ _) (by rw [HZ.out]; exact hs) HR.out ?_
  assumption
end Go.Proofs.YtajjoihfccnfhaaDoor
