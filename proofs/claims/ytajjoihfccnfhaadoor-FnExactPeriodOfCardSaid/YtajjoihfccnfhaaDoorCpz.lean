/-
  Periods, by the model: own lists, turned lists. Condition: what stands in each.
-/
import Derived.Test.YtajjoihfccnfhaaDoorCpo
import Derived.Deep.RegionLaw
namespace Go.Proofs.YtajjoihfccnfhaaDoor
open Go.RowKit
set_option maxHeartbeats 1000000
theorem infoI8 : (Tryd.prog.info? 2).map (fun i => (i.zero, i.size, i.bytes)) = some (some (.int .i64 0), 1, 8) := by kernel_rfl
theorem info_all {P : Program} {t : TypeId} {z : Option Value} {s b : Nat} (h : (P.info? t).map (fun i => (i.zero, i.size, i.bytes)) = some (z, s, b)) : ∃ i, P.info? t = some i ∧ i.zero = z ∧ i.size = s ∧ i.bytes = b := by
  obtain ⟨i, hi, e⟩ := Option.map_eq_some_iff.1 h
  simp only [Prod.mk.injEq] at e
  exact ⟨i, hi, e.1, e.2.1, e.2.2⟩
def ivs (xs : List Int) : List Value := xs.map (Value.int .i64)
theorem ivs_len (xs : List Int) : (ivs xs).length = xs.length := by simp [ivs]
theorem ivs_cat (xs ys : List Int) : ivs (xs ++ ys) = ivs xs ++ ivs ys := by simp [ivs]
theorem ivs_one (xs : List Int) : ∀ u ∈ ivs xs, u.oneCell' = true := fun u hu => by
  obtain ⟨x, _, rfl⟩ := List.mem_map.1 hu
  rfl
theorem ivs_at {W : World} {b off : Nat} {xs : List Int} (h : IRow W b off xs) : ∀ j u, (ivs xs)[j]? = some u → W.cell? ((⟨b, off, none⟩ : Addr).add j) = some u := by
  intro j u hj
  have hl : j < xs.length := by
    rcases Nat.lt_or_ge j xs.length with h1 | h1
    · exact h1
    · rw [List.getElem?_eq_none (by rw [ivs_len]; exact h1)] at hj; cases hj
  have := h j hl
  rw [ivs, List.getElem?_map, List.getElem?_eq_getElem hl] at hj
  rw [List.getElem?_eq_getElem hl] at this
  rw [add_at, ← hj]
  exact this
theorem IRow.drop {W : World} {b off : Nat} {xs : List Int} (h : IRow W b off xs) (k : Nat) : IRow W b (off + k) (xs.drop k) := fun i hi => by
  rw [List.length_drop] at hi
  rw [List.getElem?_drop, Nat.add_assoc]
  exact h (k + i) (by omega)
theorem IRow.take {W : World} {b off : Nat} {xs : List Int} (h : IRow W b off xs) (k : Nat) : IRow W b off (xs.take k) := fun i hi => by
  rw [List.length_take] at hi
  rw [List.getElem?_take, if_pos (by omega)]
  exact h i (by omega)
theorem own_any (b off n c : Nat) (xs : List Int) (w : World) (hr : IRow w b off xs) (hl : xs.length = n) (h0 : 0 < n) (hn : n ≤ 1048576) : Calls Tryd.prog 94 #[.slice (some ⟨b, off, none⟩) n c] w fun e w' =>
    (∃ v, e = .returned v ∧ w'.ownsRow w.heap.size 2 1 v n (ivs xs)) ∧ Below w.heap.size w w' := by
  obtain ⟨i0, hI0⟩ := info_all infoI8
  have HI := Lib.hid hI0
  have HR := Lib.hid hr
  have HL := Lib.hid hl
  clear hI0 hr hl
  go_enter Tryd.func94, Tryd.ntmps94
  go_wp2_with ((at_builtin; refine wpList_append_lies _ rfl _ _ _ rfl w.heap.size 2 i0 (.int .i64 0) 1 8 Tryd.underlying44 HI.out.1 HI.out.2.1 HI.out.2.2.1 HI.out.2.2.2 rfl (by decide) (.slice (some ⟨w.heap.size, 0, none⟩) 0 0) 0 [] rfl (World.ownsRow_made _ _ _ (Nat.le_refl _) (by decide) rfl) ⟨b, off, none⟩ n c (ivs xs) rfl (by rw [ivs_len, HL.out, Nat.mul_one]) (ivs_at (fun i hi => keep_alloc (HR.out i hi))) (ivs_one xs) (by omega) (by unfold maxLen; omega) (by omega) (by simp) (w.heap.size + 1) (by simp) ?_; intro g cap w3 hown3 hgrow3 hat3 hlt3; have HO3 := Lib.hid hown3; have HG3 := Lib.hid hgrow3; clear hown3 hgrow3 hat3 hlt3))
  refine bodyPost_ret (by simp [results, Tryd.results94, go_sem, *]; try rfl) rfl ?_
  have h3 := HO3.out
  rw [Nat.zero_add, List.nil_append] at h3
  refine ⟨⟨_, rfl, h3⟩, ?_⟩
  exact ((Below.refl _ _).alloc (Nat.le_refl _) _).grown HG3.out (by simp) (fun k e => by cases e; exact Nat.le_refl _)
set_option maxRecDepth 100000 in
theorem turned_any (b n c k : Nat) (xs : List Int) (w : World) (hr : IRow w b 0 xs) (hl : xs.length = n) (hk : 0 < k) (hkn : k < n) (hn : n ≤ 1048576) (hc : n ≤ c) : Calls Tryd.prog 74 #[.slice (some ⟨b, 0, none⟩) n c, .int .i64 k] w fun e w' =>
    (∃ v, e = .returned v ∧ w'.ownsRow w.heap.size 2 1 v n (ivs (rotI xs k))) ∧ Below w.heap.size w w' := by
  obtain ⟨i0, hI0⟩ := info_all infoI8
  have HI := Lib.hid hI0
  have ho := fun W (hW : Below w.heap.size w W) => own_any b k (n - k) (c - k) (xs.drop k) W (by have := (hr.keep hW).drop k; rw [Nat.zero_add] at this; exact this) (by rw [List.length_drop]; omega) (by omega) (by omega)
  have ht := fun W (hW : Below w.heap.size w W) => (hr.keep hW).take k
  have htl : (xs.take k).length = k := by rw [List.length_take]; omega
  have HO := Lib.hid ho
  have HT := Lib.hid ht
  have HL := Lib.hid htl
  clear hI0 hr ho ht htl
  have hk0 : (0 : Int) ≤ (k : Int) := by omega
  have hk1 : (k : Int) ≤ (n : Int) := by omega
  have hck : ¬ c = k := by omega
  have hck1 : k ≤ c := by omega
  go_enter Tryd.func74, Tryd.ntmps74
  go_upto_region 1 with fail
  go_region_law (first
    | (refine step_append_lies _ rfl (.tmp 8) (.tmp 11) 44 rfl w.heap.size 2 i0 (.int .i64 0) 1 8 Tryd.underlying44 HI.out.1 HI.out.2.1 HI.out.2.2.1 HI.out.2.2.2 rfl (by decide) v1 (n - k) (ivs (xs.drop k)) (by simp [Act.eval]) HV.out ⟨b, 0, none⟩ k c (ivs (xs.take k)) (by simp [Act.eval]) (by rw [ivs_len, HL.out, Nat.mul_one]) (ivs_at (HT.out _ HB1.out)) (ivs_one _) hk (by unfold maxLen; omega) (by omega) HB1.out.size _ rfl ?_; intro g cap w3 hown3 hgrow3 hat3 hlt3; have HO3 := Lib.hid hown3; have HG3 := Lib.hid hgrow3; clear hown3 hgrow3 hat3 hlt3)
    | (go_simp; go_at_call 94; (with_reducible refine (HO.out _ ((Below.refl _ _).drew)).mono ?_); rintro e w1 ⟨⟨v1, rfl, hv1⟩, hb1⟩; have HV := Lib.hid hv1; have HB1 := Lib.hid (((Below.refl w.heap.size w).drew).trans hb1); clear hv1 hb1))
  go_wp2
  refine bodyPost_ret (by simp [results, Tryd.results74, go_sem, *]; try rfl) rfl ?_
  have e : n - k + k = n := by omega
  have h3 := HO3.out
  rw [← ivs_cat, e] at h3
  refine ⟨⟨_, by first | rfl | rw [e], h3⟩, ?_⟩
  exact HB1.out.grown HG3.out HB1.out.size (fun j ej => (HV.out.lt j ej).1)
end Go.Proofs.YtajjoihfccnfhaaDoor
