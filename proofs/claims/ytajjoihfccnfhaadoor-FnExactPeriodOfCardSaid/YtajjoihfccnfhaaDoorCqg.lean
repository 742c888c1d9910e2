/-
  Two lists behind one another, off the library's own code: the walk. Condition: what stands in each.
-/
import Derived.Test.YtajjoihfccnfhaaDoorCqf
namespace Go.Proofs.YtajjoihfccnfhaaDoor
open Go.RowKit
set_option maxHeartbeats 2000000

noncomputable def headconB : Code := seqHead ((Tryd.f77.body.bind (codeFrom 9)).getD .skip)
noncomputable def tailconB : Code := seqTail ((Tryd.f77.body.bind (codeFrom 9)).getD .skip)
set_option maxRecDepth 1000000 in
theorem conB (N b n c c0 k : Nat) (xs : List Int) (w : World) {K : Act → World → Prop} {R : Ending → World → Prop} (u1_ u2_ u4_ u5_ u6_ u7_ u8_ u9_ u10_ u11_ u12_ u13_ u14_ u15_ u16_ u17_ u18_ u19_ u20_ u21_ u22_ u23_ u24_ u25_ u26_ u27_ u28_ u29_ u30_ u31_ u32_ u33_ u34_ u35_ : Value) (hl : xs.length = n) (hk : k < n) (hn : n ≤ 1000) (hr : IRow w b 0 xs) (h0 : w.cell? ⟨N, 0, none⟩ = some (.slice (some ⟨b, k, none⟩) (n - k) c0)) (h1 : w.cell? ⟨N, 1, none⟩ = some (.slice (some ⟨b, 0, none⟩) k c)) (hR : ∀ e w', (∃ v, e = .returned v ∧ w'.ownsRow w.heap.size 2 1 v n (ivs (rotI xs k))) ∧ Below w.heap.size w w' → R e w')
    (hK : ∀ a w1, Code.wp Tryd.prog tailconB (bodyPost Tryd.prog Tryd.f77 fun e w' => R e w') a w1 → K a w1) :
    Code.wp Tryd.prog headconB (Exit.then K (bodyPost Tryd.prog Tryd.f77 fun e w' => R e w')) ⟨#[(.slice (some ⟨N, 0, none⟩) 2 2), u1_, u2_, (.int .i64 (n : Int)), u4_, u5_, u6_, u7_, u8_, u9_, u10_, u11_, u12_, u13_, u14_, u15_, u16_, u17_, u18_, u19_, u20_, u21_, u22_, u23_, u24_, u25_, u26_, u27_, u28_, u29_, u30_, u31_, u32_, u33_, u34_, u35_], []⟩ w := by
  conv at hK => ext a1 w1; arg 1; arg 2; whnf
  conv => arg 2; whnf
  have HRR := Lib.hid hR
  have HW := Lib.hid hr
  have HL := Lib.hid hl
  have hg := fun W => grow_any n (by omega) hn W
  have HG := Lib.hid hg
  obtain ⟨i0, hI0⟩ := info_all infoI8
  have HI := Lib.hid hI0
  clear hR hr hl hg hI0
  have hNl := World.block_lt_of_cell? w _ h0
  simp only [] at hNl
  go_wp2_with fail
  with_reducible refine (HG.out _).mono ?_
  rintro e w1 ⟨⟨v1, rfl, hv1⟩, hb1⟩
  have hn0 := cell_keep hb1 h0
  have hn1 := cell_keep hb1 h1
  have HV := Lib.hid hv1
  have HB := Lib.hid hb1
  clear h0 h1 hv1 hb1
  go_upto_region 11 with fail
  go_loopw [6, 27] (fun o i W => ∃ j : Nat, i = .int .i64 j ∧ j ≤ 2 ∧ W.cell? ⟨N, 0, none⟩ = some (.slice (some ⟨b, k, none⟩) (n - k) c0) ∧ W.cell? ⟨N, 1, none⟩ = some (.slice (some ⟨b, 0, none⟩) k c) ∧ Below w.heap.size w W ∧
      ((j = 0 ∧ W.ownsRow w.heap.size 2 1 o 0 []) ∨ (j = 1 ∧ W.ownsRow w.heap.size 2 1 o (n - k) (ivs (xs.drop k))) ∨ (j = 2 ∧ W.ownsRow w.heap.size 2 1 o n (ivs (rotI xs k))))) (fun _ i _ => 2 - (intOf i).toNat)
  case atStart => exact ⟨0, rfl, by omega, hn0, hn1, HB.out, .inl ⟨rfl, HV.out⟩⟩
  case round =>
    clear hn0 hn1
    obtain ⟨j, rfl, hj, hn0, hn1, hb, hcase⟩ := hrel
    have HBW := Lib.hid hb
    clear hb
    have htl : (xs.take k).length = k := by rw [List.length_take, HL.out]; omega
    have hdl : (xs.drop k).length = n - k := by rw [List.length_drop, HL.out]
    have hrow := HW.out.keep HBW.out
    have htk := hrow.take k
    have hdk := hrow.drop k
    rw [Nat.zero_add] at hdk
    have HT := Lib.hid htk
    have HD := Lib.hid hdk
    have HTL := Lib.hid htl
    have HDL := Lib.hid hdl
    clear hrow htk hdk htl hdl
    rcases hcase with ⟨rfl, hv⟩ | ⟨rfl, hv⟩ | ⟨rfl, hv⟩
    · have HO := Lib.hid hv
      clear hv
      go_upto_region 14 with ((at_builtin; refine wpList_append_lies _ rfl _ _ _ rfl w.heap.size 2 i0 (.int .i64 0) 1 8 Tryd.underlying44 HI.out.1 HI.out.2.1 HI.out.2.2.1 HI.out.2.2.2 rfl (by decide) _ 0 [] rfl HO.out ⟨b, k, none⟩ (n - k) c0 (ivs (xs.drop k)) rfl (by rw [ivs_len, HDL.out, Nat.mul_one]) (ivs_at HD.out) (ivs_one _) (by omega) (by unfold maxLen; omega) (by omega) HBW.out.size _ rfl ?_; intro g cap w3 hown3 hgrow3 hat3 hlt3; have HO3 := Lib.hid hown3; have HG3 := Lib.hid hgrow3; clear hown3 hgrow3 hat3 hlt3))
      go_wp2_with fail
      go_roundw
      case rel =>
        have h3 := HO3.out
        rw [Nat.zero_add, List.nil_append] at h3
        exact ⟨1, by simp, by omega, (HG3.out.cell hn0 (fun e2 => by have := (HO.out.lt _ e2.symm).1; simp only [] at this; omega)), (HG3.out.cell hn1 (fun e2 => by have := (HO.out.lt _ e2.symm).1; simp only [] at this; omega)), HBW.out.grown HG3.out HBW.out.size (fun _ e => (HO.out.lt _ e).1), .inr (.inl ⟨rfl, h3⟩)⟩
      case measure => simp [intOf]
    · obtain ⟨g0, cap0, rfl, hg0, hgl0⟩ := hv.form (by omega)
      have hcap0 := owns_cap hv
      have HO := Lib.hid hv
      clear hv
      rcases Nat.eq_zero_or_pos k with rfl | hk0
      · go_upto_region 14 with ((at_builtin; refine wpList_append_zero rfl _ _ _ rfl 2 i0 Tryd.underlying44 HI.out.1 (some ⟨g0, 0, none⟩) (n - 0) cap0 hcap0 rfl ⟨b, 0, none⟩ c rfl ?_))
        go_wp2_with fail
        go_roundw
        case rel =>
          have h3 := HO.out
          rw [Nat.sub_zero] at h3
          exact ⟨2, by simp, by omega, hn0, hn1, HBW.out, .inr (.inr ⟨rfl, by first | (rw [rotI_zero]; exact h3) | (rw [Nat.sub_zero, rotI_zero]; exact h3)⟩)⟩
        case measure => simp [intOf]
      · go_upto_region 14 with ((at_builtin; refine wpList_append_lies _ rfl _ _ _ rfl w.heap.size 2 i0 (.int .i64 0) 1 8 Tryd.underlying44 HI.out.1 HI.out.2.1 HI.out.2.2.1 HI.out.2.2.2 rfl (by decide) _ (n - k) (ivs (xs.drop k)) rfl HO.out ⟨b, 0, none⟩ k c (ivs (xs.take k)) rfl (by rw [ivs_len, HTL.out, Nat.mul_one]) (ivs_at HT.out) (ivs_one _) (by omega) (by unfold maxLen; omega) (by omega) HBW.out.size _ rfl ?_; intro g cap w3 hown3 hgrow3 hat3 hlt3; have HO3 := Lib.hid hown3; have HG3 := Lib.hid hgrow3; clear hown3 hgrow3 hat3 hlt3))
        go_wp2_with fail
        go_roundw
        case rel =>
          have e : n - k + k = n := by omega
          have h3 := HO3.out
          rw [← ivs_cat, e] at h3
          exact ⟨2, by simp, by omega, (HG3.out.cell hn0 (fun e2 => by have := (HO.out.lt _ e2.symm).1; simp only [] at this; omega)), (HG3.out.cell hn1 (fun e2 => by have := (HO.out.lt _ e2.symm).1; simp only [] at this; omega)), HBW.out.grown HG3.out HBW.out.size (fun _ e => (HO.out.lt _ e).1), .inr (.inr ⟨rfl, by first | exact h3 | (rw [e]; exact h3)⟩)⟩
        case measure => simp [intOf]
    · have HO := Lib.hid hv
      clear hv
      go_wp2
      exact HRR.out _ _ ⟨⟨_, rfl, HO.out⟩, HBW.out⟩
end Go.Proofs.YtajjoihfccnfhaaDoor
