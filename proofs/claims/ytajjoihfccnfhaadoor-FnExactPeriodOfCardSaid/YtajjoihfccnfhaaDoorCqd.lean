/-
  Lengths of runs, by the program. Condition: what stands in each.
-/
import Derived.Test.YtajjoihfccnfhaaDoorCqc
import Derived.Test.YtajjoihfccnfhaaDoorCwt
namespace Go.Proofs.YtajjoihfccnfhaaDoor
open Go.RowKit
set_option maxHeartbeats 2000000

def byt (l : List UInt8) (i : Nat) : UInt8 := l[i]?.getD 0
theorem byt_at {s : ByteArray} {i : Nat} (h : i < s.size) : byt s.data.toList i = s[i] := by
  have hlen : s.data.toList.length = s.size := Array.length_toList
  unfold byt
  rw [List.getElem?_eq_getElem (by rw [hlen]; exact h)]
  rfl
noncomputable def headrunB : Code := seqHead ((Tryd.f76.body.bind (codeFrom 3)).getD .skip)
noncomputable def tailrunB : Code := seqTail ((Tryd.f76.body.bind (codeFrom 3)).getD .skip)
set_option maxRecDepth 1000000 in
theorem runB (s : ByteArray) (w wc : World) {K : Act → World → Prop} {R : Ending → World → Prop} (u1_ u2_ u3_ u4_ u5_ u6_ u7_ u8_ u9_ u10_ u11_ u12_ u13_ u14_ u15_ u16_ u17_ u18_ u19_ u20_ u21_ u22_ u23_ u24_ u25_ u26_ u27_ u28_ u29_ u30_ u31_ u32_ u33_ u34_ u35_ u36_ u37_ u38_ u39_ u40_ u41_ u42_ u43_ u44_ u45_ u46_ u47_ u48_ u49_ u50_ : Value) (hB : Below w.heap.size w wc) (hs : s.size ≤ 1000) (hR : ∀ e w', (∃ v, e = .returned v ∧ w'.ownsRow w.heap.size 2 1 v (runF (byt s.data.toList) s.size).length (ivs (runF (byt s.data.toList) s.size))) ∧ Below w.heap.size w w' → R e w')
    (hK : ∀ a w1, Code.wp Tryd.prog tailrunB (bodyPost Tryd.prog Tryd.f76 fun e w' => R e w') a w1 → K a w1) :
    Code.wp Tryd.prog headrunB (Exit.then K (bodyPost Tryd.prog Tryd.f76 fun e w' => R e w')) ⟨#[(.string s), u1_, u2_, u3_, u4_, u5_, u6_, u7_, u8_, u9_, u10_, u11_, u12_, u13_, u14_, u15_, u16_, u17_, u18_, u19_, u20_, u21_, u22_, u23_, u24_, u25_, u26_, u27_, u28_, u29_, u30_, u31_, u32_, u33_, u34_, u35_, u36_, u37_, u38_, u39_, u40_, u41_, u42_, u43_, u44_, u45_, u46_, u47_, u48_, u49_, u50_], []⟩ wc := by
  conv at hK => ext a1 w1; arg 1; arg 2; whnf
  conv => arg 2; whnf
  obtain ⟨i0, hI0⟩ := info_all infoI8
  have HI := Lib.hid hI0
  have HB := Lib.hid hB
  clear hI0 hB
  obtain ⟨f, hf⟩ : ∃ f, byt s.data.toList = f := ⟨_, rfl⟩
  have hla := fun i (h : i < s.size) => @byt_at s i h
  rw [hf] at hla
  simp only [hf] at hR
  have HRR := Lib.hid hR
  clear hR
  have HF := Lib.hid hf
  have HL := Lib.hid hla
  clear hf hla
  go_upto_region 5 with fail
  go_loopw [4, 23] (fun o k W => ∃ (A : Option Addr) (cc i : Nat), o = .slice A (runF f i).length cc ∧ k = .int .i64 i ∧ i ≤ s.size ∧ W.ownsRow w.heap.size 2 1 (.slice A (runF f i).length cc) (runF f i).length (ivs (runF f i)) ∧ Below w.heap.size w W) (fun _ k _ => s.size - (intOf k).toNat)
  case atStart => exact ⟨_, _, 0, rfl, rfl, Nat.zero_le _, World.ownsRow_made _ _ _ HB.out.size (by decide) rfl, HB.out.alloc HB.out.size _⟩
  case round =>
    obtain ⟨A, cc, i, rfl, rfl, hi, hO, hB⟩ := hrel
    have HO := Lib.hid hO
    have HB2 := Lib.hid hB
    clear hO hB
    by_cases hlt : i < s.size
    · have hin : (i : Int) < (s.size : Int) := by omega
      have fp := HL.out i hlt
      by_cases hnew : i = 0 ∨ f i ≠ f (i - 1)
      · have hstep : runF f (i + 1) = runF f i ++ [0 + 1] := by rw [runF_succ, if_pos hnew]; rfl
        obtain ⟨L, hLL⟩ : ∃ L, runF f i = L := ⟨_, rfl⟩
        have hll := (runF_le f i).1
        rw [hLL] at hstep hll
        have hO := HO.out
        rw [hLL] at hO
        rw [hLL]
        have HO2 := Lib.hid hO
        have HST := Lib.hid hstep
        clear hO HO hstep hLL
        by_cases hi0 : i = 0
        · have hq0 : ((i : Int) == 0) = true := beq_iff_eq.2 (by omega)
          clear fp hnew
          go_upto_region 7 with fail
          go_quiet (fail)
          go_upto_region 9 with ((at_builtin; refine wpList_append_lies _ rfl _ _ _ rfl w.heap.size 2 i0 (.int .i64 0) 1 8 Tryd.underlying44 HI.out.1 HI.out.2.1 HI.out.2.2.1 HI.out.2.2.2 rfl (by decide) (.slice A L.length cc) L.length (ivs L) rfl (World.ownsRow.alloc HO2.out _) ⟨wr.heap.size, 0, none⟩ 1 1 [.int .i64 0] rfl rfl (one_at _ _ _) (by simp [Value.oneCell']) (by omega) (by unfold maxLen; omega) (by omega) (by have := HB2.out.size; simp; omega) (wr.heap.size + 1) (by simp) ?_; intro g cap w3 hown3 hgrow3 hat3 hlt3; rw [show ivs L ++ [.int .i64 0] = ivs (L ++ [0]) from (ivs_cat L [0]).symm] at hown3; have c3 := (hown3.cellAt L.length (by omega)).trans (ivs_end L 0); have f3 := hown3.frozenAt L.length; have HO3 := Lib.hid hown3; have HG3 := Lib.hid hgrow3; clear hown3 hgrow3 hat3 hlt3))
          go_wp2_with fail
          go_roundw
          case rel =>
            have hlen : (runF f (i + 1)).length = L.length + 1 := by rw [HST.out]; simp
            have hst := (HO3.out.stored L.length (.int .i64 1)).1
            rw [ivs_set] at hst
            refine ⟨some ⟨g, 0, none⟩, cap, i + 1, by rw [hlen], by go_num, by omega, ?_, ?_⟩
            · rw [hlen, HST.out]
              exact hst
            · refine Below.setCell ?_ (HO3.out.lt g rfl).1 _
              exact ((below_drewN' HB2.out _).alloc HB2.out.size _).grown HG3.out (by have := HB2.out.size; simp; omega) (fun k e => (HO2.out.lt k e).1)
          case measure => simp [intOf]; omega
        · have hq0 : ((i : Int) == 0) = false := beq_eq_false_iff_ne.2 (by omega)
          obtain ⟨m, hm⟩ : ∃ m, i - 1 = m := ⟨_, rfl⟩
          have e34 : (i : Int) - 1 = (m : Int) := by omega
          have hml : m < s.size := by omega
          have fq := HL.out m hml
          have hne : ((s[i].toNat : Int) != (s[m].toNat : Int)) = true := by
            rcases hnew with h | h
            · exact absurd h hi0
            · rw [hm] at h
              rw [fp, fq] at h
              have : ¬ (s[i].toNat : Int) = (s[m].toNat : Int) := fun e => h (by apply UInt8.toNat_inj.1; omega)
              simpa using this
          clear fp fq hnew hm
          go_upto_region 7 with fail
          go_quiet (fail)
          go_upto_region 9 with ((at_builtin; refine wpList_append_lies _ rfl _ _ _ rfl w.heap.size 2 i0 (.int .i64 0) 1 8 Tryd.underlying44 HI.out.1 HI.out.2.1 HI.out.2.2.1 HI.out.2.2.2 rfl (by decide) (.slice A L.length cc) L.length (ivs L) rfl (World.ownsRow.alloc HO2.out _) ⟨wr.heap.size, 0, none⟩ 1 1 [.int .i64 0] rfl rfl (one_at _ _ _) (by simp [Value.oneCell']) (by omega) (by unfold maxLen; omega) (by omega) (by have := HB2.out.size; simp; omega) (wr.heap.size + 1) (by simp) ?_; intro g cap w3 hown3 hgrow3 hat3 hlt3; rw [show ivs L ++ [.int .i64 0] = ivs (L ++ [0]) from (ivs_cat L [0]).symm] at hown3; have c3 := (hown3.cellAt L.length (by omega)).trans (ivs_end L 0); have f3 := hown3.frozenAt L.length; have HO3 := Lib.hid hown3; have HG3 := Lib.hid hgrow3; clear hown3 hgrow3 hat3 hlt3))
          go_wp2_with fail
          go_roundw
          case rel =>
            have hlen : (runF f (i + 1)).length = L.length + 1 := by rw [HST.out]; simp
            have hst := (HO3.out.stored L.length (.int .i64 1)).1
            rw [ivs_set] at hst
            refine ⟨some ⟨g, 0, none⟩, cap, i + 1, by rw [hlen], by go_num, by omega, ?_, ?_⟩
            · rw [hlen, HST.out]
              exact hst
            · refine Below.setCell ?_ (HO3.out.lt g rfl).1 _
              exact ((below_drewN' HB2.out _).alloc HB2.out.size _).grown HG3.out (by have := HB2.out.size; simp; omega) (fun k e => (HO2.out.lt k e).1)
          case measure => simp [intOf]; omega
      · obtain ⟨L, x, hL1, hL2⟩ := runF_last hnew
        have hi0 : ¬ i = 0 := fun e => hnew (.inl e)
        have hll := (runF_le f i).1
        have hbd := (runF_le f i).2
        have hq0 : ((i : Int) == 0) = false := beq_eq_false_iff_ne.2 (by omega)
        obtain ⟨m, hm⟩ : ∃ m, i - 1 = m := ⟨_, rfl⟩
        have e34 : (i : Int) - 1 = (m : Int) := by omega
        have hml : m < s.size := by omega
        have fq := HL.out m hml
        have hne : ((s[i].toNat : Int) != (s[m].toNat : Int)) = false := by
          have h : f i = f m := by rw [← hm]; exact Decidable.not_not.1 fun h => hnew (.inr h)
          rw [fp, fq] at h
          rw [h]
          simp
        have hO := HO.out
        rw [hL1] at hO hll hbd
        rw [List.length_append, List.length_singleton] at hll hO
        have hx := hbd x (by simp)
        obtain ⟨g, cap, eg, hge, hgl⟩ := hO.form (by omega)
        obtain ⟨rfl, rfl⟩ : A = some ⟨g, 0, none⟩ ∧ cc = cap := by injection eg with e1 _ e3; exact ⟨e1, e3⟩
        have c3 := (hO.cellAt L.length (by omega)).trans (ivs_end L x)
        have f3 := hO.frozenAt L.length
        rw [hL1, List.length_append, List.length_singleton]
        have HO2 := Lib.hid hO
        have HST := Lib.hid hL2
        clear hO HO hL1 hL2 hbd fp fq hnew eg hm
        go_upto_region 7 with fail
        go_quiet (fail)
        go_wp2_with fail
        go_roundw
        case rel =>
          have hlen : (runF f (i + 1)).length = L.length + 1 := by rw [HST.out]; simp
          have hst := (HO2.out.stored L.length (.int .i64 (x + 1))).1
          rw [ivs_set] at hst
          refine ⟨some ⟨g, 0, none⟩, cc, i + 1, by rw [hlen], by go_num, by omega, ?_, ?_⟩
          · rw [hlen, HST.out]
            exact hst
          · exact Below.setCell (below_drewN' HB2.out _) hge _
        case measure => simp [intOf]; omega
    · obtain rfl : i = s.size := by omega
      go_wp2
      exact HRR.out _ _ ⟨⟨_, rfl, HO.out⟩, HB2.out⟩
end Go.Proofs.YtajjoihfccnfhaaDoor
