/-
  Periods, by the model: the walk, in parts. Condition: what stands in each.
-/
import Derived.Test.YtajjoihfccnfhaaDoorCpz
namespace Go.Proofs.YtajjoihfccnfhaaDoor
open Go.RowKit
set_option maxHeartbeats 2000000
/-- The code behind a region's beginning, on the right spine. -/
def codeHead (n : Nat) : Code → Bool
  | .region id _ _ => id == n
  | .seq (.region id _ _) _ => id == n
  | _ => false
def codeFrom (n : Nat) : Code → Option Code
  | .seq a b => if codeHead n a then some (.seq a b) else codeFrom n b
  | _ => none
def seqHead : Code → Code
  | .seq a _ => a
  | c => c
def seqTail : Code → Code
  | .seq _ b => b
  | c => c
theorem owns_irow {w : World} {B : Nat} {T : TypeId} {v : Value} {n : Nat} {xs : List Int} (h : w.ownsRow B T 1 v n (ivs xs)) (hl : xs.length = n) : ∃ A c, v = .slice A n c ∧ ISl w A n xs ∧ WSl B w A n := by
  subst hl
  have hcells := @World.ownsRow.cells w B T 1 v xs.length (ivs xs) h
  obtain ⟨_, ⟨rfl, h0⟩ | ⟨g, cap, cur, rfl, hB, hg, _, _, _, _⟩⟩ := h
  · rw [h0]
    exact ⟨none, 0, rfl, ⟨h0.symm, fun h => absurd h (by omega)⟩, fun h => absurd h (by omega)⟩
  · refine ⟨some ⟨g, 0, none⟩, cap, rfl, ⟨rfl, fun hn => ⟨g, 0, rfl, ?_, fun i hi => ?_⟩⟩, fun hn => ⟨g, 0, rfl, hB, ?_, fun i hi => ?_⟩⟩
    · rcases Nat.lt_or_ge g w.heap.size with hlt | hge
      · exact hlt
      · rw [Array.getElem?_eq_none hge] at hg; cases hg
    · have := hcells rfl i (.int .i64 (xs[i]?.getD 0)) (by simp [ivs, hi])
      rw [add_at] at this
      exact this
    · rcases Nat.lt_or_ge g w.heap.size with hlt | hge
      · exact hlt
      · rw [Array.getElem?_eq_none hge] at hg; cases hg
    · simp [World.frozen?, hg]
theorem owns_below {w w' : World} {base base' : Nat} {e : TypeId} {s n : Nat} {v : Value} {xs : List Value} (h : w.ownsRow base e s v n xs) (hb : Below w.heap.size w w') (hl : base' ≤ base) : w'.ownsRow base' e s v n xs := by
  obtain ⟨h1, h2⟩ := h
  refine ⟨h1, ?_⟩
  rcases h2 with h2 | ⟨g, cap, cur, e1, e2, hg, h3⟩
  · exact .inl h2
  · have hlt : g < w.heap.size := by
      rcases Nat.lt_or_ge g w.heap.size with hlt | hge
      · exact hlt
      · rw [Array.getElem?_eq_none hge] at hg; cases hg
    exact .inr ⟨g, cap, cur, e1, Nat.le_trans hl e2, (hb.block g hlt).trans hg, h3⟩
theorem bestI_len {xs : List Int} {j : Nat} (h : 0 < j) (h2 : 2 * j ≤ xs.length) : (bestI xs j).length = xs.length := by
  obtain ⟨i, hi, e⟩ := bestI_at xs j h
  rw [e, rotI_len (by omega)]
theorem bestI_succ (xs : List Int) (j : Nat) : bestI xs (j + 1) = if ltI (rotI xs (2 * j)) (bestI xs j) = true then rotI xs (2 * j) else bestI xs j := rfl
theorem owns_cap {w : World} {B : Nat} {T : TypeId} {A : Option Addr} {n m c : Nat} {xs : List Value} (h : w.ownsRow B T 1 (.slice A n c) m xs) : n ≤ c := by
  obtain ⟨_, ⟨e, h0⟩ | ⟨g, cap, cur, e, _, _, hc, _⟩⟩ := h
  · injection e with _ e1 e2
    omega
  · injection e with _ e1 e2
    omega

noncomputable def headperC : Code := seqHead ((Tryd.f53.body.bind (codeFrom 12)).getD .skip)
noncomputable def tailperC : Code := seqTail ((Tryd.f53.body.bind (codeFrom 12)).getD .skip)
set_option maxRecDepth 1000000 in
theorem perC (b n c : Nat) (xs : List Int) (w wc : World) {K : Act → World → Prop} {R : Ending → World → Prop} (u0_ u1_ u2_ u3_ u4_ u6_ u7_ u8_ u9_ u10_ u11_ u12_ u13_ u14_ u15_ u16_ u17_ u18_ u19_ u20_ u21_ u22_ u23_ u24_ u25_ u26_ u27_ u28_ u29_ u30_ u31_ u32_ u33_ u34_ u35_ u36_ u37_ u38_ u39_ u40_ u41_ u42_ u43_ u44_ u45_ u46_ u47_ u48_ u49_ u50_ u51_ u52_ u53_ u54_ u55_ u56_ u57_ u58_ u59_ u60_ u61_ u62_ u63_ u64_ u65_ u66_ u67_ u68_ u69_ u70_ u71_ u72_ u73_ u74_ u75_ u76_ u77_ u78_ u79_ u80_ u81_ u82_ : Value) (hB : Below w.heap.size w wc) (hO : wc.ownsRow w.heap.size 2 1 (.slice (some ⟨b, 0, none⟩) n c) n (ivs xs)) (hl : xs.length = n) (hn0 : 0 < n) (hn : n ≤ 1000) (he : n % 2 = 0) (hR : ∀ e w', (∃ v, e = .returned v ∧ w'.ownsRow w.heap.size 2 1 v n (ivs (bestI xs (n / 2)))) ∧ Below w.heap.size w w' → R e w')
    (hK : ∀ a w1, Code.wp Tryd.prog tailperC (bodyPost Tryd.prog Tryd.f53 fun e w' => R e w') a w1 → K a w1) :
    Code.wp Tryd.prog headperC (Exit.then K (bodyPost Tryd.prog Tryd.f53 fun e w' => R e w')) ⟨#[u0_, u1_, u2_, u3_, u4_, (.slice (some ⟨b, 0, none⟩) n c), u6_, u7_, u8_, u9_, u10_, u11_, u12_, u13_, u14_, u15_, u16_, u17_, u18_, u19_, u20_, u21_, u22_, u23_, u24_, u25_, u26_, u27_, u28_, u29_, u30_, u31_, u32_, u33_, u34_, u35_, u36_, u37_, u38_, u39_, u40_, u41_, u42_, u43_, u44_, u45_, u46_, u47_, u48_, u49_, u50_, u51_, u52_, u53_, u54_, u55_, u56_, u57_, u58_, u59_, u60_, u61_, u62_, u63_, u64_, u65_, u66_, u67_, u68_, u69_, u70_, u71_, u72_, u73_, u74_, u75_, u76_, u77_, u78_, u79_, u80_, u81_, u82_], []⟩ wc := by
  conv at hK => ext a1 w1; arg 1; arg 2; whnf
  conv => arg 2; whnf
  have hI := owns_irow hO hl
  obtain ⟨A0, c0, e0, hI0, _⟩ := hI
  obtain ⟨rfl, rfl⟩ : some ⟨b, 0, none⟩ = A0 ∧ c = c0 := by injection e0 with e1 _ e3; exact ⟨e1, e3⟩
  have hcap := owns_cap hO
  have HO := Lib.hid hO
  have HB := Lib.hid hB
  have HI := Lib.hid hI0
  have HRR := Lib.hid hR
  clear hO hI0 e0 hB hR
  go_upto_region 14 with fail
  go_loopw [8, 9] (fun o k W => ∃ (v : Value) (j : Nat), o = v ∧ k = .int .i64 (2 * (j : Int)) ∧ 1 ≤ j ∧ 2 * j ≤ n ∧ W.ownsRow w.heap.size 2 1 v n (ivs (bestI xs j)) ∧ Below wc.heap.size wc W) (fun _ k _ => n - (intOf k).toNat)
  case atStart => exact ⟨_, 1, rfl, by simp, by omega, by omega, by rw [bestI_one]; exact HO.out, Below.refl _ _⟩
  case round =>
    obtain ⟨v, j, rfl, rfl, hj1, hj2, hv, hb⟩ := hrel
    have HV := Lib.hid hv
    have HBW := Lib.hid hb
    clear hv hb
    by_cases hlt : 2 * j < n
    · have hin : 2 * (j : Int) < (n : Int) := by omega
      obtain ⟨b', off', eb, hbl, hr⟩ := HI.out.2 (by omega)
      obtain ⟨rfl, rfl⟩ : b = b' ∧ 0 = off' := by injection eb with eb; injection eb with e1 e2; exact ⟨e1, e2⟩
      have e2 : ((2 * j : Nat) : Int) = 2 * (j : Int) := by omega
      have ht := fun W (hW : Below wc.heap.size wc W) => turned_any b n c (2 * j) xs W (hr.keep hW) hl (by omega) hlt (by omega) hcap
      rw [e2] at ht
      have HT := Lib.hid ht
      obtain ⟨A2, c2, rfl, hI2, _⟩ := owns_irow HV.out ((bestI_len (by omega) (by omega)).trans hl)
      have HI2 := Lib.hid hI2
      clear hr ht eb hI2
      go_wp2_with fail
      with_reducible refine (HT.out _ HBW.out).mono ?_
      rintro e w1 ⟨⟨v1, rfl, hv1⟩, hb1⟩
      obtain ⟨A1, c1, rfl, hI1, _⟩ := owns_irow hv1 ((rotI_len (by omega)).trans hl)
      have HV1 := Lib.hid hv1
      have HI1 := Lib.hid hI1
      have HB1 := Lib.hid hb1
      clear hv1 hI1 hb1
      go_wp2_with fail
      with_reducible refine (less_any A1 A2 n c1 c2 (rotI xs (2 * j)) (bestI xs j) _ HI1.out (HI2.out.keep HB1.out) (by omega)).mono ?_
      rintro e w2 ⟨rfl, hb2⟩
      have HB2 := Lib.hid hb2
      clear hb2
      cases hR : ltI (rotI xs (2 * j)) (bestI xs j)
      all_goals
        have HR := Lib.hid hR
        clear hR
        go_wp2
        go_roundw
        case rel =>
          refine ⟨_, j + 1, rfl, by rw [show 2 * (j : Int) + 2 = 2 * ((j + 1 : Nat) : Int) by omega], by omega, by omega, ?_, HBW.out.trans ((HB1.out.trans (HB2.out.mono HB1.out.size)).mono HBW.out.size)⟩
          rw [bestI_succ, HR.out]
          first
            | exact owns_below HV1.out HB2.out (Nat.le_trans HB.out.size HBW.out.size)
            | exact owns_below (owns_below HV.out HB1.out (Nat.le_refl _)) HB2.out (Nat.le_refl _)
        case measure => simp [intOf]; omega
    · obtain rfl : n = 2 * j := by omega
      have hin : ¬ 2 * (j : Int) < ((2 * j : Nat) : Int) := by omega
      go_wp2
      refine HRR.out _ _ ⟨⟨_, rfl, ?_⟩, HB.out.trans (HBW.out.mono HB.out.size)⟩
      first | exact HV.out | (rw [show 2 * j / 2 = j by omega]; exact HV.out)
theorem runF_le (f : Nat → UInt8) : ∀ i : Nat, (runF f i).length ≤ i ∧ ∀ a ∈ runF f i, 0 ≤ a ∧ a ≤ (i : Int)
  | 0 => by simp [runF]
  | i + 1 => by
    obtain ⟨h1, h2⟩ := runF_le f i
    rw [runF_succ]
    split
    · refine ⟨by rw [List.length_append, List.length_singleton]; omega, fun a ha => ?_⟩
      rcases List.mem_append.1 ha with h | h
      · have := h2 a h; omega
      · obtain rfl := List.mem_singleton.1 h; omega
    · rename_i hq
      have hne := runF_ne f (i := i) (Nat.pos_of_ne_zero fun h => hq (.inl h))
      have hl : 0 < (runF f i).length := List.length_pos_iff.2 hne
      refine ⟨by rw [List.length_append, List.length_singleton, List.length_dropLast]; omega, fun a ha => ?_⟩
      rcases List.mem_append.1 ha with h | h
      · have := h2 a (List.dropLast_subset _ h); omega
      · obtain rfl := List.mem_singleton.1 h
        rw [List.getLast?_eq_some_getLast hne, Option.getD_some]
        have := h2 _ (List.getLast_mem hne)
        omega
theorem runF_last {f : Nat → UInt8} {i : Nat} (h : ¬ (i = 0 ∨ f i ≠ f (i - 1))) : ∃ L x, runF f i = L ++ [x] ∧ runF f (i + 1) = L ++ [x + 1] := by
  have hne := runF_ne f (i := i) (Nat.pos_of_ne_zero fun e => h (.inl e))
  refine ⟨(runF f i).dropLast, (runF f i).getLast hne, (List.dropLast_concat_getLast hne).symm, ?_⟩
  rw [runF_succ, if_neg h, List.getLast?_eq_some_getLast hne, Option.getD_some]
theorem ivs_set (L : List Int) (x y : Int) : (ivs (L ++ [x])).set L.length (.int .i64 y) = ivs (L ++ [y]) := by
  rw [ivs_cat, ivs_cat, List.set_append, if_neg (by rw [ivs_len]; omega), ivs_len]
  simp [ivs]
theorem ivs_end (L : List Int) (x : Int) : (ivs (L ++ [x]))[L.length]? = some (.int .i64 x) := by simp [ivs]
theorem one_at (W : World) (v : Value) (T : TypeId) : ∀ j u, [v][j]? = some u → (W.alloc (.cells #[v] T)).cell? ((⟨W.heap.size, 0, none⟩ : Addr).add j) = some u := by
  intro j u hj
  match j, hj with
  | 0, hj => simp at hj; subst hj; rw [add_at]; simp
theorem ltr_at {s : ByteArray} {s0 i p : Nat} (h : (s0 + i) % s.size = p) (hp : p < s.size) : ltr s.data.toList s0 i = s[p] := by
  have hlen : s.data.toList.length = s.size := Array.length_toList
  unfold ltr
  rw [hlen, h, List.getElem?_eq_getElem (by rw [hlen]; exact hp)]
  rfl
noncomputable def headperB : Code := seqHead ((Tryd.f53.body.bind (codeFrom 4)).getD .skip)
noncomputable def tailperB : Code := seqTail ((Tryd.f53.body.bind (codeFrom 4)).getD .skip)
set_option maxRecDepth 1000000 in
theorem perB (s : ByteArray) (s0 : Nat) (w wc : World) {K : Act → World → Prop} {R : Ending → World → Prop} (u1_ u2_ u5_ u6_ u7_ u8_ u9_ u10_ u11_ u12_ u13_ u14_ u15_ u16_ u17_ u18_ u19_ u20_ u21_ u22_ u23_ u24_ u25_ u26_ u27_ u28_ u29_ u30_ u31_ u32_ u33_ u34_ u35_ u36_ u37_ u38_ u39_ u40_ u41_ u42_ u43_ u44_ u45_ u46_ u47_ u48_ u49_ u50_ u51_ u52_ u53_ u54_ u55_ u56_ u57_ u58_ u59_ u60_ u61_ u62_ u63_ u64_ u65_ u66_ u67_ u68_ u69_ u70_ u71_ u72_ u73_ u74_ u75_ u76_ u77_ u78_ u79_ u80_ u81_ u82_ : Value) (hB : Below w.heap.size w wc) (ha : s0 < s.size) (hs : s.size ≤ 1000) (he : (runF (ltr s.data.toList s0) s.size).length % 2 = 0 ∧ 0 < (runF (ltr s.data.toList s0) s.size).length) (hR : ∀ e w', (∃ v, e = .returned v ∧ w'.ownsRow w.heap.size 2 1 v (runF (ltr s.data.toList s0) s.size).length (ivs (bestI (runF (ltr s.data.toList s0) s.size) ((runF (ltr s.data.toList s0) s.size).length / 2)))) ∧ Below w.heap.size w w' → R e w')
    (hK : ∀ a w1, Code.wp Tryd.prog tailperB (bodyPost Tryd.prog Tryd.f53 fun e w' => R e w') a w1 → K a w1) :
    Code.wp Tryd.prog headperB (Exit.then K (bodyPost Tryd.prog Tryd.f53 fun e w' => R e w')) ⟨#[(.string s), u1_, u2_, (.int .i64 (s.size : Int)), (.int .i64 (s0 : Int)), u5_, u6_, u7_, u8_, u9_, u10_, u11_, u12_, u13_, u14_, u15_, u16_, u17_, u18_, u19_, u20_, u21_, u22_, u23_, u24_, u25_, u26_, u27_, u28_, u29_, u30_, u31_, u32_, u33_, u34_, u35_, u36_, u37_, u38_, u39_, u40_, u41_, u42_, u43_, u44_, u45_, u46_, u47_, u48_, u49_, u50_, u51_, u52_, u53_, u54_, u55_, u56_, u57_, u58_, u59_, u60_, u61_, u62_, u63_, u64_, u65_, u66_, u67_, u68_, u69_, u70_, u71_, u72_, u73_, u74_, u75_, u76_, u77_, u78_, u79_, u80_, u81_, u82_], []⟩ wc := by
  conv at hK => ext a1 w1; arg 1; arg 2; whnf
  conv => arg 2; whnf
  obtain ⟨i0, hI0⟩ := info_all infoI8
  have HI := Lib.hid hI0
  have HB := Lib.hid hB
  have HE := Lib.hid he
  clear hI0 hB he
  obtain ⟨f, hf⟩ : ∃ f, ltr s.data.toList s0 = f := ⟨_, rfl⟩
  have hla := fun i p (h : (s0 + i) % s.size = p) (hp : p < s.size) => @ltr_at s s0 i p h hp
  rw [hf] at hla HE
  simp only [hf] at hR
  have HRR := Lib.hid hR
  clear hR
  have HF := Lib.hid hf
  have HL := Lib.hid hla
  clear hf hla
  go_upto_region 6 with fail
  go_loopw [5, 6] (fun o k W => ∃ (A : Option Addr) (cc i : Nat), o = .slice A (runF f i).length cc ∧ k = .int .i64 i ∧ i ≤ s.size ∧ W.ownsRow w.heap.size 2 1 (.slice A (runF f i).length cc) (runF f i).length (ivs (runF f i)) ∧ Below w.heap.size w W) (fun _ k _ => s.size - (intOf k).toNat)
  case atStart => exact ⟨_, _, 0, rfl, rfl, Nat.zero_le _, World.ownsRow_made _ _ _ HB.out.size (by decide) rfl, HB.out.alloc HB.out.size _⟩
  case round =>
    obtain ⟨A, cc, i, rfl, rfl, hi, hO, hB⟩ := hrel
    have HO := Lib.hid hO
    have HB2 := Lib.hid hB
    clear hO hB
    by_cases hlt : i < s.size
    · have hin : (i : Int) < (s.size : Int) := by omega
      obtain ⟨p, hp⟩ : ∃ p, (s0 + i) % s.size = p := ⟨_, rfl⟩
      have hpl : p < s.size := by rw [← hp]; exact Nat.mod_lt _ (by omega)
      obtain ⟨q, hq⟩ : ∃ q, (p + (s.size - 1)) % s.size = q := ⟨_, rfl⟩
      have hql : q < s.size := by rw [← hq]; exact Nat.mod_lt _ (by omega)
      have e8 : ((s0 : Int) + (i : Int)).tmod (s.size : Int) = (p : Int) := by rw [← hp]; rfl
      have e9 : ((p : Int) + (s.size : Int) - 1).tmod (s.size : Int) = (q : Int) := by rw [show (p : Int) + (s.size : Int) - 1 = ((p + (s.size - 1) : Nat) : Int) by omega, ← hq]; rfl
      have hnz : ¬ (s.size : Int) = 0 := by omega
      have hnb : ((s.size : Int) == 0) = false := beq_eq_false_iff_ne.2 hnz
      have fp := HL.out i p hp hpl
      by_cases hnew : i = 0 ∨ f i ≠ f (i - 1)
      · have hstep : runF f (i + 1) = runF f i ++ [0 + 1] := by rw [runF_succ, if_pos hnew]; rfl
        obtain ⟨L, hLL⟩ : ∃ L, runF f i = L := ⟨_, rfl⟩
        have hll := (runF_le f i).1
        rw [hLL] at hstep hll
        have hO := HO.out
        rw [hLL] at hO
        rw [hLL]
        have HO2 := Lib.hid hO
        have HST := Lib.hid hstep
        clear hO HO hstep hLL
        by_cases hi0 : i = 0
        · have hq0 : ((i : Int) == 0) = true := beq_iff_eq.2 (by omega)
          clear fp hnew
          go_upto_region 9 with fail
          go_quiet (fail)
          go_upto_region 11 with ((at_builtin; refine wpList_append_lies _ rfl _ _ _ rfl w.heap.size 2 i0 (.int .i64 0) 1 8 Tryd.underlying44 HI.out.1 HI.out.2.1 HI.out.2.2.1 HI.out.2.2.2 rfl (by decide) (.slice A L.length cc) L.length (ivs L) rfl (World.ownsRow.alloc HO2.out _) ⟨wr.heap.size, 0, none⟩ 1 1 [.int .i64 0] rfl rfl (one_at _ _ _) (by simp [Value.oneCell']) (by omega) (by unfold maxLen; omega) (by omega) (by have := HB2.out.size; simp; omega) (wr.heap.size + 1) (by simp) ?_; intro g cap w3 hown3 hgrow3 hat3 hlt3; rw [show ivs L ++ [.int .i64 0] = ivs (L ++ [0]) from (ivs_cat L [0]).symm] at hown3; have c3 := (hown3.cellAt L.length (by omega)).trans (ivs_end L 0); have f3 := hown3.frozenAt L.length; have HO3 := Lib.hid hown3; have HG3 := Lib.hid hgrow3; clear hown3 hgrow3 hat3 hlt3))
          go_wp2_with fail
          go_roundw
          case rel =>
            have hlen : (runF f (i + 1)).length = L.length + 1 := by rw [HST.out]; simp
            have hst := (HO3.out.stored L.length (.int .i64 1)).1
            rw [ivs_set] at hst
            refine ⟨some ⟨g, 0, none⟩, cap, i + 1, by rw [hlen], by go_num, by omega, ?_, ?_⟩
            · rw [hlen, HST.out]
              exact hst
            · refine Below.setCell ?_ (HO3.out.lt g rfl).1 _
              exact ((below_drewN' HB2.out _).alloc HB2.out.size _).grown HG3.out (by have := HB2.out.size; simp; omega) (fun k e => (HO2.out.lt k e).1)
          case measure => simp [intOf]; omega
        · have hq0 : ((i : Int) == 0) = false := beq_eq_false_iff_ne.2 (by omega)
          have fq := HL.out (i - 1) q (by rw [← hq, ← hp, Nat.mod_add_mod, show s0 + i + (s.size - 1) = s0 + (i - 1) + s.size by omega, Nat.add_mod_right]) hql
          have hne : ((s[p].toNat : Int) != (s[q].toNat : Int)) = true := by
            rcases hnew with h | h
            · exact absurd h hi0
            · rw [fp, fq] at h
              have : ¬ (s[p].toNat : Int) = (s[q].toNat : Int) := fun e => h (by apply UInt8.toNat_inj.1; omega)
              simpa using this
          clear fp fq hnew
          go_upto_region 9 with fail
          go_quiet (fail)
          go_upto_region 11 with ((at_builtin; refine wpList_append_lies _ rfl _ _ _ rfl w.heap.size 2 i0 (.int .i64 0) 1 8 Tryd.underlying44 HI.out.1 HI.out.2.1 HI.out.2.2.1 HI.out.2.2.2 rfl (by decide) (.slice A L.length cc) L.length (ivs L) rfl (World.ownsRow.alloc HO2.out _) ⟨wr.heap.size, 0, none⟩ 1 1 [.int .i64 0] rfl rfl (one_at _ _ _) (by simp [Value.oneCell']) (by omega) (by unfold maxLen; omega) (by omega) (by have := HB2.out.size; simp; omega) (wr.heap.size + 1) (by simp) ?_; intro g cap w3 hown3 hgrow3 hat3 hlt3; rw [show ivs L ++ [.int .i64 0] = ivs (L ++ [0]) from (ivs_cat L [0]).symm] at hown3; have c3 := (hown3.cellAt L.length (by omega)).trans (ivs_end L 0); have f3 := hown3.frozenAt L.length; have HO3 := Lib.hid hown3; have HG3 := Lib.hid hgrow3; clear hown3 hgrow3 hat3 hlt3))
          go_wp2_with fail
          go_roundw
          case rel =>
            have hlen : (runF f (i + 1)).length = L.length + 1 := by rw [HST.out]; simp
            have hst := (HO3.out.stored L.length (.int .i64 1)).1
            rw [ivs_set] at hst
            refine ⟨some ⟨g, 0, none⟩, cap, i + 1, by rw [hlen], by go_num, by omega, ?_, ?_⟩
            · rw [hlen, HST.out]
              exact hst
            · refine Below.setCell ?_ (HO3.out.lt g rfl).1 _
              exact ((below_drewN' HB2.out _).alloc HB2.out.size _).grown HG3.out (by have := HB2.out.size; simp; omega) (fun k e => (HO2.out.lt k e).1)
          case measure => simp [intOf]; omega
      · obtain ⟨L, x, hL1, hL2⟩ := runF_last hnew
        have hi0 : ¬ i = 0 := fun e => hnew (.inl e)
        have hll := (runF_le f i).1
        have hbd := (runF_le f i).2
        have hq0 : ((i : Int) == 0) = false := beq_eq_false_iff_ne.2 (by omega)
        have fq := HL.out (i - 1) q (by rw [← hq, ← hp, Nat.mod_add_mod, show s0 + i + (s.size - 1) = s0 + (i - 1) + s.size by omega, Nat.add_mod_right]) hql
        have hne : ((s[p].toNat : Int) != (s[q].toNat : Int)) = false := by
          have h : f i = f (i - 1) := Decidable.not_not.1 fun h => hnew (.inr h)
          rw [fp, fq] at h
          rw [h]
          simp
        have hO := HO.out
        rw [hL1] at hO hll hbd
        rw [List.length_append, List.length_singleton] at hll hO
        have hx := hbd x (by simp)
        obtain ⟨g, cap, eg, hge, hgl⟩ := hO.form (by omega)
        obtain ⟨rfl, rfl⟩ : A = some ⟨g, 0, none⟩ ∧ cc = cap := by injection eg with e1 _ e3; exact ⟨e1, e3⟩
        have c3 := (hO.cellAt L.length (by omega)).trans (ivs_end L x)
        have f3 := hO.frozenAt L.length
        rw [hL1, List.length_append, List.length_singleton]
        have HO2 := Lib.hid hO
        have HST := Lib.hid hL2
        clear hO HO hL1 hL2 hbd fp fq hnew eg
        go_upto_region 9 with fail
        go_quiet (fail)
        go_wp2_with fail
        go_roundw
        case rel =>
          have hlen : (runF f (i + 1)).length = L.length + 1 := by rw [HST.out]; simp
          have hst := (HO2.out.stored L.length (.int .i64 (x + 1))).1
          rw [ivs_set] at hst
          refine ⟨some ⟨g, 0, none⟩, cc, i + 1, by rw [hlen], by go_num, by omega, ?_, ?_⟩
          · rw [hlen, HST.out]
            exact hst
          · exact Below.setCell (below_drewN' HB2.out _) hge _
        case measure => simp [intOf]; omega
    · obtain rfl : i = s.size := by omega
      go_upto_region 12 with fail
      obtain ⟨g, cap, eg, _, _⟩ := HO.out.form HE.out.2
      obtain ⟨rfl, rfl⟩ : A = some ⟨g, 0, none⟩ ∧ cc = cap := by injection eg with e1 _ e3; exact ⟨e1, e3⟩
      refine perC g (runF f s.size).length cc (runF f s.size) w _ _ _ _ _ _ _ _ _ _ _ _ _ _ _ _ _ _ _ _ _ _ _ _ _ _ _ _ _ _ _ _ _ _ _ _ _ _ _ _ _ _ _ _ _ _ _ _ _ _ _ _ _ _ _ _ _ _ _ _ _ _ _ _ _ _ _ _ _ _ _ _ _ _ _ _ _ _ _ _ _ _ _  HB2.out HO.out rfl HE.out.2 (by have := (runF_le f s.size).1; omega) HE.out.1 HRR.out ?_
      assumption
theorem good_at {s : ByteArray} {g q : Nat} (hg : g < s.size) (hq : (g + (s.size - 1)) % s.size = q) (hql : q < s.size) : good s.data.toList g ↔ s[g] = 82 ∧ s[q] = 76 := by
  have hlen : s.data.toList.length = s.size := Array.length_toList
  unfold good
  rw [hlen, ltr_at (s := s) (s0 := g) (i := 0) (p := g) (by rw [Nat.add_zero, Nat.mod_eq_of_lt hg]) hg, ltr_at hq hql]
  exact ⟨fun h => h.2, fun h => ⟨hg, h⟩⟩
set_option maxRecDepth 1000000 in
theorem per_any (s : ByteArray) (g : Nat) (hs : s.size ≤ 1000) (hw : ∀ c ∈ s.data.toList, c = 76 ∨ c = 82) (hg : good s.data.toList g) (w : World) : Calls Tryd.prog 53 #[.string s] w fun e w' =>
    (∃ v, e = .returned v ∧ w'.ownsRow w.heap.size 2 1 v (perL s.data.toList g).length (ivs (perL s.data.toList g))) ∧ Below w.heap.size w w' := by
  have hlen : s.data.toList.length = s.size := Array.length_toList
  have hgl := hg.1
  rw [hlen] at hgl
  have hsame := fun i (h : good s.data.toList i) => perL_same hw h hg
  have hev := fun i (h : good s.data.toList i) => runs_even hw h
  have hgood := fun i q => @good_at s i q
  rw [hlen] at hev
  have hR : ∀ i, good s.data.toList i → ∀ (e : Ending) (w' : World), ((∃ v, e = .returned v ∧ w'.ownsRow w.heap.size 2 1 v (runF (ltr s.data.toList i) s.size).length (ivs (bestI (runF (ltr s.data.toList i) s.size) ((runF (ltr s.data.toList i) s.size).length / 2)))) ∧ Below w.heap.size w w') →
      ((∃ v, e = .returned v ∧ w'.ownsRow w.heap.size 2 1 v (perL s.data.toList g).length (ivs (perL s.data.toList g))) ∧ Below w.heap.size w w') := by
    rintro i hi e w' ⟨⟨v, rfl, hv⟩, hb⟩
    have he := hev i hi
    have e1 : bestI (runF (ltr s.data.toList i) s.size) ((runF (ltr s.data.toList i) s.size).length / 2) = perL s.data.toList g := by
      rw [← hsame i hi]
      unfold perL
      rw [hlen]
    have e2 := bestI_len (xs := runF (ltr s.data.toList i) s.size) (j := (runF (ltr s.data.toList i) s.size).length / 2) (by omega) (by omega)
    rw [e1] at e2 hv
    rw [← e2] at hv
    exact ⟨⟨v, rfl, hv⟩, hb⟩
  have HG := Lib.hid hgood
  have HW := Lib.hid hev
  have HR := Lib.hid hR
  have Hg := Lib.hid hg
  clear hgood hev hR hsame hg hw hlen
  go_enter Tryd.func53, Tryd.ntmps53
  go_upto_region 2 with fail
  go_loopw [4] (fun o W => ∃ i : Nat, o = .int .i64 i ∧ i ≤ g ∧ W = w) (fun o _ => g - (intOf o).toNat)
  case atStart => exact ⟨0, rfl, by omega, rfl⟩
  case round =>
    obtain ⟨i, rfl, hi, rfl⟩ := hrel
    have hil : i < s.size := by omega
    have hin : (i : Int) < (s.size : Int) := by omega
    obtain ⟨q, hq⟩ : ∃ q, (i + (s.size - 1)) % s.size = q := ⟨_, rfl⟩
    have hql : q < s.size := by rw [← hq]; exact Nat.mod_lt _ (by omega)
    have e9 : ((i : Int) + (s.size : Int) - 1).tmod (s.size : Int) = (q : Int) := by rw [show (i : Int) + (s.size : Int) - 1 = ((i + (s.size - 1) : Nat) : Int) by omega, ← hq]; rfl
    have hnz : ¬ (s.size : Int) = 0 := by omega
    have hnb : ((s.size : Int) == 0) = false := beq_eq_false_iff_ne.2 hnz
    have hgi := HG.out i q hil hq hql
    have hng : ¬ good s.data.toList i → i < g := fun h => by
      rcases Nat.lt_or_ge i g with h1 | h1
      · exact h1
      · obtain rfl : i = g := by omega
        exact absurd Hg.out h
    by_cases h1 : s[i] = 82
    · have b1 : ((s[i].toNat : Int) != 82) = false := by rw [h1]; rfl
      by_cases h2 : s[q] = 76
      · have b2 : ((s[q].toNat : Int) != 76) = false := by rw [h2]; rfl
        have hgo := hgi.2 ⟨h1, h2⟩
        have HGo := Lib.hid hgo
        clear hgi hng hgo h1 h2 hq
        go_upto_region 4 with fail
        refine perB s i wr _ _ _ _ _ _ _ _ _ _ _ _ _ _ _ _ _ _ _ _ _ _ _ _ _ _ _ _ _ _ _ _ _ _ _ _ _ _ _ _ _ _ _ _ _ _ _ _ _ _ _ _ _ _ _ _ _ _ _ _ _ _ _ _ _ _ _ _ _ _ _ _ _ _ _ _ _ _ _ _ _  (Below.refl _ _) hil hs (HW.out i HGo.out) (HR.out i HGo.out) ?_
        assumption
      · have b2 : ((s[q].toNat : Int) != 76) = true := by
          have : ¬ (s[q].toNat : Int) = 76 := fun e => h2 (by apply UInt8.toNat_inj.1; show s[q].toNat = 76; omega)
          simpa using this
        have hlt := hng fun h => h2 (hgi.1 h).2
        clear hgi hng h1 h2 hq
        go_wp2
        go_roundw
        case rel => exact ⟨i + 1, by go_num, by omega, trivial⟩
        case measure => simp [intOf]; omega
    · have b1 : ((s[i].toNat : Int) != 82) = true := by
        have : ¬ (s[i].toNat : Int) = 82 := fun e => h1 (by apply UInt8.toNat_inj.1; show s[i].toNat = 82; omega)
        simpa using this
      have hlt := hng fun h => h1 (hgi.1 h).1
      clear hgi hng h1 hq
      go_wp2
      go_roundw
      case rel => exact ⟨i + 1, by go_num, by omega, trivial⟩
      case measure => simp [intOf]; omega
end Go.Proofs.YtajjoihfccnfhaaDoor
