/-
  Parts of texts, and points read out of texts, by the reference. Condition: the sizes, as each says.
-/
import Derived.Test.YtajjoihfccnfhaaDoorCtz
import Derived.Test.YtajjoihfccnfhaaDoorCpp
namespace Go.Proofs.YtajjoihfccnfhaaDoor
open Go.RowKit
set_option maxHeartbeats 1000000
def strsV (ps : List (List UInt8)) : List Value := ps.map fun p => .string ⟨p.toArray⟩
theorem strsV_snoc (ps : List (List UInt8)) (p : List UInt8) : strsV (ps ++ [p]) = strsV ps ++ [.string ⟨p.toArray⟩] := by simp [strsV]
/-- A row of texts. -/
def TSl (w : World) (A : Option Addr) (n : Nat) (ps : List (List UInt8)) : Prop := n = ps.length ∧ ∃ b off, A = some ⟨b, off, none⟩ ∧ b < w.heap.size ∧ ∀ j x, ps[j]? = some x → w.cell? ⟨b, off + j, none⟩ = some (.string ⟨x.toArray⟩)
theorem TSl.keep {w w1 : World} {A : Option Addr} {n : Nat} {ps : List (List UInt8)} (h : TSl w A n ps) (hb : Below w.heap.size w w1) : TSl w1 A n ps := by
  obtain ⟨rfl, b, off, rfl, hlt, hx⟩ := h
  exact ⟨rfl, b, off, rfl, Nat.lt_of_lt_of_le hlt hb.size, fun j x hj => cell_keep hb (hx j x hj)⟩
theorem ext_list (s : ByteArray) (a b : Nat) : s.extract a b = ⟨((s.data.toList.drop a).take (b - a)).toArray⟩ := by
  have : (s.extract a b).data.toList = (s.data.toList.drop a).take (b - a) := by
    simp only [ByteArray.data_extract, Array.toList_extract, List.extract_eq_take_drop]
  rw [← this]
theorem take_step {L : List UInt8} {a j : Nat} (h : a ≤ j) (hj : j < L.length) : (L.drop a).take (j - a) ++ [L[j]] = (L.drop a).take (j + 1 - a) := by
  rw [show j + 1 - a = (j - a) + 1 by omega, List.take_add_one, List.getElem?_drop, show a + (j - a) = j by omega, List.getElem?_eq_getElem hj]
  rfl
theorem ts_out {w : World} {base : Nat} {T : TypeId} {A : Option Addr} {n c : Nat} {ps : List (List UInt8)} (h : w.ownsRow base T 1 (.slice A n c) n (strsV ps)) (hn : n = ps.length) (h0 : 0 < n) : TSl w A n ps := by
  have hcells := fun g => @World.ownsRow.cells w base T 1 (.slice A n c) n (strsV ps) h g
  obtain ⟨_, ⟨_, hz⟩ | ⟨g, cap, cur, hv, hbs, hg, hcu, hca, hrest⟩⟩ := h
  · omega
  · obtain ⟨rfl, rfl⟩ : A = some ⟨g, 0, none⟩ ∧ c = cap := by cases hv; exact ⟨rfl, rfl⟩
    refine ⟨hn, g, 0, rfl, ?_, fun j x hj => ?_⟩
    · rcases Nat.lt_or_ge g w.heap.size with hlt | hge
      · exact hlt
      · rw [Array.getElem?_eq_none hge] at hg; cases hg
    · have := hcells g rfl j (.string ⟨x.toArray⟩) (by unfold strsV; rw [List.getElem?_map, hj]; rfl)
      rw [add_at] at this; exact this
set_option maxRecDepth 100000 in
theorem l01Split_any (s : ByteArray) (c : UInt8) (w : World) (hs : s.size ≤ 1048576) : Calls Tryd.prog 79 #[.string s, .int .u8 (c.toNat : Int)] w fun e w' =>
    (∃ A n' cc, e = .returned (.slice A n' cc) ∧ TSl w' A n' (splitGo c [] s.data.toList) ∧ ∀ b o, A = some ⟨b, o, none⟩ → w.heap.size ≤ b) ∧ Below w.heap.size w w' := by
  have hlen : s.data.toList.length = s.size := Array.length_toList
  obtain ⟨i0, hI0⟩ := info_parts infoStr
  have HI := Lib.hid hI0
  clear hI0
  go_enter Tryd.func79, Tryd.ntmps79
  go_wp2
  go_loopw [5, 6, 7] (fun v o i W => ∃ (j a : Nat) (ps : List (List UInt8)) (A' : Option Addr) (cc : Nat), i = .int .i64 j ∧ o = .int .i64 a ∧ a ≤ j ∧ j ≤ s.size ∧ ps.length ≤ j ∧ v = .slice A' ps.length cc ∧ W.ownsRow w.heap.size 9 1 v ps.length (strsV ps) ∧ splitGo c [] s.data.toList = ps ++ splitGo c ((s.data.toList.drop a).take (j - a)) (s.data.toList.drop j) ∧ Below w.heap.size w W) (fun _ _ i _ => s.size - (intOf i).toNat)
  case atStart => exact ⟨0, 0, [], some ⟨w.heap.size, 0, none⟩, 0, rfl, rfl, Nat.le_refl _, Nat.zero_le _, Nat.zero_le _, rfl, World.ownsRow_made _ _ _ (by omega) (by decide) rfl, rfl, by (repeat' (first | (with_reducible exact Below.refl _ _) | (with_reducible refine Below.alloc ?_ ?_ _) | (with_reducible refine Below.drew ?_) | (with_reducible refine below_drewN' ?_ _) | (with_reducible refine Below.setCell ?_ ?_ _) | (with_reducible refine Below.trans ?_ (Below.mono (by assumption) ?_)) | go_size))⟩
  case round =>
    obtain ⟨j, a, ps, A', cc, rfl, rfl, haj, hj, hpj, rfl, hown, hgo, hB⟩ := hrel
    have HO := Lib.hid hown
    have HG := Lib.hid hgo
    have hB1 := hB.size
    have HB := Lib.hid hB
    clear hown hgo hB
    by_cases hjn : j < s.size
    · have hds : s.data.toList.drop j = s[j] :: s.data.toList.drop (j + 1) := by
        rw [List.drop_eq_getElem_cons (by rw [hlen]; exact hjn)]; rfl
      have hst : (s.data.toList.drop a).take (j - a) ++ [s[j]] = (s.data.toList.drop a).take (j + 1 - a) := take_step haj (by rw [hlen]; exact hjn)
      have hin : (j : Int) < (s.size : Int) := by omega
      have ej : wrap64 ((j : Int) + 1) = (j : Int) + 1 := by unfold wrap64; omega
      by_cases hc : s[j] = c
      · have hc' : (s[j].toNat : Int) = (c.toNat : Int) := by rw [hc]
        have hg2 : splitGo c [] s.data.toList = (ps ++ [(s.data.toList.drop a).take (j - a)]) ++ splitGo c ((s.data.toList.drop (j + 1)).take (j + 1 - (j + 1))) (s.data.toList.drop (j + 1)) := by
          rw [HG.out, hds, splitGo_cons, if_pos hc, Nat.sub_self, List.take_zero, List.append_assoc, List.singleton_append]
        have HG2 := Lib.hid hg2
        have hex := ext_list s a j
        have HX := Lib.hid hex
        clear hds hst hg2 hex
        go_wp2_with (at_builtin; go_must ((refine wpList_append_lies _ rfl _ _ _ rfl w.heap.size 9 i0 (.string ⟨#[]⟩) 1 16 Tryd.underlying79 HI.out.1 HI.out.2.1 HI.out.2.2.1 HI.out.2.2.2 rfl (by decide) (.slice A' ps.length cc) ps.length (strsV ps) rfl ((HO.out).alloc _) ⟨wr.heap.size, 0, none⟩ 1 1 [.string (s.extract a j)] rfl rfl (new_str _ _ _) (by simp [Value.oneCell']) (by omega) (by unfold maxLen; omega) (by omega) (by simp; omega) (wr.heap.size + 1) (by simp) ?_)); intro g cap w3 hown3 hgrow3 hat3 hlt3)
        refine ⟨⟨j + 1, j + 1, ps ++ [(s.data.toList.drop a).take (j - a)], some ⟨g, 0, none⟩, cap, by go_num, by go_num, Nat.le_refl _, by omega, by simp; omega, by simp, ?_, HG2.out, ?_⟩, by simp [intOf]; omega⟩
        · rw [strsV_snoc, ← HX.out, List.length_append]; exact hown3
        · exact (HB.out.alloc hB1 _).grown hgrow3 (by simp only [World.size_alloc]; omega) (fun k e => (HO.out.lt k e).1)
      · have hc' : ¬ (s[j].toNat : Int) = (c.toNat : Int) := fun h => hc (UInt8.toNat_inj.1 (by omega))
        have hg2 : splitGo c [] s.data.toList = ps ++ splitGo c ((s.data.toList.drop a).take (j + 1 - a)) (s.data.toList.drop (j + 1)) := by
          rw [HG.out, hds, splitGo_cons, if_neg hc, hst]
        have HG2 := Lib.hid hg2
        clear hds hst hg2
        go_wp2
        exact ⟨⟨j + 1, a, ps, A', cc, by go_num, rfl, by omega, by omega, by omega, rfl, HO.out, HG2.out, HB.out⟩, by simp [intOf]; omega⟩
    · obtain rfl : j = s.size := by omega
      have hg2 : splitGo c [] s.data.toList = ps ++ [(s.data.toList.drop a).take (s.size - a)] := by
        rw [HG.out, show s.data.toList.drop s.size = [] from List.drop_eq_nil_of_le (Nat.le_of_eq hlen)]; rfl
      have HG2 := Lib.hid hg2
      have hex := ext_list s a s.size
      have HX := Lib.hid hex
      clear hg2 hex
      go_wp2_with (at_builtin; go_must ((refine wpList_append_lies _ rfl _ _ _ rfl w.heap.size 9 i0 (.string ⟨#[]⟩) 1 16 Tryd.underlying79 HI.out.1 HI.out.2.1 HI.out.2.2.1 HI.out.2.2.2 rfl (by decide) (.slice A' ps.length cc) ps.length (strsV ps) rfl ((HO.out).alloc _) ⟨wr.heap.size, 0, none⟩ 1 1 [.string (s.extract a s.size)] rfl rfl (new_str _ _ _) (by simp [Value.oneCell']) (by omega) (by unfold maxLen; omega) (by omega) (by simp; omega) (wr.heap.size + 1) (by simp) ?_)); intro g cap w3 hown3 hgrow3 hat3 hlt3)
      go_returns
      refine ⟨⟨_, _, _, rfl, ?_, fun b o e => by cases e; exact (hown3.lt g rfl).1⟩, ?_⟩
      · rw [HG2.out]
        refine ts_out (base := w.heap.size) (T := 9) (c := cap) ?_ (by simp) (by omega)
        rw [strsV_snoc, ← HX.out]; exact hown3
      · exact (HB.out.alloc hB1 _).grown hgrow3 (by simp only [World.size_alloc]; omega) (fun k e => (HO.out.lt k e).1)
theorem readV_two {l a b : List UInt8} (h : splitGo 44 [] l = [a, b]) : readV l = if (sgnV a).2 = true ∧ (sgnV b).2 = true ∧ ptB (sgnV a).1 (sgnV b).1 = true then some ((sgnV a).1, (sgnV b).1) else none := by
  unfold readV
  rw [h]
theorem readV_not {l : List UInt8} (h : (splitGo 44 [] l).length ≠ 2) : readV l = none := by
  unfold readV
  split
  · rename_i a b e
    rw [e] at h
    exact absurd rfl h
  · rfl
theorem post_genP {P : Program} {fn : Func} {R : Ending → World → Prop} {ex : Exit} {a : Act} {W : World} {G : World → Prop} (hF : G W) (h : ∀ w2, G w2 → bodyPost P fn R ex a w2) : bodyPost P fn R ex a W := h W hF
def readR (l : List UInt8) : Int × Int × Bool := match readV l with
  | some (x, y) => (x, y, true)
  | none => (0, 0, false)
theorem l01Read_any (s : ByteArray) (w : World) (hs : s.size ≤ 1048576) : Calls Tryd.prog 55 #[.string s] w fun e w' =>
    e = .returned (.tuple #[.agg #[.int .i64 (readR s.data.toList).1, .int .i64 (readR s.data.toList).2.1], .bool (readR s.data.toList).2.2]) ∧ Below w.heap.size w w' := by
  have hsp := fun W => l01Split_any s 44 W hs
  rw [show (((44 : UInt8).toNat : Nat) : Int) = 44 from rfl] at hsp
  have HS := Lib.hid hsp
  clear hsp
  obtain ⟨ps, hps⟩ : ∃ ps, splitGo 44 [] s.data.toList = ps := ⟨_, rfl⟩
  have hsp := HS.out
  rw [hps] at hsp
  have HS := Lib.hid hsp
  clear hsp
  by_cases hl : ps.length = 2
  · match ps, hl with
    | [a, b], _ =>
      have hr := readV_two hps
      have ha := fun W => l01Signed_any ⟨a.toArray⟩ W
      have hb := fun W => l01Signed_any ⟨b.toArray⟩ W
      have ea : (⟨a.toArray⟩ : ByteArray).data.toList = a := rfl
      have eb : (⟨b.toArray⟩ : ByteArray).data.toList = b := rfl
      rw [ea] at ha
      rw [eb] at hb
      unfold readR
      rw [hr]
      obtain ⟨⟨x, p⟩, hx⟩ : ∃ r, sgnV a = r := ⟨_, rfl⟩
      obtain ⟨⟨y, q⟩, hy⟩ : ∃ r, sgnV b = r := ⟨_, rfl⟩
      rw [hx] at ha ⊢
      rw [hy] at hb ⊢
      dsimp only at ha hb ⊢
      have hi := fun W => l01Is_any x y W
      obtain ⟨z, hz⟩ : ∃ z, ptB x y = z := ⟨_, rfl⟩
      rw [hz] at hi ⊢
      obtain ⟨s1, hs1⟩ : ∃ r, (⟨a.toArray⟩ : ByteArray) = r := ⟨_, rfl⟩
      obtain ⟨s2, hs2⟩ : ∃ r, (⟨b.toArray⟩ : ByteArray) = r := ⟨_, rfl⟩
      rw [hs1] at ha
      rw [hs2] at hb
      have HA := Lib.hid ha
      have HB := Lib.hid hb
      have HI := Lib.hid hi
      clear hr ha hb ea eb hx hy hi hz hps hs
      cases p <;> cases q <;> cases z
      all_goals
        simp only [Bool.false_eq_true, and_false, false_and, and_self, if_true, if_false]
        go_enter Tryd.func55, Tryd.ntmps55
        go_wp2_with (first
          | (go_at_call 79; go_must ((with_reducible refine (HS.out _).mono ?_)); rintro e w1 ⟨⟨A, n', cc, rfl, hrow, _⟩, hb1⟩; obtain ⟨rfl, b1, o1, rfl, hlt, hx⟩ := hrow; have c0 := hx 0 a rfl; have c1 := hx 1 b rfl; rw [hs1, Nat.add_zero] at c0; rw [hs2] at c1; clear hx; obtain ⟨hc1, hf1, hz1, hn1⟩ := bstep 1 w hb1 (by go_size); (try (refine gcut (p := (w1.cell? ⟨w.heap.size, 0, none⟩ = some (.int .i64 0) ∧ w1.cell? ⟨w.heap.size, 1, none⟩ = some (.int .i64 0)) ∧ (w1.frozen? ⟨w.heap.size, 0, none⟩ = false ∧ w1.frozen? ⟨w.heap.size, 1, none⟩ = false) ∧ w.heap.size < w1.heap.size ∧ ¬ w1.heap.size = w.heap.size) ?_ ?_; (focus (refine ⟨?_, ?_, ?_, ?_⟩; (focus (((repeat' apply And.intro) <;> (repeat' (first | (with_reducible assumption) | (with_reducible refine keep_drew ?_) | (with_reducible refine keep_setx (by omega) ?_) | (with_reducible refine keep_hc (by with_reducible assumption) (by omega) ?_) | (focus (go_simp; done)) | (with_reducible refine keep_alloc ?_)))); done)); (focus (((repeat' apply And.intro) <;> (repeat' (first | (with_reducible assumption) | (with_reducible refine fz_drew ?_) | (with_reducible refine fz_set ?_) | (with_reducible refine fz_hc (by with_reducible assumption) (by omega) ?_) | (focus (go_simp; done)) | (with_reducible refine fz_alloc ?_ ?_) | go_size))); done)); (focus (go_size; done)); (focus (go_size; done)))); rintro ⟨⟨q0, q1⟩, ⟨qf0, qf1⟩, qs, qn⟩)))
          | (go_at_call_of 80 (Value.string s1); go_must ((with_reducible refine (HA.out _).mono ?_)); rintro e w2 ⟨rfl, hb2⟩; have c1' := cell_keep hb2 c1; obtain ⟨hc2, hf2, hz2, hn2⟩ := bstep 1 w hb2 (by go_size); (try (refine gcut (p := (w2.cell? ⟨w.heap.size, 0, none⟩ = some (.int .i64 0) ∧ w2.cell? ⟨w.heap.size, 1, none⟩ = some (.int .i64 0)) ∧ (w2.frozen? ⟨w.heap.size, 0, none⟩ = false ∧ w2.frozen? ⟨w.heap.size, 1, none⟩ = false) ∧ w.heap.size < w2.heap.size ∧ ¬ w2.heap.size = w.heap.size) ?_ ?_; (focus (refine ⟨?_, ?_, ?_, ?_⟩; (focus (((repeat' apply And.intro) <;> (repeat' (first | (with_reducible assumption) | (with_reducible refine keep_drew ?_) | (with_reducible refine keep_setx (by omega) ?_) | (with_reducible refine keep_hc (by with_reducible assumption) (by omega) ?_) | (focus (go_simp; done)) | (with_reducible refine keep_alloc ?_)))); done)); (focus (((repeat' apply And.intro) <;> (repeat' (first | (with_reducible assumption) | (with_reducible refine fz_drew ?_) | (with_reducible refine fz_set ?_) | (with_reducible refine fz_hc (by with_reducible assumption) (by omega) ?_) | (focus (go_simp; done)) | (with_reducible refine fz_alloc ?_ ?_) | go_size))); done)); (focus (go_size; done)); (focus (go_size; done)))); rintro ⟨⟨r0, r1⟩, ⟨rf0, rf1⟩, rs, rn⟩)))
          | (go_at_call_of 80 (Value.string s2); go_must ((with_reducible refine (HB.out _).mono ?_)); rintro e w3 ⟨rfl, hb3⟩; obtain ⟨hc3, hf3, hz3, hn3⟩ := bstep 1 w hb3 (by go_size); (try (refine gcut (p := (w3.cell? ⟨w.heap.size, 0, none⟩ = some (.int .i64 0) ∧ w3.cell? ⟨w.heap.size, 1, none⟩ = some (.int .i64 0)) ∧ (w3.frozen? ⟨w.heap.size, 0, none⟩ = false ∧ w3.frozen? ⟨w.heap.size, 1, none⟩ = false) ∧ w.heap.size < w3.heap.size ∧ ¬ w3.heap.size = w.heap.size) ?_ ?_; (focus (refine ⟨?_, ?_, ?_, ?_⟩; (focus (((repeat' apply And.intro) <;> (repeat' (first | (with_reducible assumption) | (with_reducible refine keep_drew ?_) | (with_reducible refine keep_setx (by omega) ?_) | (with_reducible refine keep_hc (by with_reducible assumption) (by omega) ?_) | (focus (go_simp; done)) | (with_reducible refine keep_alloc ?_)))); done)); (focus (((repeat' apply And.intro) <;> (repeat' (first | (with_reducible assumption) | (with_reducible refine fz_drew ?_) | (with_reducible refine fz_set ?_) | (with_reducible refine fz_hc (by with_reducible assumption) (by omega) ?_) | (focus (go_simp; done)) | (with_reducible refine fz_alloc ?_ ?_) | go_size))); done)); (focus (go_size; done)); (focus (go_size; done)))); rintro ⟨⟨u0, u1⟩, ⟨uf0, uf1⟩, us, un⟩)))
          | (go_at_call 35; go_must ((with_reducible refine (HI.out _).mono ?_)); rintro e w4 ⟨rfl, hb4⟩; obtain ⟨hc4, hf4, hz4, hn4⟩ := bstep 1 w hb4 (by go_size); obtain ⟨hd4, he4, hy4, hx4⟩ := bstep 1 w3 hb4 (by go_size); (try (refine gcut (p := (w4.cell? ⟨w.heap.size, 0, none⟩ = some (.int .i64 0) ∧ w4.cell? ⟨w.heap.size, 1, none⟩ = some (.int .i64 0)) ∧ (w4.frozen? ⟨w.heap.size, 0, none⟩ = false ∧ w4.frozen? ⟨w.heap.size, 1, none⟩ = false) ∧ w.heap.size < w4.heap.size ∧ ¬ w4.heap.size = w.heap.size) ?_ ?_; (focus (refine ⟨?_, ?_, ?_, ?_⟩; (focus (((repeat' apply And.intro) <;> (repeat' (first | (with_reducible assumption) | (with_reducible refine keep_drew ?_) | (with_reducible refine keep_setx (by omega) ?_) | (with_reducible refine keep_hc (by with_reducible assumption) (by omega) ?_) | (focus (go_simp; done)) | (with_reducible refine keep_alloc ?_)))); done)); (focus (((repeat' apply And.intro) <;> (repeat' (first | (with_reducible assumption) | (with_reducible refine fz_drew ?_) | (with_reducible refine fz_set ?_) | (with_reducible refine fz_hc (by with_reducible assumption) (by omega) ?_) | (focus (go_simp; done)) | (with_reducible refine fz_alloc ?_ ?_) | go_size))); done)); (focus (go_size; done)); (focus (go_size; done)))); rintro ⟨⟨k0, k1⟩, ⟨kf0, kf1⟩, ks, kn⟩)); (try (refine gcut (p := (w4.cell? ⟨w3.heap.size, 0, none⟩ = some (.int .i64 x) ∧ w4.cell? ⟨w3.heap.size, 1, none⟩ = some (.int .i64 y)) ∧ (w4.frozen? ⟨w3.heap.size, 0, none⟩ = false ∧ w4.frozen? ⟨w3.heap.size, 1, none⟩ = false) ∧ w3.heap.size < w4.heap.size ∧ ¬ w4.heap.size = w3.heap.size) ?_ ?_; (focus (refine ⟨?_, ?_, ?_, ?_⟩; (focus (((repeat' apply And.intro) <;> (repeat' (first | (with_reducible assumption) | (with_reducible refine keep_drew ?_) | (with_reducible refine keep_setx (by omega) ?_) | (with_reducible refine keep_hc (by with_reducible assumption) (by omega) ?_) | (focus (go_simp; done)) | (with_reducible refine keep_alloc ?_)))); done)); (focus (((repeat' apply And.intro) <;> (repeat' (first | (with_reducible assumption) | (with_reducible refine fz_drew ?_) | (with_reducible refine fz_set ?_) | (with_reducible refine fz_hc (by with_reducible assumption) (by omega) ?_) | (focus (go_simp; done)) | (with_reducible refine fz_alloc ?_ ?_) | go_size))); done)); (focus (go_size; done)); (focus (go_size; done)))); rintro ⟨⟨m0, m1⟩, ⟨mf0, mf1⟩, ms, mn⟩))))
        all_goals (first | (refine post_genP (G := fun W => (W.cell? ⟨w.heap.size, 0, none⟩ = some (.int .i64 0) ∧ W.cell? ⟨w.heap.size, 1, none⟩ = some (.int .i64 0)) ∧ Below w.heap.size w W) ⟨?_, ?_⟩ ?_; (focus (refine ⟨?_, ?_⟩; (focus ((try with_reducible refine keep_alloc ?_); exact (set2P (o := 0) (by with_reducible assumption) (by with_reducible assumption)).1)); (focus ((try with_reducible refine keep_alloc ?_); exact (set2P (o := 0) (by with_reducible assumption) (by with_reducible assumption)).2.1)))); (focus ((repeat' (first | (with_reducible exact Below.refl _ _) | (with_reducible refine Below.alloc ?_ ?_ _) | (with_reducible refine Below.drew ?_) | (with_reducible refine below_drewN' ?_ _) | (with_reducible refine Below.setCell ?_ ?_ _) | (with_reducible refine Below.trans ?_ (Below.mono (by assumption) ?_)) | go_size)); done)); (rintro W2 ⟨⟨z0, z1⟩, hB⟩; refine bodyPost_ret (v := .tuple #[.agg #[.int .i64 0, .int .i64 0], .bool false]) (by simp [results, Tryd.results55, go_sem, *]) rfl ?_; exact ⟨rfl, hB⟩)) | (refine post_genP (G := fun W => (W.cell? ⟨w.heap.size, 0, none⟩ = some (.int .i64 x) ∧ W.cell? ⟨w.heap.size, 1, none⟩ = some (.int .i64 y)) ∧ Below w.heap.size w W) ⟨?_, ?_⟩ ?_; (focus (refine ⟨?_, ?_⟩; (focus ((try with_reducible refine keep_alloc ?_); exact (set2P (o := 0) (by with_reducible assumption) (by with_reducible assumption)).1)); (focus ((try with_reducible refine keep_alloc ?_); exact (set2P (o := 0) (by with_reducible assumption) (by with_reducible assumption)).2.1)))); (focus ((repeat' (first | (with_reducible exact Below.refl _ _) | (with_reducible refine Below.alloc ?_ ?_ _) | (with_reducible refine Below.drew ?_) | (with_reducible refine below_drewN' ?_ _) | (with_reducible refine Below.setCell ?_ ?_ _) | (with_reducible refine Below.trans ?_ (Below.mono (by assumption) ?_)) | go_size)); done)); (rintro W2 ⟨⟨z0, z1⟩, hB⟩; refine bodyPost_ret (v := .tuple #[.agg #[.int .i64 x, .int .i64 y], .bool true]) (by simp [results, Tryd.results55, go_sem, *]) rfl ?_; exact ⟨rfl, hB⟩)))
  · have hr : readV s.data.toList = none := readV_not (by rw [hps]; exact hl)
    unfold readR
    rw [hr]
    dsimp only
    have hli : ¬ (ps.length : Int) = 2 := by omega
    have hlb : ((ps.length : Int) == 2) = false := by simpa using hli
    clear hr hps hs
    go_enter Tryd.func55, Tryd.ntmps55
    go_wp2_with (first
      | (go_at_call 79; go_must ((with_reducible refine (HS.out _).mono ?_)); rintro e w1 ⟨⟨A, n', cc, rfl, ⟨rfl, _⟩, _⟩, hb1⟩; obtain ⟨hc1, hf1, hz1, hn1⟩ := bstep 1 w hb1 (by go_size); (try (refine gcut (p := (w1.cell? ⟨w.heap.size, 0, none⟩ = some (.int .i64 0) ∧ w1.cell? ⟨w.heap.size, 1, none⟩ = some (.int .i64 0)) ∧ (w1.frozen? ⟨w.heap.size, 0, none⟩ = false ∧ w1.frozen? ⟨w.heap.size, 1, none⟩ = false) ∧ w.heap.size < w1.heap.size ∧ ¬ w1.heap.size = w.heap.size) ?_ ?_; (focus (refine ⟨?_, ?_, ?_, ?_⟩; (focus (((repeat' apply And.intro) <;> (repeat' (first | (with_reducible assumption) | (with_reducible refine keep_drew ?_) | (with_reducible refine keep_setx (by omega) ?_) | (with_reducible refine keep_hc (by with_reducible assumption) (by omega) ?_) | (focus (go_simp; done)) | (with_reducible refine keep_alloc ?_)))); done)); (focus (((repeat' apply And.intro) <;> (repeat' (first | (with_reducible assumption) | (with_reducible refine fz_drew ?_) | (with_reducible refine fz_set ?_) | (with_reducible refine fz_hc (by with_reducible assumption) (by omega) ?_) | (focus (go_simp; done)) | (with_reducible refine fz_alloc ?_ ?_) | go_size))); done)); (focus (go_size; done)); (focus (go_size; done)))); rintro ⟨⟨q0, q1⟩, ⟨qf0, qf1⟩, qs, qn⟩))))
    refine bodyPost_ret (v := .tuple #[.agg #[.int .i64 0, .int .i64 0], .bool false]) (by simp [results, Tryd.results55, go_sem, *]) rfl ?_
    exact ⟨rfl, by (repeat' (first | (with_reducible exact Below.refl _ _) | (with_reducible refine Below.alloc ?_ ?_ _) | (with_reducible refine Below.drew ?_) | (with_reducible refine below_drewN' ?_ _) | (with_reducible refine Below.setCell ?_ ?_ _) | (with_reducible refine Below.trans ?_ (Below.mono (by assumption) ?_)) | go_size))⟩
end Go.Proofs.YtajjoihfccnfhaaDoor
