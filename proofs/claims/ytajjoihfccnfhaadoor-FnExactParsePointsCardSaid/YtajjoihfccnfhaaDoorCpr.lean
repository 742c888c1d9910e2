/-
  Points read out of texts, by both programs. Conditions: the sizes, and what the library reads, as each says.
-/
import Derived.Test.YtajjoihfccnfhaaDoorCpq
import Derived.Test.YtajjoihfccnfhaaDoorShk
import Derived.Lib.AtoiErrMem
import Derived.Lib.SlicesS
namespace Go.Proofs.YtajjoihfccnfhaaDoor
open Go.RowKit
set_option maxHeartbeats 1000000
theorem index_mid (c : UInt8) (r : List UInt8) : ∀ (l : List UInt8), c ∉ l → Lib.index (l ++ c :: r) [c] = l.length
  | [], _ => by
    rw [List.nil_append]
    unfold Lib.index
    rw [if_pos (by simp [List.isPrefixOf])]
    rfl
  | b :: l, h => by
    rw [List.mem_cons, not_or] at h
    have ih := index_mid c r l h.2
    rw [List.cons_append]
    unfold Lib.index
    have hb : ¬ ([c].isPrefixOf (b :: (l ++ c :: r)) = true) := by
      simp only [List.isPrefixOf, Bool.and_true, beq_iff_eq]
      exact h.1
    have hm : ¬ (((l.length : Int) == -1) = true) := by
      simp only [beq_iff_eq]
      omega
    rw [if_neg hb, ih, if_neg hm]
    simp
theorem cut_pt (x y : Int) : Lib.cut (ptL x y) [44] = (Lib.itoa x, Lib.itoa y, true) := by
  have hi : Lib.index (ptL x y) [44] = (Lib.itoa x).length := by
    unfold ptL
    rw [List.append_assoc, List.singleton_append]
    exact index_mid 44 _ _ (itoa_no x (by decide) (by decide))
  unfold Lib.cut
  rw [hi, if_pos (by omega), Int.toNat_natCast]
  unfold ptL
  rw [List.append_assoc, List.take_left, List.singleton_append]
  simp
theorem cut_len (l : List UInt8) : (Lib.cut l [44]).1.length ≤ l.length ∧ (Lib.cut l [44]).2.1.length ≤ l.length := by
  unfold Lib.cut
  split
  · simp only [List.length_take, List.length_drop]
    omega
  · simp
/-- What reading a point returns: the point, and the code. -/
def parR (l : List UInt8) : Int × Int × Int := match readV l with
  | some (x, y) => (x, y, 0)
  | none => (0, 0, 6)
theorem parR_hit {l : List UInt8} (h1 : ptB (pval (Lib.cut l [44]).1) (pval (Lib.cut l [44]).2.1) = true) (h2 : ptL (pval (Lib.cut l [44]).1) (pval (Lib.cut l [44]).2.1) = l) : parR l = (pval (Lib.cut l [44]).1, pval (Lib.cut l [44]).2.1, 0) := by
  have h := readV_pt h1
  rw [h2] at h
  unfold parR
  rw [h]
theorem parR_miss {l : List UInt8} (h : ¬ (ptB (pval (Lib.cut l [44]).1) (pval (Lib.cut l [44]).2.1) = true ∧ ptL (pval (Lib.cut l [44]).1) (pval (Lib.cut l [44]).2.1) = l)) : parR l = (0, 0, 6) := by
  unfold parR
  cases e : readV l with
  | none => rfl
  | some p =>
    obtain ⟨x, y⟩ := p
    exfalso
    obtain ⟨hp, hl⟩ := readV_inv e
    have hp' := hp
    rw [ptB_iff] at hp'
    apply h
    rw [hl, cut_pt]
    dsimp only
    rw [pval_itoa (by omega), pval_itoa (by omega)]
    exact ⟨hp, rfl⟩
/-- What the library reads: the table of powers of ten, and three variables. -/
structure LibHere (w : World) : Prop where
  tab : TabHere w
  mx : ∃ m, w.cell? ⟨0, 0, none⟩ = some (.int .i64 m)
  es : ∃ ev, w.cell? ⟨1, 0, none⟩ = some ev ∧ (ev = .nilIface ∨ ∃ te pe, ev = .iface te pe)
  er : ∃ ev, w.cell? ⟨2, 0, none⟩ = some ev ∧ (ev = .nilIface ∨ ∃ te pe, ev = .iface te pe)
theorem LibHere.keep {w w1 : World} (h : LibHere w) (hb : Below w.heap.size w w1) : LibHere w1 := by
  obtain ⟨m, hm⟩ := h.mx
  obtain ⟨a, ha, ia⟩ := h.es
  obtain ⟨b, hb', ib⟩ := h.er
  exact ⟨Lib.tabBelow_of_tabIs h.tab w1 hb, ⟨m, cell_keep hb hm⟩, ⟨a, cell_keep hb ha, ia⟩, ⟨b, cell_keep hb hb', ib⟩⟩
theorem parse_any (s : ByteArray) (hs : s.size ≤ 1048576) (w : World) (hl : LibHere w) : Calls Tryd.prog 57 #[.string s, .int .i64 10, .int .i64 64] w fun e w' =>
    (∃ v, e = .returned (.tuple #[.int .i64 (pval s.data.toList), v])) ∧ Below w.heap.size w w' := by
  obtain ⟨ev1, h1, i1⟩ := hl.es
  obtain ⟨ev2, h2, i2⟩ := hl.er
  rcases hp : Lib.parseIntB 64 s.data.toList with v | _ | _
  · refine (Tryd.strconv_ParseInt_10_at64_ok s (by omega) v hp w).mono ?_
    rintro e w1 ⟨rfl, hw⟩
    refine ⟨⟨_, by unfold pval; rw [hp]⟩, ?_⟩
    rcases hw with rfl | ⟨t, rfl⟩
    · exact Below.refl _ _
    · exact Lib.bytesWorld_below _ _ _
  · refine (Tryd.strconv_ParseInt_10_at64_syntax s (by omega) hp ev1 w h1 i1).mono ?_
    rintro e w1 ⟨N, rfl, _, _, hb⟩
    exact ⟨⟨_, by unfold pval; rw [hp]⟩, hb⟩
  · refine (Tryd.strconv_ParseInt_10_at64_range s (by omega) hp ev2 w h2 i2).mono ?_
    rintro e w1 ⟨N, rfl, _, _, hb⟩
    exact ⟨⟨_, by unfold pval; rw [hp]⟩, hb⟩
theorem scut_any (s : ByteArray) (hs : s.size ≤ 1048576) (w : World) (hl : LibHere w) : Calls Tryd.prog 56 #[.string s, .string ⟨#[44]⟩] w fun e w' =>
    e = .returned (.tuple #[.string ⟨(Lib.cut s.data.toList [44]).1.toArray⟩, .string ⟨(Lib.cut s.data.toList [44]).2.1.toArray⟩, .bool (Lib.cut s.data.toList [44]).2.2]) ∧ Below w.heap.size w w' := by
  obtain ⟨m, hm⟩ := hl.mx
  refine (Tryd.strings_Cut s ⟨#[44]⟩ m w (by omega) hm).mono ?_
  rintro e w1 ⟨rfl, n, rfl⟩
  exact ⟨rfl, below_drewN' (Below.refl _ _) n⟩
theorem implPar_any (s : ByteArray) (hs : s.size ≤ 1048576) (w : World) (hl : LibHere w) : Calls Tryd.prog 29 #[.string s] w fun e w' =>
    e = .returned (.tuple #[.agg #[.int .i64 (parR s.data.toList).1, .int .i64 (parR s.data.toList).2.1], .int .i64 (parR s.data.toList).2.2]) ∧ Below w.heap.size w w' := by
  have hlen : s.data.toList.length = s.size := Array.length_toList
  have h1 := @parR_hit s.data.toList
  have h2 := @parR_miss s.data.toList
  have h3 := cut_len s.data.toList
  have hc := fun W (hW : Below w.heap.size w W) => scut_any s hs W (hl.keep hW)
  obtain ⟨⟨a, b, f⟩, hq⟩ : ∃ r, Lib.cut s.data.toList [44] = r := ⟨_, rfl⟩
  rw [hq] at h1 h2 h3 hc
  dsimp only at h1 h2 h3 hc
  have sa : (⟨a.toArray⟩ : ByteArray).size = a.length := by show a.toArray.size = _; simp
  have sb : (⟨b.toArray⟩ : ByteArray).size = b.length := by show b.toArray.size = _; simp
  have ha := fun W (hW : Below w.heap.size w W) => parse_any ⟨a.toArray⟩ (by omega) W (hl.keep hW)
  have hb := fun W (hW : Below w.heap.size w W) => parse_any ⟨b.toArray⟩ (by omega) W (hl.keep hW)
  have ea : (⟨a.toArray⟩ : ByteArray).data.toList = a := rfl
  have eb : (⟨b.toArray⟩ : ByteArray).data.toList = b := rfl
  rw [ea] at ha
  rw [eb] at hb
  obtain ⟨x, hx⟩ : ∃ r, pval a = r := ⟨_, rfl⟩
  obtain ⟨y, hy⟩ : ∃ r, pval b = r := ⟨_, rfl⟩
  rw [hx] at ha
  rw [hy] at hb
  rw [hx, hy] at h1 h2
  have hi := fun W => IsPoint_any x y W
  have ht := fun (hxy : ptB x y = true) W (hW : Below w.heap.size w W) => ptext_any x y (by rw [ptB_iff] at hxy; omega) (by rw [ptB_iff] at hxy; omega) W (hl.keep hW).tab
  obtain ⟨s1, hs1⟩ : ∃ r, (⟨a.toArray⟩ : ByteArray) = r := ⟨_, rfl⟩
  obtain ⟨s2, hs2⟩ : ∃ r, (⟨b.toArray⟩ : ByteArray) = r := ⟨_, rfl⟩
  rw [hs1] at ha hc
  rw [hs2] at hb hc
  have HC := Lib.hid hc
  have HA := Lib.hid ha
  have HB := Lib.hid hb
  clear hq ea eb hx hy hs1 hs2 sa sb h3 ha hb hc
  cases hz : ptB x y
  · rw [hz] at hi
    have HI := Lib.hid hi
    have hr : parR s.data.toList = (0, 0, 6) := h2 (by rintro ⟨h, _⟩; rw [hz] at h; cases h)
    rw [hr]
    clear hr h1 h2 hi ht hz hl hlen
    go_enter Tryd.func29, Tryd.ntmps29
    go_wp2_with (first
      | (go_at_call 56; go_must ((with_reducible refine (HC.out _ ?_).mono ?_)); (focus (repeat' (first | (with_reducible exact Below.refl _ _) | (with_reducible refine Below.alloc ?_ ?_ _) | (with_reducible refine Below.drew ?_) | (with_reducible refine below_drewN' ?_ _) | (with_reducible refine Below.setCell ?_ ?_ _) | (with_reducible refine Below.trans ?_ (Below.mono (by assumption) ?_)) | go_size))); rintro e w1 ⟨rfl, hb1⟩; obtain ⟨hc1, hf1, hz1, hn1⟩ := bstep 1 w hb1 (by go_size); (try (refine gcut (p := (w1.cell? ⟨w.heap.size, 0, none⟩ = some (.int .i64 0) ∧ w1.cell? ⟨w.heap.size, 1, none⟩ = some (.int .i64 0)) ∧ (w1.frozen? ⟨w.heap.size, 0, none⟩ = false ∧ w1.frozen? ⟨w.heap.size, 1, none⟩ = false) ∧ w.heap.size < w1.heap.size ∧ ¬ w1.heap.size = w.heap.size) ?_ ?_; (focus (refine ⟨?_, ?_, ?_, ?_⟩; (focus (((repeat' apply And.intro) <;> (repeat' (first | (with_reducible assumption) | (with_reducible refine keep_drew ?_) | (with_reducible refine keep_setx (by omega) ?_) | (with_reducible refine keep_hc (by with_reducible assumption) (by omega) ?_) | (focus (go_simp; done)) | (with_reducible refine keep_alloc ?_)))); done)); (focus (((repeat' apply And.intro) <;> (repeat' (first | (with_reducible assumption) | (with_reducible refine fz_drew ?_) | (with_reducible refine fz_set ?_) | (with_reducible refine fz_hc (by with_reducible assumption) (by omega) ?_) | (focus (go_simp; done)) | (with_reducible refine fz_alloc ?_ ?_) | go_size))); done)); (focus (go_size; done)); (focus (go_size; done)))); rintro ⟨⟨q0, q1⟩, ⟨qf0, qf1⟩, qs, qn⟩)))
      | (go_at_call_of 57 (Value.string s1); go_must ((with_reducible refine (HA.out _ ?_).mono ?_)); (focus (repeat' (first | (with_reducible exact Below.refl _ _) | (with_reducible refine Below.alloc ?_ ?_ _) | (with_reducible refine Below.drew ?_) | (with_reducible refine below_drewN' ?_ _) | (with_reducible refine Below.setCell ?_ ?_ _) | (with_reducible refine Below.trans ?_ (Below.mono (by assumption) ?_)) | go_size))); rintro e w2 ⟨⟨e1, rfl⟩, hb2⟩; obtain ⟨hc2, hf2, hz2, hn2⟩ := bstep 1 w hb2 (by go_size); (try (refine gcut (p := (w2.cell? ⟨w.heap.size, 0, none⟩ = some (.int .i64 0) ∧ w2.cell? ⟨w.heap.size, 1, none⟩ = some (.int .i64 0)) ∧ (w2.frozen? ⟨w.heap.size, 0, none⟩ = false ∧ w2.frozen? ⟨w.heap.size, 1, none⟩ = false) ∧ w.heap.size < w2.heap.size ∧ ¬ w2.heap.size = w.heap.size) ?_ ?_; (focus (refine ⟨?_, ?_, ?_, ?_⟩; (focus (((repeat' apply And.intro) <;> (repeat' (first | (with_reducible assumption) | (with_reducible refine keep_drew ?_) | (with_reducible refine keep_setx (by omega) ?_) | (with_reducible refine keep_hc (by with_reducible assumption) (by omega) ?_) | (focus (go_simp; done)) | (with_reducible refine keep_alloc ?_)))); done)); (focus (((repeat' apply And.intro) <;> (repeat' (first | (with_reducible assumption) | (with_reducible refine fz_drew ?_) | (with_reducible refine fz_set ?_) | (with_reducible refine fz_hc (by with_reducible assumption) (by omega) ?_) | (focus (go_simp; done)) | (with_reducible refine fz_alloc ?_ ?_) | go_size))); done)); (focus (go_size; done)); (focus (go_size; done)))); rintro ⟨⟨r0, r1⟩, ⟨rf0, rf1⟩, rs, rn⟩)))
      | (go_at_call_of 57 (Value.string s2); go_must ((with_reducible refine (HB.out _ ?_).mono ?_)); (focus (repeat' (first | (with_reducible exact Below.refl _ _) | (with_reducible refine Below.alloc ?_ ?_ _) | (with_reducible refine Below.drew ?_) | (with_reducible refine below_drewN' ?_ _) | (with_reducible refine Below.setCell ?_ ?_ _) | (with_reducible refine Below.trans ?_ (Below.mono (by assumption) ?_)) | go_size))); rintro e w3 ⟨⟨e2, rfl⟩, hb3⟩; obtain ⟨hc3, hf3, hz3, hn3⟩ := bstep 1 w hb3 (by go_size); (try (refine gcut (p := (w3.cell? ⟨w.heap.size, 0, none⟩ = some (.int .i64 0) ∧ w3.cell? ⟨w.heap.size, 1, none⟩ = some (.int .i64 0)) ∧ (w3.frozen? ⟨w.heap.size, 0, none⟩ = false ∧ w3.frozen? ⟨w.heap.size, 1, none⟩ = false) ∧ w.heap.size < w3.heap.size ∧ ¬ w3.heap.size = w.heap.size) ?_ ?_; (focus (refine ⟨?_, ?_, ?_, ?_⟩; (focus (((repeat' apply And.intro) <;> (repeat' (first | (with_reducible assumption) | (with_reducible refine keep_drew ?_) | (with_reducible refine keep_setx (by omega) ?_) | (with_reducible refine keep_hc (by with_reducible assumption) (by omega) ?_) | (focus (go_simp; done)) | (with_reducible refine keep_alloc ?_)))); done)); (focus (((repeat' apply And.intro) <;> (repeat' (first | (with_reducible assumption) | (with_reducible refine fz_drew ?_) | (with_reducible refine fz_set ?_) | (with_reducible refine fz_hc (by with_reducible assumption) (by omega) ?_) | (focus (go_simp; done)) | (with_reducible refine fz_alloc ?_ ?_) | go_size))); done)); (focus (go_size; done)); (focus (go_size; done)))); rintro ⟨⟨u0, u1⟩, ⟨uf0, uf1⟩, us, un⟩)))
      | (go_at_call 37; go_must ((with_reducible refine (HI.out _).mono ?_)); rintro e w4 ⟨rfl, hb4⟩; obtain ⟨hc4, hf4, hz4, hn4⟩ := bstep 1 w hb4 (by go_size); obtain ⟨hd4, he4, hy4, hx4⟩ := bstep 1 w3 hb4 (by go_size); (try (refine gcut (p := (w4.cell? ⟨w.heap.size, 0, none⟩ = some (.int .i64 0) ∧ w4.cell? ⟨w.heap.size, 1, none⟩ = some (.int .i64 0)) ∧ (w4.frozen? ⟨w.heap.size, 0, none⟩ = false ∧ w4.frozen? ⟨w.heap.size, 1, none⟩ = false) ∧ w.heap.size < w4.heap.size ∧ ¬ w4.heap.size = w.heap.size) ?_ ?_; (focus (refine ⟨?_, ?_, ?_, ?_⟩; (focus (((repeat' apply And.intro) <;> (repeat' (first | (with_reducible assumption) | (with_reducible refine keep_drew ?_) | (with_reducible refine keep_setx (by omega) ?_) | (with_reducible refine keep_hc (by with_reducible assumption) (by omega) ?_) | (focus (go_simp; done)) | (with_reducible refine keep_alloc ?_)))); done)); (focus (((repeat' apply And.intro) <;> (repeat' (first | (with_reducible assumption) | (with_reducible refine fz_drew ?_) | (with_reducible refine fz_set ?_) | (with_reducible refine fz_hc (by with_reducible assumption) (by omega) ?_) | (focus (go_simp; done)) | (with_reducible refine fz_alloc ?_ ?_) | go_size))); done)); (focus (go_size; done)); (focus (go_size; done)))); rintro ⟨⟨k0, k1⟩, ⟨kf0, kf1⟩, ks, kn⟩)); (try (refine gcut (p := (w4.cell? ⟨w3.heap.size, 0, none⟩ = some (.int .i64 x) ∧ w4.cell? ⟨w3.heap.size, 1, none⟩ = some (.int .i64 y)) ∧ (w4.frozen? ⟨w3.heap.size, 0, none⟩ = false ∧ w4.frozen? ⟨w3.heap.size, 1, none⟩ = false) ∧ w3.heap.size < w4.heap.size ∧ ¬ w4.heap.size = w3.heap.size) ?_ ?_; (focus (refine ⟨?_, ?_, ?_, ?_⟩; (focus (((repeat' apply And.intro) <;> (repeat' (first | (with_reducible assumption) | (with_reducible refine keep_drew ?_) | (with_reducible refine keep_setx (by omega) ?_) | (with_reducible refine keep_hc (by with_reducible assumption) (by omega) ?_) | (focus (go_simp; done)) | (with_reducible refine keep_alloc ?_)))); done)); (focus (((repeat' apply And.intro) <;> (repeat' (first | (with_reducible assumption) | (with_reducible refine fz_drew ?_) | (with_reducible refine fz_set ?_) | (with_reducible refine fz_hc (by with_reducible assumption) (by omega) ?_) | (focus (go_simp; done)) | (with_reducible refine fz_alloc ?_ ?_) | go_size))); done)); (focus (go_size; done)); (focus (go_size; done)))); rintro ⟨⟨m0, m1⟩, ⟨mf0, mf1⟩, ms, mn⟩))))
    refine post_genP (G := fun W => (W.cell? ⟨w.heap.size, 0, none⟩ = some (.int .i64 0) ∧ W.cell? ⟨w.heap.size, 1, none⟩ = some (.int .i64 0)) ∧ Below w.heap.size w W) ⟨⟨(set2P (o := 0) (by with_reducible assumption) (by with_reducible assumption)).1, (set2P (o := 0) (by with_reducible assumption) (by with_reducible assumption)).2.1⟩, by (repeat' (first | (with_reducible exact Below.refl _ _) | (with_reducible refine Below.alloc ?_ ?_ _) | (with_reducible refine Below.drew ?_) | (with_reducible refine below_drewN' ?_ _) | (with_reducible refine Below.setCell ?_ ?_ _) | (with_reducible refine Below.trans ?_ (Below.mono (by assumption) ?_)) | go_size))⟩ ?_
    rintro W2 ⟨⟨z0, z1⟩, hB⟩
    refine bodyPost_ret (v := .tuple #[.agg #[.int .i64 0, .int .i64 0], .int .i64 6]) (by simp [results, Tryd.results29, go_sem, *]) rfl ?_
    exact ⟨rfl, hB⟩
  · rw [hz] at hi
    have HI := Lib.hid hi
    have ht' := ht hz
    rw [pointB_eq] at ht'
    obtain ⟨p, hp⟩ : ∃ r, (⟨(ptL x y).toArray⟩ : ByteArray) = r := ⟨_, rfl⟩
    rw [hp] at ht'
    have HT := Lib.hid ht'
    by_cases he : p = s
    · have hr : parR s.data.toList = (x, y, 0) := h1 hz (by rw [← he, ← hp])
      rw [hr]
      subst he
      clear hr h1 h2 hi ht ht' hz hl hlen hp
      go_enter Tryd.func29, Tryd.ntmps29
      go_wp2_with (first
        | (go_at_call 56; go_must ((with_reducible refine (HC.out _ ?_).mono ?_)); (focus (repeat' (first | (with_reducible exact Below.refl _ _) | (with_reducible refine Below.alloc ?_ ?_ _) | (with_reducible refine Below.drew ?_) | (with_reducible refine below_drewN' ?_ _) | (with_reducible refine Below.setCell ?_ ?_ _) | (with_reducible refine Below.trans ?_ (Below.mono (by assumption) ?_)) | go_size))); rintro e w1 ⟨rfl, hb1⟩; obtain ⟨hc1, hf1, hz1, hn1⟩ := bstep 1 w hb1 (by go_size); (try (refine gcut (p := (w1.cell? ⟨w.heap.size, 0, none⟩ = some (.int .i64 0) ∧ w1.cell? ⟨w.heap.size, 1, none⟩ = some (.int .i64 0)) ∧ (w1.frozen? ⟨w.heap.size, 0, none⟩ = false ∧ w1.frozen? ⟨w.heap.size, 1, none⟩ = false) ∧ w.heap.size < w1.heap.size ∧ ¬ w1.heap.size = w.heap.size) ?_ ?_; (focus (refine ⟨?_, ?_, ?_, ?_⟩; (focus (((repeat' apply And.intro) <;> (repeat' (first | (with_reducible assumption) | (with_reducible refine keep_drew ?_) | (with_reducible refine keep_setx (by omega) ?_) | (with_reducible refine keep_hc (by with_reducible assumption) (by omega) ?_) | (focus (go_simp; done)) | (with_reducible refine keep_alloc ?_)))); done)); (focus (((repeat' apply And.intro) <;> (repeat' (first | (with_reducible assumption) | (with_reducible refine fz_drew ?_) | (with_reducible refine fz_set ?_) | (with_reducible refine fz_hc (by with_reducible assumption) (by omega) ?_) | (focus (go_simp; done)) | (with_reducible refine fz_alloc ?_ ?_) | go_size))); done)); (focus (go_size; done)); (focus (go_size; done)))); rintro ⟨⟨q0, q1⟩, ⟨qf0, qf1⟩, qs, qn⟩)))
        | (go_at_call_of 57 (Value.string s1); go_must ((with_reducible refine (HA.out _ ?_).mono ?_)); (focus (repeat' (first | (with_reducible exact Below.refl _ _) | (with_reducible refine Below.alloc ?_ ?_ _) | (with_reducible refine Below.drew ?_) | (with_reducible refine below_drewN' ?_ _) | (with_reducible refine Below.setCell ?_ ?_ _) | (with_reducible refine Below.trans ?_ (Below.mono (by assumption) ?_)) | go_size))); rintro e w2 ⟨⟨e1, rfl⟩, hb2⟩; obtain ⟨hc2, hf2, hz2, hn2⟩ := bstep 1 w hb2 (by go_size); (try (refine gcut (p := (w2.cell? ⟨w.heap.size, 0, none⟩ = some (.int .i64 0) ∧ w2.cell? ⟨w.heap.size, 1, none⟩ = some (.int .i64 0)) ∧ (w2.frozen? ⟨w.heap.size, 0, none⟩ = false ∧ w2.frozen? ⟨w.heap.size, 1, none⟩ = false) ∧ w.heap.size < w2.heap.size ∧ ¬ w2.heap.size = w.heap.size) ?_ ?_; (focus (refine ⟨?_, ?_, ?_, ?_⟩; (focus (((repeat' apply And.intro) <;> (repeat' (first | (with_reducible assumption) | (with_reducible refine keep_drew ?_) | (with_reducible refine keep_setx (by omega) ?_) | (with_reducible refine keep_hc (by with_reducible assumption) (by omega) ?_) | (focus (go_simp; done)) | (with_reducible refine keep_alloc ?_)))); done)); (focus (((repeat' apply And.intro) <;> (repeat' (first | (with_reducible assumption) | (with_reducible refine fz_drew ?_) | (with_reducible refine fz_set ?_) | (with_reducible refine fz_hc (by with_reducible assumption) (by omega) ?_) | (focus (go_simp; done)) | (with_reducible refine fz_alloc ?_ ?_) | go_size))); done)); (focus (go_size; done)); (focus (go_size; done)))); rintro ⟨⟨r0, r1⟩, ⟨rf0, rf1⟩, rs, rn⟩)))
        | (go_at_call_of 57 (Value.string s2); go_must ((with_reducible refine (HB.out _ ?_).mono ?_)); (focus (repeat' (first | (with_reducible exact Below.refl _ _) | (with_reducible refine Below.alloc ?_ ?_ _) | (with_reducible refine Below.drew ?_) | (with_reducible refine below_drewN' ?_ _) | (with_reducible refine Below.setCell ?_ ?_ _) | (with_reducible refine Below.trans ?_ (Below.mono (by assumption) ?_)) | go_size))); rintro e w3 ⟨⟨e2, rfl⟩, hb3⟩; obtain ⟨hc3, hf3, hz3, hn3⟩ := bstep 1 w hb3 (by go_size); (try (refine gcut (p := (w3.cell? ⟨w.heap.size, 0, none⟩ = some (.int .i64 0) ∧ w3.cell? ⟨w.heap.size, 1, none⟩ = some (.int .i64 0)) ∧ (w3.frozen? ⟨w.heap.size, 0, none⟩ = false ∧ w3.frozen? ⟨w.heap.size, 1, none⟩ = false) ∧ w.heap.size < w3.heap.size ∧ ¬ w3.heap.size = w.heap.size) ?_ ?_; (focus (refine ⟨?_, ?_, ?_, ?_⟩; (focus (((repeat' apply And.intro) <;> (repeat' (first | (with_reducible assumption) | (with_reducible refine keep_drew ?_) | (with_reducible refine keep_setx (by omega) ?_) | (with_reducible refine keep_hc (by with_reducible assumption) (by omega) ?_) | (focus (go_simp; done)) | (with_reducible refine keep_alloc ?_)))); done)); (focus (((repeat' apply And.intro) <;> (repeat' (first | (with_reducible assumption) | (with_reducible refine fz_drew ?_) | (with_reducible refine fz_set ?_) | (with_reducible refine fz_hc (by with_reducible assumption) (by omega) ?_) | (focus (go_simp; done)) | (with_reducible refine fz_alloc ?_ ?_) | go_size))); done)); (focus (go_size; done)); (focus (go_size; done)))); rintro ⟨⟨u0, u1⟩, ⟨uf0, uf1⟩, us, un⟩)))
        | (go_at_call 37; go_must ((with_reducible refine (HI.out _).mono ?_)); rintro e w4 ⟨rfl, hb4⟩; obtain ⟨hc4, hf4, hz4, hn4⟩ := bstep 1 w hb4 (by go_size); obtain ⟨hd4, he4, hy4, hx4⟩ := bstep 1 w3 hb4 (by go_size); (try (refine gcut (p := (w4.cell? ⟨w.heap.size, 0, none⟩ = some (.int .i64 0) ∧ w4.cell? ⟨w.heap.size, 1, none⟩ = some (.int .i64 0)) ∧ (w4.frozen? ⟨w.heap.size, 0, none⟩ = false ∧ w4.frozen? ⟨w.heap.size, 1, none⟩ = false) ∧ w.heap.size < w4.heap.size ∧ ¬ w4.heap.size = w.heap.size) ?_ ?_; (focus (refine ⟨?_, ?_, ?_, ?_⟩; (focus (((repeat' apply And.intro) <;> (repeat' (first | (with_reducible assumption) | (with_reducible refine keep_drew ?_) | (with_reducible refine keep_setx (by omega) ?_) | (with_reducible refine keep_hc (by with_reducible assumption) (by omega) ?_) | (focus (go_simp; done)) | (with_reducible refine keep_alloc ?_)))); done)); (focus (((repeat' apply And.intro) <;> (repeat' (first | (with_reducible assumption) | (with_reducible refine fz_drew ?_) | (with_reducible refine fz_set ?_) | (with_reducible refine fz_hc (by with_reducible assumption) (by omega) ?_) | (focus (go_simp; done)) | (with_reducible refine fz_alloc ?_ ?_) | go_size))); done)); (focus (go_size; done)); (focus (go_size; done)))); rintro ⟨⟨k0, k1⟩, ⟨kf0, kf1⟩, ks, kn⟩)); (try (refine gcut (p := (w4.cell? ⟨w3.heap.size, 0, none⟩ = some (.int .i64 x) ∧ w4.cell? ⟨w3.heap.size, 1, none⟩ = some (.int .i64 y)) ∧ (w4.frozen? ⟨w3.heap.size, 0, none⟩ = false ∧ w4.frozen? ⟨w3.heap.size, 1, none⟩ = false) ∧ w3.heap.size < w4.heap.size ∧ ¬ w4.heap.size = w3.heap.size) ?_ ?_; (focus (refine ⟨?_, ?_, ?_, ?_⟩; (focus (((repeat' apply And.intro) <;> (repeat' (first | (with_reducible assumption) | (with_reducible refine keep_drew ?_) | (with_reducible refine keep_setx (by omega) ?_) | (with_reducible refine keep_hc (by with_reducible assumption) (by omega) ?_) | (focus (go_simp; done)) | (with_reducible refine keep_alloc ?_)))); done)); (focus (((repeat' apply And.intro) <;> (repeat' (first | (with_reducible assumption) | (with_reducible refine fz_drew ?_) | (with_reducible refine fz_set ?_) | (with_reducible refine fz_hc (by with_reducible assumption) (by omega) ?_) | (focus (go_simp; done)) | (with_reducible refine fz_alloc ?_ ?_) | go_size))); done)); (focus (go_size; done)); (focus (go_size; done)))); rintro ⟨⟨m0, m1⟩, ⟨mf0, mf1⟩, ms, mn⟩)))
        | (go_at_call 38; go_must ((with_reducible refine (HT.out _ ?_).mono ?_)); (focus (repeat' (first | (with_reducible exact Below.refl _ _) | (with_reducible refine Below.alloc ?_ ?_ _) | (with_reducible refine Below.drew ?_) | (with_reducible refine below_drewN' ?_ _) | (with_reducible refine Below.setCell ?_ ?_ _) | (with_reducible refine Below.trans ?_ (Below.mono (by assumption) ?_)) | go_size))); rintro e w5 ⟨rfl, hb5⟩; obtain ⟨hc5, hf5, hz5, hn5⟩ := bstep 1 w hb5 (by go_size); obtain ⟨hd5, he5, hy5, hx5⟩ := bstep 1 w3 hb5 (by go_size); (try (refine gcut (p := (w5.cell? ⟨w.heap.size, 0, none⟩ = some (.int .i64 0) ∧ w5.cell? ⟨w.heap.size, 1, none⟩ = some (.int .i64 0)) ∧ (w5.frozen? ⟨w.heap.size, 0, none⟩ = false ∧ w5.frozen? ⟨w.heap.size, 1, none⟩ = false) ∧ w.heap.size < w5.heap.size ∧ ¬ w5.heap.size = w.heap.size) ?_ ?_; (focus (refine ⟨?_, ?_, ?_, ?_⟩; (focus (((repeat' apply And.intro) <;> (repeat' (first | (with_reducible assumption) | (with_reducible refine keep_drew ?_) | (with_reducible refine keep_setx (by omega) ?_) | (with_reducible refine keep_hc (by with_reducible assumption) (by omega) ?_) | (focus (go_simp; done)) | (with_reducible refine keep_alloc ?_)))); done)); (focus (((repeat' apply And.intro) <;> (repeat' (first | (with_reducible assumption) | (with_reducible refine fz_drew ?_) | (with_reducible refine fz_set ?_) | (with_reducible refine fz_hc (by with_reducible assumption) (by omega) ?_) | (focus (go_simp; done)) | (with_reducible refine fz_alloc ?_ ?_) | go_size))); done)); (focus (go_size; done)); (focus (go_size; done)))); rintro ⟨⟨n0, n1⟩, ⟨nf0, nf1⟩, ns, nn⟩)); (try (refine gcut (p := (w5.cell? ⟨w3.heap.size, 0, none⟩ = some (.int .i64 x) ∧ w5.cell? ⟨w3.heap.size, 1, none⟩ = some (.int .i64 y)) ∧ (w5.frozen? ⟨w3.heap.size, 0, none⟩ = false ∧ w5.frozen? ⟨w3.heap.size, 1, none⟩ = false) ∧ w3.heap.size < w5.heap.size ∧ ¬ w5.heap.size = w3.heap.size) ?_ ?_; (focus (refine ⟨?_, ?_, ?_, ?_⟩; (focus (((repeat' apply And.intro) <;> (repeat' (first | (with_reducible assumption) | (with_reducible refine keep_drew ?_) | (with_reducible refine keep_setx (by omega) ?_) | (with_reducible refine keep_hc (by with_reducible assumption) (by omega) ?_) | (focus (go_simp; done)) | (with_reducible refine keep_alloc ?_)))); done)); (focus (((repeat' apply And.intro) <;> (repeat' (first | (with_reducible assumption) | (with_reducible refine fz_drew ?_) | (with_reducible refine fz_set ?_) | (with_reducible refine fz_hc (by with_reducible assumption) (by omega) ?_) | (focus (go_simp; done)) | (with_reducible refine fz_alloc ?_ ?_) | go_size))); done)); (focus (go_size; done)); (focus (go_size; done)))); rintro ⟨⟨o0, o1⟩, ⟨of0, of1⟩, os, on⟩))))
      refine post_genP (G := fun W => (W.cell? ⟨w.heap.size, 0, none⟩ = some (.int .i64 x) ∧ W.cell? ⟨w.heap.size, 1, none⟩ = some (.int .i64 y)) ∧ Below w.heap.size w W) ⟨⟨(set2P (o := 0) (by with_reducible assumption) (by with_reducible assumption)).1, (set2P (o := 0) (by with_reducible assumption) (by with_reducible assumption)).2.1⟩, by (repeat' (first | (with_reducible exact Below.refl _ _) | (with_reducible refine Below.alloc ?_ ?_ _) | (with_reducible refine Below.drew ?_) | (with_reducible refine below_drewN' ?_ _) | (with_reducible refine Below.setCell ?_ ?_ _) | (with_reducible refine Below.trans ?_ (Below.mono (by assumption) ?_)) | go_size))⟩ ?_
      rintro W2 ⟨⟨z0, z1⟩, hB⟩
      refine bodyPost_ret (v := .tuple #[.agg #[.int .i64 x, .int .i64 y], .int .i64 0]) (by simp [results, Tryd.results29, go_sem, *]) rfl ?_
      exact ⟨rfl, hB⟩
    · have hr : parR s.data.toList = (0, 0, 6) := h2 (by rintro ⟨_, h⟩; exact he (by rw [← hp, h]))
      rw [hr]
      have hpb : (p.toList == s.toList) = false := (Lib.bytes_beq_false_iff _ _).2 he
      clear hr h1 h2 hi ht ht' hz hl hlen hp
      go_enter Tryd.func29, Tryd.ntmps29
      go_wp2_with (first
        | (go_at_call 56; go_must ((with_reducible refine (HC.out _ ?_).mono ?_)); (focus (repeat' (first | (with_reducible exact Below.refl _ _) | (with_reducible refine Below.alloc ?_ ?_ _) | (with_reducible refine Below.drew ?_) | (with_reducible refine below_drewN' ?_ _) | (with_reducible refine Below.setCell ?_ ?_ _) | (with_reducible refine Below.trans ?_ (Below.mono (by assumption) ?_)) | go_size))); rintro e w1 ⟨rfl, hb1⟩; obtain ⟨hc1, hf1, hz1, hn1⟩ := bstep 1 w hb1 (by go_size); (try (refine gcut (p := (w1.cell? ⟨w.heap.size, 0, none⟩ = some (.int .i64 0) ∧ w1.cell? ⟨w.heap.size, 1, none⟩ = some (.int .i64 0)) ∧ (w1.frozen? ⟨w.heap.size, 0, none⟩ = false ∧ w1.frozen? ⟨w.heap.size, 1, none⟩ = false) ∧ w.heap.size < w1.heap.size ∧ ¬ w1.heap.size = w.heap.size) ?_ ?_; (focus (refine ⟨?_, ?_, ?_, ?_⟩; (focus (((repeat' apply And.intro) <;> (repeat' (first | (with_reducible assumption) | (with_reducible refine keep_drew ?_) | (with_reducible refine keep_setx (by omega) ?_) | (with_reducible refine keep_hc (by with_reducible assumption) (by omega) ?_) | (focus (go_simp; done)) | (with_reducible refine keep_alloc ?_)))); done)); (focus (((repeat' apply And.intro) <;> (repeat' (first | (with_reducible assumption) | (with_reducible refine fz_drew ?_) | (with_reducible refine fz_set ?_) | (with_reducible refine fz_hc (by with_reducible assumption) (by omega) ?_) | (focus (go_simp; done)) | (with_reducible refine fz_alloc ?_ ?_) | go_size))); done)); (focus (go_size; done)); (focus (go_size; done)))); rintro ⟨⟨q0, q1⟩, ⟨qf0, qf1⟩, qs, qn⟩)))
        | (go_at_call_of 57 (Value.string s1); go_must ((with_reducible refine (HA.out _ ?_).mono ?_)); (focus (repeat' (first | (with_reducible exact Below.refl _ _) | (with_reducible refine Below.alloc ?_ ?_ _) | (with_reducible refine Below.drew ?_) | (with_reducible refine below_drewN' ?_ _) | (with_reducible refine Below.setCell ?_ ?_ _) | (with_reducible refine Below.trans ?_ (Below.mono (by assumption) ?_)) | go_size))); rintro e w2 ⟨⟨e1, rfl⟩, hb2⟩; obtain ⟨hc2, hf2, hz2, hn2⟩ := bstep 1 w hb2 (by go_size); (try (refine gcut (p := (w2.cell? ⟨w.heap.size, 0, none⟩ = some (.int .i64 0) ∧ w2.cell? ⟨w.heap.size, 1, none⟩ = some (.int .i64 0)) ∧ (w2.frozen? ⟨w.heap.size, 0, none⟩ = false ∧ w2.frozen? ⟨w.heap.size, 1, none⟩ = false) ∧ w.heap.size < w2.heap.size ∧ ¬ w2.heap.size = w.heap.size) ?_ ?_; (focus (refine ⟨?_, ?_, ?_, ?_⟩; (focus (((repeat' apply And.intro) <;> (repeat' (first | (with_reducible assumption) | (with_reducible refine keep_drew ?_) | (with_reducible refine keep_setx (by omega) ?_) | (with_reducible refine keep_hc (by with_reducible assumption) (by omega) ?_) | (focus (go_simp; done)) | (with_reducible refine keep_alloc ?_)))); done)); (focus (((repeat' apply And.intro) <;> (repeat' (first | (with_reducible assumption) | (with_reducible refine fz_drew ?_) | (with_reducible refine fz_set ?_) | (with_reducible refine fz_hc (by with_reducible assumption) (by omega) ?_) | (focus (go_simp; done)) | (with_reducible refine fz_alloc ?_ ?_) | go_size))); done)); (focus (go_size; done)); (focus (go_size; done)))); rintro ⟨⟨r0, r1⟩, ⟨rf0, rf1⟩, rs, rn⟩)))
        | (go_at_call_of 57 (Value.string s2); go_must ((with_reducible refine (HB.out _ ?_).mono ?_)); (focus (repeat' (first | (with_reducible exact Below.refl _ _) | (with_reducible refine Below.alloc ?_ ?_ _) | (with_reducible refine Below.drew ?_) | (with_reducible refine below_drewN' ?_ _) | (with_reducible refine Below.setCell ?_ ?_ _) | (with_reducible refine Below.trans ?_ (Below.mono (by assumption) ?_)) | go_size))); rintro e w3 ⟨⟨e2, rfl⟩, hb3⟩; obtain ⟨hc3, hf3, hz3, hn3⟩ := bstep 1 w hb3 (by go_size); (try (refine gcut (p := (w3.cell? ⟨w.heap.size, 0, none⟩ = some (.int .i64 0) ∧ w3.cell? ⟨w.heap.size, 1, none⟩ = some (.int .i64 0)) ∧ (w3.frozen? ⟨w.heap.size, 0, none⟩ = false ∧ w3.frozen? ⟨w.heap.size, 1, none⟩ = false) ∧ w.heap.size < w3.heap.size ∧ ¬ w3.heap.size = w.heap.size) ?_ ?_; (focus (refine ⟨?_, ?_, ?_, ?_⟩; (focus (((repeat' apply And.intro) <;> (repeat' (first | (with_reducible assumption) | (with_reducible refine keep_drew ?_) | (with_reducible refine keep_setx (by omega) ?_) | (with_reducible refine keep_hc (by with_reducible assumption) (by omega) ?_) | (focus (go_simp; done)) | (with_reducible refine keep_alloc ?_)))); done)); (focus (((repeat' apply And.intro) <;> (repeat' (first | (with_reducible assumption) | (with_reducible refine fz_drew ?_) | (with_reducible refine fz_set ?_) | (with_reducible refine fz_hc (by with_reducible assumption) (by omega) ?_) | (focus (go_simp; done)) | (with_reducible refine fz_alloc ?_ ?_) | go_size))); done)); (focus (go_size; done)); (focus (go_size; done)))); rintro ⟨⟨u0, u1⟩, ⟨uf0, uf1⟩, us, un⟩)))
        | (go_at_call 37; go_must ((with_reducible refine (HI.out _).mono ?_)); rintro e w4 ⟨rfl, hb4⟩; obtain ⟨hc4, hf4, hz4, hn4⟩ := bstep 1 w hb4 (by go_size); obtain ⟨hd4, he4, hy4, hx4⟩ := bstep 1 w3 hb4 (by go_size); (try (refine gcut (p := (w4.cell? ⟨w.heap.size, 0, none⟩ = some (.int .i64 0) ∧ w4.cell? ⟨w.heap.size, 1, none⟩ = some (.int .i64 0)) ∧ (w4.frozen? ⟨w.heap.size, 0, none⟩ = false ∧ w4.frozen? ⟨w.heap.size, 1, none⟩ = false) ∧ w.heap.size < w4.heap.size ∧ ¬ w4.heap.size = w.heap.size) ?_ ?_; (focus (refine ⟨?_, ?_, ?_, ?_⟩; (focus (((repeat' apply And.intro) <;> (repeat' (first | (with_reducible assumption) | (with_reducible refine keep_drew ?_) | (with_reducible refine keep_setx (by omega) ?_) | (with_reducible refine keep_hc (by with_reducible assumption) (by omega) ?_) | (focus (go_simp; done)) | (with_reducible refine keep_alloc ?_)))); done)); (focus (((repeat' apply And.intro) <;> (repeat' (first | (with_reducible assumption) | (with_reducible refine fz_drew ?_) | (with_reducible refine fz_set ?_) | (with_reducible refine fz_hc (by with_reducible assumption) (by omega) ?_) | (focus (go_simp; done)) | (with_reducible refine fz_alloc ?_ ?_) | go_size))); done)); (focus (go_size; done)); (focus (go_size; done)))); rintro ⟨⟨k0, k1⟩, ⟨kf0, kf1⟩, ks, kn⟩)); (try (refine gcut (p := (w4.cell? ⟨w3.heap.size, 0, none⟩ = some (.int .i64 x) ∧ w4.cell? ⟨w3.heap.size, 1, none⟩ = some (.int .i64 y)) ∧ (w4.frozen? ⟨w3.heap.size, 0, none⟩ = false ∧ w4.frozen? ⟨w3.heap.size, 1, none⟩ = false) ∧ w3.heap.size < w4.heap.size ∧ ¬ w4.heap.size = w3.heap.size) ?_ ?_; (focus (refine ⟨?_, ?_, ?_, ?_⟩; (focus (((repeat' apply And.intro) <;> (repeat' (first | (with_reducible assumption) | (with_reducible refine keep_drew ?_) | (with_reducible refine keep_setx (by omega) ?_) | (with_reducible refine keep_hc (by with_reducible assumption) (by omega) ?_) | (focus (go_simp; done)) | (with_reducible refine keep_alloc ?_)))); done)); (focus (((repeat' apply And.intro) <;> (repeat' (first | (with_reducible assumption) | (with_reducible refine fz_drew ?_) | (with_reducible refine fz_set ?_) | (with_reducible refine fz_hc (by with_reducible assumption) (by omega) ?_) | (focus (go_simp; done)) | (with_reducible refine fz_alloc ?_ ?_) | go_size))); done)); (focus (go_size; done)); (focus (go_size; done)))); rintro ⟨⟨m0, m1⟩, ⟨mf0, mf1⟩, ms, mn⟩)))
        | (go_at_call 38; go_must ((with_reducible refine (HT.out _ ?_).mono ?_)); (focus (repeat' (first | (with_reducible exact Below.refl _ _) | (with_reducible refine Below.alloc ?_ ?_ _) | (with_reducible refine Below.drew ?_) | (with_reducible refine below_drewN' ?_ _) | (with_reducible refine Below.setCell ?_ ?_ _) | (with_reducible refine Below.trans ?_ (Below.mono (by assumption) ?_)) | go_size))); rintro e w5 ⟨rfl, hb5⟩; obtain ⟨hc5, hf5, hz5, hn5⟩ := bstep 1 w hb5 (by go_size); obtain ⟨hd5, he5, hy5, hx5⟩ := bstep 1 w3 hb5 (by go_size); (try (refine gcut (p := (w5.cell? ⟨w.heap.size, 0, none⟩ = some (.int .i64 0) ∧ w5.cell? ⟨w.heap.size, 1, none⟩ = some (.int .i64 0)) ∧ (w5.frozen? ⟨w.heap.size, 0, none⟩ = false ∧ w5.frozen? ⟨w.heap.size, 1, none⟩ = false) ∧ w.heap.size < w5.heap.size ∧ ¬ w5.heap.size = w.heap.size) ?_ ?_; (focus (refine ⟨?_, ?_, ?_, ?_⟩; (focus (((repeat' apply And.intro) <;> (repeat' (first | (with_reducible assumption) | (with_reducible refine keep_drew ?_) | (with_reducible refine keep_setx (by omega) ?_) | (with_reducible refine keep_hc (by with_reducible assumption) (by omega) ?_) | (focus (go_simp; done)) | (with_reducible refine keep_alloc ?_)))); done)); (focus (((repeat' apply And.intro) <;> (repeat' (first | (with_reducible assumption) | (with_reducible refine fz_drew ?_) | (with_reducible refine fz_set ?_) | (with_reducible refine fz_hc (by with_reducible assumption) (by omega) ?_) | (focus (go_simp; done)) | (with_reducible refine fz_alloc ?_ ?_) | go_size))); done)); (focus (go_size; done)); (focus (go_size; done)))); rintro ⟨⟨n0, n1⟩, ⟨nf0, nf1⟩, ns, nn⟩)); (try (refine gcut (p := (w5.cell? ⟨w3.heap.size, 0, none⟩ = some (.int .i64 x) ∧ w5.cell? ⟨w3.heap.size, 1, none⟩ = some (.int .i64 y)) ∧ (w5.frozen? ⟨w3.heap.size, 0, none⟩ = false ∧ w5.frozen? ⟨w3.heap.size, 1, none⟩ = false) ∧ w3.heap.size < w5.heap.size ∧ ¬ w5.heap.size = w3.heap.size) ?_ ?_; (focus (refine ⟨?_, ?_, ?_, ?_⟩; (focus (((repeat' apply And.intro) <;> (repeat' (first | (with_reducible assumption) | (with_reducible refine keep_drew ?_) | (with_reducible refine keep_setx (by omega) ?_) | (with_reducible refine keep_hc (by with_reducible assumption) (by omega) ?_) | (focus (go_simp; done)) | (with_reducible refine keep_alloc ?_)))); done)); (focus (((repeat' apply And.intro) <;> (repeat' (first | (with_reducible assumption) | (with_reducible refine fz_drew ?_) | (with_reducible refine fz_set ?_) | (with_reducible refine fz_hc (by with_reducible assumption) (by omega) ?_) | (focus (go_simp; done)) | (with_reducible refine fz_alloc ?_ ?_) | go_size))); done)); (focus (go_size; done)); (focus (go_size; done)))); rintro ⟨⟨o0, o1⟩, ⟨of0, of1⟩, os, on⟩))))
      refine post_genP (G := fun W => (W.cell? ⟨w.heap.size, 0, none⟩ = some (.int .i64 0) ∧ W.cell? ⟨w.heap.size, 1, none⟩ = some (.int .i64 0)) ∧ Below w.heap.size w W) ⟨⟨(set2P (o := 0) (by with_reducible assumption) (by with_reducible assumption)).1, (set2P (o := 0) (by with_reducible assumption) (by with_reducible assumption)).2.1⟩, by (repeat' (first | (with_reducible exact Below.refl _ _) | (with_reducible refine Below.alloc ?_ ?_ _) | (with_reducible refine Below.drew ?_) | (with_reducible refine below_drewN' ?_ _) | (with_reducible refine Below.setCell ?_ ?_ _) | (with_reducible refine Below.trans ?_ (Below.mono (by assumption) ?_)) | go_size))⟩ ?_
      rintro W2 ⟨⟨z0, z1⟩, hB⟩
      refine bodyPost_ret (v := .tuple #[.agg #[.int .i64 0, .int .i64 0], .int .i64 6]) (by simp [results, Tryd.results29, go_sem, *]) rfl ?_
      exact ⟨rfl, hB⟩
end Go.Proofs.YtajjoihfccnfhaaDoor
