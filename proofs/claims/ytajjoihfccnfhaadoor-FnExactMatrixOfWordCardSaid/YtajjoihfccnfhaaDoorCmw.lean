/-
  Matrices of words, by both programs. Conditions: the sizes, as each says.
-/
import Derived.Test.YtajjoihfccnfhaaDoorCwd
import Derived.Test.YtajjoihfccnfhaaDoorCpw
namespace Go.Proofs.YtajjoihfccnfhaaDoor
open Go.RowKit
set_option maxHeartbeats 2000000
/-- A product of two matrices, as the machine reckons. -/
def mulG (m n : Int × Int × Int × Int) : Int × Int × Int × Int :=
  ((applyG m.1 m.2.1 m.2.2.1 m.2.2.2 n.1 n.2.2.1).1, (applyG m.1 m.2.1 m.2.2.1 m.2.2.2 n.2.1 n.2.2.2).1, (applyG m.1 m.2.1 m.2.2.1 m.2.2.2 n.1 n.2.2.1).2, (applyG m.1 m.2.1 m.2.2.1 m.2.2.2 n.2.1 n.2.2.2).2)
def ltr (c : UInt8) : Int × Int × Int × Int := if c = 76 then (1, 0, 1, 1) else (1, 1, 0, 1)
def mOk (m : Int × Int × Int × Int) : Bool := ppB m.1 m.2.1 m.2.2.1 m.2.2.2
def wgo (m : Int × Int × Int × Int) : List UInt8 → Option (Int × Int × Int × Int)
  | [] => some m
  | c :: r => if mOk (mulG m (ltr c)) = true then wgo (mulG m (ltr c)) r else none
/-- What the matrix of a word is: four numbers and the code. -/
def wmR (l : List UInt8) : Int × Int × Int × Int × Int := if wordB l then (match wgo (1, 0, 0, 1) l with
  | some (a, b, c, d) => (a, b, c, d, 0)
  | none => (0, 0, 0, 0, 3)) else (0, 0, 0, 0, 2)
theorem wgo_bad {m p : Int × Int × Int × Int} {c : UInt8} {r : List UInt8} (h : mulG m (ltr c) = p) (hp : mOk p = false) : wgo m (c :: r) = none := by
  unfold wgo
  rw [h, hp]
  rfl
theorem wgo_good {m p : Int × Int × Int × Int} {c : UInt8} {r : List UInt8} (h : mulG m (ltr c) = p) (hp : mOk p = true) : wgo m (c :: r) = wgo p r := by
  rw [wgo, h, hp]
  rfl
/-- What a walk over a word keeps: the result's cells, the product's. -/
structure MI (w W : World) (N : Nat) (a b c d : Int) : Prop where
  r : (W.cell? ⟨w.heap.size, 0, none⟩ = some (.int .i64 0) ∧ W.cell? ⟨w.heap.size, 1, none⟩ = some (.int .i64 0) ∧ W.cell? ⟨w.heap.size, 2, none⟩ = some (.int .i64 0) ∧ W.cell? ⟨w.heap.size, 3, none⟩ = some (.int .i64 0))
  m : (W.cell? ⟨N, 0, none⟩ = some (.int .i64 a) ∧ W.cell? ⟨N, 1, none⟩ = some (.int .i64 b) ∧ W.cell? ⟨N, 2, none⟩ = some (.int .i64 c) ∧ W.cell? ⟨N, 3, none⟩ = some (.int .i64 d))
  rf : ∀ j, W.frozen? ⟨w.heap.size, j, none⟩ = false
  mf : ∀ j, W.frozen? ⟨N, j, none⟩ = false
  lt : w.heap.size < N
  ln : N < W.heap.size
  b : Below w.heap.size w W
theorem MI.below {w W W1 : World} {N : Nat} {a b c d : Int} (h : MI w W N a b c d) (hb : Below W.heap.size W W1) : MI w W1 N a b c d :=
  ⟨⟨cell_keep hb h.r.1, cell_keep hb h.r.2.1, cell_keep hb h.r.2.2.1, cell_keep hb h.r.2.2.2⟩, ⟨cell_keep hb h.m.1, cell_keep hb h.m.2.1, cell_keep hb h.m.2.2.1, cell_keep hb h.m.2.2.2⟩,
    fun j => (hb.frozen (p := ⟨w.heap.size, j, none⟩) (show w.heap.size < _ from Nat.lt_trans h.lt h.ln)).trans (h.rf j), fun j => (hb.frozen (p := ⟨N, j, none⟩) h.ln).trans (h.mf j), h.lt, Nat.lt_of_lt_of_le h.ln hb.size, h.b.trans (hb.mono (Nat.le_of_lt (Nat.lt_trans h.lt h.ln)))⟩
theorem MI.alloc {w W : World} {N : Nat} {a b c d : Int} (h : MI w W N a b c d) (o : Obj) : MI w (W.alloc o) N a b c d := h.below ((Below.refl _ _).alloc (Nat.le_refl _) o)
theorem MI.drew {w W : World} {N : Nat} {a b c d : Int} (h : MI w W N a b c d) : MI w W.drew N a b c d := ⟨h.r, h.m, h.rf, h.mf, h.lt, h.ln, h.b.drew⟩
theorem MI.drewN {w W : World} {N : Nat} {a b c d : Int} (h : MI w W N a b c d) (n : Nat) : MI w (W.drewN n) N a b c d := ⟨h.r, h.m, h.rf, h.mf, h.lt, h.ln, below_drewN' h.b n⟩
theorem set4 {W : World} {N : Nat} {u0 u1 u2 u3 : Value} (v0 v1 v2 v3 : Value) (h0 : W.cell? ⟨N, 0, none⟩ = some u0) (h1 : W.cell? ⟨N, 1, none⟩ = some u1) (h2 : W.cell? ⟨N, 2, none⟩ = some u2) (h3 : W.cell? ⟨N, 3, none⟩ = some u3) :
    ((((W.setCell ⟨N, 0, none⟩ v0).setCell ⟨N, 1, none⟩ v1).setCell ⟨N, 2, none⟩ v2).setCell ⟨N, 3, none⟩ v3).cell? ⟨N, 0, none⟩ = some v0 ∧ ((((W.setCell ⟨N, 0, none⟩ v0).setCell ⟨N, 1, none⟩ v1).setCell ⟨N, 2, none⟩ v2).setCell ⟨N, 3, none⟩ v3).cell? ⟨N, 1, none⟩ = some v1 ∧
    ((((W.setCell ⟨N, 0, none⟩ v0).setCell ⟨N, 1, none⟩ v1).setCell ⟨N, 2, none⟩ v2).setCell ⟨N, 3, none⟩ v3).cell? ⟨N, 2, none⟩ = some v2 ∧ ((((W.setCell ⟨N, 0, none⟩ v0).setCell ⟨N, 1, none⟩ v1).setCell ⟨N, 2, none⟩ v2).setCell ⟨N, 3, none⟩ v3).cell? ⟨N, 3, none⟩ = some v3 := by
  have ne : ∀ {i j : Nat}, ¬ i = j → (⟨N, i, none⟩ : Addr) ≠ ⟨N, j, none⟩ := fun h e => h (by have := congrArg Addr.off e; simpa using this)
  have o := fun (V : World) (i j : Nat) (v : Value) (h : ¬ i = j) => World.cell?_setCell_other V ⟨N, i, none⟩ ⟨N, j, none⟩ v (ne h)
  have g1 := (o W 0 1 v0 (by omega)).trans h1
  have g2 := (o _ 1 2 v1 (by omega)).trans ((o W 0 2 v0 (by omega)).trans h2)
  have g3 := (o _ 2 3 v2 (by omega)).trans ((o _ 1 3 v1 (by omega)).trans ((o W 0 3 v0 (by omega)).trans h3))
  refine ⟨?_, ?_, ?_, World.cell?_setCell_same (h := g3) ..⟩
  · exact (o _ 3 0 v3 (by omega)).trans ((o _ 2 0 v2 (by omega)).trans ((o _ 1 0 v1 (by omega)).trans (World.cell?_setCell_same (h := h0) ..)))
  · exact (o _ 3 1 v3 (by omega)).trans ((o _ 2 1 v2 (by omega)).trans (World.cell?_setCell_same (h := g1) ..))
  · exact (o _ 3 2 v3 (by omega)).trans (World.cell?_setCell_same (h := g2) ..)
theorem mi_beyond {B : Nat} {w wr : World} {b o : Nat} {v : Value} (h : Below B w wr) (hB : B ≤ b) : Below B w (wr.setCell ⟨b, o, none⟩ v) := h.setCell (p := ⟨b, o, none⟩) hB v
theorem MI.store {w W : World} {N : Nat} {a b c d : Int} (h : MI w W N a b c d) (p q r t : Int) :
    MI w ((((W.setCell ⟨N, 0, none⟩ (.int .i64 p)).setCell ⟨N, 1, none⟩ (.int .i64 q)).setCell ⟨N, 2, none⟩ (.int .i64 r)).setCell ⟨N, 3, none⟩ (.int .i64 t)) N p q r t := by
  have hne : N ≠ w.heap.size := Nat.ne_of_gt h.lt
  have hle : w.heap.size ≤ N := Nat.le_of_lt h.lt
  refine ⟨⟨?_, ?_, ?_, ?_⟩, set4 _ _ _ _ h.m.1 h.m.2.1 h.m.2.2.1 h.m.2.2.2, fun j => ?_, fun j => ?_, h.lt, ?_, mi_beyond (mi_beyond (mi_beyond (mi_beyond h.b hle) hle) hle) hle⟩
  · exact keep_setx hne (keep_setx hne (keep_setx hne (keep_setx hne h.r.1)))
  · exact keep_setx hne (keep_setx hne (keep_setx hne (keep_setx hne h.r.2.1)))
  · exact keep_setx hne (keep_setx hne (keep_setx hne (keep_setx hne h.r.2.2.1)))
  · exact keep_setx hne (keep_setx hne (keep_setx hne (keep_setx hne h.r.2.2.2)))
  · rw [World.frozen?_setCell, World.frozen?_setCell, World.frozen?_setCell, World.frozen?_setCell]; exact h.rf j
  · rw [World.frozen?_setCell, World.frozen?_setCell, World.frozen?_setCell, World.frozen?_setCell]; exact h.mf j
  · rw [World.size_setCell, World.size_setCell, World.size_setCell, World.size_setCell]; exact h.ln
theorem post_gen4 {P : Program} {fn : Func} {R : Ending → World → Prop} {ex : Exit} {a : Act} {W : World} {G : World → Prop} (hF : G W) (h : ∀ w2, G w2 → bodyPost P fn R ex a w2) : bodyPost P fn R ex a W := h W hF
theorem specTimesG {a b c d e f g h p q r t : Int} (hp : mulG (a, b, c, d) (e, f, g, h) = (p, q, r, t)) (w : World) : Calls Tryd.prog 64 #[.agg #[.int .i64 a, .int .i64 b, .int .i64 c, .int .i64 d], .agg #[.int .i64 e, .int .i64 f, .int .i64 g, .int .i64 h]] w fun en w' =>
    en = .returned (.agg #[.int .i64 p, .int .i64 q, .int .i64 r, .int .i64 t]) ∧ Below w.heap.size w w' := by
  have h := l01Times_any a b c d e f g h w
  unfold mulG at hp
  simp only [Prod.mk.injEq] at hp
  obtain ⟨h0, h1, h2, h3⟩ := hp
  rw [h0, h1, h2, h3] at h
  exact h
theorem implTimesG {a b c d e f g h p q r t : Int} (hp : mulG (a, b, c, d) (e, f, g, h) = (p, q, r, t)) (w : World) : Calls Tryd.prog 43 #[.agg #[.int .i64 a, .int .i64 b, .int .i64 c, .int .i64 d], .agg #[.int .i64 e, .int .i64 f, .int .i64 g, .int .i64 h]] w fun en w' =>
    en = .returned (.agg #[.int .i64 p, .int .i64 q, .int .i64 r, .int .i64 t]) ∧ Below w.heap.size w w' := by
  have h := times_any a b c d e f g h w
  unfold mulG at hp
  simp only [Prod.mk.injEq] at hp
  obtain ⟨h0, h1, h2, h3⟩ := hp
  rw [h0, h1, h2, h3] at h
  exact h
theorem l06Matrix_any (s : ByteArray) (hs : s.size ≤ 200) (hw : s.data.toList.all letB = true) (w : World) : Calls Tryd.prog 40 #[.string s] w fun e w' =>
    e = .returned (match wgo (1, 0, 0, 1) s.data.toList with
      | some (a, b, c, d) => .tuple #[.agg #[.int .i64 a, .int .i64 b, .int .i64 c, .int .i64 d], .bool true]
      | none => .tuple #[.agg #[.int .i64 0, .int .i64 0, .int .i64 0, .int .i64 0], .bool false]) ∧ Below w.heap.size w w' := by
  have hlen : s.data.toList.length = s.size := Array.length_toList
  obtain ⟨G, hG⟩ : ∃ G, wgo (1, 0, 0, 1) s.data.toList = G := ⟨_, rfl⟩
  rw [hG]
  go_enter Tryd.func40, Tryd.ntmps40
  go_wp2
  go_loopw [5] (fun i W => ∃ (k : Nat) (a b c d : Int), i = .int .i64 k ∧ k ≤ s.size ∧ wgo (a, b, c, d) (s.data.toList.drop k) = G ∧ MI w W (w.heap.size + 1) a b c d) (fun i _ => s.size - (intOf i).toNat)
  case atStart =>
    refine ⟨0, 1, 0, 0, 1, rfl, Nat.zero_le _, hG, ⟨by (focus (((repeat' apply And.intro) <;> (repeat' (first | (with_reducible assumption) | (with_reducible refine keep_drew ?_) | (with_reducible refine keep_setx (by omega) ?_) | (with_reducible refine keep_hc (by with_reducible assumption) (by omega) ?_) | (focus (go_simp; done)) | (with_reducible refine keep_alloc ?_)))); done)), by (focus (((repeat' apply And.intro) <;> (repeat' (first | (with_reducible assumption) | (with_reducible refine keep_drew ?_) | (with_reducible refine keep_setx (by omega) ?_) | (with_reducible refine keep_hc (by with_reducible assumption) (by omega) ?_) | (focus (go_simp; done)) | (with_reducible refine keep_alloc ?_)))); done)), fun j => by go_simp, fun j => by go_simp, by omega, by go_size, by (repeat' (first | (with_reducible exact Below.refl _ _) | (with_reducible refine Below.alloc ?_ ?_ _) | (with_reducible refine Below.drew ?_) | (with_reducible refine below_drewN' ?_ _) | (with_reducible refine Below.setCell ?_ ?_ _) | (with_reducible refine Below.trans ?_ (Below.mono (by assumption) ?_)) | go_size))⟩⟩
  case round =>
    obtain ⟨k, a, b, c, d, rfl, hk, hg, hM⟩ := hrel
    have HG := Lib.hid hg
    have HM := Lib.hid hM
    obtain ⟨⟨r0, r1, r2, r3⟩, ⟨m0, m1, m2, m3⟩, hrf, hmf, hlt, hln, hB⟩ := hM
    have f0 := hrf 0
    have f1 := hrf 1
    have f2 := hrf 2
    have f3 := hrf 3
    clear hg hG hrf hmf
    by_cases hin : k < s.size
    · have hini : (k : Int) < (s.size : Int) := by omega
      have hds : s.data.toList.drop k = s[k] :: s.data.toList.drop (k + 1) := by
        rw [List.drop_eq_getElem_cons (by rw [hlen]; exact hin)]; rfl
      have hle : s[k] = 76 ∨ s[k] = 82 := letB_iff.1 (List.all_eq_true.1 hw _ (by show s.data.toList[k] ∈ _; exact List.getElem_mem _))
      have hgn := HG.out
      rw [hds] at hgn
      have ew : wrap64 ((k : Int) + 1) = (k : Int) + 1 := by unfold wrap64; omega
      rcases hle with hc | hc
      · have hci : ¬ (s[k].toNat : Int) = 82 := by rw [hc]; decide
        have hcb : ((s[k].toNat : Int) == 82) = false := by rw [hc]; rfl
        obtain ⟨⟨p, q, r, t⟩, hp⟩ : ∃ P, mulG (a, b, c, d) (1, 0, 1, 1) = P := ⟨_, rfl⟩
        have hpl : mulG (a, b, c, d) (ltr s[k]) = (p, q, r, t) := by rw [hc]; exact hp
        have ht := fun W => specTimesG hp W
        have hm := fun W => l01Matrix_any p q r t W
        have hbad := fun h => (wgo_bad (r := s.data.toList.drop (k + 1)) hpl h).symm.trans hgn
        have hgood := fun h => (wgo_good (r := s.data.toList.drop (k + 1)) hpl h).symm.trans hgn
        have hmo : mOk (p, q, r, t) = ppB p q r t := rfl
        rw [hmo] at hbad hgood
        obtain ⟨z, hz⟩ : ∃ z, ppB p q r t = z := ⟨_, rfl⟩
        rw [hz] at hm hbad hgood
        have HT := Lib.hid ht
        have HQ := Lib.hid hm
        have HBAD := Lib.hid hbad
        have HGOOD := Lib.hid hgood
        clear hp hpl ht hm hbad hgood hmo hz hds hgn hw
        go_upto_region 9 with (first | (go_at_call 64; go_must ((with_reducible refine (HT.out _).mono ?_)); rintro e w1 ⟨rfl, hb1⟩; have HM1 := Lib.hid ((HM.out.alloc _).below hb1); obtain ⟨x0, x1, x2, x3⟩ := HM1.out.m; have y0 := HM1.out.mf 0; have y1 := HM1.out.mf 1; have y2 := HM1.out.mf 2; have y3 := HM1.out.mf 3))
        refine wp_gen (F := fun W => MI w W (w.heap.size + 1) p q r t) (HM1.out.store p q r t) (fun w2 hM2 => ?_)
        clear r0 r1 r2 r3 m0 m1 m2 m3 hB f0 f1 f2 f3 x0 x1 x2 x3 y0 y1 y2 y3
        have HM2 := Lib.hid hM2
        obtain ⟨m0, m1, m2, m3⟩ := hM2.m
        have hB2 := hM2.b
        clear hM2
        cases z
        · obtain rfl := HBAD.out rfl
          go_wp2_with (first | (go_at_call 65; go_must ((with_reducible refine (HQ.out _).mono ?_)); rintro e w3 ⟨rfl, hb3⟩; have HM3 := Lib.hid (HM2.out.below hb3); obtain ⟨x0, x1, x2, x3⟩ := HM3.out.r; have y0 := HM3.out.rf 0; have y1 := HM3.out.rf 1; have y2 := HM3.out.rf 2; have y3 := HM3.out.rf 3))
          refine post_gen4 (G := fun W => (W.cell? ⟨w.heap.size, 0, none⟩ = some (.int .i64 0) ∧ W.cell? ⟨w.heap.size, 1, none⟩ = some (.int .i64 0) ∧ W.cell? ⟨w.heap.size, 2, none⟩ = some (.int .i64 0) ∧ W.cell? ⟨w.heap.size, 3, none⟩ = some (.int .i64 0)) ∧ Below w.heap.size w W) ⟨set4 _ _ _ _ x0 x1 x2 x3, mi_beyond (mi_beyond (mi_beyond (mi_beyond HM3.out.b (Nat.le_refl _)) (Nat.le_refl _)) (Nat.le_refl _)) (Nat.le_refl _)⟩ ?_
          rintro W2 ⟨⟨z0, z1, z2, z3⟩, hBB⟩
          refine bodyPost_ret (v := .tuple #[.agg #[.int .i64 0, .int .i64 0, .int .i64 0, .int .i64 0], .bool false]) (by simp [results, Tryd.results40, go_sem, *]) rfl ?_
          exact ⟨rfl, hBB⟩
        · go_wp2_with (first | (go_at_call 65; go_must ((with_reducible refine (HQ.out _).mono ?_)); rintro e w3 ⟨rfl, hb3⟩; have HM3 := Lib.hid (HM2.out.below hb3)))
          exact ⟨⟨k + 1, p, q, r, t, by go_num, by omega, HGOOD.out trivial, HM3.out⟩, by simp [intOf]; omega⟩
      · have hci : (s[k].toNat : Int) = 82 := by rw [hc]; rfl
        obtain ⟨⟨p, q, r, t⟩, hp⟩ : ∃ P, mulG (a, b, c, d) (1, 1, 0, 1) = P := ⟨_, rfl⟩
        have hpl : mulG (a, b, c, d) (ltr s[k]) = (p, q, r, t) := by rw [hc]; exact hp
        have ht := fun W => specTimesG hp W
        have hm := fun W => l01Matrix_any p q r t W
        have hbad := fun h => (wgo_bad (r := s.data.toList.drop (k + 1)) hpl h).symm.trans hgn
        have hgood := fun h => (wgo_good (r := s.data.toList.drop (k + 1)) hpl h).symm.trans hgn
        have hmo : mOk (p, q, r, t) = ppB p q r t := rfl
        rw [hmo] at hbad hgood
        obtain ⟨z, hz⟩ : ∃ z, ppB p q r t = z := ⟨_, rfl⟩
        rw [hz] at hm hbad hgood
        have HT := Lib.hid ht
        have HQ := Lib.hid hm
        have HBAD := Lib.hid hbad
        have HGOOD := Lib.hid hgood
        clear hp hpl ht hm hbad hgood hmo hz hds hgn hw
        go_upto_region 9 with (first | (go_at_call 64; go_must ((with_reducible refine (HT.out _).mono ?_)); rintro e w1 ⟨rfl, hb1⟩; have HM1 := Lib.hid ((HM.out.alloc _).below hb1); obtain ⟨x0, x1, x2, x3⟩ := HM1.out.m; have y0 := HM1.out.mf 0; have y1 := HM1.out.mf 1; have y2 := HM1.out.mf 2; have y3 := HM1.out.mf 3))
        refine wp_gen (F := fun W => MI w W (w.heap.size + 1) p q r t) (HM1.out.store p q r t) (fun w2 hM2 => ?_)
        clear r0 r1 r2 r3 m0 m1 m2 m3 hB f0 f1 f2 f3 x0 x1 x2 x3 y0 y1 y2 y3
        have HM2 := Lib.hid hM2
        obtain ⟨m0, m1, m2, m3⟩ := hM2.m
        have hB2 := hM2.b
        clear hM2
        cases z
        · obtain rfl := HBAD.out rfl
          go_wp2_with (first | (go_at_call 65; go_must ((with_reducible refine (HQ.out _).mono ?_)); rintro e w3 ⟨rfl, hb3⟩; have HM3 := Lib.hid (HM2.out.below hb3); obtain ⟨x0, x1, x2, x3⟩ := HM3.out.r; have y0 := HM3.out.rf 0; have y1 := HM3.out.rf 1; have y2 := HM3.out.rf 2; have y3 := HM3.out.rf 3))
          refine post_gen4 (G := fun W => (W.cell? ⟨w.heap.size, 0, none⟩ = some (.int .i64 0) ∧ W.cell? ⟨w.heap.size, 1, none⟩ = some (.int .i64 0) ∧ W.cell? ⟨w.heap.size, 2, none⟩ = some (.int .i64 0) ∧ W.cell? ⟨w.heap.size, 3, none⟩ = some (.int .i64 0)) ∧ Below w.heap.size w W) ⟨set4 _ _ _ _ x0 x1 x2 x3, mi_beyond (mi_beyond (mi_beyond (mi_beyond HM3.out.b (Nat.le_refl _)) (Nat.le_refl _)) (Nat.le_refl _)) (Nat.le_refl _)⟩ ?_
          rintro W2 ⟨⟨z0, z1, z2, z3⟩, hBB⟩
          refine bodyPost_ret (v := .tuple #[.agg #[.int .i64 0, .int .i64 0, .int .i64 0, .int .i64 0], .bool false]) (by simp [results, Tryd.results40, go_sem, *]) rfl ?_
          exact ⟨rfl, hBB⟩
        · go_wp2_with (first | (go_at_call 65; go_must ((with_reducible refine (HQ.out _).mono ?_)); rintro e w3 ⟨rfl, hb3⟩; have HM3 := Lib.hid (HM2.out.below hb3)))
          exact ⟨⟨k + 1, p, q, r, t, by go_num, by omega, HGOOD.out trivial, HM3.out⟩, by simp [intOf]; omega⟩
    · obtain rfl : k = s.size := by omega
      have hfin := HG.out
      rw [show s.data.toList.drop s.size = [] from List.drop_eq_nil_of_le (Nat.le_of_eq hlen)] at hfin
      unfold wgo at hfin
      subst hfin
      go_wp2
      refine post_gen4 (G := fun W => (W.cell? ⟨w.heap.size, 0, none⟩ = some (.int .i64 a) ∧ W.cell? ⟨w.heap.size, 1, none⟩ = some (.int .i64 b) ∧ W.cell? ⟨w.heap.size, 2, none⟩ = some (.int .i64 c) ∧ W.cell? ⟨w.heap.size, 3, none⟩ = some (.int .i64 d)) ∧ Below w.heap.size w W) ⟨set4 _ _ _ _ r0 r1 r2 r3, mi_beyond (mi_beyond (mi_beyond (mi_beyond hB (Nat.le_refl _)) (Nat.le_refl _)) (Nat.le_refl _)) (Nat.le_refl _)⟩ ?_
      rintro W2 ⟨⟨z0, z1, z2, z3⟩, hBB⟩
      refine bodyPost_ret (v := .tuple #[.agg #[.int .i64 a, .int .i64 b, .int .i64 c, .int .i64 d], .bool true]) (by simp [results, Tryd.results40, go_sem, *]) rfl ?_
      exact ⟨rfl, hBB⟩
theorem specMW_any (s : ByteArray) (hs : s.size ≤ 1048576) (w : World) : Calls Tryd.prog 13 #[.string s] w fun e w' =>
    e = .returned (.tuple #[.agg #[.int .i64 (wmR s.data.toList).1, .int .i64 (wmR s.data.toList).2.1, .int .i64 (wmR s.data.toList).2.2.1, .int .i64 (wmR s.data.toList).2.2.2.1], .int .i64 (wmR s.data.toList).2.2.2.2]) ∧ Below w.heap.size w w' := by
  have hlen : s.data.toList.length = s.size := Array.length_toList
  have h1 := fun W => letters_any s hs W
  have h2 := fun h1 h2 W => l06Matrix_any s h1 h2 W
  unfold wmR
  cases e1 : wordB s.data.toList
  · rw [if_neg (by decide)]
    rw [e1] at h1
    have H1 := Lib.hid h1
    clear h1 h2 e1 hlen
    go_enter Tryd.func13, Tryd.ntmps13
    go_wp2_with (go_at_call 39; go_must ((with_reducible refine (H1.out _).mono ?_)); rintro e w1 ⟨rfl, hb1⟩; obtain ⟨hc1, hf1, hz1, hn1⟩ := bstep 1 w hb1 (by go_size); (try (refine gcut (p := (w1.cell? ⟨w.heap.size, 0, none⟩ = some (.int .i64 0) ∧ w1.cell? ⟨w.heap.size, 1, none⟩ = some (.int .i64 0) ∧ w1.cell? ⟨w.heap.size, 2, none⟩ = some (.int .i64 0) ∧ w1.cell? ⟨w.heap.size, 3, none⟩ = some (.int .i64 0)) ∧ (w1.frozen? ⟨w.heap.size, 0, none⟩ = false ∧ w1.frozen? ⟨w.heap.size, 1, none⟩ = false ∧ w1.frozen? ⟨w.heap.size, 2, none⟩ = false ∧ w1.frozen? ⟨w.heap.size, 3, none⟩ = false) ∧ w.heap.size < w1.heap.size ∧ ¬ w1.heap.size = w.heap.size) ?_ ?_; (focus (refine ⟨?_, ?_, ?_, ?_⟩; (focus (((repeat' apply And.intro) <;> (repeat' (first | (with_reducible assumption) | (with_reducible refine keep_drew ?_) | (with_reducible refine keep_setx (by omega) ?_) | (with_reducible refine keep_hc (by with_reducible assumption) (by omega) ?_) | (focus (go_simp; done)) | (with_reducible refine keep_alloc ?_)))); done)); (focus (((repeat' apply And.intro) <;> (repeat' (first | (with_reducible assumption) | (with_reducible refine fz_drew ?_) | (with_reducible refine fz_set ?_) | (with_reducible refine fz_hc (by with_reducible assumption) (by omega) ?_) | (focus (go_simp; done)) | (with_reducible refine fz_alloc ?_ ?_) | go_size))); done)); (focus (go_size; done)); (focus (go_size; done)))); rintro ⟨⟨q0, q1, q2, q3⟩, ⟨qf0, qf1, qf2, qf3⟩, qs, qn⟩)))
    refine post_gen4 (G := fun W => (W.cell? ⟨w.heap.size, 0, none⟩ = some (.int .i64 0) ∧ W.cell? ⟨w.heap.size, 1, none⟩ = some (.int .i64 0) ∧ W.cell? ⟨w.heap.size, 2, none⟩ = some (.int .i64 0) ∧ W.cell? ⟨w.heap.size, 3, none⟩ = some (.int .i64 0)) ∧ Below w.heap.size w W) ⟨set4 _ _ _ _ q0 q1 q2 q3, by (repeat' (first | (with_reducible exact Below.refl _ _) | (with_reducible refine Below.alloc ?_ ?_ _) | (with_reducible refine Below.drew ?_) | (with_reducible refine below_drewN' ?_ _) | (with_reducible refine Below.setCell ?_ ?_ _) | (with_reducible refine Below.trans ?_ (Below.mono (by assumption) ?_)) | go_size))⟩ ?_
    rintro W2 ⟨⟨z0, z1, z2, z3⟩, hBB⟩
    refine bodyPost_ret (v := .tuple #[.agg #[.int .i64 0, .int .i64 0, .int .i64 0, .int .i64 0], .int .i64 2]) (by simp [results, Tryd.results13, go_sem, *]) rfl ?_
    exact ⟨rfl, hBB⟩
  · rw [if_pos rfl]
    obtain ⟨hl, hall⟩ := wordB_iff.1 e1
    have h2' := h2 (by omega) (List.all_eq_true.2 fun c hc => letB_iff.2 (hall c hc))
    rw [e1] at h1
    have H1 := Lib.hid h1
    clear h1 h2 e1 hlen hl hall
    cases e2 : wgo (1, 0, 0, 1) s.data.toList with
    | none =>
      rw [e2] at h2'
      dsimp only at h2' ⊢
      have H2 := Lib.hid h2'
      clear h2' e2
      go_enter Tryd.func13, Tryd.ntmps13
      go_wp2_with (first
        | (go_at_call 39; go_must ((with_reducible refine (H1.out _).mono ?_)); rintro e w1 ⟨rfl, hb1⟩; obtain ⟨hc1, hf1, hz1, hn1⟩ := bstep 1 w hb1 (by go_size); (try (refine gcut (p := (w1.cell? ⟨w.heap.size, 0, none⟩ = some (.int .i64 0) ∧ w1.cell? ⟨w.heap.size, 1, none⟩ = some (.int .i64 0) ∧ w1.cell? ⟨w.heap.size, 2, none⟩ = some (.int .i64 0) ∧ w1.cell? ⟨w.heap.size, 3, none⟩ = some (.int .i64 0)) ∧ (w1.frozen? ⟨w.heap.size, 0, none⟩ = false ∧ w1.frozen? ⟨w.heap.size, 1, none⟩ = false ∧ w1.frozen? ⟨w.heap.size, 2, none⟩ = false ∧ w1.frozen? ⟨w.heap.size, 3, none⟩ = false) ∧ w.heap.size < w1.heap.size ∧ ¬ w1.heap.size = w.heap.size) ?_ ?_; (focus (refine ⟨?_, ?_, ?_, ?_⟩; (focus (((repeat' apply And.intro) <;> (repeat' (first | (with_reducible assumption) | (with_reducible refine keep_drew ?_) | (with_reducible refine keep_setx (by omega) ?_) | (with_reducible refine keep_hc (by with_reducible assumption) (by omega) ?_) | (focus (go_simp; done)) | (with_reducible refine keep_alloc ?_)))); done)); (focus (((repeat' apply And.intro) <;> (repeat' (first | (with_reducible assumption) | (with_reducible refine fz_drew ?_) | (with_reducible refine fz_set ?_) | (with_reducible refine fz_hc (by with_reducible assumption) (by omega) ?_) | (focus (go_simp; done)) | (with_reducible refine fz_alloc ?_ ?_) | go_size))); done)); (focus (go_size; done)); (focus (go_size; done)))); rintro ⟨⟨q0, q1, q2, q3⟩, ⟨qf0, qf1, qf2, qf3⟩, qs, qn⟩)))
        | (go_at_call 40; go_must ((with_reducible refine (H2.out _).mono ?_)); rintro e w2 ⟨rfl, hb2⟩; obtain ⟨hc2, hf2, hz2, hn2⟩ := bstep 1 w hb2 (by go_size); (try (refine gcut (p := (w2.cell? ⟨w.heap.size, 0, none⟩ = some (.int .i64 0) ∧ w2.cell? ⟨w.heap.size, 1, none⟩ = some (.int .i64 0) ∧ w2.cell? ⟨w.heap.size, 2, none⟩ = some (.int .i64 0) ∧ w2.cell? ⟨w.heap.size, 3, none⟩ = some (.int .i64 0)) ∧ (w2.frozen? ⟨w.heap.size, 0, none⟩ = false ∧ w2.frozen? ⟨w.heap.size, 1, none⟩ = false ∧ w2.frozen? ⟨w.heap.size, 2, none⟩ = false ∧ w2.frozen? ⟨w.heap.size, 3, none⟩ = false) ∧ w.heap.size < w2.heap.size ∧ ¬ w2.heap.size = w.heap.size) ?_ ?_; (focus (refine ⟨?_, ?_, ?_, ?_⟩; (focus (((repeat' apply And.intro) <;> (repeat' (first | (with_reducible assumption) | (with_reducible refine keep_drew ?_) | (with_reducible refine keep_setx (by omega) ?_) | (with_reducible refine keep_hc (by with_reducible assumption) (by omega) ?_) | (focus (go_simp; done)) | (with_reducible refine keep_alloc ?_)))); done)); (focus (((repeat' apply And.intro) <;> (repeat' (first | (with_reducible assumption) | (with_reducible refine fz_drew ?_) | (with_reducible refine fz_set ?_) | (with_reducible refine fz_hc (by with_reducible assumption) (by omega) ?_) | (focus (go_simp; done)) | (with_reducible refine fz_alloc ?_ ?_) | go_size))); done)); (focus (go_size; done)); (focus (go_size; done)))); rintro ⟨⟨r0, r1, r2, r3⟩, ⟨rf0, rf1, rf2, rf3⟩, rs, rn⟩))))
      refine post_gen4 (G := fun W => (W.cell? ⟨w.heap.size, 0, none⟩ = some (.int .i64 0) ∧ W.cell? ⟨w.heap.size, 1, none⟩ = some (.int .i64 0) ∧ W.cell? ⟨w.heap.size, 2, none⟩ = some (.int .i64 0) ∧ W.cell? ⟨w.heap.size, 3, none⟩ = some (.int .i64 0)) ∧ Below w.heap.size w W) ⟨?_, by (repeat' (first | (with_reducible exact Below.refl _ _) | (with_reducible refine Below.alloc ?_ ?_ _) | (with_reducible refine Below.drew ?_) | (with_reducible refine below_drewN' ?_ _) | (with_reducible refine Below.setCell ?_ ?_ _) | (with_reducible refine Below.trans ?_ (Below.mono (by assumption) ?_)) | go_size))⟩ ?_
      · obtain ⟨z0, z1, z2, z3⟩ := set4 (.int .i64 0) (.int .i64 0) (.int .i64 0) (.int .i64 0) r0 r1 r2 r3
        exact ⟨keep_alloc z0, keep_alloc z1, keep_alloc z2, keep_alloc z3⟩
      rintro W2 ⟨⟨z0, z1, z2, z3⟩, hBB⟩
      refine bodyPost_ret (v := .tuple #[.agg #[.int .i64 0, .int .i64 0, .int .i64 0, .int .i64 0], .int .i64 3]) (by simp [results, Tryd.results13, go_sem, *]) rfl ?_
      exact ⟨rfl, hBB⟩
    | some m =>
      obtain ⟨a, b, c, d⟩ := m
      rw [e2] at h2'
      dsimp only at h2' ⊢
      have H2 := Lib.hid h2'
      clear h2' e2
      go_enter Tryd.func13, Tryd.ntmps13
      go_wp2_with (first
        | (go_at_call 39; go_must ((with_reducible refine (H1.out _).mono ?_)); rintro e w1 ⟨rfl, hb1⟩; obtain ⟨hc1, hf1, hz1, hn1⟩ := bstep 1 w hb1 (by go_size); (try (refine gcut (p := (w1.cell? ⟨w.heap.size, 0, none⟩ = some (.int .i64 0) ∧ w1.cell? ⟨w.heap.size, 1, none⟩ = some (.int .i64 0) ∧ w1.cell? ⟨w.heap.size, 2, none⟩ = some (.int .i64 0) ∧ w1.cell? ⟨w.heap.size, 3, none⟩ = some (.int .i64 0)) ∧ (w1.frozen? ⟨w.heap.size, 0, none⟩ = false ∧ w1.frozen? ⟨w.heap.size, 1, none⟩ = false ∧ w1.frozen? ⟨w.heap.size, 2, none⟩ = false ∧ w1.frozen? ⟨w.heap.size, 3, none⟩ = false) ∧ w.heap.size < w1.heap.size ∧ ¬ w1.heap.size = w.heap.size) ?_ ?_; (focus (refine ⟨?_, ?_, ?_, ?_⟩; (focus (((repeat' apply And.intro) <;> (repeat' (first | (with_reducible assumption) | (with_reducible refine keep_drew ?_) | (with_reducible refine keep_setx (by omega) ?_) | (with_reducible refine keep_hc (by with_reducible assumption) (by omega) ?_) | (focus (go_simp; done)) | (with_reducible refine keep_alloc ?_)))); done)); (focus (((repeat' apply And.intro) <;> (repeat' (first | (with_reducible assumption) | (with_reducible refine fz_drew ?_) | (with_reducible refine fz_set ?_) | (with_reducible refine fz_hc (by with_reducible assumption) (by omega) ?_) | (focus (go_simp; done)) | (with_reducible refine fz_alloc ?_ ?_) | go_size))); done)); (focus (go_size; done)); (focus (go_size; done)))); rintro ⟨⟨q0, q1, q2, q3⟩, ⟨qf0, qf1, qf2, qf3⟩, qs, qn⟩)))
        | (go_at_call 40; go_must ((with_reducible refine (H2.out _).mono ?_)); rintro e w2 ⟨rfl, hb2⟩; obtain ⟨hc2, hf2, hz2, hn2⟩ := bstep 1 w hb2 (by go_size); (try (refine gcut (p := (w2.cell? ⟨w.heap.size, 0, none⟩ = some (.int .i64 0) ∧ w2.cell? ⟨w.heap.size, 1, none⟩ = some (.int .i64 0) ∧ w2.cell? ⟨w.heap.size, 2, none⟩ = some (.int .i64 0) ∧ w2.cell? ⟨w.heap.size, 3, none⟩ = some (.int .i64 0)) ∧ (w2.frozen? ⟨w.heap.size, 0, none⟩ = false ∧ w2.frozen? ⟨w.heap.size, 1, none⟩ = false ∧ w2.frozen? ⟨w.heap.size, 2, none⟩ = false ∧ w2.frozen? ⟨w.heap.size, 3, none⟩ = false) ∧ w.heap.size < w2.heap.size ∧ ¬ w2.heap.size = w.heap.size) ?_ ?_; (focus (refine ⟨?_, ?_, ?_, ?_⟩; (focus (((repeat' apply And.intro) <;> (repeat' (first | (with_reducible assumption) | (with_reducible refine keep_drew ?_) | (with_reducible refine keep_setx (by omega) ?_) | (with_reducible refine keep_hc (by with_reducible assumption) (by omega) ?_) | (focus (go_simp; done)) | (with_reducible refine keep_alloc ?_)))); done)); (focus (((repeat' apply And.intro) <;> (repeat' (first | (with_reducible assumption) | (with_reducible refine fz_drew ?_) | (with_reducible refine fz_set ?_) | (with_reducible refine fz_hc (by with_reducible assumption) (by omega) ?_) | (focus (go_simp; done)) | (with_reducible refine fz_alloc ?_ ?_) | go_size))); done)); (focus (go_size; done)); (focus (go_size; done)))); rintro ⟨⟨r0, r1, r2, r3⟩, ⟨rf0, rf1, rf2, rf3⟩, rs, rn⟩))))
      refine post_gen4 (G := fun W => (W.cell? ⟨w.heap.size, 0, none⟩ = some (.int .i64 a) ∧ W.cell? ⟨w.heap.size, 1, none⟩ = some (.int .i64 b) ∧ W.cell? ⟨w.heap.size, 2, none⟩ = some (.int .i64 c) ∧ W.cell? ⟨w.heap.size, 3, none⟩ = some (.int .i64 d)) ∧ Below w.heap.size w W) ⟨?_, by (repeat' (first | (with_reducible exact Below.refl _ _) | (with_reducible refine Below.alloc ?_ ?_ _) | (with_reducible refine Below.drew ?_) | (with_reducible refine below_drewN' ?_ _) | (with_reducible refine Below.setCell ?_ ?_ _) | (with_reducible refine Below.trans ?_ (Below.mono (by assumption) ?_)) | go_size))⟩ ?_
      · obtain ⟨z0, z1, z2, z3⟩ := set4 (.int .i64 a) (.int .i64 b) (.int .i64 c) (.int .i64 d) r0 r1 r2 r3
        exact ⟨keep_alloc z0, keep_alloc z1, keep_alloc z2, keep_alloc z3⟩
      rintro W2 ⟨⟨z0, z1, z2, z3⟩, hBB⟩
      refine bodyPost_ret (v := .tuple #[.agg #[.int .i64 a, .int .i64 b, .int .i64 c, .int .i64 d], .int .i64 0]) (by simp [results, Tryd.results13, go_sem, *]) rfl ?_
      exact ⟨rfl, hBB⟩
theorem unit_any (w : World) : Calls Tryd.prog 42 #[] w fun e w' => e = .returned (.agg #[.int .i64 1, .int .i64 0, .int .i64 0, .int .i64 1]) ∧ Below w.heap.size w w' := by
  go_enter Tryd.func42, Tryd.ntmps42
  go_wp2
  refine bodyPost_ret (v := .agg #[.int .i64 1, .int .i64 0, .int .i64 0, .int .i64 1]) (by simp [results, Tryd.results42, go_sem, *]) rfl ?_
  exact ⟨rfl, by (repeat' (first | (with_reducible exact Below.refl _ _) | (with_reducible refine Below.alloc ?_ ?_ _) | (with_reducible refine Below.drew ?_) | (with_reducible refine below_drewN' ?_ _) | (with_reducible refine Below.setCell ?_ ?_ _) | (with_reducible refine Below.trans ?_ (Below.mono (by assumption) ?_)) | go_size))⟩
theorem letter_any (c : ByteArray) (l : UInt8) (hc : c.data.toList = [l]) (w : World) : Calls Tryd.prog 44 #[.string c] w fun e w' =>
    e = .returned (.agg #[.int .i64 (ltr l).1, .int .i64 (ltr l).2.1, .int .i64 (ltr l).2.2.1, .int .i64 (ltr l).2.2.2]) ∧ Below w.heap.size w w' := by
  have hcl : c.toList = [l] := by rw [toL]; exact hc
  unfold ltr
  by_cases h : l = 76
  · subst h
    rw [if_pos rfl]
    dsimp only
    obtain rfl : c = ⟨#[76]⟩ := by
      have : c.data = #[76] := by rw [← Array.toList_inj, hc]
      cases c
      exact congrArg _ this
    clear hc hcl
    go_enter Tryd.func44, Tryd.ntmps44
    go_wp2
    refine bodyPost_ret (v := .agg #[.int .i64 1, .int .i64 0, .int .i64 1, .int .i64 1]) (by simp [results, Tryd.results44, go_sem, *]) rfl ?_
    exact ⟨rfl, by (repeat' (first | (with_reducible exact Below.refl _ _) | (with_reducible refine Below.alloc ?_ ?_ _) | (with_reducible refine Below.drew ?_) | (with_reducible refine below_drewN' ?_ _) | (with_reducible refine Below.setCell ?_ ?_ _) | (with_reducible refine Below.trans ?_ (Below.mono (by assumption) ?_)) | go_size))⟩
  · rw [if_neg h]
    dsimp only
    have hb : (c.toList == [76]) = false := by
      rw [hcl, beq_eq_false_iff_ne]
      intro e
      exact h (by injection e)
    clear hc hcl
    go_enter Tryd.func44, Tryd.ntmps44
    go_wp2
    refine bodyPost_ret (v := .agg #[.int .i64 1, .int .i64 1, .int .i64 0, .int .i64 1]) (by simp [results, Tryd.results44, go_sem, *]) rfl ?_
    exact ⟨rfl, by (repeat' (first | (with_reducible exact Below.refl _ _) | (with_reducible refine Below.alloc ?_ ?_ _) | (with_reducible refine Below.drew ?_) | (with_reducible refine below_drewN' ?_ _) | (with_reducible refine Below.setCell ?_ ?_ _) | (with_reducible refine Below.trans ?_ (Below.mono (by assumption) ?_)) | go_size))⟩
end Go.Proofs.YtajjoihfccnfhaaDoor
