/-
  Triples out of digits, by the program. Condition: the rows' reach.
-/
import Derived.Test.YtdenfmgmapgpiaaCte
import Derived.Test.YtdenfmgmapgpiaaCtg
namespace Go.Proofs.Ytdenfmgmapgpiaa
open Go.RowKit Go.Shelf
set_option maxHeartbeats 4000000
attribute [local go_sem] Oper.semAt_some
theorem ISl.keepB {w W : World} {A : Option Addr} {n : Nat} {xs : List Int} (h : ISl w A n xs) (hb : Below w.heap.size w W) : ISl W A n xs := h.keep hb
theorem kgen {K : Act → World → Prop} {a : Act} {W : World} {F : World → Prop} (hF : F W) (h : ∀ w2, F w2 → K a w2) : K a W := h W hF
theorem kpR_drew {n₀ Bs : Nat} {W W' : World} (h : KpR n₀ Bs W W') : KpR n₀ Bs W W'.drew := ⟨h.1.drew, h.2⟩
theorem set_hereZ {w : World} {b o : Nat} {x : Value} (h : w.cell? ⟨b, o, none⟩ = some (.int .i64 0)) : (w.setCell ⟨b, o, none⟩ x).cell? ⟨b, o, none⟩ = some x := World.cell?_setCell_same (h := h) ..
/-- The triple, the room of the result, the code. -/
structure TI (w W : World) (T : TypeId) (p q r : Int) : Prop where
  t : C3 W w.heap.size p q r
  f0 : W.frozen? ⟨w.heap.size, 0, none⟩ = false
  f1 : W.frozen? ⟨w.heap.size, 1, none⟩ = false
  f2 : W.frozen? ⟨w.heap.size, 2, none⟩ = false
  z : C3 W (w.heap.size + 1) 0 0 0
  g0 : W.frozen? ⟨w.heap.size + 1, 0, none⟩ = false
  g1 : W.frozen? ⟨w.heap.size + 1, 1, none⟩ = false
  g2 : W.frozen? ⟨w.heap.size + 1, 2, none⟩ = false
  x : Boxed W (w.heap.size + 2) T (.int .i64 0)
theorem TI.own {w A B : World} {T : TypeId} {p q r : Int} {row : Option Nat} (h : TI w A T p q r) (hg : A.grownBy B row) (hr : ∀ r, row = some r → ∃ o : Obj, A.heap[r]? = some o ∧ o.isCells = false) : TI w B T p q r :=
  ⟨⟨cell_kept h.t.1 hg hr, cell_kept h.t.2.1 hg hr, cell_kept h.t.2.2 hg hr⟩, (frozen_kept h.t.1 hg hr).trans h.f0, (frozen_kept h.t.2.1 hg hr).trans h.f1, (frozen_kept h.t.2.2 hg hr).trans h.f2,
    ⟨cell_kept h.z.1 hg hr, cell_kept h.z.2.1 hg hr, cell_kept h.z.2.2 hg hr⟩, (frozen_kept h.z.1 hg hr).trans h.g0, (frozen_kept h.z.2.1 hg hr).trans h.g1, (frozen_kept h.z.2.2 hg hr).trans h.g2, bx_ownR h.x hg hr⟩
theorem TI.drew {w W : World} {T : TypeId} {p q r : Int} (h : TI w W T p q r) : TI w W.drew T p q r := ⟨h.t, h.f0, h.f1, h.f2, h.z, h.g0, h.g1, h.g2, h.x⟩
theorem TI.step {w W : World} {T : TypeId} {p q r : Int} (h : TI w W T p q r) (p' q' r' : Int) : TI w (((W.setCell ⟨w.heap.size, 0, none⟩ (.int .i64 p')).setCell ⟨w.heap.size, 1, none⟩ (.int .i64 q')).setCell ⟨w.heap.size, 2, none⟩ (.int .i64 r')) T p' q' r' := by
  refine ⟨h.t.put, ?_, ?_, ?_, ((h.z.other (by omega)).other (by omega)).other (by omega), ?_, ?_, ?_, bx_otherR (bx_otherR (bx_otherR h.x (by omega) _) (by omega) _) (by omega) _⟩
  all_goals rw [World.frozen?_setCell, World.frozen?_setCell, World.frozen?_setCell]
  · exact h.f0
  · exact h.f1
  · exact h.f2
  · exact h.g0
  · exact h.g1
  · exact h.g2
theorem bkN_map (zs : List Rw) {pre : List (Fin zs.length)} {k : Nat} (hk : k ≤ zs.length) (h : pre.map (·.val) = uptoR (bkN zs.length) k) : ∃ l2, pre.map (fun j => pairD zs[j.val].xs) ++ l2 = (rd zs).reverse ∧ (k = zs.length → l2 = []) := by
  have e : pre.map (fun j => pairD zs[j.val].xs) = (rd zs).reverse.take k := by
    apply List.ext_getElem
    · have := congrArg List.length h
      simp only [List.length_map, uptoR_length] at this
      simp [rd_len]; omega
    · intro i h1 h2
      have hl := congrArg List.length h
      simp only [List.length_map, uptoR_length] at hl
      simp only [List.length_map] at h1
      have hv : (pre[i]).val = zs.length - 1 - i := by
        have := congrArg (fun l => l[i]?) h
        simp only [List.getElem?_map, uptoR] at this
        rw [List.getElem?_eq_getElem h1, List.getElem?_eq_getElem (by simp; omega)] at this
        simpa [bkN] using this
      simp only [List.getElem_map, List.getElem_take, List.getElem_reverse, rd]
      congr 2
      simp [hv]
  refine ⟨(rd zs).reverse.drop k, ?_, fun hk => ?_⟩
  · rw [e, List.take_append_drop]
  · rw [List.drop_of_length_le]
    simp [rd_len]; omega
set_option maxRecDepth 100000 in
theorem implTod_any (A : Option Addr) (n c : Nat) (rs : List Rw) (p q r : Int) (w : World) (h : RSl w A n rs) (hn : n ≤ 281474976710656) (hl : lenB rs 281474976710656) : Calls Try.prog 10 #[.slice A n c, .agg #[.int .i64 p, .int .i64 q, .int .i64 r]] w fun e w' =>
    e = .returned (.tuple #[.agg #[.int .i64 (todR (rs.map (·.xs)) p q r).1, .int .i64 (todR (rs.map (·.xs)) p q r).2.1, .int .i64 (todR (rs.map (·.xs)) p q r).2.2.1], .int .i64 (todR (rs.map (·.xs)) p q r).2.2.2]) ∧ Below w.heap.size w w' := by
  have HR := Lib.hid h
  have hnl := h.1
  have HL := Lib.hid hl
  clear h hl
  subst hnl
  have hlm : ((rs.map (·.xs)).length : Int) = rs.length := by simp
  have ht := fun W => IsTriple_any p q r W
  have r1 := @todR_n (rs.map (·.xs)) p q r
  have r2 := @todR_r (rs.map (·.xs)) p q r
  have r3 := @todR_l (rs.map (·.xs)) p q r
  have r4 := @todR_0 (rs.map (·.xs)) p q r
  rw [hlm] at r2 r3 r4
  obtain ⟨R, eR⟩ : ∃ R, todR (rs.map (·.xs)) p q r = R := ⟨_, rfl⟩
  simp only [eR] at r1 r2 r3 r4 ⊢
  clear eR hlm
  obtain ⟨k, ek⟩ : ∃ k, tripB p q r = k := ⟨_, rfl⟩
  have HK := Lib.hid ek
  rw [ek] at ht r1 r2 r3 r4
  have HT := Lib.hid ht
  clear ht ek
  refine callsIn_wide.1 (callsIn_of_wp_marks (n := 3) Try.func10 rfl trivial ?_ rfl)
  simp only [Try.ntmps10, List.size_toArray, List.length_cons, List.length_nil, Nat.reduceAdd, Nat.reduceSub, Array.replicate_succ, Array.replicate_zero, List.push_toArray, List.append_toArray, List.nil_append, List.cons_append]
  refine wpIn_wide.2 ?_
  cases k
  · obtain rfl := r1 rfl
    clear r1 r2 r3 r4
    go_wp2_with (first | (go_at_call 27; (with_reducible refine (HT.out _).mono ?_); rintro e w1 ⟨rfl, hb1⟩; obtain ⟨hc1, hf1, hz1, hn1⟩ := bstep 3 w hb1 (by go_size); obtain ⟨⟨z0, z1, z2⟩, ⟨zf0, zf1, zf2⟩, zs, zn⟩ : (w1.cell? ⟨w.heap.size + 1, 0, none⟩ = some (.int .i64 0) ∧ w1.cell? ⟨w.heap.size + 1, 1, none⟩ = some (.int .i64 0) ∧ w1.cell? ⟨w.heap.size + 1, 2, none⟩ = some (.int .i64 0)) ∧ (w1.frozen? ⟨w.heap.size + 1, 0, none⟩ = false ∧ w1.frozen? ⟨w.heap.size + 1, 1, none⟩ = false ∧ w1.frozen? ⟨w.heap.size + 1, 2, none⟩ = false) ∧ w.heap.size + 1 < w1.heap.size ∧ ¬ w1.heap.size = w.heap.size + 1 := ⟨by (focus (((repeat' apply And.intro) <;> (repeat' (first | (with_reducible assumption) | (with_reducible refine keep_drew ?_) | (with_reducible refine keep_setx (by omega) ?_) | (with_reducible refine keep_hc (by with_reducible assumption) (by omega) ?_) | (focus (go_simp; done)) | (with_reducible refine keep_alloc ?_)))); done)), by (focus (((repeat' apply And.intro) <;> (repeat' (first | (with_reducible assumption) | (with_reducible refine fz_drew ?_) | (with_reducible refine fz_set ?_) | (with_reducible refine fz_hc (by with_reducible assumption) (by omega) ?_) | (focus (go_simp; done)) | (with_reducible refine fz_alloc ?_ ?_) | go_size))); done)), by go_size, by go_size⟩; refine gcut (p := w1.cell? ⟨w.heap.size + 2, 0, none⟩ = some (.int .i64 0) ∧ w1.frozen? ⟨w.heap.size + 2, 0, none⟩ = false ∧ w.heap.size + 2 < w1.heap.size) ?_ ?_; (focus (refine ⟨keep_hc hc1 (Nat.lt_succ_self _) ?_, fz_hc hf1 (Nat.lt_succ_self _) ?_, ?_⟩; (focus (go_simp; done)); (focus (go_simp; done)); (focus (omega)))); rintro ⟨y0, yf0, ys⟩))
    simp only [Nat.add_assoc, Nat.reduceAdd]
    refine post_genR (G := fun W2 => W2.cell? ⟨w.heap.size + 1, 0, none⟩ = some (.int .i64 0) ∧ W2.cell? ⟨w.heap.size + 1, 1, none⟩ = some (.int .i64 0) ∧ W2.cell? ⟨w.heap.size + 1, 2, none⟩ = some (.int .i64 0) ∧ W2.cell? ⟨w.heap.size + 2, 0, none⟩ = some (.int .i64 1) ∧ Below w.heap.size w W2) ⟨?_, ?_, ?_, ?_, ?_⟩ (fun W2 h2 => ?_)
    · repeat' (first | (with_reducible assumption) | (with_reducible refine set_hereZ ?_) | (with_reducible refine keep_seto (by decide) ?_) | (with_reducible refine keep_setx (by omega) ?_))
    · repeat' (first | (with_reducible assumption) | (with_reducible refine set_hereZ ?_) | (with_reducible refine keep_seto (by decide) ?_) | (with_reducible refine keep_setx (by omega) ?_))
    · repeat' (first | (with_reducible assumption) | (with_reducible refine set_hereZ ?_) | (with_reducible refine keep_seto (by decide) ?_) | (with_reducible refine keep_setx (by omega) ?_))
    · repeat' (first | (with_reducible assumption) | (with_reducible refine set_hereZ ?_) | (with_reducible refine keep_seto (by decide) ?_) | (with_reducible refine keep_setx (by omega) ?_))
    · (repeat' (first | (with_reducible exact Below.refl _ _) | (with_reducible refine Below.alloc ?_ ?_ _) | (with_reducible refine Below.drew ?_) | (with_reducible refine below_drewN' ?_ _) | (with_reducible refine Below.setCell ?_ ?_ _) | (with_reducible refine Below.trans ?_ (Below.mono (by assumption) ?_)) | go_size))
    · obtain ⟨e1, e2, e3, e4, hB⟩ := h2
      refine ⟨.tuple #[.agg #[.int .i64 0, .int .i64 0, .int .i64 0], .int .i64 1], ?_, rfl, hB⟩
      simp [results, Try.f10, go_sem, e1, e2, e3, e4]
  · clear r1
    have R2 := Lib.hid (r2 rfl)
    have R3 := Lib.hid (r3 rfl)
    have R4 := Lib.hid (fun (a b c : Int) => r4 (a := a) (b := b) (c := c) rfl)
    clear r2 r3 r4
    have hcd := fun (W : World) (hW : Below w.heap.size w W) => ContainsD_any A rs.length c rs W (HR.out.keep hW) hn HL.out
    obtain ⟨ok, hok⟩ : ∃ ok, okDs (rs.map (·.xs)) = ok := ⟨_, rfl⟩
    rw [hok] at hcd
    have HCD := Lib.hid hcd
    have HOK := Lib.hid hok
    clear hcd hok
    by_cases hp : (p = 0 ∧ rs.length ≤ 60) ∧ ok = true
    · obtain ⟨⟨hp0, hlen⟩, rfl⟩ := hp
      subst hp0
      have hd : decide ((rs.length : Int) > 60) = false := by simp; omega
      go_wp2_with (first | (go_at_call 27; (with_reducible refine (HT.out _).mono ?_); rintro e w1 ⟨rfl, hb1⟩; obtain ⟨hc1, hf1, hz1, hn1⟩ := bstep 3 w hb1 (by go_size); obtain ⟨⟨s0, s1, s2⟩, ⟨sf0, sf1, sf2⟩, ss, sn⟩ : (w1.cell? ⟨w.heap.size, 0, none⟩ = some (.int .i64 0) ∧ w1.cell? ⟨w.heap.size, 1, none⟩ = some (.int .i64 q) ∧ w1.cell? ⟨w.heap.size, 2, none⟩ = some (.int .i64 r)) ∧ (w1.frozen? ⟨w.heap.size, 0, none⟩ = false ∧ w1.frozen? ⟨w.heap.size, 1, none⟩ = false ∧ w1.frozen? ⟨w.heap.size, 2, none⟩ = false) ∧ w.heap.size < w1.heap.size ∧ ¬ w1.heap.size = w.heap.size := ⟨by (focus (((repeat' apply And.intro) <;> (repeat' (first | (with_reducible assumption) | (with_reducible refine keep_drew ?_) | (with_reducible refine keep_setx (by omega) ?_) | (with_reducible refine keep_hc (by with_reducible assumption) (by omega) ?_) | (focus (go_simp; done)) | (with_reducible refine keep_alloc ?_)))); done)), by (focus (((repeat' apply And.intro) <;> (repeat' (first | (with_reducible assumption) | (with_reducible refine fz_drew ?_) | (with_reducible refine fz_set ?_) | (with_reducible refine fz_hc (by with_reducible assumption) (by omega) ?_) | (focus (go_simp; done)) | (with_reducible refine fz_alloc ?_ ?_) | go_size))); done)), by go_size, by go_size⟩) | (go_at_call 50; (with_reducible refine (HCD.out _ ?_).mono ?_); (focus ((repeat' (first | (with_reducible exact Below.refl _ _) | (with_reducible refine Below.alloc ?_ ?_ _) | (with_reducible refine Below.drew ?_) | (with_reducible refine below_drewN' ?_ _) | (with_reducible refine Below.setCell ?_ ?_ _) | (with_reducible refine Below.trans ?_ (Below.mono (by assumption) ?_)) | go_size)); done)); rintro e w' ⟨rfl, rfl⟩) | (go_at_call 53; (with_reducible refine (backR_any _ _ _ _).mono ?_); rintro e w' ⟨rfl, rfl⟩))
      simp only [Nat.add_assoc, Nat.reduceAdd]
      have hz1' : w.heap.size + 3 ≤ w1.heap.size := hz1
      refine wp_gen' (F := fun W1 => TI w W1 2 0 q r ∧ Boxed W1 w1.heap.size 27 (.slice A rs.length c) ∧ W1.heap.size = w1.heap.size + 1 ∧ Below w.heap.size w W1) ?_ (fun W1 hW1 => ?_)
      · refine ⟨⟨⟨keep_alloc s0, keep_alloc s1, keep_alloc s2⟩, fz_alloc sf0 ss, fz_alloc sf1 ss, fz_alloc sf2 ss, ⟨?_, ?_, ?_⟩, ?_, ?_, ?_, ?_⟩, Boxed.new _ _ _, by simp, by (repeat' (first | (with_reducible exact Below.refl _ _) | (with_reducible refine Below.alloc ?_ ?_ _) | (with_reducible refine Below.drew ?_) | (with_reducible refine below_drewN' ?_ _) | (with_reducible refine Below.setCell ?_ ?_ _) | (with_reducible refine Below.trans ?_ (Below.mono (by assumption) ?_)) | go_size))⟩
        · exact keep_alloc (keep_hc hc1 (by omega) (by go_simp))
        · exact keep_alloc (keep_hc hc1 (by omega) (by go_simp))
        · exact keep_alloc (keep_hc hc1 (by omega) (by go_simp))
        · exact fz_alloc (fz_hc hf1 (by omega) (by go_simp)) (by omega)
        · exact fz_alloc (fz_hc hf1 (by omega) (by go_simp)) (by omega)
        · exact fz_alloc (fz_hc hf1 (by omega) (by go_simp)) (by omega)
        · have hbx : Boxed w1 (w.heap.size + 2) 2 (.int .i64 0) := (hb1.block (w.heap.size + 2) (by simp)).trans (by
            have := Boxed.new ((w.alloc (.cells #[.int .i64 0, .int .i64 q, .int .i64 r] 25)).alloc (.cells #[.int .i64 0, .int .i64 0, .int .i64 0] 25)) 2 (.int .i64 0)
            simp only [World.size_alloc, Nat.add_assoc, Nat.reduceAdd] at this
            exact this)
          exact hbx.alloc _
      · obtain ⟨hTI, hbox, hzz, hB⟩ := hW1
        have hrk := HR.out.keep hB
        have hcond : ((0 : Int) == 0 && decide ((rs.length : Int) ≤ 60) && okDs (rs.map (·.xs))) = true := by rw [HOK.out]; simp; omega
        have R3' := Lib.hid (R3.out hcond)
        have R4' := Lib.hid (fun a b c h => R4.out a b c hcond h)
        have hrow := fun k (hk : k < rs.length) => okD_row hk HOK.out
        have HW := Lib.hid hrow
        have HRK := Lib.hid hrk
        have hXX : 0 < rs.length → ∃ b off, A = some ⟨b, off, none⟩ ∧ b < w.heap.size ∧ ∀ j, j < rs.length → W1.cell? ⟨b, off + j, none⟩ = some (rs[j]?.getD Rw.nil).v := fun hpos => by
          obtain ⟨b, off, e, hbl, _⟩ := HR.out.2.1 hpos
          obtain ⟨b', off', e', _, hcc⟩ := hrk.2.1 hpos
          rw [e] at e'
          cases e'
          exact ⟨b, off, e, hbl, hcc⟩
        clear R2 R3 R4 hcond hrow hrk s0 s1 s2 sf0 sf1 sf2 ss sn hb1 hc1 hf1 hz1 hn1 HT HCD
        refine (wpIn_wide (n := 3)).1 ?_
        refine wpIn_rangeFunc_ownG (F := Fence.wide) (n := 3) rfl (by decide) (gf := 86) (lb := #[.pointer (some ⟨w1.heap.size, 0, none⟩)]) rfl trivial (enters_of Try.func86 (by kernel_rfl) rfl)
          (backR_stops Fence.wide 2 trivial rfl (by decide) w1.heap.size w.heap.size c A rs hn W1 (by omega) (by omega) hbox.cell hXX) (fun h k => KpR.trans h k) (kpR_b (by omega) (by omega)) (Below.refl _ _) (fun _ => rfl)
          (fun pre W => (∃ p' q' r', foldD (pre.map fun j => pairD rs[j.val].xs) 0 q r = (p', q', r', true) ∧ TI w W 2 p' q' r') ∧ Below w.heap.size w W ∧ w1.heap.size + 1 ≤ W.heap.size)
          (fun c pre W => (c = .ret ∧ foldD (pre.map fun j => pairD rs[j.val].xs) 0 q r = (0, 0, 0, false) ∧ C3 W (w.heap.size + 1) 0 0 0 ∧ Boxed W (w.heap.size + 2) 2 (.int .i64 3)) ∧ Below w.heap.size w W)
          (OwnFrom.and (Own.from (fun s A B row hs hg hr => by
            obtain ⟨p', q', r', e, h1⟩ := hs
            exact ⟨p', q', r', e, h1.own hg hr⟩) _) (OwnFrom.and (ownFrom_below (Nat.le_refl _) (by omega)) (fun s A B row hs hg hr => Nat.le_trans hs hg.size)))
          (fun c => OwnFrom.and (Own.from (fun s A B row hs hg hr => by
            obtain ⟨e1, e2, h3, h4⟩ := hs
            exact ⟨e1, e2, ⟨cell_kept h3.1 hg hr, cell_kept h3.2.1 hg hr, cell_kept h3.2.2 hg hr⟩, bx_ownR h4 hg hr⟩) _) (ownFrom_below (Nat.le_refl _) (by omega)))
          ⟨⟨0, q, r, rfl, hTI⟩, hB, by omega⟩
          (fun x => { tmps := #[.slice A rs.length c, .agg #[.int .i64 0, .int .i64 q, .int .i64 r], undef, .pointer (some ⟨w.heap.size, 0, none⟩), .pointer (some ⟨w.heap.size + 1, 0, none⟩), .pointer (some ⟨w.heap.size + 2, 0, none⟩), .bool false, undef, rs[x.val].v, .agg #[.int .i64 0, .int .i64 q, .int .i64 r], .bool true, .bool false, undef, .slice A rs.length c, .bool false, .pointer (some ⟨w.heap.size, 0, none⟩), .int .i64 0, .bool false, .bool false, .slice A rs.length c, .int .i64 rs.length, .bool false, .bool false, .bool false, .bool false, .bool false, undef, .slice A rs.length c, .func (.func 86) #[] #[.pointer (some ⟨w1.heap.size, 0, none⟩)], .int .i64 (x.val : Int), rs[x.val].v, undef, undef, undef, undef, undef, undef, undef, undef, undef, undef, undef, undef, undef, undef, undef, undef, undef, undef, undef, undef, undef, undef, undef, undef, undef, undef, undef, undef, undef, undef, undef, undef, undef], defers := [] }) ?assign ?body ?done ?stop
        case assign =>
          intro l x W K hK
          gi_wp2
          exact hK
        case body =>
          rintro l pre x W ⟨⟨p', q', r', e, h1⟩, hB, hs⟩ _
          obtain ⟨d, e', hxs, _, _⟩ := HW.out x.val x.isLt
          rw [List.getElem?_eq_getElem x.isLt, Option.getD_some] at hxs
          have hi := (HR.out.2.2 _ (List.getElem_mem x.isLt)).keepB hB
          have hvv : rs[x.val].v = .slice rs[x.val].A rs[x.val].xs.length rs[x.val].c := rfl
          have he := foldD_snoc (d, e') _ _ _ _ _ _ _ e
          have hmap : (pre ++ [x]).map (fun j => pairD rs[j.val].xs) = pre.map (fun j => pairD rs[j.val].xs) ++ [(d, e')] := by rw [List.map_append, List.map_cons, List.map_nil, hxs]; rfl
          rw [hxs] at hi hvv
          obtain ⟨ra, hra⟩ : ∃ a, rs[x.val].A = a := ⟨_, rfl⟩
          obtain ⟨rc, hrc⟩ : ∃ a, rs[x.val].c = a := ⟨_, rfl⟩
          rw [hra] at hi
          rw [hra, hrc] at hvv
          obtain ⟨g, off', rfl, _, hr'⟩ := hi.2 (by simp)
          have g0 := hr' 0 (by simp)
          have g1 := hr' 1 (by simp)
          simp only [Nat.add_zero, List.getElem?_cons_zero, List.getElem?_cons_succ, Option.getD_some, List.length_cons, List.length_nil, Nat.reduceAdd] at g0 g1 hvv
          dsimp only
          rw [hvv]
          obtain ⟨c0, c1, c2⟩ := h1.t
          have f0 := h1.f0
          have f1 := h1.f1
          have f2 := h1.f2
          obtain ⟨z0, z1, z2⟩ := h1.z
          have y0 := h1.g0
          have y1 := h1.g1
          have y2 := h1.g2
          have b1 := h1.x.cell
          have k1 := h1.x.frozen
          have H1 := Lib.hid h1
          have HB := Lib.hid hB
          have HM := Lib.hid hmap
          dsimp only at he
          have hc1 := fun W => CallsIn.inRound (n := 0) l (callsIn_wide.2 (isNumber_any (wrap64 (p' + wrap64 (d * r'))) W))
          have hc2 := fun W => CallsIn.inRound (n := 0) l (callsIn_wide.2 (isNumber_any (wrap64 (q' + wrap64 (e' * r'))) W))
          obtain ⟨u1, hu1⟩ : ∃ u, numB (wrap64 (p' + wrap64 (d * r'))) = u := ⟨_, rfl⟩
          obtain ⟨u2, hu2⟩ : ∃ u, numB (wrap64 (q' + wrap64 (e' * r'))) = u := ⟨_, rfl⟩
          rw [hu1] at hc1
          rw [hu2] at hc2
          rw [show numB (dgA d r' p') = u1 from hu1, show numB (dgA e' r' q') = u2 from hu2] at he
          have HE := Lib.hid he
          have HC1 := Lib.hid hc1
          have HC2 := Lib.hid hc2
          clear he hc1 hc2 hu1 hu2 hmap h1 hB e hxs hi hra hrc hvv hr' R3' R4' HW HRK hTI hbox hzz hXX
          cases u1 <;> cases u2
          all_goals
            gi_wp2
            refine wpIn_still_tail 21 (by kernel_rfl) (by kernel_rfl) (by kernel_rfl) ?_
            simp only [List.take_succ_cons, List.take_zero, List.drop_succ_cons, List.drop_zero]
            repeat still_step
            try refine wpStill_nil ?_
            go_wp2
            dsimp only [Norm]
            refine kgen (F := fun W2 => TI w W2 2 r' (dgA d r' p') (dgA e' r' q') ∧ KpR w.heap.size w1.heap.size W W2 ∧ KeepsOthers W W2 ∧ Below w.heap.size w W2 ∧ w1.heap.size + 1 ≤ W2.heap.size) ⟨?_, ?_, ?_, ?_, ?_⟩ (fun W2 hW2 => ?_)
            · first | exact H1.out.step r' _ _ | exact (H1.out.step r' _ _).drew | exact H1.out.drew.step r' _ _
            · (repeat' (first | (with_reducible exact KpR.refl _ _ _) | (with_reducible refine kpR_set ?_ (by omega) (by omega)) | (with_reducible refine kpR_drew ?_)))
            · (repeat' (first | (with_reducible exact KeepsOthers.refl _) | (with_reducible refine KeepsOthers.trans ?_ (KeepsOthers.setCell _ _ _)) | (with_reducible refine KeepsOthers.trans ?_ (KeepsOthers.drew _))))
            · (repeat' (first | (with_reducible exact HB.out) | (with_reducible refine below_beyond ?_ (by omega)) | (with_reducible refine Below.drew ?_)))
            · simp only [World.size_setCell, World.size_drew]; omega
            obtain ⟨hT2, hK2, hO2, hB2, hs2⟩ := hW2
            clear c0 c1 c2 f0 f1 f2 z0 z1 z2 y0 y1 y2 b1 k1 g0 g1
            obtain ⟨c0, c1, c2⟩ := hT2.t
            obtain ⟨z0, z1, z2⟩ := hT2.z
            have y0 := hT2.g0
            have y1 := hT2.g1
            have y2 := hT2.g2
            have b1 := hT2.x.cell
            have k1 := hT2.x.frozen
            have HT2 := Lib.hid hT2
            have HK2 := Lib.hid hK2
            have HO2 := Lib.hid hO2
            have HB2 := Lib.hid hB2
            clear hT2 hK2 hO2 hB2
            gi_wp2_with (first | (refine ⟨trivial, (HC1.out _).mono ?_⟩; rintro e w' ⟨rfl, rfl⟩) | (refine ⟨trivial, (HC2.out _).mono ?_⟩; rintro e w' ⟨rfl, rfl⟩))
            all_goals first | (refine And.intro (show Fence.wide.fn _ from trivial) ?_; gi_wp2) | skip
          all_goals simp only [ownPostG]
          rotate_right
          · refine ⟨KeepsOthers.from HO2.out _, HK2.out, ⟨r', dgA d r' p', dgA e' r' q', by rw [HM.out, HE.out]; rfl, HT2.out⟩, HB2.out, hs2⟩
          all_goals
            refine ⟨KeepsOthers.from ?_ _, ⟨trivial, by rw [HM.out, HE.out]; rfl, ?_, ?_⟩, ?_⟩
            · (repeat' (first | (with_reducible exact HO2.out) | (with_reducible refine KeepsOthers.trans ?_ (KeepsOthers.setCell _ _ _))))
            · exact C3.other (C3.put HT2.out.z) (by omega)
            · exact Boxed.set (v := .int .i64 0) _ (bx_otherR (bx_otherR (bx_otherR HT2.out.x (by omega) _) (by omega) _) (by omega) _)
            · (repeat' (first | (with_reducible exact HB2.out) | (with_reducible refine below_beyond ?_ (by omega))))
        case done =>
          rintro D ys W hD hys ⟨⟨p', q', r', e, h1⟩, hB, hs⟩ hK
          obtain ⟨l2, hl2, hnil⟩ := bkN_map rs (Nat.le_refl _) hys
          obtain rfl := hnil rfl
          rw [List.append_nil] at hl2
          rw [hl2] at e
          obtain rfl := R4'.out _ _ _ e
          obtain ⟨c0, c1, c2⟩ := h1.t
          obtain ⟨z0, z1, z2⟩ := h1.z
          have y0 := h1.g0
          have y1 := h1.g1
          have y2 := h1.g2
          have b1 := h1.x.cell
          have k1 := h1.x.frozen
          have HB := Lib.hid hB
          have HKD := Lib.hid hK
          have H1 := Lib.hid h1
          have hWs : w.heap.size ≤ W1.heap.size := by omega
          clear h1 hB hK e hl2 hys R3' R4' HW HRK hTI hbox hzz hXX
          simp only [Exit.inBlock, Exit.then]
          go_wp2
          refine post_genR (G := fun W2 => KeepsOthers W W2 ∧ Below w.heap.size w W2 ∧ W2.cell? ⟨w.heap.size + 1, 0, none⟩ = some (.int .i64 p') ∧ W2.cell? ⟨w.heap.size + 1, 1, none⟩ = some (.int .i64 q') ∧ W2.cell? ⟨w.heap.size + 1, 2, none⟩ = some (.int .i64 r') ∧ W2.cell? ⟨w.heap.size + 2, 0, none⟩ = some (.int .i64 0)) ⟨?_, ?_, ?_, ?_, ?_, ?_⟩ (fun W2 h2 => ?_)
          · (repeat' (first | (with_reducible exact KeepsOthers.refl _) | (with_reducible refine KeepsOthers.trans ?_ (KeepsOthers.setCell _ _ _))))
          · (repeat' (first | (with_reducible exact HB.out) | (with_reducible refine below_beyond ?_ (by omega))))
          · repeat' (first | (with_reducible assumption) | (with_reducible refine set_hereZ ?_) | (with_reducible refine keep_seto (by decide) ?_) | (with_reducible refine keep_setx (by omega) ?_))
          · repeat' (first | (with_reducible assumption) | (with_reducible refine set_hereZ ?_) | (with_reducible refine keep_seto (by decide) ?_) | (with_reducible refine keep_setx (by omega) ?_))
          · repeat' (first | (with_reducible assumption) | (with_reducible refine set_hereZ ?_) | (with_reducible refine keep_seto (by decide) ?_) | (with_reducible refine keep_setx (by omega) ?_))
          · repeat' (first | (with_reducible assumption) | (with_reducible refine set_hereZ ?_) | (with_reducible refine keep_seto (by decide) ?_) | (with_reducible refine keep_setx (by omega) ?_))
          · obtain ⟨hko, hB2, g0, g1, g2, g3⟩ := h2
            have hK' := hko.same D _ HKD.out rfl
            refine ⟨by simp, .inl ⟨_, _, rfl, run_takeDeferred hK', ?_⟩⟩
            have hg := grownBy_putObj' W2 D (.deferred none)
            have hw : ∀ r, some D = some r → ∃ o : Obj, W2.heap[r]? = some o ∧ o.isCells = false := fun r e => by cases e; exact ⟨_, hK', rfl⟩
            have e1 := cell_kept g0 hg hw
            have e2 := cell_kept g1 hg hw
            have e3 := cell_kept g2 hg hw
            have e4 := cell_kept g3 hg hw
            refine ⟨.tuple #[.agg #[.int .i64 p', .int .i64 q', .int .i64 r'], .int .i64 0], ?_, rfl, hB2.trans (belowK_b (w := w) (Nat.le_refl _) W2 D _ _ (by omega) hK' rfl rfl)⟩
            simp [results, Try.f10, go_sem, e1, e2, e3, e4]
        case stop =>
          rintro D c pre W hD ⟨k, hk, hpre⟩ ⟨⟨rfl, hff, h3, h4⟩, hB⟩ hK
          obtain ⟨l2, hl2, _⟩ := bkN_map rs hk hpre
          have hfa := foldD_fail l2 _ _ _ _ hff
          rw [hl2] at hfa
          obtain rfl := R3'.out hfa
          gi_wp2
          refine ⟨by simp, .inl ⟨_, _, rfl, run_takeDeferred hK, ?_⟩⟩
          have hg := grownBy_putObj' W D (.deferred none)
          have hw : ∀ r, some D = some r → ∃ o : Obj, W.heap[r]? = some o ∧ o.isCells = false := fun r e => by cases e; exact ⟨_, hK, rfl⟩
          have e1 := cell_kept h3.1 hg hw
          have e2 := cell_kept h3.2.1 hg hw
          have e3 := cell_kept h3.2.2 hg hw
          have e4 := (bx_ownR h4 hg hw).cell
          refine ⟨.tuple #[.agg #[.int .i64 0, .int .i64 0, .int .i64 0], .int .i64 3], ?_, rfl, hB.trans (belowK_b (w := w) (Nat.le_refl _) W D _ _ (by omega) hK rfl rfl)⟩
          simp [results, Try.f10, go_sem, e1, e2, e3, e4]
    · have hcond : (p == 0 && decide ((rs.length : Int) ≤ 60) && okDs (rs.map (·.xs))) = false := by
        rw [HOK.out]
        cases h1 : (p == 0 && decide ((rs.length : Int) ≤ 60) && ok) with
        | false => rfl
        | true =>
          simp only [Bool.and_eq_true, beq_iff_eq, decide_eq_true_eq] at h1
          exact absurd ⟨⟨h1.1.1, by omega⟩, h1.2⟩ hp
      obtain rfl := R2.out hcond
      clear R2 R3 R4 hcond
      by_cases hp0 : p = 0
      · subst hp0
        by_cases hlen : rs.length ≤ 60
        · have hok : ok = false := by cases ok with | false => rfl | true => exact absurd ⟨⟨rfl, hlen⟩, rfl⟩ hp
          subst hok
          have hd : decide ((rs.length : Int) > 60) = false := by simp; omega
          clear hp
          go_wp2_with (first | (go_at_call 27; (with_reducible refine (HT.out _).mono ?_); rintro e w1 ⟨rfl, hb1⟩; obtain ⟨hc1, hf1, hz1, hn1⟩ := bstep 3 w hb1 (by go_size); obtain ⟨⟨s0, s1, s2⟩, ⟨sf0, sf1, sf2⟩, ss, sn⟩ : (w1.cell? ⟨w.heap.size, 0, none⟩ = some (.int .i64 0) ∧ w1.cell? ⟨w.heap.size, 1, none⟩ = some (.int .i64 q) ∧ w1.cell? ⟨w.heap.size, 2, none⟩ = some (.int .i64 r)) ∧ (w1.frozen? ⟨w.heap.size, 0, none⟩ = false ∧ w1.frozen? ⟨w.heap.size, 1, none⟩ = false ∧ w1.frozen? ⟨w.heap.size, 2, none⟩ = false) ∧ w.heap.size < w1.heap.size ∧ ¬ w1.heap.size = w.heap.size := ⟨by (focus (((repeat' apply And.intro) <;> (repeat' (first | (with_reducible assumption) | (with_reducible refine keep_drew ?_) | (with_reducible refine keep_setx (by omega) ?_) | (with_reducible refine keep_hc (by with_reducible assumption) (by omega) ?_) | (focus (go_simp; done)) | (with_reducible refine keep_alloc ?_)))); done)), by (focus (((repeat' apply And.intro) <;> (repeat' (first | (with_reducible assumption) | (with_reducible refine fz_drew ?_) | (with_reducible refine fz_set ?_) | (with_reducible refine fz_hc (by with_reducible assumption) (by omega) ?_) | (focus (go_simp; done)) | (with_reducible refine fz_alloc ?_ ?_) | go_size))); done)), by go_size, by go_size⟩; obtain ⟨⟨z0, z1, z2⟩, ⟨zf0, zf1, zf2⟩, zs, zn⟩ : (w1.cell? ⟨w.heap.size + 1, 0, none⟩ = some (.int .i64 0) ∧ w1.cell? ⟨w.heap.size + 1, 1, none⟩ = some (.int .i64 0) ∧ w1.cell? ⟨w.heap.size + 1, 2, none⟩ = some (.int .i64 0)) ∧ (w1.frozen? ⟨w.heap.size + 1, 0, none⟩ = false ∧ w1.frozen? ⟨w.heap.size + 1, 1, none⟩ = false ∧ w1.frozen? ⟨w.heap.size + 1, 2, none⟩ = false) ∧ w.heap.size + 1 < w1.heap.size ∧ ¬ w1.heap.size = w.heap.size + 1 := ⟨by (focus (((repeat' apply And.intro) <;> (repeat' (first | (with_reducible assumption) | (with_reducible refine keep_drew ?_) | (with_reducible refine keep_setx (by omega) ?_) | (with_reducible refine keep_hc (by with_reducible assumption) (by omega) ?_) | (focus (go_simp; done)) | (with_reducible refine keep_alloc ?_)))); done)), by (focus (((repeat' apply And.intro) <;> (repeat' (first | (with_reducible assumption) | (with_reducible refine fz_drew ?_) | (with_reducible refine fz_set ?_) | (with_reducible refine fz_hc (by with_reducible assumption) (by omega) ?_) | (focus (go_simp; done)) | (with_reducible refine fz_alloc ?_ ?_) | go_size))); done)), by go_size, by go_size⟩; refine gcut (p := w1.cell? ⟨w.heap.size + 2, 0, none⟩ = some (.int .i64 0) ∧ w1.frozen? ⟨w.heap.size + 2, 0, none⟩ = false ∧ w.heap.size + 2 < w1.heap.size) ?_ ?_; (focus (refine ⟨keep_hc hc1 (Nat.lt_succ_self _) ?_, fz_hc hf1 (Nat.lt_succ_self _) ?_, ?_⟩; (focus (go_simp; done)); (focus (go_simp; done)); (focus (omega)))); rintro ⟨y0, yf0, ys⟩) | (go_at_call 50; (with_reducible refine (HCD.out _ ?_).mono ?_); (focus ((repeat' (first | (with_reducible exact Below.refl _ _) | (with_reducible refine Below.alloc ?_ ?_ _) | (with_reducible refine Below.drew ?_) | (with_reducible refine below_drewN' ?_ _) | (with_reducible refine Below.setCell ?_ ?_ _) | (with_reducible refine Below.trans ?_ (Below.mono (by assumption) ?_)) | go_size)); done)); rintro e w' ⟨rfl, rfl⟩))
          simp only [Nat.add_assoc, Nat.reduceAdd]
          refine post_genR (G := fun W2 => W2.cell? ⟨w.heap.size + 1, 0, none⟩ = some (.int .i64 0) ∧ W2.cell? ⟨w.heap.size + 1, 1, none⟩ = some (.int .i64 0) ∧ W2.cell? ⟨w.heap.size + 1, 2, none⟩ = some (.int .i64 0) ∧ W2.cell? ⟨w.heap.size + 2, 0, none⟩ = some (.int .i64 2) ∧ Below w.heap.size w W2) ⟨?_, ?_, ?_, ?_, ?_⟩ (fun W2 h2 => ?_)
          · repeat' (first | (with_reducible assumption) | (with_reducible refine set_hereZ ?_) | (with_reducible refine keep_seto (by decide) ?_) | (with_reducible refine keep_setx (by omega) ?_))
          · repeat' (first | (with_reducible assumption) | (with_reducible refine set_hereZ ?_) | (with_reducible refine keep_seto (by decide) ?_) | (with_reducible refine keep_setx (by omega) ?_))
          · repeat' (first | (with_reducible assumption) | (with_reducible refine set_hereZ ?_) | (with_reducible refine keep_seto (by decide) ?_) | (with_reducible refine keep_setx (by omega) ?_))
          · repeat' (first | (with_reducible assumption) | (with_reducible refine set_hereZ ?_) | (with_reducible refine keep_seto (by decide) ?_) | (with_reducible refine keep_setx (by omega) ?_))
          · (repeat' (first | (with_reducible exact Below.refl _ _) | (with_reducible refine Below.alloc ?_ ?_ _) | (with_reducible refine Below.drew ?_) | (with_reducible refine below_drewN' ?_ _) | (with_reducible refine Below.setCell ?_ ?_ _) | (with_reducible refine Below.trans ?_ (Below.mono (by assumption) ?_)) | go_size))
          · obtain ⟨e1, e2, e3, e4, hB⟩ := h2
            refine ⟨.tuple #[.agg #[.int .i64 0, .int .i64 0, .int .i64 0], .int .i64 2], ?_, rfl, hB⟩
            simp [results, Try.f10, go_sem, e1, e2, e3, e4]
        · have hd : (60 : Int) < (rs.length : Int) := by omega
          clear hp
          cases ok
          all_goals go_wp2_with (first | (go_at_call 27; (with_reducible refine (HT.out _).mono ?_); rintro e w1 ⟨rfl, hb1⟩; obtain ⟨hc1, hf1, hz1, hn1⟩ := bstep 3 w hb1 (by go_size); obtain ⟨⟨s0, s1, s2⟩, ⟨sf0, sf1, sf2⟩, ss, sn⟩ : (w1.cell? ⟨w.heap.size, 0, none⟩ = some (.int .i64 0) ∧ w1.cell? ⟨w.heap.size, 1, none⟩ = some (.int .i64 q) ∧ w1.cell? ⟨w.heap.size, 2, none⟩ = some (.int .i64 r)) ∧ (w1.frozen? ⟨w.heap.size, 0, none⟩ = false ∧ w1.frozen? ⟨w.heap.size, 1, none⟩ = false ∧ w1.frozen? ⟨w.heap.size, 2, none⟩ = false) ∧ w.heap.size < w1.heap.size ∧ ¬ w1.heap.size = w.heap.size := ⟨by (focus (((repeat' apply And.intro) <;> (repeat' (first | (with_reducible assumption) | (with_reducible refine keep_drew ?_) | (with_reducible refine keep_setx (by omega) ?_) | (with_reducible refine keep_hc (by with_reducible assumption) (by omega) ?_) | (focus (go_simp; done)) | (with_reducible refine keep_alloc ?_)))); done)), by (focus (((repeat' apply And.intro) <;> (repeat' (first | (with_reducible assumption) | (with_reducible refine fz_drew ?_) | (with_reducible refine fz_set ?_) | (with_reducible refine fz_hc (by with_reducible assumption) (by omega) ?_) | (focus (go_simp; done)) | (with_reducible refine fz_alloc ?_ ?_) | go_size))); done)), by go_size, by go_size⟩; obtain ⟨⟨z0, z1, z2⟩, ⟨zf0, zf1, zf2⟩, zs, zn⟩ : (w1.cell? ⟨w.heap.size + 1, 0, none⟩ = some (.int .i64 0) ∧ w1.cell? ⟨w.heap.size + 1, 1, none⟩ = some (.int .i64 0) ∧ w1.cell? ⟨w.heap.size + 1, 2, none⟩ = some (.int .i64 0)) ∧ (w1.frozen? ⟨w.heap.size + 1, 0, none⟩ = false ∧ w1.frozen? ⟨w.heap.size + 1, 1, none⟩ = false ∧ w1.frozen? ⟨w.heap.size + 1, 2, none⟩ = false) ∧ w.heap.size + 1 < w1.heap.size ∧ ¬ w1.heap.size = w.heap.size + 1 := ⟨by (focus (((repeat' apply And.intro) <;> (repeat' (first | (with_reducible assumption) | (with_reducible refine keep_drew ?_) | (with_reducible refine keep_setx (by omega) ?_) | (with_reducible refine keep_hc (by with_reducible assumption) (by omega) ?_) | (focus (go_simp; done)) | (with_reducible refine keep_alloc ?_)))); done)), by (focus (((repeat' apply And.intro) <;> (repeat' (first | (with_reducible assumption) | (with_reducible refine fz_drew ?_) | (with_reducible refine fz_set ?_) | (with_reducible refine fz_hc (by with_reducible assumption) (by omega) ?_) | (focus (go_simp; done)) | (with_reducible refine fz_alloc ?_ ?_) | go_size))); done)), by go_size, by go_size⟩; refine gcut (p := w1.cell? ⟨w.heap.size + 2, 0, none⟩ = some (.int .i64 0) ∧ w1.frozen? ⟨w.heap.size + 2, 0, none⟩ = false ∧ w.heap.size + 2 < w1.heap.size) ?_ ?_; (focus (refine ⟨keep_hc hc1 (Nat.lt_succ_self _) ?_, fz_hc hf1 (Nat.lt_succ_self _) ?_, ?_⟩; (focus (go_simp; done)); (focus (go_simp; done)); (focus (omega)))); rintro ⟨y0, yf0, ys⟩) | (go_at_call 50; (with_reducible refine (HCD.out _ ?_).mono ?_); (focus ((repeat' (first | (with_reducible exact Below.refl _ _) | (with_reducible refine Below.alloc ?_ ?_ _) | (with_reducible refine Below.drew ?_) | (with_reducible refine below_drewN' ?_ _) | (with_reducible refine Below.setCell ?_ ?_ _) | (with_reducible refine Below.trans ?_ (Below.mono (by assumption) ?_)) | go_size)); done)); rintro e w' ⟨rfl, rfl⟩))
          all_goals
            simp only [Nat.add_assoc, Nat.reduceAdd]
            refine post_genR (G := fun W2 => W2.cell? ⟨w.heap.size + 1, 0, none⟩ = some (.int .i64 0) ∧ W2.cell? ⟨w.heap.size + 1, 1, none⟩ = some (.int .i64 0) ∧ W2.cell? ⟨w.heap.size + 1, 2, none⟩ = some (.int .i64 0) ∧ W2.cell? ⟨w.heap.size + 2, 0, none⟩ = some (.int .i64 2) ∧ Below w.heap.size w W2) ⟨?_, ?_, ?_, ?_, ?_⟩ (fun W2 h2 => ?_)
            · repeat' (first | (with_reducible assumption) | (with_reducible refine set_hereZ ?_) | (with_reducible refine keep_seto (by decide) ?_) | (with_reducible refine keep_setx (by omega) ?_))
            · repeat' (first | (with_reducible assumption) | (with_reducible refine set_hereZ ?_) | (with_reducible refine keep_seto (by decide) ?_) | (with_reducible refine keep_setx (by omega) ?_))
            · repeat' (first | (with_reducible assumption) | (with_reducible refine set_hereZ ?_) | (with_reducible refine keep_seto (by decide) ?_) | (with_reducible refine keep_setx (by omega) ?_))
            · repeat' (first | (with_reducible assumption) | (with_reducible refine set_hereZ ?_) | (with_reducible refine keep_seto (by decide) ?_) | (with_reducible refine keep_setx (by omega) ?_))
            · (repeat' (first | (with_reducible exact Below.refl _ _) | (with_reducible refine Below.alloc ?_ ?_ _) | (with_reducible refine Below.drew ?_) | (with_reducible refine below_drewN' ?_ _) | (with_reducible refine Below.setCell ?_ ?_ _) | (with_reducible refine Below.trans ?_ (Below.mono (by assumption) ?_)) | go_size))
            · obtain ⟨e1, e2, e3, e4, hB⟩ := h2
              refine ⟨.tuple #[.agg #[.int .i64 0, .int .i64 0, .int .i64 0], .int .i64 2], ?_, rfl, hB⟩
              simp [results, Try.f10, go_sem, e1, e2, e3, e4]
      · have hd : (p != 0) = true := by simpa using hp0
        clear hp hp0
        cases ok
        all_goals go_wp2_with (first | (go_at_call 27; (with_reducible refine (HT.out _).mono ?_); rintro e w1 ⟨rfl, hb1⟩; obtain ⟨hc1, hf1, hz1, hn1⟩ := bstep 3 w hb1 (by go_size); obtain ⟨⟨s0, s1, s2⟩, ⟨sf0, sf1, sf2⟩, ss, sn⟩ : (w1.cell? ⟨w.heap.size, 0, none⟩ = some (.int .i64 p) ∧ w1.cell? ⟨w.heap.size, 1, none⟩ = some (.int .i64 q) ∧ w1.cell? ⟨w.heap.size, 2, none⟩ = some (.int .i64 r)) ∧ (w1.frozen? ⟨w.heap.size, 0, none⟩ = false ∧ w1.frozen? ⟨w.heap.size, 1, none⟩ = false ∧ w1.frozen? ⟨w.heap.size, 2, none⟩ = false) ∧ w.heap.size < w1.heap.size ∧ ¬ w1.heap.size = w.heap.size := ⟨by (focus (((repeat' apply And.intro) <;> (repeat' (first | (with_reducible assumption) | (with_reducible refine keep_drew ?_) | (with_reducible refine keep_setx (by omega) ?_) | (with_reducible refine keep_hc (by with_reducible assumption) (by omega) ?_) | (focus (go_simp; done)) | (with_reducible refine keep_alloc ?_)))); done)), by (focus (((repeat' apply And.intro) <;> (repeat' (first | (with_reducible assumption) | (with_reducible refine fz_drew ?_) | (with_reducible refine fz_set ?_) | (with_reducible refine fz_hc (by with_reducible assumption) (by omega) ?_) | (focus (go_simp; done)) | (with_reducible refine fz_alloc ?_ ?_) | go_size))); done)), by go_size, by go_size⟩; obtain ⟨⟨z0, z1, z2⟩, ⟨zf0, zf1, zf2⟩, zs, zn⟩ : (w1.cell? ⟨w.heap.size + 1, 0, none⟩ = some (.int .i64 0) ∧ w1.cell? ⟨w.heap.size + 1, 1, none⟩ = some (.int .i64 0) ∧ w1.cell? ⟨w.heap.size + 1, 2, none⟩ = some (.int .i64 0)) ∧ (w1.frozen? ⟨w.heap.size + 1, 0, none⟩ = false ∧ w1.frozen? ⟨w.heap.size + 1, 1, none⟩ = false ∧ w1.frozen? ⟨w.heap.size + 1, 2, none⟩ = false) ∧ w.heap.size + 1 < w1.heap.size ∧ ¬ w1.heap.size = w.heap.size + 1 := ⟨by (focus (((repeat' apply And.intro) <;> (repeat' (first | (with_reducible assumption) | (with_reducible refine keep_drew ?_) | (with_reducible refine keep_setx (by omega) ?_) | (with_reducible refine keep_hc (by with_reducible assumption) (by omega) ?_) | (focus (go_simp; done)) | (with_reducible refine keep_alloc ?_)))); done)), by (focus (((repeat' apply And.intro) <;> (repeat' (first | (with_reducible assumption) | (with_reducible refine fz_drew ?_) | (with_reducible refine fz_set ?_) | (with_reducible refine fz_hc (by with_reducible assumption) (by omega) ?_) | (focus (go_simp; done)) | (with_reducible refine fz_alloc ?_ ?_) | go_size))); done)), by go_size, by go_size⟩; refine gcut (p := w1.cell? ⟨w.heap.size + 2, 0, none⟩ = some (.int .i64 0) ∧ w1.frozen? ⟨w.heap.size + 2, 0, none⟩ = false ∧ w.heap.size + 2 < w1.heap.size) ?_ ?_; (focus (refine ⟨keep_hc hc1 (Nat.lt_succ_self _) ?_, fz_hc hf1 (Nat.lt_succ_self _) ?_, ?_⟩; (focus (go_simp; done)); (focus (go_simp; done)); (focus (omega)))); rintro ⟨y0, yf0, ys⟩) | (go_at_call 50; (with_reducible refine (HCD.out _ ?_).mono ?_); (focus ((repeat' (first | (with_reducible exact Below.refl _ _) | (with_reducible refine Below.alloc ?_ ?_ _) | (with_reducible refine Below.drew ?_) | (with_reducible refine below_drewN' ?_ _) | (with_reducible refine Below.setCell ?_ ?_ _) | (with_reducible refine Below.trans ?_ (Below.mono (by assumption) ?_)) | go_size)); done)); rintro e w' ⟨rfl, rfl⟩))
        all_goals
          simp only [Nat.add_assoc, Nat.reduceAdd]
          refine post_genR (G := fun W2 => W2.cell? ⟨w.heap.size + 1, 0, none⟩ = some (.int .i64 0) ∧ W2.cell? ⟨w.heap.size + 1, 1, none⟩ = some (.int .i64 0) ∧ W2.cell? ⟨w.heap.size + 1, 2, none⟩ = some (.int .i64 0) ∧ W2.cell? ⟨w.heap.size + 2, 0, none⟩ = some (.int .i64 2) ∧ Below w.heap.size w W2) ⟨?_, ?_, ?_, ?_, ?_⟩ (fun W2 h2 => ?_)
          · repeat' (first | (with_reducible assumption) | (with_reducible refine set_hereZ ?_) | (with_reducible refine keep_seto (by decide) ?_) | (with_reducible refine keep_setx (by omega) ?_))
          · repeat' (first | (with_reducible assumption) | (with_reducible refine set_hereZ ?_) | (with_reducible refine keep_seto (by decide) ?_) | (with_reducible refine keep_setx (by omega) ?_))
          · repeat' (first | (with_reducible assumption) | (with_reducible refine set_hereZ ?_) | (with_reducible refine keep_seto (by decide) ?_) | (with_reducible refine keep_setx (by omega) ?_))
          · repeat' (first | (with_reducible assumption) | (with_reducible refine set_hereZ ?_) | (with_reducible refine keep_seto (by decide) ?_) | (with_reducible refine keep_setx (by omega) ?_))
          · (repeat' (first | (with_reducible exact Below.refl _ _) | (with_reducible refine Below.alloc ?_ ?_ _) | (with_reducible refine Below.drew ?_) | (with_reducible refine below_drewN' ?_ _) | (with_reducible refine Below.setCell ?_ ?_ _) | (with_reducible refine Below.trans ?_ (Below.mono (by assumption) ?_)) | go_size))
          · obtain ⟨e1, e2, e3, e4, hB⟩ := h2
            refine ⟨.tuple #[.agg #[.int .i64 0, .int .i64 0, .int .i64 0], .int .i64 2], ?_, rfl, hB⟩
            simp [results, Try.f10, go_sem, e1, e2, e3, e4]
end Go.Proofs.Ytdenfmgmapgpiaa
