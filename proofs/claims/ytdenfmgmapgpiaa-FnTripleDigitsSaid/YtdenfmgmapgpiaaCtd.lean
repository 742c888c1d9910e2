/-
  Triples out of digits: what the program asks of the digits. Condition: the rows' reach.
-/
import Derived.Test.YtdenfmgmapgpiaaCto
import Derived.Test.YtdenfmgmapgpiaaPld
import Derived.Test.YtdenfmgmapgpiaaCc3
import Derived.StillTailTactics
namespace Go.Proofs.Ytdenfmgmapgpiaa
open Go.RowKit
set_option maxHeartbeats 1000000
theorem okD_len {xs : List Int} (h : ¬ xs.length = 2) : okD xs = false := by simp [okD, h]
theorem okD_2 (a b : Int) : okD [a, b] = (numB a && numB b) := by simp [okD]
theorem Tod1_any (A : Option Addr) (n c : Nat) (xs : List Int) (w : World) (h : ISl w A n xs) (hn : n ≤ 281474976710656) : Calls Try.prog 51 #[.slice A n c] w fun e w' => e = .returned (.bool (!okD xs)) ∧ w = w' := by
  obtain ⟨rfl, hx⟩ := h
  by_cases h2 : xs.length = 2
  · obtain ⟨a, b, rfl⟩ := list2 xs h2
    rw [okD_2]
    obtain ⟨g, off, rfl, hb, hr⟩ := hx (by simp)
    have c0 := hr 0 (by simp)
    have c1 := hr 1 (by simp)
    simp only [Nat.add_zero, List.getElem?_cons_zero, List.getElem?_cons_succ, Option.getD_some] at c0 c1
    clear hr hx hb h2
    have p1 := fun W => isNumber_any a W
    have p2 := fun W => isNumber_any b W
    obtain ⟨x, hx⟩ : ∃ x, numB a = x := ⟨_, rfl⟩
    obtain ⟨y, hy⟩ : ∃ y, numB b = y := ⟨_, rfl⟩
    rw [hx] at p1 ⊢
    rw [hy] at p2 ⊢
    have P1 := Lib.hid p1
    have P2 := Lib.hid p2
    clear p1 p2 hx hy
    cases x <;> cases y
    all_goals
      go_enter Try.func51, Try.ntmps51
      go_wp2_with (first | (go_at_call 52; (with_reducible refine (P1.out _).mono ?_); rintro e w' ⟨rfl, rfl⟩) | (go_at_call 52; (with_reducible refine (P2.out _).mono ?_); rintro e w' ⟨rfl, rfl⟩))
      go_returns
      exact ⟨rfl, rfl⟩
  · rw [okD_len h2]
    have h3 : ((xs.length : Int) != 2) = true := by simp; omega
    clear h2 hx
    go_enter Try.func51, Try.ntmps51
    go_wp2
    go_returns
    exact ⟨rfl, rfl⟩
theorem okDs_false {rs : List Rw} {k : Nat} (hk : k < rs.length) (h : okD (rs[k]?.getD Rw.nil).xs = false) : okDs (rs.map (·.xs)) = false := by
  unfold okDs
  rw [Bool.eq_false_iff]
  intro ha
  rw [List.all_eq_true] at ha
  have := ha (rs[k]?.getD Rw.nil).xs (List.mem_map_of_mem (getD_mem hk))
  rw [h] at this
  cases this
theorem okDs_true {rs : List Rw} (h : ∀ j, j < rs.length → okD (rs[j]?.getD Rw.nil).xs = true) : okDs (rs.map (·.xs)) = true := by
  unfold okDs
  rw [List.all_eq_true]
  intro x hx
  obtain ⟨r, hr, rfl⟩ := List.mem_map.1 hx
  obtain ⟨k, hk, rfl⟩ := List.getElem_of_mem hr
  have := h k hk
  rwa [List.getElem?_eq_getElem hk] at this
theorem IndexFuncD_any (A : Option Addr) (n c : Nat) (rs : List Rw) (w : World) (h : RSl w A n rs) (hn : n ≤ 281474976710656) (hl : lenB rs 281474976710656) :
    Calls Try.prog 84 #[.slice A n c, .func (.func 51) #[] #[]] w fun e w' => (∃ v : Int, (0 ≤ v ↔ okDs (rs.map (·.xs)) = false) ∧ e = .returned (.int .i64 v)) ∧ w = w' := by
  have HI := Lib.hid h.2.2
  have HX := Lib.hid h.2.1
  have hnl := h.1
  have HL := Lib.hid hl
  clear h hl
  subst hnl
  go_enter Try.func84, Try.ntmps84
  go_wp2
  go_loop [8] (fun i => ∃ k : Nat, k ≤ rs.length ∧ i = .int .i64 k ∧ ∀ j, j < k → okD (rs[j]?.getD Rw.nil).xs = true) (fun i => rs.length - (intOf i).toNat)
  case atStart => exact ⟨0, Nat.zero_le _, rfl, fun j hj => absurd hj (by omega)⟩
  case round =>
    obtain ⟨k, hk, rfl, hall⟩ := hrel
    have HA := Lib.hid hall
    clear hall
    by_cases hlt : k < rs.length
    · obtain ⟨b, off, rfl, hb, hr⟩ := HX.out (by omega)
      have h1 := hr k hlt
      have m1 := getD_mem hlt
      have i1 := HI.out _ m1
      have il := HL.out _ m1
      have hcon := Tod1_any (rs[k]?.getD Rw.nil).A (rs[k]?.getD Rw.nil).xs.length (rs[k]?.getD Rw.nil).c (rs[k]?.getD Rw.nil).xs w i1 il
      dsimp only [Rw.v] at h1
      obtain ⟨z, hz⟩ : ∃ z, okD (rs[k]?.getD Rw.nil).xs = z := ⟨_, rfl⟩
      rw [hz] at hcon
      obtain ⟨ra, hra⟩ : ∃ x, (rs[k]?.getD Rw.nil).A = x := ⟨_, rfl⟩
      obtain ⟨rc, hrc⟩ : ∃ x, (rs[k]?.getD Rw.nil).c = x := ⟨_, rfl⟩
      obtain ⟨rx, hrx⟩ : ∃ x, (rs[k]?.getD Rw.nil).xs.length = x := ⟨_, rfl⟩
      rw [hra, hrc, hrx] at h1 hcon
      have HZ := Lib.hid hz
      have HC := Lib.hid hcon
      clear hz hcon i1 il m1 hr hb hra hrc hrx
      have hi0 : (0 : Int) ≤ (k : Int) := by omega
      have hi1 : (k : Int) < (rs.length : Int) := by omega
      cases z
      · go_wp2_with (first | (go_at_call 51; (with_reducible refine (HC.out).mono ?_); rintro e w' ⟨rfl, rfl⟩))
        go_returns
        exact ⟨⟨k, ⟨fun _ => okDs_false hlt HZ.out, fun _ => by omega⟩, rfl⟩, rfl⟩
      · go_wp2_with (first | (go_at_call 51; (with_reducible refine (HC.out).mono ?_); rintro e w' ⟨rfl, rfl⟩))
        go_round
        case rel =>
          refine ⟨k + 1, by omega, by go_num, fun j hj => ?_⟩
          by_cases hjk : j < k
          · exact HA.out j hjk
          · obtain rfl : j = k := by omega
            exact HZ.out
        case measure => simp [intOf]; omega
    · go_wp2
      go_returns
      exact ⟨⟨-1, ⟨fun h => absurd h (by omega), fun h => by rw [okDs_true fun j hj => HA.out j (by omega)] at h; cases h⟩, rfl⟩, rfl⟩
theorem ContainsD_any (A : Option Addr) (n c : Nat) (rs : List Rw) (w : World) (h : RSl w A n rs) (hn : n ≤ 281474976710656) (hl : lenB rs 281474976710656) :
    Calls Try.prog 50 #[.slice A n c, .func (.func 51) #[] #[]] w fun e w' => e = .returned (.bool (!okDs (rs.map (·.xs)))) ∧ w = w' := by
  have H := Lib.hid h
  have HN := Lib.hid hn
  have HL := Lib.hid hl
  clear h hn hl
  go_enter Try.func50, Try.ntmps50
  go_wp2_with (first | (go_at_call 84; (with_reducible refine (IndexFuncD_any _ _ _ rs _ H.out HN.out HL.out).mono ?_); rintro e w1 ⟨⟨v, hv, rfl⟩, rfl⟩; have HV := Lib.hid hv; clear hv))
  go_returns
  refine ⟨ret_bool ?_, rfl⟩
  have hv := HV.out
  cases ha : okDs (rs.map (·.xs)) <;> simp_all
/-! ### The reference -/
def DT (w W : World) (p q r : Int) : Prop := C3 W w.heap.size p q r ∧ (∀ j, W.frozen? ⟨w.heap.size, j, none⟩ = false) ∧ C3 W (w.heap.size + 1) 0 0 0 ∧ (∀ j, W.frozen? ⟨w.heap.size + 1, j, none⟩ = false) ∧ w.heap.size + 2 ≤ W.heap.size ∧ Below w.heap.size w W
theorem DT.below {w W W1 : World} {p q r : Int} (h : DT w W p q r) (hb : Below W.heap.size W W1) : DT w W1 p q r :=
  ⟨h.1.below hb, fun j => (hb.frozen (p := ⟨w.heap.size, j, none⟩) (show w.heap.size < W.heap.size by have := h.2.2.2.2.1; omega)).trans (h.2.1 j), h.2.2.1.below hb, fun j => (hb.frozen (p := ⟨w.heap.size + 1, j, none⟩) (show w.heap.size + 1 < W.heap.size by have := h.2.2.2.2.1; omega)).trans (h.2.2.2.1 j),
    by have := h.2.2.2.2.1; have := hb.size; omega, h.2.2.2.2.2.trans (hb.mono h.2.2.2.2.2.size)⟩
theorem DT.drew {w W : World} {p q r : Int} (h : DT w W p q r) : DT w W.drew p q r := ⟨h.1, h.2.1, h.2.2.1, h.2.2.2.1, h.2.2.2.2.1, h.2.2.2.2.2.drew⟩
theorem DT.step {w W : World} {p q r : Int} (h : DT w W p q r) (p' q' r' : Int) : DT w (((W.setCell ⟨w.heap.size, 0, none⟩ (.int .i64 p')).setCell ⟨w.heap.size, 1, none⟩ (.int .i64 q')).setCell ⟨w.heap.size, 2, none⟩ (.int .i64 r')) p' q' r' :=
  ⟨h.1.put, fun j => by rw [World.frozen?_setCell, World.frozen?_setCell, World.frozen?_setCell]; exact h.2.1 j, ((h.2.2.1.other (by omega)).other (by omega)).other (by omega), fun j => by rw [World.frozen?_setCell, World.frozen?_setCell, World.frozen?_setCell]; exact h.2.2.2.1 j,
    by simp only [World.size_setCell]; exact h.2.2.2.2.1, below_beyond (below_beyond (below_beyond h.2.2.2.2.2 (Nat.le_refl _)) (Nat.le_refl _)) (Nat.le_refl _)⟩
/-- The digits from the end on. -/
def rd (rs : List Rw) : List (Int × Int) := (rs.map (·.xs)).map pairD
theorem rd_len (rs : List Rw) : (rd rs).length = rs.length := by simp [rd]
theorem rd_at {rs : List Rw} {k : Nat} (hk : k < rs.length) : (rd rs)[k]?.getD (0, 0) = pairD (rs[k]?.getD Rw.nil).xs := by
  simp [rd, hk]
theorem drop_at {l : List (Int × Int)} {k : Nat} (hk : k < l.length) : l.drop k = l[k]?.getD (0, 0) :: l.drop (k + 1) := by
  rw [List.getElem?_eq_getElem hk, Option.getD_some]
  exact List.drop_eq_getElem_cons hk
theorem rev_drop {l : List (Int × Int)} {k : Nat} (hk : k < l.length) : (l.drop k).reverse = (l.drop (k + 1)).reverse ++ [l[k]?.getD (0, 0)] := by
  rw [drop_at hk, List.reverse_cons]
theorem rev_split (l : List (Int × Int)) (k : Nat) : l.reverse = (l.drop k).reverse ++ (l.take k).reverse := by
  rw [← List.reverse_append, List.take_append_drop]
theorem foldS_pre {l : List (Int × Int)} {p0 q0 r0 p q r : Int} {k : Nat} (hk : k < l.length) (h : foldS (l.drop (k + 1)).reverse p0 q0 r0 = (p, q, r, true)) (ht : tripB r (dgA (l[k]?.getD (0, 0)).1 r p) (dgA (l[k]?.getD (0, 0)).2 r q) = true) :
    foldS (l.drop k).reverse p0 q0 r0 = (r, dgA (l[k]?.getD (0, 0)).1 r p, dgA (l[k]?.getD (0, 0)).2 r q, true) := by
  rw [rev_drop hk, foldS_snoc _ _ _ _ _ _ _ _ h, if_pos ht]
theorem foldS_no {l : List (Int × Int)} {p0 q0 r0 p q r : Int} {k : Nat} (hk : k < l.length) (h : foldS (l.drop (k + 1)).reverse p0 q0 r0 = (p, q, r, true)) (ht : tripB r (dgA (l[k]?.getD (0, 0)).1 r p) (dgA (l[k]?.getD (0, 0)).2 r q) = false) :
    foldS l.reverse p0 q0 r0 = (0, 0, 0, false) := by
  rw [rev_split l k]
  apply foldS_fail
  rw [rev_drop hk, foldS_snoc _ _ _ _ _ _ _ _ h, if_neg (by rw [ht]; decide)]
theorem okDs_num {rs : List Rw} (h : okDs (rs.map (·.xs)) = true) : ∀ d ∈ (rd rs).reverse, numB d.1 = true ∧ numB d.2 = true := by
  intro d hd
  rw [List.mem_reverse] at hd
  unfold rd at hd
  obtain ⟨x, hx, rfl⟩ := List.mem_map.1 hd
  unfold okDs at h
  rw [List.all_eq_true] at h
  have := h x hx
  simp only [okD, Bool.and_eq_true] at this
  exact this.2
theorem okD_row {rs : List Rw} {k : Nat} (hk : k < rs.length) (h : okDs (rs.map (·.xs)) = true) : ∃ a b, (rs[k]?.getD Rw.nil).xs = [a, b] ∧ numB a = true ∧ numB b = true := by
  unfold okDs at h
  rw [List.all_eq_true] at h
  have := h _ (List.mem_map_of_mem (f := (·.xs)) (getD_mem hk))
  simp only [okD, Bool.and_eq_true, beq_iff_eq] at this
  obtain ⟨a, b, e⟩ := list2 _ this.1
  rw [e] at this
  exact ⟨a, b, e, by simpa using this.2.1, by simpa using this.2.2⟩
theorem todR_n {ds : List (List Int)} {p q r : Int} (h : tripB p q r = false) : todR ds p q r = (0, 0, 0, 1) := by simp [todR, h]
theorem todR_r {ds : List (List Int)} {p q r : Int} (h : tripB p q r = true) (h2 : (p == 0 && decide ((ds.length : Int) ≤ 60) && okDs ds) = false) : todR ds p q r = (0, 0, 0, 2) := by simp [todR, h, h2]
theorem todR_l {ds : List (List Int)} {p q r : Int} (h : tripB p q r = true) (h2 : (p == 0 && decide ((ds.length : Int) ≤ 60) && okDs ds) = true) (h3 : foldD (ds.map pairD).reverse p q r = (0, 0, 0, false)) : todR ds p q r = (0, 0, 0, 3) := by simp only [todR, h, h2, h3]; rfl
theorem todR_0 {ds : List (List Int)} {p q r a b c : Int} (h : tripB p q r = true) (h2 : (p == 0 && decide ((ds.length : Int) ≤ 60) && okDs ds) = true) (h3 : foldD (ds.map pairD).reverse p q r = (a, b, c, true)) : todR ds p q r = (a, b, c, 0) := by simp only [todR, h, h2, h3]; rfl
set_option maxHeartbeats 4000000 in
set_option maxRecDepth 100000 in
theorem specTod_any (A : Option Addr) (n c : Nat) (rs : List Rw) (p q r : Int) (w : World) (h : RSl w A n rs) (hn : n ≤ 281474976710656) (hl : lenB rs 281474976710656) : Calls Try.prog 12 #[.slice A n c, .agg #[.int .i64 p, .int .i64 q, .int .i64 r]] w fun e w' =>
    e = .returned (.tuple #[.agg #[.int .i64 (todR (rs.map (·.xs)) p q r).1, .int .i64 (todR (rs.map (·.xs)) p q r).2.1, .int .i64 (todR (rs.map (·.xs)) p q r).2.2.1], .int .i64 (todR (rs.map (·.xs)) p q r).2.2.2]) ∧ Below w.heap.size w w' := by
  have HR := Lib.hid h
  have hnl := h.1
  have HL := Lib.hid hl
  clear h hl
  subst hnl
  have hlm : ((rs.map (·.xs)).length : Int) = rs.length := by simp
  have ht := fun W => l07Is_any p q r W
  have r1 := @todR_n (rs.map (·.xs)) p q r
  have r2 := @todR_r (rs.map (·.xs)) p q r
  have r3 := @todR_l (rs.map (·.xs)) p q r
  have r4 := @todR_0 (rs.map (·.xs)) p q r
  rw [hlm] at r2 r3 r4
  obtain ⟨R, eR⟩ : ∃ R, todR (rs.map (·.xs)) p q r = R := ⟨_, rfl⟩
  simp only [eR] at r1 r2 r3 r4 ⊢
  clear eR hlm
  obtain ⟨k, ek⟩ : ∃ k, tripB p q r = k := ⟨_, rfl⟩
  have HK := Lib.hid ek
  rw [ek] at ht r1 r2 r3 r4
  have HT := Lib.hid ht
  clear ht ek
  cases k
  · obtain rfl := r1 rfl
    clear r1 r2 r3 r4
    go_enter Try.func12, Try.ntmps12
    go_wp2_with (first | (go_at_call 48; (with_reducible refine (HT.out _).mono ?_); rintro e w1 ⟨rfl, hb1⟩; obtain ⟨hc1, hf1, hz1, hn1⟩ := bstep 2 w hb1 (by go_size)))
    refine bodyPost_ret (by simp [results, Try.results12, go_sem, *]; try rfl) rfl ?_
    exact ⟨rfl, by (repeat' (first | (with_reducible exact Below.refl _ _) | (with_reducible refine Below.alloc ?_ ?_ _) | (with_reducible refine Below.drew ?_) | (with_reducible refine below_drewN' ?_ _) | (with_reducible refine Below.setCell ?_ ?_ _) | (with_reducible refine Below.trans ?_ (Below.mono (by assumption) ?_)) | go_size))⟩
  · clear r1
    have R2 := Lib.hid (r2 rfl)
    have R3 := Lib.hid (r3 rfl)
    have R4 := Lib.hid (fun (a b c : Int) => r4 (a := a) (b := b) (c := c) rfl)
    clear r2 r3 r4
    by_cases hp : p = 0 ∧ rs.length ≤ 60
    · obtain ⟨hp0, hlen⟩ := hp
      subst hp0
      have hd : decide ((rs.length : Int) > 60) = false := by simp; omega
      have hcond : ∀ b, okDs (rs.map (·.xs)) = b → ((0 : Int) == 0 && decide ((rs.length : Int) ≤ 60) && okDs (rs.map (·.xs))) = b := fun b hb => by rw [hb]; simp; intro _; omega
      have HC := Lib.hid hcond
      clear hcond
      go_enter Try.func12, Try.ntmps12
      go_wp2_with (first | (go_at_call 48; (with_reducible refine (HT.out _).mono ?_); rintro e w1 ⟨rfl, hb1⟩; obtain ⟨hc1, hf1, hz1, hn1⟩ := bstep 2 w hb1 (by go_size); obtain ⟨⟨s0, s1, s2⟩, ⟨sf0, sf1, sf2⟩, ss, sn⟩ : (w1.cell? ⟨w.heap.size, 0, none⟩ = some (.int .i64 0) ∧ w1.cell? ⟨w.heap.size, 1, none⟩ = some (.int .i64 q) ∧ w1.cell? ⟨w.heap.size, 2, none⟩ = some (.int .i64 r)) ∧ (w1.frozen? ⟨w.heap.size, 0, none⟩ = false ∧ w1.frozen? ⟨w.heap.size, 1, none⟩ = false ∧ w1.frozen? ⟨w.heap.size, 2, none⟩ = false) ∧ w.heap.size < w1.heap.size ∧ ¬ w1.heap.size = w.heap.size := ⟨by (focus (((repeat' apply And.intro) <;> (repeat' (first | (with_reducible assumption) | (with_reducible refine keep_drew ?_) | (with_reducible refine keep_setx (by omega) ?_) | (with_reducible refine keep_hc (by with_reducible assumption) (by omega) ?_) | (focus (go_simp; done)) | (with_reducible refine keep_alloc ?_)))); done)), by (focus (((repeat' apply And.intro) <;> (repeat' (first | (with_reducible assumption) | (with_reducible refine fz_drew ?_) | (with_reducible refine fz_set ?_) | (with_reducible refine fz_hc (by with_reducible assumption) (by omega) ?_) | (focus (go_simp; done)) | (with_reducible refine fz_alloc ?_ ?_) | go_size))); done)), by go_size, by go_size⟩))
      refine wp_gen' (F := fun W => DT w W 0 q r ∧ Below w.heap.size w W) ⟨⟨⟨s0, s1, s2⟩, fun j => ?_, ⟨?_, ?_, ?_⟩, fun j => ?_, by omega, by (repeat' (first | (with_reducible exact Below.refl _ _) | (with_reducible refine Below.alloc ?_ ?_ _) | (with_reducible refine Below.drew ?_) | (with_reducible refine below_drewN' ?_ _) | (with_reducible refine Below.setCell ?_ ?_ _) | (with_reducible refine Below.trans ?_ (Below.mono (by assumption) ?_)) | go_size))⟩, by (repeat' (first | (with_reducible exact Below.refl _ _) | (with_reducible refine Below.alloc ?_ ?_ _) | (with_reducible refine Below.drew ?_) | (with_reducible refine below_drewN' ?_ _) | (with_reducible refine Below.setCell ?_ ?_ _) | (with_reducible refine Below.trans ?_ (Below.mono (by assumption) ?_)) | go_size))⟩ (fun W1 hW1 => ?_)
      · exact fz_hc hf1 (by omega) (by go_simp)
      · exact keep_hc hc1 (by omega) (by go_simp)
      · exact keep_hc hc1 (by omega) (by go_simp)
      · exact keep_hc hc1 (by omega) (by go_simp)
      · exact fz_hc hf1 (by omega) (by go_simp)
      obtain ⟨hDT, hB⟩ := hW1
      clear hb1 hc1 hf1 hz1 hn1 s0 s1 s2 sf0 sf1 sf2 ss sn HT
      have HD := Lib.hid hDT
      have HB := Lib.hid hB
      have hrk := HR.out.keep hB
      have HX := Lib.hid hrk.2.1
      have HI := Lib.hid hrk.2.2
      have hzr := hDT.2.2.2.2.1
      obtain ⟨r0, r1, r2⟩ := hDT.2.2.1
      have f0 := hDT.2.2.2.1 0
      have f1 := hDT.2.2.2.1 1
      have f2 := hDT.2.2.2.1 2
      clear hDT hB hrk
      go_loop [6] (fun i => ∃ k : Nat, k ≤ rs.length ∧ i = .int .i64 k ∧ ∀ j, j < k → okD (rs[j]?.getD Rw.nil).xs = true) (fun i => rs.length - (intOf i).toNat)
      case atStart => exact ⟨0, Nat.zero_le _, rfl, fun j hj => absurd hj (by omega)⟩
      case round =>
        obtain ⟨k, hk, rfl, hall⟩ := hrel
        have HA := Lib.hid hall
        clear hall
        by_cases hlt : k < rs.length
        · obtain ⟨b, off, rfl, hb, hr⟩ := HX.out (by omega)
          have h1 := hr k hlt
          have m1 := getD_mem hlt
          have i1 := (HI.out _ m1).2
          dsimp only [Rw.v] at h1
          have hi0 : (0 : Int) ≤ (k : Int) := by omega
          have hi1 : (k : Int) < (rs.length : Int) := by omega
          have HLT := Lib.hid hlt
          obtain ⟨ra, hra⟩ : ∃ x, (rs[k]?.getD Rw.nil).A = x := ⟨_, rfl⟩
          obtain ⟨rc, hrc⟩ : ∃ x, (rs[k]?.getD Rw.nil).c = x := ⟨_, rfl⟩
          obtain ⟨rx, hrx⟩ : ∃ x, (rs[k]?.getD Rw.nil).xs = x := ⟨_, rfl⟩
          have HRX := Lib.hid hrx
          rw [hra, hrc, hrx] at h1
          rw [hra, hrx] at i1
          clear m1 hr hb hra hrc hrx
          by_cases h2 : rx.length = 2
          · obtain ⟨a, b', rfl⟩ := list2 rx h2
            obtain ⟨g, off', rfl, _, hr'⟩ := i1 (by simp)
            have c0 := hr' 0 (by simp)
            have c1 := hr' 1 (by simp)
            simp only [Nat.add_zero, List.getElem?_cons_zero, List.getElem?_cons_succ, Option.getD_some] at c0 c1
            have hok : okD (rs[k]?.getD Rw.nil).xs = (numB a && numB b') := by rw [HRX.out, okD_2]
            clear hr' i1 h2
            have p1 := fun W => l01In_any a 0 1000000 W
            have p2 := fun W => l01In_any b' 0 1000000 W
            obtain ⟨x, hx⟩ : ∃ x, numB a = x := ⟨_, rfl⟩
            obtain ⟨y, hy⟩ : ∃ y, numB b' = y := ⟨_, rfl⟩
            rw [show inB a 0 1000000 = x from hx] at p1
            rw [show inB b' 0 1000000 = y from hy] at p2
            rw [hx, hy] at hok
            have P1 := Lib.hid p1
            have P2 := Lib.hid p2
            have HOK := Lib.hid hok
            clear p1 p2 hx hy hok
            cases x <;> cases y
            rotate_right
            · go_wp2_with (first | (go_at_call 57; (with_reducible refine (P1.out _).mono ?_); rintro e w' ⟨rfl, rfl⟩) | (go_at_call 57; (with_reducible refine (P2.out _).mono ?_); rintro e w' ⟨rfl, rfl⟩))
              go_round
              case rel =>
                refine ⟨k + 1, by omega, by go_num, fun j hj => ?_⟩
                by_cases hjk : j < k
                · exact HA.out j hjk
                · obtain rfl : j = k := by omega
                  exact HOK.out
              case measure => simp [intOf]; omega
            all_goals
              obtain rfl := R2.out (HC.out false (okDs_false HLT.out (by rw [HOK.out]; rfl)))
              clear R2 R3 R4
              go_wp2_with (first | (go_at_call 57; (with_reducible refine (P1.out _).mono ?_); rintro e w' ⟨rfl, rfl⟩) | (go_at_call 57; (with_reducible refine (P2.out _).mono ?_); rintro e w' ⟨rfl, rfl⟩))
              refine bodyPost_ret (by simp [results, Try.results12, go_sem, *]; try rfl) rfl ?_
              refine ⟨rfl, ?_⟩
              have hB := HB.out
              (repeat' (first | (with_reducible exact Below.refl _ _) | (with_reducible refine Below.alloc ?_ ?_ _) | (with_reducible refine Below.drew ?_) | (with_reducible refine below_drewN' ?_ _) | (with_reducible refine Below.setCell ?_ ?_ _) | (with_reducible refine Below.trans ?_ (Below.mono (by assumption) ?_)) | go_size))
          · have h3 : ((rx.length : Int) != 2) = true := by simp; omega
            obtain rfl := R2.out (HC.out false (okDs_false HLT.out (by rw [HRX.out]; exact okD_len h2)))
            clear h2 i1 R2 R3 R4
            go_wp2
            refine bodyPost_ret (by simp [results, Try.results12, go_sem, *]; try rfl) rfl ?_
            refine ⟨rfl, ?_⟩
            have hB := HB.out
            (repeat' (first | (with_reducible exact Below.refl _ _) | (with_reducible refine Below.alloc ?_ ?_ _) | (with_reducible refine Below.drew ?_) | (with_reducible refine below_drewN' ?_ _) | (with_reducible refine Below.setCell ?_ ?_ _) | (with_reducible refine Below.trans ?_ (Below.mono (by assumption) ?_)) | go_size))
        · obtain rfl : k = rs.length := by omega
          have hok := okDs_true HA.out
          have hds := foldDS (rd rs).reverse 0 q r HK.out (okDs_num hok)
          have R3' := Lib.hid (fun h => R3.out (HC.out true hok) (hds.trans h))
          have R4' := Lib.hid (fun a b c h => R4.out a b c (HC.out true hok) (hds.trans h))
          have hrow := fun k (hk : k < rs.length) => okD_row hk hok
          have HW := Lib.hid hrow
          clear hok hds hrow R2 R3 R4 HC HA hk hlt
          clear r0 r1 r2 f0 f1 f2
          go_wp2
          go_loopw [7] (fun iv W => ∃ (m : Nat) (p' q' r' : Int), m ≤ rs.length ∧ iv = .int .i64 ((m : Int) - 1) ∧ foldS ((rd rs).drop m).reverse 0 q r = (p', q', r', true) ∧ DT w W p' q' r') (fun iv _ => (intOf iv + 1).toNat)
          case atStart => exact ⟨rs.length, 0, q, r, Nat.le_refl _, rfl, by rw [List.drop_of_length_le (by rw [rd_len]; exact Nat.le_refl _)]; rfl, HD.out⟩
          case round =>
            obtain ⟨m, p', q', r', hm, rfl, hf, hT⟩ := hrel
            clear HD HB HX HI hzr
            have hrk := HR.out.keep hT.2.2.2.2.2
            obtain ⟨c0, c1, c2⟩ := hT.1
            have t0 := hT.2.1 0
            have t1 := hT.2.1 1
            have t2 := hT.2.1 2
            obtain ⟨r0, r1, r2⟩ := hT.2.2.1
            have f0 := hT.2.2.2.1 0
            have f1 := hT.2.2.2.1 1
            have f2 := hT.2.2.2.1 2
            have HS := Lib.hid hT
            have HF := Lib.hid hf
            clear hT hf
            cases m with
            | zero =>
              have hz : ((0 : Nat) : Int) - 1 = -1 := rfl
              rw [hz]
              have hfin := HF.out
              rw [List.drop_zero] at hfin
              obtain rfl := R4'.out _ _ _ hfin
              have HBB := Lib.hid HS.out.2.2.2.2.2
              clear hfin hrk hz R3' R4'
              go_wp2
              refine bodyPost_ret (by simp [results, Try.results12, go_sem, *]; try rfl) rfl ?_
              refine ⟨rfl, ?_⟩
              have hB := HBB.out
              (repeat' (first | (with_reducible exact Below.refl _ _) | (with_reducible refine Below.alloc ?_ ?_ _) | (with_reducible refine Below.drew ?_) | (with_reducible refine below_drewN' ?_ _) | (with_reducible refine Below.setCell ?_ ?_ _) | (with_reducible refine Below.trans ?_ (Below.mono (by assumption) ?_)) | go_size))
            | succ k =>
              have hz : ((k + 1 : Nat) : Int) - 1 = (k : Int) := by omega
              rw [hz]
              clear hz
              have hlt : k < rs.length := by omega
              obtain ⟨b, off, rfl, hb, hr⟩ := hrk.2.1 (by omega)
              have h1 := hr k hlt
              have i1 := (hrk.2.2 _ (getD_mem hlt)).2
              obtain ⟨d, e', hxs, hd1, hd2⟩ := HW.out k hlt
              have hpair := rd_at hlt
              rw [hxs] at hpair
              dsimp only [Rw.v] at h1
              rw [hxs] at h1 i1
              obtain ⟨ra, hra⟩ : ∃ x, (rs[k]?.getD Rw.nil).A = x := ⟨_, rfl⟩
              obtain ⟨rc, hrc⟩ : ∃ x, (rs[k]?.getD Rw.nil).c = x := ⟨_, rfl⟩
              rw [hra, hrc] at h1
              rw [hra] at i1
              obtain ⟨g, off', rfl, hgl, hr'⟩ := i1 (by simp)
              have g0 := hr' 0 (by simp)
              have g1 := hr' 1 (by simp)
              simp only [Nat.add_zero, List.getElem?_cons_zero, List.getElem?_cons_succ, Option.getD_some, List.length_cons, List.length_nil, Nat.reduceAdd] at g0 g1 h1
              have hlr : k < (rd rs).length := by rw [rd_len]; exact hlt
              have hpre := fun ht => foldS_pre (l := rd rs) hlr HF.out ht
              have hno := fun ht => foldS_no (l := rd rs) hlr HF.out ht
              rw [hpair] at hpre hno
              dsimp only [pairD] at hpre hno
              simp only [List.getElem?_cons_zero, List.getElem?_cons_succ, Option.getD_some] at hpre hno
              have HPRE := Lib.hid hpre
              have HNO := Lib.hid hno
              clear hpre hno hpair hxs hra hrc hr' hr i1 hrk hb hgl hd1 hd2 hlr
              have hi0 : (0 : Int) ≤ (k : Int) := by omega
              have hi1 : (k : Int) < (rs.length : Int) := by omega
              have hls := fun W => l07Is_any r' (wrap64 (p' + wrap64 (d * r'))) (wrap64 (q' + wrap64 (e' * r'))) W
              obtain ⟨u, hu⟩ : ∃ u, tripB r' (wrap64 (p' + wrap64 (d * r'))) (wrap64 (q' + wrap64 (e' * r'))) = u := ⟨_, rfl⟩
              rw [hu] at hls
              have HLS := Lib.hid hls
              have HU := Lib.hid hu
              clear hls hu
              cases u
              · obtain rfl := R3'.out (HNO.out HU.out)
                clear R3' R4' HPRE HNO
                go_wp2
                go_still_tail 27, (by kernel_rfl)
                go_wp2_with (first | (go_at_call 48; (with_reducible refine (HLS.out _).mono ?_); rintro e w1 ⟨rfl, hb1⟩; refine gcut (p := DT w w1 r' (dgA d r' p') (dgA e' r' q')) ?_ ?_; (focus (refine DT.below ?_ hb1; first | exact (HS.out.step r' _ _) | exact (HS.out.step r' _ _).drew | exact HS.out.drew.step r' _ _)); intro hs1; have HS1 := Lib.hid hs1; obtain ⟨v0, v1, v2⟩ := hs1.2.2.1; have x0 := hs1.2.2.2.1 0; have x1 := hs1.2.2.2.1 1; have x2 := hs1.2.2.2.1 2; clear hs1))
                refine bodyPost_ret (by simp [results, Try.results12, go_sem, *]; try rfl) rfl ?_
                refine ⟨rfl, ?_⟩
                have hB := HS1.out.2.2.2.2.2
                (repeat' (first | (with_reducible exact Below.refl _ _) | (with_reducible refine Below.alloc ?_ ?_ _) | (with_reducible refine Below.drew ?_) | (with_reducible refine below_drewN' ?_ _) | (with_reducible refine Below.setCell ?_ ?_ _) | (with_reducible refine Below.trans ?_ (Below.mono (by assumption) ?_)) | go_size))
              · have hnew := HPRE.out HU.out
                have HNEW := Lib.hid hnew
                clear R3' R4' HPRE HNO hnew
                go_wp2
                go_still_tail 27, (by kernel_rfl)
                go_wp2_with (first | (go_at_call 48; (with_reducible refine (HLS.out _).mono ?_); rintro e w1 ⟨rfl, hb1⟩; refine gcut (p := DT w w1 r' (dgA d r' p') (dgA e' r' q')) ?_ ?_; (focus (refine DT.below ?_ hb1; first | exact (HS.out.step r' _ _) | exact (HS.out.step r' _ _).drew | exact HS.out.drew.step r' _ _)); intro hs1; have HS1 := Lib.hid hs1; clear hs1))
                go_roundw
                case rel => exact ⟨k, r', dgA d r' p', dgA e' r' q', by omega, by go_num, HNEW.out, HS1.out⟩
                case measure => simp [intOf]
    · have hcond : (p == 0 && decide ((rs.length : Int) ≤ 60) && okDs (rs.map (·.xs))) = false := by
        cases h1 : (p == 0 && decide ((rs.length : Int) ≤ 60)) with
        | false => rfl
        | true =>
          simp only [Bool.and_eq_true, beq_iff_eq, decide_eq_true_eq] at h1
          exact absurd ⟨h1.1, by omega⟩ hp
      obtain rfl := R2.out hcond
      clear R2 R3 R4 hcond
      by_cases hp0 : p = 0
      · subst hp0
        have hd : (60 : Int) < (rs.length : Int) := by omega
        clear hp
        go_enter Try.func12, Try.ntmps12
        go_wp2_with (first | (go_at_call 48; (with_reducible refine (HT.out _).mono ?_); rintro e w1 ⟨rfl, hb1⟩; obtain ⟨hc1, hf1, hz1, hn1⟩ := bstep 2 w hb1 (by go_size); obtain ⟨⟨s0, s1, s2⟩, ⟨sf0, sf1, sf2⟩, ss, sn⟩ : (w1.cell? ⟨w.heap.size, 0, none⟩ = some (.int .i64 0) ∧ w1.cell? ⟨w.heap.size, 1, none⟩ = some (.int .i64 q) ∧ w1.cell? ⟨w.heap.size, 2, none⟩ = some (.int .i64 r)) ∧ (w1.frozen? ⟨w.heap.size, 0, none⟩ = false ∧ w1.frozen? ⟨w.heap.size, 1, none⟩ = false ∧ w1.frozen? ⟨w.heap.size, 2, none⟩ = false) ∧ w.heap.size < w1.heap.size ∧ ¬ w1.heap.size = w.heap.size := ⟨by (focus (((repeat' apply And.intro) <;> (repeat' (first | (with_reducible assumption) | (with_reducible refine keep_drew ?_) | (with_reducible refine keep_setx (by omega) ?_) | (with_reducible refine keep_hc (by with_reducible assumption) (by omega) ?_) | (focus (go_simp; done)) | (with_reducible refine keep_alloc ?_)))); done)), by (focus (((repeat' apply And.intro) <;> (repeat' (first | (with_reducible assumption) | (with_reducible refine fz_drew ?_) | (with_reducible refine fz_set ?_) | (with_reducible refine fz_hc (by with_reducible assumption) (by omega) ?_) | (focus (go_simp; done)) | (with_reducible refine fz_alloc ?_ ?_) | go_size))); done)), by go_size, by go_size⟩))
        refine bodyPost_ret (by simp [results, Try.results12, go_sem, *]; try rfl) rfl ?_
        exact ⟨rfl, by (repeat' (first | (with_reducible exact Below.refl _ _) | (with_reducible refine Below.alloc ?_ ?_ _) | (with_reducible refine Below.drew ?_) | (with_reducible refine below_drewN' ?_ _) | (with_reducible refine Below.setCell ?_ ?_ _) | (with_reducible refine Below.trans ?_ (Below.mono (by assumption) ?_)) | go_size))⟩
      · have hd : (p != 0) = true := by simpa using hp0
        clear hp hp0
        go_enter Try.func12, Try.ntmps12
        go_wp2_with (first | (go_at_call 48; (with_reducible refine (HT.out _).mono ?_); rintro e w1 ⟨rfl, hb1⟩; obtain ⟨hc1, hf1, hz1, hn1⟩ := bstep 2 w hb1 (by go_size); obtain ⟨⟨s0, s1, s2⟩, ⟨sf0, sf1, sf2⟩, ss, sn⟩ : (w1.cell? ⟨w.heap.size, 0, none⟩ = some (.int .i64 p) ∧ w1.cell? ⟨w.heap.size, 1, none⟩ = some (.int .i64 q) ∧ w1.cell? ⟨w.heap.size, 2, none⟩ = some (.int .i64 r)) ∧ (w1.frozen? ⟨w.heap.size, 0, none⟩ = false ∧ w1.frozen? ⟨w.heap.size, 1, none⟩ = false ∧ w1.frozen? ⟨w.heap.size, 2, none⟩ = false) ∧ w.heap.size < w1.heap.size ∧ ¬ w1.heap.size = w.heap.size := ⟨by (focus (((repeat' apply And.intro) <;> (repeat' (first | (with_reducible assumption) | (with_reducible refine keep_drew ?_) | (with_reducible refine keep_setx (by omega) ?_) | (with_reducible refine keep_hc (by with_reducible assumption) (by omega) ?_) | (focus (go_simp; done)) | (with_reducible refine keep_alloc ?_)))); done)), by (focus (((repeat' apply And.intro) <;> (repeat' (first | (with_reducible assumption) | (with_reducible refine fz_drew ?_) | (with_reducible refine fz_set ?_) | (with_reducible refine fz_hc (by with_reducible assumption) (by omega) ?_) | (focus (go_simp; done)) | (with_reducible refine fz_alloc ?_ ?_) | go_size))); done)), by go_size, by go_size⟩))
        refine bodyPost_ret (by simp [results, Try.results12, go_sem, *]; try rfl) rfl ?_
        exact ⟨rfl, by (repeat' (first | (with_reducible exact Below.refl _ _) | (with_reducible refine Below.alloc ?_ ?_ _) | (with_reducible refine Below.drew ?_) | (with_reducible refine below_drewN' ?_ _) | (with_reducible refine Below.setCell ?_ ?_ _) | (with_reducible refine Below.trans ?_ (Below.mono (by assumption) ?_)) | go_size))⟩
end Go.Proofs.Ytdenfmgmapgpiaa
