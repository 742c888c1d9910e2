/-
  The reference's fraction of a list; copies of rows of whole numbers. Condition: the rows' reach.
-/
import Derived.Test.YtoldicmobenhaaaCbw
import Derived.Laws.MakeOwn
import Derived.Laws.OwnMore
namespace Go.Proofs.Ytoldicmobenhaaa
open Go.RowKit Go.Shelf
set_option maxHeartbeats 1000000
theorem infoI64b : (Try.prog.info? 2).map (fun i => (i.zero, i.size, i.bytes)) = some (some (.int .i64 0), 1, 8) := by kernel_rfl
theorem mkI (n : Nat) (hn : n ≤ 1048576) (w : World) : (Instr.makeSlice 44 (.int .i64 (n : Int)) (.int .i64 (n : Int))).run Try.prog w = .ok (.slice (some ⟨w.heap.size, 0, none⟩) n n) (w.alloc (.cells (madeCells #[.int .i64 0] n) 2)) := by
  obtain ⟨i, h1, h5⟩ := Option.map_eq_some_iff.1 infoI64b
  simp only [Prod.mk.injEq] at h5
  obtain ⟨h2, h4, h3⟩ := h5
  have hr := run_make (P := Try.prog) w 44 2 i (.int .i64 0) (by exact Try.underlying44) h1 h2 .i64 .i64 n n (by omega) (by omega) (by rw [h3]; omega) (by omega)
  rw [h4] at hr
  simp only [Int.toNat_natCast, Nat.mul_one] at hr
  exact hr
theorem made_at (w : World) (n j : Nat) (hj : j < n) : (w.alloc (.cells (madeCells #[.int .i64 0] n) 2)).cell? ⟨w.heap.size, j, none⟩ = some (.int .i64 0) ∧ (w.alloc (.cells (madeCells #[.int .i64 0] n) 2)).frozen? ⟨w.heap.size, j, none⟩ = false := by
  have h1 := World.alloc_heap_new w (.cells (madeCells #[.int .i64 0] n) 2)
  have h2 : (madeCells #[Value.int .i64 0] n)[j]? = some (.int .i64 0) := by
    rw [← Array.getElem?_toList, toList_madeCells_one]
    simp [hj]
  constructor
  · unfold World.cell?
    rw [h1]
    exact h2
  · unfold World.frozen?
    rw [h1]
    simp
theorem toInt64S_any (A : Option Addr) (n c : Nat) (xs : List Int) (w : World) (h : ISl w A n xs) (hn : n ≤ 1048576) : Calls Try.prog 40 #[.slice A n c] w fun e w' =>
    (∃ A', e = .returned (.slice A' n n) ∧ ISl w' A' n xs) ∧ Below w.heap.size w w' := by
  obtain ⟨rfl, hx⟩ := h
  have hmk := fun W => mkI xs.length hn W
  go_enter Try.func40, Try.ntmps40
  go_wp2
  refine wp_gen (F := fun W1 => Below w.heap.size w W1 ∧ W1.heap.size = w.heap.size + 1 ∧ ∀ j, j < xs.length → W1.cell? ⟨w.heap.size, j, none⟩ = some (.int .i64 0) ∧ W1.frozen? ⟨w.heap.size, j, none⟩ = false) ⟨by (repeat' (first | (with_reducible exact Below.refl _ _) | (with_reducible refine Below.alloc ?_ ?_ _) | (with_reducible refine Below.drew ?_) | (with_reducible refine below_drewN' ?_ _) | (with_reducible refine Below.setCell ?_ ?_ _) | (with_reducible refine Below.trans ?_ (Below.mono (by assumption) ?_)) | go_size)), by simp, fun j hj => made_at w xs.length j hj⟩ (fun W1 hW1 => ?_)
  obtain ⟨hB1, hz1, hall1⟩ := hW1
  clear hmk
  go_loopw [4] (fun i wr => ∃ k : Nat, k ≤ xs.length ∧ i = .int .i64 k ∧ Below w.heap.size w wr ∧ wr.heap.size = w.heap.size + 1 ∧
      (∀ j, j < xs.length → ∃ v, wr.cell? ⟨w.heap.size, j, none⟩ = some v ∧ wr.frozen? ⟨w.heap.size, j, none⟩ = false ∧ (j < k → v = .int .i64 (xs[j]?.getD 0)))) (fun i _ => xs.length - (intOf i).toNat)
  case atStart => exact ⟨0, Nat.zero_le _, rfl, hB1, hz1, fun j hj => ⟨_, (hall1 j hj).1, (hall1 j hj).2, fun h => absurd h (by omega)⟩⟩
  case round =>
    obtain ⟨k, hk, rfl, hB, hsz, hall⟩ := hrel
    clear hall1 hB1 hz1
    by_cases hlt : k < xs.length
    · obtain ⟨b, off, rfl, hb, hr⟩ := hx (by omega)
      obtain ⟨v, h1, h2, _⟩ := hall k hlt
      have h3 := cell_keep hB (hr k hlt)
      have HC := Lib.hid hall
      have HS := Lib.hid hsz
      obtain ⟨x, hp⟩ : ∃ p, xs[k]?.getD 0 = p := ⟨_, rfl⟩
      rw [hp] at h3
      have HP := Lib.hid hp
      have HX := Lib.hid hx
      clear hall hsz hr hp hx
      have hi0 : (0 : Int) ≤ (k : Int) := by omega
      have hi1 : (k : Int) < (xs.length : Int) := by omega
      go_wp2
      go_roundw
      case rel =>
        refine ⟨k + 1, by omega, by go_num, below_beyond hB (Nat.le_refl _), by rw [World.size_setCell]; exact HS.out, fun j hj => ?_⟩
        by_cases hjk : j = k
        · subst hjk
          refine ⟨_, World.cell?_setCell_same (h := h1) .., by rw [World.frozen?_setCell]; exact h2, fun _ => by rw [HP.out]⟩
        · obtain ⟨u, g1, g2, g3⟩ := HC.out j hj
          refine ⟨u, (World.cell?_setCell_other _ _ _ _ (fun e => hjk (by have := congrArg Addr.off e; simp at this; omega))).trans g1, by rw [World.frozen?_setCell]; exact g2, fun hlt' => g3 (by omega)⟩
      case measure => simp [intOf]; omega
    · obtain rfl : k = xs.length := by omega
      have HC := Lib.hid hall
      have HS := Lib.hid hsz
      clear hall hsz hx
      go_wp2
      go_returns
      refine ⟨⟨_, rfl, rfl, fun hp => ⟨w.heap.size, 0, rfl, by rw [HS.out]; omega, fun i hi => ?_⟩⟩, hB⟩
      obtain ⟨v, h1, _, h3⟩ := HC.out i hi
      rw [Nat.zero_add, h1, h3 hi]
theorem specList_any (A : Option Addr) (n c : Nat) (xs : List Int) (w : World) (h : ISl w A n xs) (hn : n ≤ 1048576) : Calls Try.prog 74 #[.slice A n c] w fun e w' =>
    e = .returned (.bool (okF xs && inB (xs.length : Int) 1 60)) ∧ Below w.heap.size w w' := by
  obtain ⟨rfl, hx⟩ := h
  have f2 := @okF_false xs
  have f1 := @okF_true xs
  obtain ⟨R, eR⟩ : ∃ R, okF xs = R := ⟨_, rfl⟩
  rw [eR] at f1 f2 ⊢
  have F1 := Lib.hid f1
  have F2 := Lib.hid (fun (i : Nat) (hi : i < xs.length) (h : itB i (xs[i]?.getD 0) = false) => f2 hi h)
  clear eR f1 f2
  go_enter Try.func74, Try.ntmps74
  go_wp2
  go_loopw [3] (fun i wr => Below w.heap.size w wr ∧ ∃ k : Nat, k ≤ xs.length ∧ i = .int .i64 k ∧ ∀ j, j < k → itB j (xs[j]?.getD 0) = true) (fun i _ => xs.length - (intOf i).toNat)
  case atStart => exact ⟨Below.refl _ _, 0, Nat.zero_le _, rfl, fun j hj => absurd hj (by omega)⟩
  case round =>
    obtain ⟨hB, k, hk, rfl, hq⟩ := hrel
    by_cases hlt : k < xs.length
    · obtain ⟨b, off, rfl, hb, hr⟩ := hx (by omega)
      have h1 := cell_keep hB (hr k hlt)
      obtain ⟨x, hp⟩ : ∃ p, xs[k]?.getD 0 = p := ⟨_, rfl⟩
      rw [hp] at h1
      have HQ := Lib.hid hq
      have HP := Lib.hid hp
      clear hp hr hq hx
      have hi0 : (0 : Int) ≤ (k : Int) := by omega
      have hi1 : (k : Int) < (xs.length : Int) := by omega
      have hco := fun W => l01Fits_any x W
      obtain ⟨z, hz⟩ : ∃ z, coB x = z := ⟨_, rfl⟩
      rw [hz] at hco
      have HCO := Lib.hid hco
      have HZ := Lib.hid hz
      have HLT := Lib.hid hlt
      clear hco hz
      cases z <;> go_wp2_with (first | (go_at_call 69; (with_reducible refine (HCO.out _).mono ?_); rintro e w' ⟨rfl, rfl⟩))
      all_goals first
        | (obtain rfl := F2.out k HLT.out (by rw [HP.out]; simp [itB, HZ.out] <;> omega); go_returns; exact ⟨by simp, hB⟩)
        | (go_roundw
           case rel => exact ⟨hB, k + 1, by omega, by go_num, fun j hj => by
             by_cases hjk : j < k
             · exact HQ.out j hjk
             · obtain rfl : j = k := by omega
               rw [HP.out]; simp [itB, HZ.out] <;> omega⟩
           case measure => simp [intOf]; omega)
        | skip
      all_goals go_goals
    · obtain rfl : k = xs.length := by omega
      obtain rfl := F1.out hq
      clear F1 F2 hx hq
      go_wp2
      all_goals first | (go_returns; refine ⟨?_, by assumption⟩; simp [inB] <;> omega) | go_goals
theorem foldF_one {xs : List Int} (hn : 0 < xs.length) (hok : okF xs = true) : foldF ((upto (bk xs) 1).map (·.2)) 1 0 = (xs[xs.length - 1]?.getD 0, 1, true) := by
  have h : itB (xs.length - 1) (xs[xs.length - 1]?.getD 0) = true := by
    unfold okF at hok
    rw [List.all_eq_true] at hok
    exact hok _ (List.mem_range.2 (by omega))
  obtain ⟨x, hx⟩ : ∃ x, xs[xs.length - 1]?.getD 0 = x := ⟨_, rfl⟩
  have e : (upto (bk xs) 1).map (·.2) = [x] := by simp [upto, bk, hx]
  rw [hx] at h ⊢
  rw [e]
  have hc : coB x = true := by revert h; unfold itB; cases coB x <;> simp
  have hb := coB_iff.1 hc
  have hw : wrap64 (wrap64 (x * 1) + 0) = x := by
    rw [Int.mul_one, Int.add_zero]
    rw [show wrap64 x = x by unfold wrap64; omega]
    unfold wrap64; omega
  rw [foldF, hw, hc]
  simp [foldF]
  decide
theorem specFold_any (A : Option Addr) (n c : Nat) (xs : List Int) (w : World) (h : ISl w A n xs) (hn : n ≤ 1048576) (h0 : 0 < n) (hok : okF xs = true) : Calls Try.prog 75 #[.slice A n c] w fun e w' =>
    e = .returned (.tuple #[.int .i64 (foldF xs.reverse 1 0).1, .int .i64 (foldF xs.reverse 1 0).2.1, .bool (foldF xs.reverse 1 0).2.2]) ∧ Below w.heap.size w w' := by
  obtain ⟨rfl, hx⟩ := h
  have hone := foldF_one h0 hok
  obtain ⟨b, off, rfl, hb, hr⟩ := hx h0
  have hall := upto_bk_map xs
  have hpre := fun k hk => upto_bk_prefix xs (k := k) hk
  obtain ⟨rv, ervs⟩ : ∃ rv, xs.reverse = rv := ⟨_, rfl⟩
  rw [ervs] at hall hpre ⊢
  have HA := Lib.hid hall
  have HPR := Lib.hid hpre
  obtain ⟨R, eR⟩ : ∃ R, foldF rv 1 0 = R := ⟨_, rfl⟩
  rw [eR]
  have HE := Lib.hid eR
  obtain ⟨m, hm⟩ : ∃ m : Nat, xs.length = m + 1 := ⟨xs.length - 1, by omega⟩
  have hl := hr m (by omega)
  rw [show xs.length - 1 = m by omega] at hone
  obtain ⟨x0, hx0⟩ : ∃ x, xs[m]?.getD 0 = x := ⟨_, rfl⟩
  rw [hx0] at hl hone
  have HO := Lib.hid hone
  have HR := Lib.hid hr
  have HM := Lib.hid hm
  have hmi : ((m + 1 : Nat) : Int) - 1 = (m : Int) := by omega
  have hm0 : (0 : Int) ≤ (m : Int) := by omega
  have hm1 : (m : Int) < ((m + 1 : Nat) : Int) := by omega
  rw [hm] at hn ⊢
  clear hall hpre hone hr eR hx hok ervs hx0 h0 hm
  go_enter Try.func75, Try.ntmps75
  go_wp2
  go_loopw [5, 6, 7] (fun pv qv i wr => ∃ (j : Nat) (p q : Int), j ≤ m ∧ pv = .int .i64 p ∧ qv = .int .i64 q ∧ i = .int .i64 ((m : Int) - 1 - j) ∧ foldF ((upto (bk xs) (j + 1)).map (·.2)) 1 0 = (p, q, true) ∧ Below w.heap.size w wr) (fun _ _ i _ => (intOf i + 1).toNat)
  case atStart => exact ⟨0, x0, 1, Nat.zero_le _, rfl, rfl, by congr 1; omega, HO.out, Below.refl _ _⟩
  case round =>
    obtain ⟨j, p, q, hj, rfl, rfl, rfl, hf, hB⟩ := hrel
    by_cases hlt : j < m
    · obtain ⟨d, hd⟩ : ∃ d : Nat, d = m - 1 - j := ⟨_, rfl⟩
      have hdi : (m : Int) - 1 - j = (d : Int) := by omega
      have hdl : d < xs.length := by rw [HM.out]; omega
      have h1 := cell_keep hB (HR.out d hdl)
      have hbk : (bk xs (j + 1)).2 = xs[d]?.getD 0 := by rw [bk, HM.out, show m + 1 - 1 - (j + 1) = d by omega]
      obtain ⟨x, hx⟩ : ∃ x, xs[d]?.getD 0 = x := ⟨_, rfl⟩
      rw [hx] at h1 hbk
      have hs := foldF_snoc x _ _ _ _ _ hf
      rw [show (upto (bk xs) (j + 1)).map (·.2) ++ [x] = (upto (bk xs) (j + 1 + 1)).map (·.2) by rw [upto_succ _ (j + 1), List.map_append, ← hbk]; rfl] at hs
      obtain ⟨np, hnp⟩ : ∃ np, wrap64 (wrap64 (x * p) + q) = np := ⟨_, rfl⟩
      rw [hnp] at hs
      have hc1 := fun W => l01Fits_any np W
      have hc2 := fun W => l01Fits_any p W
      obtain ⟨z1, hz1⟩ : ∃ z, coB np = z := ⟨_, rfl⟩
      obtain ⟨z2, hz2⟩ : ∃ z, coB p = z := ⟨_, rfl⟩
      rw [hz1] at hc1 hs
      rw [hz2] at hc2 hs
      have HS := Lib.hid hs
      have HC1 := Lib.hid hc1
      have HC2 := Lib.hid hc2
      have HDI := Lib.hid hdi
      have HLT := Lib.hid hlt
      have hd0 : (0 : Int) ≤ (d : Int) := by omega
      have hd1 : (d : Int) < (m : Int) + 1 := by omega
      have hd2 : (d : Int) < ((m + 1 : Nat) : Int) := by omega
      rw [hdi]
      clear hs hc1 hc2 hz1 hz2 hf hbk hx hdi hd
      have hfail : (∀ z : Bool, z = false → foldF ((upto (bk xs) (j + 1 + 1)).map (·.2)) 1 0 = (0, 0, false) → R = (0, 0, false)) := fun _ _ hh => by
        obtain ⟨l2, hl2⟩ := HPR.out (j + 1 + 1) (by rw [HM.out]; omega)
        have := foldF_fail l2 _ _ _ hh
        rw [hl2, HE.out] at this
        exact this
      have HF := Lib.hid (hfail false rfl)
      clear hfail
      cases z1 <;> cases z2 <;> go_wp2_with (first | (go_at_call 69; (with_reducible refine (HC1.out _).mono ?_); rintro e w' ⟨rfl, rfl⟩) | (go_at_call 69; (with_reducible refine (HC2.out _).mono ?_); rintro e w' ⟨rfl, rfl⟩))
      all_goals first
        | (obtain rfl := HF.out (by simpa using HS.out); go_returns; exact ⟨rfl, hB⟩)
        | (go_roundw
           case rel => exact ⟨j + 1, np, p, by have := HLT.out; omega, rfl, rfl, by rw [← HDI.out]; congr 1; omega, by simpa using HS.out, hB⟩
           case measure => simp [intOf])
        | skip
      all_goals go_goals
    · obtain rfl : j = m := by omega
      have hz : (j : Int) - 1 - (j : Int) = -1 := by omega
      have hall := HA.out
      rw [HM.out] at hall
      rw [hall, HE.out] at hf
      subst hf
      rw [hz]
      go_wp2
      go_returns
      exact ⟨rfl, hB⟩
theorem specFrac_any (A : Option Addr) (n c : Nat) (xs : List Int) (w : World) (h : ISl w A n xs) (hn : n ≤ 1048576) : Calls Try.prog 39 #[.slice A n c] w fun e w' =>
    e = .returned (.tuple #[.int .i64 (fracF xs).1, .int .i64 (fracF xs).2.1, .int .i64 (fracF xs).2.2]) ∧ Below w.heap.size w w' := by
  have hnx : n = xs.length := h.1
  have hfr : ∀ (p0 : Bool), (okF xs && inB (xs.length : Int) 1 60) = p0 → (p0 = false → fracF xs = (0, 0, 2)) ∧ (p0 = true → 0 < n ∧ okF xs = true ∧ fracF xs = if (foldF xs.reverse 1 0).2.2 = true then ((foldF xs.reverse 1 0).1, (foldF xs.reverse 1 0).2.1, 0) else (0, 0, 3)) := by
    intro p0 hp
    constructor
    · rintro rfl
      unfold fracF
      cases h1 : okF xs <;> cases h2 : inB (xs.length : Int) 1 60 <;> simp_all
    · rintro rfl
      rw [Bool.and_eq_true] at hp
      have := inB_iff.1 hp.2
      refine ⟨by omega, hp.1, ?_⟩
      unfold fracF
      rw [hp.1, hp.2]
      rfl
  have hL := fun W (hW : ISl W A n xs) => specList_any A n c xs W hW hn
  obtain ⟨p0, hp0⟩ : ∃ p0, (okF xs && inB (xs.length : Int) 1 60) = p0 := ⟨_, rfl⟩
  have hfr := hfr p0 hp0
  rw [hp0] at hL
  have HL := Lib.hid hL
  have HFR := Lib.hid hfr
  obtain ⟨R, hR⟩ : ∃ R, fracF xs = R := ⟨_, rfl⟩
  rw [hR]
  have HR := Lib.hid hR
  have HH := Lib.hid h
  clear hL hfr hR h hnx hp0
  go_enter Try.func39, Try.ntmps39
  go_wp2_with fail
  refine (HL.out _ HH.out).mono ?_
  rintro e w1 ⟨rfl, hb1⟩
  cases p0
  · have e := HFR.out.1 rfl
    rw [HR.out] at e
    subst e
    go_wp2
    go_returns
    exact ⟨rfl, hb1⟩
  · obtain ⟨h0, hok, e⟩ := HFR.out.2 rfl
    rw [HR.out] at e
    go_wp2_with fail
    refine (specFold_any A n c xs _ (HH.out.keep hb1) hn h0 hok).mono ?_
    rintro e w2 ⟨rfl, hb2⟩
    have k2 := hb1.trans (hb2.mono hb1.size)
    obtain ⟨r, hr⟩ : ∃ r, foldF xs.reverse 1 0 = r := ⟨_, rfl⟩
    obtain ⟨a, b, z⟩ := r
    rw [hr] at e ⊢
    dsimp only at e ⊢
    cases z
    · rw [if_neg (by decide)] at e
      subst e
      go_wp2
      go_returns
      exact ⟨rfl, k2⟩
    · rw [if_pos rfl] at e
      subst e
      go_wp2
      go_returns
      exact ⟨rfl, k2⟩
theorem FnExactFractionOf_walk (A : Option Addr) (n c : Nat) (xs : List Int) (w : World) (h0 : ISl w A n xs ∧ (∀ z ∈ xs, -9223372036854775808 ≤ z ∧ z ≤ 9223372036854775807) ∧ n ≤ c ∧ c ≤ maxLen) :
    Calls Try.prog 12 #[.slice A n c] w fun e w' => e = .returned (.bool true) ∧ Below w.heap.size w w' := by
  have h := h0.1
  clear h0
  have HH := Lib.hid h
  clear h
  by_cases hn : n ≤ 1048576
  · have hni : ¬ (1048576 < (n : Int)) := by omega
    obtain ⟨R, hR⟩ : ∃ R, fracF xs = R := ⟨_, rfl⟩
    have HR := Lib.hid hR
    clear hR
    go_enter Try.func12, Try.ntmps12
    go_wp2_with fail
    refine (toInt64S_any A n c xs _ HH.out hn).mono ?_
    rintro e w1 ⟨⟨A1, rfl, hI1⟩, hb1⟩
    have k1 := hb1
    go_wp2_with fail
    refine (specFrac_any A1 n n xs _ hI1 hn).mono ?_
    rintro e w2 ⟨rfl, hb2⟩
    rw [HR.out]
    have k2 := k1.trans (hb2.mono k1.size)
    go_wp2_with fail
    refine (toInt64S_any A n c xs _ (HH.out.keep k2) hn).mono ?_
    rintro e w3 ⟨⟨A3, rfl, hI3⟩, hb3⟩
    have k3 := k2.trans (hb3.mono k2.size)
    go_wp2_with fail
    refine (implFrac_any A3 n n xs _ hI3 hn).mono ?_
    rintro e w4 ⟨rfl, hb4⟩
    rw [HR.out]
    have k4 := k3.trans (hb4.mono k3.size)
    go_wp2_with fail
    refine (toInt64S_any A n c xs _ (HH.out.keep k4) hn).mono ?_
    rintro e w5 ⟨⟨A5, rfl, hI5⟩, hb5⟩
    have k5 := k4.trans (hb5.mono k4.size)
    go_wp2_with fail
    refine (eqInt64S_same A3 A5 n n n xs _ ((hI3.keep hb4).keep hb5) hI5 (by omega)).mono ?_
    rintro e w6 ⟨rfl, hb6⟩
    have k6 := k5.trans (hb6.mono k5.size)
    go_wp2
    go_returns
    exact ⟨rfl, k6⟩
  · have hni : 1048576 < (n : Int) := by omega
    go_enter Try.func12, Try.ntmps12
    go_wp2
    go_returns
    exact ⟨rfl, Below.refl _ _⟩
end Go.Proofs.Ytoldicmobenhaaa
