/-
  Lists of points read out of texts, by both programs. Conditions: the sizes, and what the library reads, as each says.
-/
import Derived.Test.YtajjoihfccnfhaaDoorCqs
import Derived.Test.YtajjoihfccnfhaaDoorPpm
namespace Go.Proofs.YtajjoihfccnfhaaDoor
open Go.RowKit
set_option maxHeartbeats 1000000
theorem cellsOf_at (ps : List ByteArray) (N j : Nat) (x : ByteArray) (h : ps[j]? = some x) : (Lib.cellsOf ps N)[j]? = some (.string x) := by
  obtain ⟨hj, rfl⟩ := List.getElem?_eq_some_iff.1 h
  unfold Lib.cellsOf
  rw [List.getElem?_toArray, List.getElem?_append_left (by rw [List.length_map]; exact hj), List.getElem?_map, h]
  rfl
theorem splitn_any (s : ByteArray) (hs : s.size ≤ 1048576) (w : World) (hl : LibHere w) : Calls Tryd.prog 59 #[.string s, .string ⟨#[59]⟩, .int .i64 101] w fun e w' =>
    (∃ A n' c, e = .returned (.slice A n' c) ∧ TSl w' A n' (qs s) ∧ ∀ b o, A = some ⟨b, o, none⟩ → w.heap.size ≤ b) ∧ Below w.heap.size w w' := by
  obtain ⟨m, hm⟩ := hl.mx
  refine (Tryd.strings_SplitN s ⟨#[59]⟩ 101 m w (by omega) hm (by decide) (by decide) (by decide)).mono ?_
  rintro e w1 ⟨rfl, rfl⟩
  refine ⟨⟨_, _, _, rfl, ⟨by unfold qs; rw [List.length_map], w.heap.size, 0, rfl, by simp, fun j x hj => ?_⟩, fun b o e => by cases e; exact Nat.le_refl _⟩, (Below.refl _ _).alloc (Nat.le_refl _) _⟩
  unfold qs at hj
  rw [List.getElem?_map] at hj
  obtain ⟨b, hb, rfl⟩ := Option.map_eq_some_iff.1 hj
  rw [World.cell?_alloc_new, Nat.zero_add]
  exact cellsOf_at _ _ _ _ hb
theorem new_two1 {w : World} (o : Obj) (x y : Value) (t : TypeId) : ∀ j u, [x, y][j]? = some u → ((w.alloc o).alloc (.cells #[x, y] t)).cell? ((⟨w.heap.size + 1, 0, none⟩ : Addr).add j) = some u := by
  have h := new_two (w.alloc o) x y t
  rw [World.size_alloc] at h
  exact h
theorem one2 {x y : Int} : ∀ u ∈ [Value.int .i64 x, Value.int .i64 y], u.oneCell' = true := by
  intro u hu
  simp at hu
  rcases hu with rfl | rfl <;> rfl
theorem infoP2 : (Tryd.prog.info? 25).map (fun i => (i.zero, i.size, i.bytes)) = some (some (.agg #[.int .i64 0, .int .i64 0]), 2, 16) := by kernel_rfl
theorem getElem_some {ps : List (List UInt8)} {j : Nat} (h : j < ps.length) : ps[j]? = some ps[j] := List.getElem?_eq_getElem h
theorem parR_some {l : List UInt8} {x y : Int} (h : readV l = some (x, y)) : parR l = (x, y, 0) := by unfold parR; rw [h]
theorem parR_none {l : List UInt8} (h : readV l = none) : parR l = (0, 0, 6) := by unfold parR; rw [h]
set_option maxRecDepth 100000 in
theorem implPPs_any (s : ByteArray) (hs : s.size ≤ 1048576) (w : World) (hl : LibHere w) : Calls Tryd.prog 32 #[.string s] w fun e w' =>
    (∃ A c, e = .returned (.tuple #[.slice A (psR s.data.toList).1.length c, .int .i64 (psR s.data.toList).2]) ∧ PSl w' A (psR s.data.toList).1.length (psR s.data.toList).1 ∧ WSl w.heap.size w' A ((psR s.data.toList).1.length * 2)) ∧ Below w.heap.size w w' := by
  have hlen : s.data.toList.length = s.size := Array.length_toList
  by_cases h0 : s.size = 0
  · have he : s.data.toList = [] := List.eq_nil_of_length_eq_zero (hlen.trans h0)
    obtain rfl : s = ⟨#[]⟩ := by
      have : s.data = #[] := by rw [← Array.toList_inj, he]
      cases s
      exact congrArg _ this
    rw [show (⟨#[]⟩ : ByteArray).data.toList = [] from rfl, psR_nil]
    go_enter Tryd.func32, Tryd.ntmps32
    go_wp2
    go_returns
    exact ⟨⟨none, ⟨0, rfl⟩, ⟨rfl, fun h => absurd h (by simp)⟩, fun h => absurd h (by simp)⟩, by (repeat' (first | (with_reducible exact Below.refl _ _) | (with_reducible refine Below.alloc ?_ ?_ _) | (with_reducible refine Below.drew ?_) | (with_reducible refine below_drewN' ?_ _) | (with_reducible refine Below.setCell ?_ ?_ _) | (with_reducible refine Below.trans ?_ (Below.mono (by assumption) ?_)) | go_size))⟩
  · have hne : s.data.toList ≠ [] := by intro e; rw [e] at hlen; exact h0 hlen.symm
    have hsb : s.toList.isEmpty = false := by
      rw [ByteArray.toList_eq]
      cases e : s.data.toList with
      | nil => exact absurd e hne
      | cons a b => rfl
    have hsp := fun W (hW : Below w.heap.size w W) => splitn_any s hs W (hl.keep hW)
    have hbad := fun j => @qs_bad s hne j
    have hmany := @qs_many s
    have hok := fun xs => @qs_ok s hne xs
    have hsz := qs_size s
    have hq := qs_le s
    have hpn := psR_len s.data.toList
    obtain ⟨ps, hps⟩ : ∃ r, qs s = r := ⟨_, rfl⟩
    obtain ⟨R, hR⟩ : ∃ r, psR s.data.toList = r := ⟨_, rfl⟩
    rw [hps] at hsp hbad hmany hok hq hsz
    rw [hR] at hbad hmany hok hpn ⊢
    obtain ⟨i0, hI0⟩ := info_parts infoP2
    have HI := Lib.hid hI0
    have HSP := Lib.hid hsp
    have HBAD := Lib.hid hbad
    have HMANY := Lib.hid hmany
    have HOK := Lib.hid hok
    have HL := Lib.hid hl
    have HSZ := Lib.hid hsz
    clear hsp hbad hmany hok hI0 hl hsz hpn hps hR hne hlen
    go_enter Tryd.func32, Tryd.ntmps32
    go_wp2_with (first
      | (go_at_call 59; go_must ((with_reducible refine (HSP.out _ ?_).mono ?_)); (focus (repeat' (first | (with_reducible exact Below.refl _ _) | (with_reducible refine Below.alloc ?_ ?_ _) | (with_reducible refine Below.drew ?_) | (with_reducible refine below_drewN' ?_ _) | (with_reducible refine Below.setCell ?_ ?_ _) | (with_reducible refine Below.trans ?_ (Below.mono (by assumption) ?_)) | go_size))); rintro e w1 ⟨⟨A, n', c, rfl, hrow, hlo⟩, hb1⟩; obtain ⟨rfl, b1, o1, rfl, hlt, hx⟩ := hrow; have hlo := hlo b1 o1 rfl; simp only [World.size_alloc] at hlo; have HX := Lib.hid hx; clear hx; obtain ⟨hc1, hf1, hz1, hn1⟩ := bstep 1 w hb1 (by go_size)))
    go_loopw [4, 15] (fun v i W => ∃ (j : Nat) (xs : List (Int × Int)) (A' : Option Addr) (cc : Nat), i = .int .i64 j ∧ j ≤ ps.length ∧ j ≤ 100 ∧ xs.length = j ∧ v = .slice A' j cc ∧ W.ownsRow w.heap.size 25 2 v j (flat2 xs) ∧ readAll (ps.take j) = some xs ∧ Below w.heap.size w W ∧ (Value.slice A' j cc).ownBlock ≠ some b1 ∧ (∀ k x, ps[k]? = some x → W.cell? ⟨b1, o1 + k, none⟩ = some (.string ⟨x.toArray⟩))) (fun _ i _ => ps.length - (intOf i).toNat)
    case atStart => exact ⟨0, [], some ⟨w.heap.size, 0, none⟩, 0, rfl, Nat.zero_le _, Nat.zero_le _, rfl, rfl, own_keep (World.ownsRow_made _ _ _ (by omega) (by decide) rfl) hb1, rfl, by (repeat' (first | (with_reducible exact Below.refl _ _) | (with_reducible refine Below.alloc ?_ ?_ _) | (with_reducible refine Below.drew ?_) | (with_reducible refine below_drewN' ?_ _) | (with_reducible refine Below.setCell ?_ ?_ _) | (with_reducible refine Below.trans ?_ (Below.mono (by assumption) ?_)) | go_size)), (by intro e; have : w.heap.size = b1 := Option.some.inj e; omega), HX.out⟩
    case round =>
      obtain ⟨j, xs, A', cc, rfl, hj, hj1, hxl, rfl, hown, hra, hB, hob, hx⟩ := hrel
      have HO := Lib.hid hown
      have HRA := Lib.hid hra
      have HC := Lib.hid hx
      have hB1 := hB.size
      have HB := Lib.hid hB
      clear hown hra hx HX
      by_cases hjn : j < ps.length
      · have hc0 := HC.out j ps[j] (getElem_some hjn)
        have hps := HSZ.out j hjn
        have hpa := fun W (hW : Below w.heap.size w W) => implPar_any ⟨ps[j].toArray⟩ (by show ps[j].toArray.size ≤ _; rw [List.size_toArray]; omega) W (HL.out.keep hW)
        have htl : (⟨ps[j].toArray⟩ : ByteArray).data.toList = ps[j] := rfl
        rw [htl] at hpa
        cases hv : readV ps[j] with
        | none =>
          rw [parR_none hv] at hpa
          dsimp only at hpa
          obtain rfl := HBAD.out j hjn hv
          obtain ⟨q, hq'⟩ : ∃ q, (⟨ps[j].toArray⟩ : ByteArray) = q := ⟨_, rfl⟩
          rw [hq'] at hpa hc0
          have HPA := Lib.hid hpa
          clear hpa hv htl hq' HBAD HMANY HOK
          go_wp2_with (first
            | (go_at_call 29; go_must ((with_reducible refine (HPA.out _ ?_).mono ?_)); (focus (exact HB.out)); rintro e w2 ⟨rfl, hb2⟩; have hb2s := hb2.size))
          go_returns
          exact ⟨⟨none, ⟨0, rfl⟩, ⟨rfl, fun h => absurd h (by simp)⟩, fun h => absurd h (by simp)⟩, by (repeat' (first | (with_reducible exact Below.refl _ _) | (with_reducible refine Below.alloc ?_ ?_ _) | (with_reducible refine Below.drew ?_) | (with_reducible refine below_drewN' ?_ _) | (with_reducible refine Below.setCell ?_ ?_ _) | (with_reducible refine Below.trans ?_ (Below.mono (by assumption) ?_)) | go_size))⟩
        | some t =>
          obtain ⟨x, y⟩ := t
          rw [parR_some hv] at hpa
          dsimp only at hpa
          have hnx := readAll_take hjn HRA.out hv
          obtain ⟨q, hq'⟩ : ∃ q, (⟨ps[j].toArray⟩ : ByteArray) = q := ⟨_, rfl⟩
          rw [hq'] at hpa hc0
          have HPA := Lib.hid hpa
          have HNX := Lib.hid hnx
          clear hpa hv htl hq' hnx
          by_cases hj2 : j = 100
          · subst hj2
            obtain rfl := HMANY.out hjn
            clear HBAD HMANY HOK
            go_wp2_with (first
              | (go_at_call 29; go_must ((with_reducible refine (HPA.out _ ?_).mono ?_)); (focus (exact HB.out)); rintro e w2 ⟨rfl, hb2⟩; have hb2s := hb2.size))
            go_returns
            exact ⟨⟨none, ⟨0, rfl⟩, ⟨rfl, fun h => absurd h (by simp)⟩, fun h => absurd h (by simp)⟩, by (repeat' (first | (with_reducible exact Below.refl _ _) | (with_reducible refine Below.alloc ?_ ?_ _) | (with_reducible refine Below.drew ?_) | (with_reducible refine below_drewN' ?_ _) | (with_reducible refine Below.setCell ?_ ?_ _) | (with_reducible refine Below.trans ?_ (Below.mono (by assumption) ?_)) | go_size))⟩
          · have hji : ¬ (j : Int) = 100 := by omega
            have hjb : ((j : Int) == 100) = false := by simpa using hji
            have ej : wrap64 ((j : Int) + 1) = (j : Int) + 1 := by unfold wrap64; omega
            go_wp2_with (first
              | (go_at_call 29; go_must ((with_reducible refine (HPA.out _ ?_).mono ?_)); (focus (exact HB.out)); rintro e w2 ⟨rfl, hb2⟩; have hb2s := hb2.size)
              | (at_builtin; go_must ((refine wpList_append_lies _ rfl _ _ _ rfl w.heap.size 25 i0 (.agg #[.int .i64 0, .int .i64 0]) 2 16 Tryd.underlying40 HI.out.1 HI.out.2.1 HI.out.2.2.1 HI.out.2.2.2 rfl (by decide) (.slice A' j cc) j (flat2 xs) rfl ((own_keep HO.out hb2).alloc _ |>.alloc _) ⟨w2.heap.size + 1, 0, none⟩ 1 1 [.int .i64 x, .int .i64 y] rfl rfl (new_two1 _ _ _ _) one2 (by omega) (by unfold maxLen; omega) (by omega) (by simp; omega) (w2.heap.size + 2) (by simp) ?_)); intro g cap w3 hown3 hgrow3 hat3 hlt3))
            have hb1r : b1 < wr.heap.size := World.block_lt_of_cell? wr _ hc0
            refine ⟨⟨j + 1, xs ++ [(x, y)], some ⟨g, 0, none⟩, cap, by go_num, by omega, by omega, by simp; omega, rfl, ?_, HNX.out, ?_, ?_, ?_⟩, by simp [intOf]; omega⟩
            · rw [flat2_snoc]; exact hown3
            · exact (((HB.out.trans (hb2.mono hB1)).alloc (by omega) _).alloc (by simp; omega) _).grown hgrow3 (by simp; omega) (fun k e => (HO.out.lt k e).1)
            · intro e
              have e1 : g = b1 := Option.some.inj e
              rcases hat3 with h | h
              · exact hob (h.trans (congrArg some e1))
              · omega
            · intro k z hk
              have hcz := keep_alloc (o := .cells #[.int .i64 x, .int .i64 y] 25) (keep_alloc (o := .cells #[.int .i64 x, .int .i64 y] 25) (cell_keep hb2 (HC.out k z hk)))
              exact (hgrow3.cell_far ⟨b1, o1 + k, none⟩ (by simp; omega) (fun e => hob e.symm)).trans hcz
      · obtain rfl : j = ps.length := by omega
        have hra := HRA.out
        rw [List.take_length] at hra
        obtain rfl := HOK.out xs hra (by omega)
        have hown := HO.out
        rw [← hxl] at hown
        obtain ⟨A2, c2, ev, hP, hW⟩ := owns_PSl hown
        obtain ⟨rfl, rfl⟩ : A' = A2 ∧ cc = c2 := by cases ev; exact ⟨rfl, rfl⟩
        have HP := Lib.hid hP
        have HW := Lib.hid hW
        clear hra hown hP hW ev HBAD HMANY HOK HO
        go_wp2
        go_returns
        dsimp only
        have hp := HP.out
        have hw := HW.out
        rw [hxl] at hp hw
        exact ⟨⟨A', ⟨cc, by first | rfl | (rw [hxl]; rfl)⟩, by first | exact hp | (rw [hxl]; exact hp), by first | exact hw | (rw [hxl]; exact hw)⟩, HB.out⟩
/-- What the reference's reading of a list hands on. -/
def RL (R : List (Int × Int) × Int) (w : World) (A : Option Addr) (n : Nat) (ok : Bool) : Prop := (ok = true → n = R.1.length ∧ R.2 = 0 ∧ PSl w A n R.1) ∧ (ok = false → R = ([], 6))
def RLP (R : List (Int × Int) × Int) (w : World) (e : Ending) (w' : World) : Prop := (∃ A n c ok, e = .returned (.tuple #[.slice A n c, .bool ok]) ∧ RL R w' A n ok) ∧ Below w.heap.size w w'
set_option maxRecDepth 100000 in
theorem l01ReadList_any (s : ByteArray) (hs : s.size ≤ 1048576) (w : World) : Calls Tryd.prog 58 #[.string s] w fun e w' =>
    RLP (psR s.data.toList) w e w' := by
  have hlen : s.data.toList.length = s.size := Array.length_toList
  by_cases h0 : s.size = 0
  · have he : s.data.toList = [] := List.eq_nil_of_length_eq_zero (hlen.trans h0)
    obtain rfl : s = ⟨#[]⟩ := by
      have : s.data = #[] := by rw [← Array.toList_inj, he]
      cases s
      exact congrArg _ this
    rw [show (⟨#[]⟩ : ByteArray).data.toList = [] from rfl, psR_nil]
    go_enter Tryd.func58, Tryd.ntmps58
    go_wp2_with fail
    go_returns
    unfold RLP
    exact ⟨⟨_, _, _, true, rfl, ⟨fun _ => ⟨rfl, rfl, rfl, fun h => absurd h (by simp)⟩, fun h => by cases h⟩⟩, by (repeat' (first | (with_reducible exact Below.refl _ _) | (with_reducible refine Below.alloc ?_ ?_ _) | (with_reducible refine Below.drew ?_) | (with_reducible refine below_drewN' ?_ _) | (with_reducible refine Below.setCell ?_ ?_ _) | (with_reducible refine Below.trans ?_ (Below.mono (by assumption) ?_)) | go_size))⟩
  · have hne : s.data.toList ≠ [] := by intro e; rw [e] at hlen; exact h0 hlen.symm
    have hsb : s.toList.isEmpty = false := by
      rw [ByteArray.toList_eq]
      cases e : s.data.toList with
      | nil => exact absurd e hne
      | cons a b => rfl
    have hsp := fun W => l01Split_any s 59 W hs
    rw [show (((59 : UInt8).toNat : Nat) : Int) = 59 from rfl] at hsp
    have hbad := fun (j : Nat) (h : j < (splitGo 59 [] s.data.toList).length) (h2 : readV (splitGo 59 [] s.data.toList)[j] = none) => psR_bad hne (readAll_bad h h2)
    have hok := fun xs (h : readAll (splitGo 59 [] s.data.toList) = some xs) (h2 : xs.length ≤ 100) => psR_ok hne h h2
    have hmany := @psR_big s.data.toList
    have hsz : ∀ (j : Nat) (h : j < (splitGo 59 [] s.data.toList).length), (splitGo 59 [] s.data.toList)[j].length ≤ s.size := fun j h => by
      have := splitGo_size 59 s.data.toList [] _ (List.getElem_mem h)
      simp only [List.length_nil] at this
      omega
    have hq := splitGo_len 59 s.data.toList []
    obtain ⟨ps, hps⟩ : ∃ r, splitGo 59 [] s.data.toList = r := ⟨_, rfl⟩
    obtain ⟨R, hR⟩ : ∃ r, psR s.data.toList = r := ⟨_, rfl⟩
    rw [hps] at hsp hbad hok hmany hq hsz
    rw [hR] at hbad hok hmany ⊢
    obtain ⟨i0, hI0⟩ := info_parts infoP2
    have HI := Lib.hid hI0
    have HSP := Lib.hid hsp
    have HBAD := Lib.hid hbad
    have HMANY := Lib.hid hmany
    have HOK := Lib.hid hok
    have HSZ := Lib.hid hsz
    rw [hlen] at hq
    clear hsp hbad hmany hok hI0 hsz hps hR hne hlen
    go_enter Tryd.func58, Tryd.ntmps58
    go_wp2_with (first
      | (go_at_call 79; go_must ((with_reducible refine (HSP.out _).mono ?_)); rintro e w1 ⟨⟨A, n', c, rfl, hrow, hlo⟩, hb1⟩; obtain ⟨rfl, b1, o1, rfl, hlt, hx⟩ := hrow; have hlo := hlo b1 o1 rfl; simp only [World.size_alloc] at hlo; have HX := Lib.hid hx; clear hx; obtain ⟨hc1, hf1, hz1, hn1⟩ := bstep 1 w hb1 (by go_size)))
    go_loopw [4, 6] (fun v i W => ∃ (j : Nat) (xs : List (Int × Int)) (A' : Option Addr) (cc : Nat), i = .int .i64 j ∧ j ≤ ps.length ∧ xs.length = j ∧ v = .slice A' j cc ∧ W.ownsRow w.heap.size 25 2 v j (flat2 xs) ∧ readAll (ps.take j) = some xs ∧ Below w.heap.size w W ∧ (Value.slice A' j cc).ownBlock ≠ some b1 ∧ (∀ k x, ps[k]? = some x → W.cell? ⟨b1, o1 + k, none⟩ = some (.string ⟨x.toArray⟩))) (fun _ i _ => ps.length - (intOf i).toNat)
    case atStart => exact ⟨0, [], some ⟨w.heap.size, 0, none⟩, 0, rfl, Nat.zero_le _, rfl, rfl, own_keep (World.ownsRow_made _ _ _ (by omega) (by decide) rfl) hb1, rfl, by (repeat' (first | (with_reducible exact Below.refl _ _) | (with_reducible refine Below.alloc ?_ ?_ _) | (with_reducible refine Below.drew ?_) | (with_reducible refine below_drewN' ?_ _) | (with_reducible refine Below.setCell ?_ ?_ _) | (with_reducible refine Below.trans ?_ (Below.mono (by assumption) ?_)) | go_size)), (by intro e; have : w.heap.size = b1 := Option.some.inj e; omega), HX.out⟩
    case round =>
      obtain ⟨j, xs, A', cc, rfl, hj, hxl, rfl, hown, hra, hB, hob, hx⟩ := hrel
      have HO := Lib.hid hown
      have HRA := Lib.hid hra
      have HC := Lib.hid hx
      have hB1 := hB.size
      have HB := Lib.hid hB
      clear hown hra hx HX
      by_cases hjn : j < ps.length
      · have hc0 := HC.out j ps[j] (getElem_some hjn)
        have hps := HSZ.out j hjn
        have hpa := fun W => l01Read_any ⟨ps[j].toArray⟩ W (by show ps[j].toArray.size ≤ _; rw [List.size_toArray]; omega)
        have htl : (⟨ps[j].toArray⟩ : ByteArray).data.toList = ps[j] := rfl
        rw [htl] at hpa
        have hin : (j : Int) < (ps.length : Int) := by omega
        cases hv : readV ps[j] with
        | none =>
          rw [show readR ps[j] = (0, 0, false) by unfold readR; rw [hv]] at hpa
          dsimp only at hpa
          obtain rfl := HBAD.out j hjn hv
          obtain ⟨q, hq'⟩ : ∃ q, (⟨ps[j].toArray⟩ : ByteArray) = q := ⟨_, rfl⟩
          rw [hq'] at hpa hc0
          have HPA := Lib.hid hpa
          clear hpa hv htl hq' HBAD HMANY HOK
          go_wp2_with (first
            | (go_at_call 55; go_must ((with_reducible refine (HPA.out _).mono ?_)); rintro e w2 ⟨rfl, hb2⟩; have hb2s := hb2.size))
          go_returns
          unfold RLP
          exact ⟨⟨_, _, _, false, rfl, ⟨fun h => (by cases h), fun _ => rfl⟩⟩, by (repeat' (first | (with_reducible exact Below.refl _ _) | (with_reducible refine Below.alloc ?_ ?_ _) | (with_reducible refine Below.drew ?_) | (with_reducible refine below_drewN' ?_ _) | (with_reducible refine Below.setCell ?_ ?_ _) | (with_reducible refine Below.trans ?_ (Below.mono (by assumption) ?_)) | go_size))⟩
        | some t =>
          obtain ⟨x, y⟩ := t
          rw [show readR ps[j] = (x, y, true) by unfold readR; rw [hv]] at hpa
          dsimp only at hpa
          have hnx := readAll_take hjn HRA.out hv
          obtain ⟨q, hq'⟩ : ∃ q, (⟨ps[j].toArray⟩ : ByteArray) = q := ⟨_, rfl⟩
          rw [hq'] at hpa hc0
          have HPA := Lib.hid hpa
          have HNX := Lib.hid hnx
          clear hpa hv htl hq' hnx
          have ej : wrap64 ((j : Int) + 1) = (j : Int) + 1 := by unfold wrap64; omega
          go_wp2_with (first
            | (go_at_call 55; go_must ((with_reducible refine (HPA.out _).mono ?_)); rintro e w2 ⟨rfl, hb2⟩; have hb2s := hb2.size)
            | (at_builtin; go_must ((refine wpList_append_lies _ rfl _ _ _ rfl w.heap.size 25 i0 (.agg #[.int .i64 0, .int .i64 0]) 2 16 Tryd.underlying40 HI.out.1 HI.out.2.1 HI.out.2.2.1 HI.out.2.2.2 rfl (by decide) (.slice A' j cc) j (flat2 xs) rfl ((own_keep HO.out hb2).alloc _ |>.alloc _) ⟨w2.heap.size + 1, 0, none⟩ 1 1 [.int .i64 x, .int .i64 y] rfl rfl (new_two1 _ _ _ _) one2 (by omega) (by unfold maxLen; omega) (by omega) (by simp; omega) (w2.heap.size + 2) (by simp) ?_)); intro g cap w3 hown3 hgrow3 hat3 hlt3))
          have hb1r : b1 < wr.heap.size := World.block_lt_of_cell? wr _ hc0
          refine ⟨⟨j + 1, xs ++ [(x, y)], some ⟨g, 0, none⟩, cap, by go_num, by omega, by simp; omega, rfl, ?_, HNX.out, ?_, ?_, ?_⟩, by simp [intOf]; omega⟩
          · rw [flat2_snoc]; exact hown3
          · exact (((HB.out.trans (hb2.mono hB1)).alloc (by omega) _).alloc (by simp; omega) _).grown hgrow3 (by simp; omega) (fun k e => (HO.out.lt k e).1)
          · intro e
            have e1 : g = b1 := Option.some.inj e
            rcases hat3 with h | h
            · exact hob (h.trans (congrArg some e1))
            · omega
          · intro k z hk
            have hcz := keep_alloc (o := .cells #[.int .i64 x, .int .i64 y] 25) (keep_alloc (o := .cells #[.int .i64 x, .int .i64 y] 25) (cell_keep hb2 (HC.out k z hk)))
            exact (hgrow3.cell_far ⟨b1, o1 + k, none⟩ (by simp; omega) (fun e => hob e.symm)).trans hcz
      · obtain rfl : j = ps.length := by omega
        have hra := HRA.out
        rw [List.take_length] at hra
        have hown := HO.out
        rw [← hxl] at hown
        obtain ⟨A2, c2, ev, hP, hW⟩ := owns_PSl hown
        obtain ⟨rfl, rfl⟩ : A' = A2 ∧ cc = c2 := by cases ev; exact ⟨rfl, rfl⟩
        have HP := Lib.hid hP
        have hok2 := HOK.out xs hra
        have hmany2 := HMANY.out
        have HK := Lib.hid hok2
        have HM := Lib.hid hmany2
        clear hra hown hP hW ev HBAD HMANY HOK HO hok2 hmany2
        go_wp2
        go_returns
        unfold RLP
        refine ⟨⟨A', ps.length, cc, decide ((ps.length : Int) ≤ 100), rfl, fun h => ?_, fun h => ?_⟩, HB.out⟩
        · have h := of_decide_eq_true h
          obtain rfl := HK.out (by omega)
          exact ⟨hxl.symm, rfl, by have := HP.out; rw [hxl] at this; exact this⟩
        · have h := of_decide_eq_false h
          exact HM.out (by omega)
end Go.Proofs.YtajjoihfccnfhaaDoor
