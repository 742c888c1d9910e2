/-
  Words of two letters, by both programs; turns. Conditions: the sizes, and what the library reads, as each says.
-/
import Derived.Test.YtajjoihfccnfhaaDoorCpu
import Derived.Test.YtajjoihfccnfhaaDoorPwd
import Derived.Test.YtajjoihfccnfhaaDoorShl
import Derived.Deep.RegionWith
import Derived.Deep.DeepMust
import Derived.BigQuiet
import Derived.Shelf.Strings.SlTrimAscii
namespace Go.Proofs.YtajjoihfccnfhaaDoor
open Go.RowKit
set_option maxHeartbeats 1000000
theorem trim_any (s : ByteArray) (hs : s.size ≤ 1048576) (w : World) : Calls Tryd.prog 88 #[.string s, .string ⟨#[76, 82]⟩] w fun e w' => e = .returned (.string ⟨(Lib.trimS s.data.toList [76, 82]).toArray⟩) ∧ Below w.heap.size w w' :=
  Any.strings_Trim_laid Tryd.lays160 (by kernel_rfl) s ⟨#[76, 82]⟩ w (by omega) (by decide) (ascii_of_all (by decide))
theorem isPath_any (s : ByteArray) (hs : s.size ≤ 1048576) (w : World) : Calls Tryd.prog 66 #[.string s, .int .i64 200] w fun e w' => e = .returned (.bool (wordB s.data.toList)) ∧ Below w.heap.size w w' := by
  have hlen : s.data.toList.length = s.size := Array.length_toList
  by_cases h : s.size ≤ 200
  · have hi : (s.size : Int) ≤ 200 := by omega
    have ht := fun W => trim_any s hs W
    have hv : wordB s.data.toList = s.data.toList.all letB := by unfold wordB; rw [hlen, decide_eq_true h, Bool.true_and]
    rw [hv]
    have hw := trim_word s.data.toList
    obtain ⟨t, hT⟩ : ∃ t, (⟨(Lib.trimS s.data.toList [76, 82]).toArray⟩ : ByteArray) = t := ⟨_, rfl⟩
    have he : t.toList = Lib.trimS s.data.toList [76, 82] := by rw [← hT, ByteArray.toList_eq]
    rw [hT] at ht
    have HT := Lib.hid ht
    have hb : t.toList.isEmpty = s.data.toList.all letB := by
      rw [he]
      cases hq : s.data.toList.all letB with
      | true => rw [hw.2 hq]; rfl
      | false =>
        cases hr : Lib.trimS s.data.toList [76, 82] with
        | nil => rw [hw.1 hr] at hq; cases hq
        | cons a b => rfl
    rw [← hb]
    clear ht hv hw he hb hT hlen
    go_enter Tryd.func66, Tryd.ntmps66
    go_wp2_with (go_at_call 88; go_must ((with_reducible refine (HT.out _).mono ?_)); rintro e w1 ⟨rfl, hb1⟩)
    go_returns
    exact ⟨rfl, hb1⟩
  · have hi : ¬ (s.size : Int) ≤ 200 := by omega
    have hv : wordB s.data.toList = false := by unfold wordB; rw [hlen, decide_eq_false h, Bool.false_and]
    rw [hv]
    clear hv hlen
    go_enter Tryd.func66, Tryd.ntmps66
    go_wp2
    go_returns
    exact ⟨rfl, Below.refl _ _⟩
theorem isWord_any (s : ByteArray) (hs : s.size ≤ 1048576) (w : World) : Calls Tryd.prog 41 #[.string s] w fun e w' => e = .returned (.bool (wordB s.data.toList)) ∧ Below w.heap.size w w' := by
  have h := fun W => isPath_any s hs W
  have HH := Lib.hid h
  clear h
  go_enter Tryd.func41, Tryd.ntmps41
  go_wp2_with (go_at_call 66; go_must ((with_reducible refine (HH.out _).mono ?_)); rintro e w1 ⟨rfl, hb1⟩)
  go_returns
  exact ⟨rfl, hb1⟩
theorem all_take {l : List UInt8} {j : Nat} (hj : j < l.length) (h : (l.take j).all letB = true) (h2 : letB l[j] = true) : (l.take (j + 1)).all letB = true := by
  rw [List.take_add_one, List.getElem?_eq_getElem hj, List.all_append, h]
  simpa using h2
theorem all_not {l : List UInt8} {j : Nat} (hj : j < l.length) (h2 : letB l[j] = false) : l.all letB = false := by
  cases e : l.all letB with
  | false => rfl
  | true =>
    have := List.all_eq_true.1 e _ (List.getElem_mem hj)
    rw [h2] at this
    cases this
theorem letters_any (s : ByteArray) (hs : s.size ≤ 1048576) (w : World) : Calls Tryd.prog 39 #[.string s] w fun e w' => e = .returned (.bool (wordB s.data.toList)) ∧ Below w.heap.size w w' := by
  have hlen : s.data.toList.length = s.size := Array.length_toList
  go_enter Tryd.func39, Tryd.ntmps39
  go_wp2
  go_loopw [3] (fun i wr => ∃ k : Nat, i = .int .i64 k ∧ k ≤ s.size ∧ (s.data.toList.take k).all letB = true ∧ wr = w) (fun i _ => s.size - (intOf i).toNat)
  case atStart => exact ⟨0, rfl, Nat.zero_le _, rfl, rfl⟩
  case round =>
    obtain ⟨k, rfl, hk, hall, rfl⟩ := hrel
    have HA := Lib.hid hall
    clear hall
    by_cases hlt : k < s.size
    · have hin : (k : Int) < (s.size : Int) := by omega
      have hkl : k < s.data.toList.length := by rw [hlen]; exact hlt
      have hge : s.data.toList[k] = s[k] := rfl
      have hn := @all_take s.data.toList k hkl HA.out
      have hx := @all_not s.data.toList k hkl
      rw [hge] at hn hx
      by_cases h1 : s[k] = 76
      · have e1 : (s[k].toNat : Int) = 76 := by rw [h1]; rfl
        have hnn := hn (by rw [letB_iff]; exact .inl h1)
        have HN := Lib.hid hnn
        clear hn hx hnn
        go_wp2
        exact ⟨⟨k + 1, by go_num, by omega, HN.out, trivial⟩, by simp [intOf]; omega⟩
      · have e1 : ¬ (s[k].toNat : Int) = 76 := fun h => h1 (by apply UInt8.toNat_inj.1; show s[k].toNat = 76; omega)
        have b1 : ((s[k].toNat : Int) != 76) = true := by simpa using e1
        by_cases h2 : s[k] = 82
        · have e2 : (s[k].toNat : Int) = 82 := by rw [h2]; rfl
          have hnn := hn (by rw [letB_iff]; exact .inr h2)
          have HN := Lib.hid hnn
          clear hn hx hnn
          go_wp2
          exact ⟨⟨k + 1, by go_num, by omega, HN.out, trivial⟩, by simp [intOf]; omega⟩
        · have e2 : ¬ (s[k].toNat : Int) = 82 := fun h => h2 (by apply UInt8.toNat_inj.1; show s[k].toNat = 82; omega)
          have b2 : ((s[k].toNat : Int) != 82) = true := by simpa using e2
          have hf : wordB s.data.toList = false := by
            unfold wordB
            rw [hx (by unfold letB; simp [h1, h2]), Bool.and_false]
          have HF := Lib.hid hf
          clear hn hx hf
          go_wp2
          go_returns
          exact ⟨by first | rfl | (rw [HF.out]; rfl), Below.refl _ _⟩
    · obtain rfl : k = s.size := by omega
      have hall := HA.out
      rw [List.take_of_length_le (Nat.le_of_eq hlen)] at hall
      have hf : wordB s.data.toList = decide ((s.size : Int) ≤ 200) := by
        unfold wordB
        rw [hall, Bool.and_true, hlen]
        exact decide_eq_decide.2 (by omega)
      have HF := Lib.hid hf
      clear hall hf HA
      go_wp2
      go_returns
      exact ⟨by first | rfl | (rw [HF.out]; rfl), Below.refl _ _⟩
theorem toL (s : ByteArray) : s.toList = s.data.toList := ByteArray.toList_eq s
theorem rot_bytes (v : ByteArray) (k : Nat) : (v.extract k v.size ++ v.extract 0 k).data.toList = rot v.data.toList k := by
  have hlen : v.data.toList.length = v.size := Array.length_toList
  rw [ByteArray.data_append, Array.toList_append, ByteArray.data_extract, ByteArray.data_extract, Array.toList_extract, Array.toList_extract, List.extract_eq_take_drop, List.extract_eq_take_drop]
  unfold rot
  rw [List.take_of_length_le (by rw [List.length_drop, hlen]; exact Nat.le_refl _)]
  simp
theorem specTurn_any (v x : ByteArray) (hv : v.size ≤ 1048576) (hx : x.size ≤ 1048576) (w : World) : Calls Tryd.prog 16 #[.string v, .string x] w fun e w' =>
    e = .returned (.tuple #[.bool (turnR v.data.toList x.data.toList).1, .int .i64 (turnR v.data.toList x.data.toList).2]) ∧ Below w.heap.size w w' := by
  have hlv : v.data.toList.length = v.size := Array.length_toList
  have hlx : x.data.toList.length = x.size := Array.length_toList
  have h1 := fun W => letters_any v hv W
  have h2 := fun W => letters_any x hx W
  unfold turnR
  cases e1 : wordB v.data.toList
  · rw [Bool.false_and, if_neg (by decide)]
    rw [e1] at h1
    have H1 := Lib.hid h1
    clear h1 h2 e1 hlv hlx
    go_enter Tryd.func16, Tryd.ntmps16
    go_wp2_with (go_at_call 39; go_must ((with_reducible refine (H1.out _).mono ?_)); rintro e w1 ⟨rfl, hb1⟩)
    go_returns
    exact ⟨rfl, hb1⟩
  · rw [e1] at h1
    rw [Bool.true_and]
    have H1 := Lib.hid h1
    cases e2 : wordB x.data.toList
    · rw [if_neg (by decide)]
      rw [e2] at h2
      have H2 := Lib.hid h2
      clear h1 h2 e1 e2 hlv hlx
      go_enter Tryd.func16, Tryd.ntmps16
      go_wp2_with (first
        | (go_at_call_of 39 (Value.string v); go_must ((with_reducible refine (H1.out _).mono ?_)); rintro e w1 ⟨rfl, hb1⟩)
        | (go_at_call_of 39 (Value.string x); go_must ((with_reducible refine (H2.out _).mono ?_)); rintro e w2 ⟨rfl, hb2⟩))
      go_returns
      exact ⟨rfl, hb1.trans (hb2.mono hb1.size)⟩
    · rw [if_pos rfl]
      rw [e2] at h2
      have H2 := Lib.hid h2
      clear h1 h2
      by_cases hvx : v = x
      · subst hvx
        rw [turn_same]
        clear e1 e2 hlv hlx
        go_enter Tryd.func16, Tryd.ntmps16
        go_wp2_with (first
          | (go_at_call_of 39 (Value.string v); go_must ((with_reducible refine (H1.out _).mono ?_)); rintro e w1 ⟨rfl, hb1⟩; have hs1 := hb1.size))
        go_returns
        exact ⟨rfl, by (repeat' (first | (with_reducible exact Below.refl _ _) | (with_reducible refine Below.alloc ?_ ?_ _) | (with_reducible refine Below.drew ?_) | (with_reducible refine below_drewN' ?_ _) | (with_reducible refine Below.setCell ?_ ?_ _) | (with_reducible refine Below.trans ?_ (Below.mono (by assumption) ?_)) | go_size))⟩
      · have hne : v.data.toList ≠ x.data.toList := fun h => hvx (by
          have := Array.toList_inj.1 h
          cases v; cases x
          exact congrArg _ this)
        have hvb : (v.toList == x.toList) = false := (Lib.bytes_beq_false_iff _ _).2 hvx
        by_cases hsz : v.size = x.size
        · have hl : v.data.toList.length = x.data.toList.length := by rw [hlv, hlx, hsz]
          have hmiss := @turn_miss v.data.toList x.data.toList hl hne
          have hhit := fun k => @turn_hit v.data.toList x.data.toList hl k
          dsimp only
          obtain ⟨R, hR⟩ : ∃ R, (decide (v.data.toList.length = x.data.toList.length) && Lib.contains (v.data.toList ++ v.data.toList) x.data.toList) = R := ⟨_, rfl⟩
          rw [hR] at hmiss hhit ⊢
          rw [hlv] at hmiss hhit
          have HM := Lib.hid hmiss
          have HH := Lib.hid hhit
          have hszi : ((v.size : Int) == (x.size : Int)) = true := by rw [hsz]; simp
          clear hsz hmiss hhit hR hne e1 e2 hl
          go_enter Tryd.func16, Tryd.ntmps16
          go_wp2_with (first
            | (go_at_call_of 39 (Value.string v); go_must ((with_reducible refine (H1.out _).mono ?_)); rintro e w1 ⟨rfl, hb1⟩; have hs1 := hb1.size)
            | (go_at_call_of 39 (Value.string x); go_must ((with_reducible refine (H2.out _).mono ?_)); rintro e w2 ⟨rfl, hb2⟩; have hs2 := hb2.size))
          go_loopw [6] (fun i wr => ∃ k : Nat, i = .int .i64 k ∧ k ≤ v.size ∧ (∀ j, j < k → rot v.data.toList j ≠ x.data.toList) ∧ Below w.heap.size w wr) (fun i _ => v.size - (intOf i).toNat)
          case atStart => exact ⟨0, rfl, Nat.zero_le _, fun j hj => absurd hj (Nat.not_lt_zero _), by (repeat' (first | (with_reducible exact Below.refl _ _) | (with_reducible refine Below.alloc ?_ ?_ _) | (with_reducible refine Below.drew ?_) | (with_reducible refine below_drewN' ?_ _) | (with_reducible refine Below.setCell ?_ ?_ _) | (with_reducible refine Below.trans ?_ (Below.mono (by assumption) ?_)) | go_size))⟩
          case round =>
            obtain ⟨k, rfl, hk, hno, hB⟩ := hrel
            have HN := Lib.hid hno
            clear hno
            by_cases hlt : k < v.size
            · have hin : (k : Int) < (v.size : Int) := by omega
              have hrb := rot_bytes v k
              by_cases hr : rot v.data.toList k = x.data.toList
              · obtain rfl := HH.out k hlt hr
                have hcb : ((v.extract k v.size ++ v.extract 0 k).toList == x.toList) = true := by rw [beq_iff_eq, toL, toL, hrb, hr]
                clear hr hrb
                go_wp2
                go_quiet (fail)
                go_wp2
                go_returns
                exact ⟨rfl, below_drewN' hB _⟩
              · have hcb : ((v.extract k v.size ++ v.extract 0 k).toList == x.toList) = false := by
                  rw [beq_eq_false_iff_ne, toL, toL, hrb]
                  exact hr
                have HR := Lib.hid hr
                clear hr hrb
                go_wp2
                go_quiet (fail)
                go_wp2
                refine ⟨⟨k + 1, by go_num, by omega, fun j hj => ?_, below_drewN' hB _⟩, by simp [intOf]; omega⟩
                rcases Nat.lt_or_ge j k with h | h
                · exact HN.out j h
                · obtain rfl : j = k := by omega
                  exact HR.out
            · obtain rfl : k = v.size := by omega
              obtain rfl := HM.out HN.out
              go_wp2
              go_returns
              exact ⟨rfl, hB⟩
        · have hl : ¬ v.data.toList.length = x.data.toList.length := by rw [hlv, hlx]; exact hsz
          rw [turn_long hl]
          have hszi : ((v.size : Int) == (x.size : Int)) = false := by simpa using fun h => hsz (by omega)
          clear hne e1 e2 hl hlv hlx
          go_enter Tryd.func16, Tryd.ntmps16
          go_wp2_with (first
            | (go_at_call_of 39 (Value.string v); go_must ((with_reducible refine (H1.out _).mono ?_)); rintro e w1 ⟨rfl, hb1⟩; have hs1 := hb1.size)
            | (go_at_call_of 39 (Value.string x); go_must ((with_reducible refine (H2.out _).mono ?_)); rintro e w2 ⟨rfl, hb2⟩; have hs2 := hb2.size))
          go_loopw [6] (fun i wr => i = .int .i64 0 ∧ Below w.heap.size w wr) (fun _ _ => 0)
          case atStart => exact ⟨rfl, by (repeat' (first | (with_reducible exact Below.refl _ _) | (with_reducible refine Below.alloc ?_ ?_ _) | (with_reducible refine Below.drew ?_) | (with_reducible refine below_drewN' ?_ _) | (with_reducible refine Below.setCell ?_ ?_ _) | (with_reducible refine Below.trans ?_ (Below.mono (by assumption) ?_)) | go_size))⟩
          case round =>
            obtain ⟨rfl, hB⟩ := hrel
            go_wp2
            all_goals (go_returns; exact ⟨rfl, hB⟩)
end Go.Proofs.YtajjoihfccnfhaaDoor
