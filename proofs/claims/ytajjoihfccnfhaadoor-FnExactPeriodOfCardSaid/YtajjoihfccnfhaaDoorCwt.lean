/-
  Turns of words, by the program; the law's walk. Conditions: the sizes, and what the library reads, as each says.
-/
import Derived.Test.YtajjoihfccnfhaaDoorCwd
namespace Go.Proofs.YtajjoihfccnfhaaDoor
open Go.RowKit
set_option maxHeartbeats 1000000
/-- What the search reads. -/
abbrev MaxHere (w : World) : Prop := ∃ m, w.cell? ⟨0, 0, none⟩ = some (.int .i64 m)
theorem MaxHere.keep {w w1 : World} (h : MaxHere w) (hb : Below w.heap.size w w1) : MaxHere w1 := by
  obtain ⟨m, hm⟩ := h
  exact ⟨m, cell_keep hb hm⟩
theorem contains_any (s t : ByteArray) (hs : s.size ≤ 4194304) (w : World) (hm : MaxHere w) : Calls Tryd.prog 47 #[.string s, .string t] w fun e w' => e = .returned (.bool (Lib.contains s.data.toList t.data.toList)) ∧ Below w.heap.size w w' := by
  obtain ⟨m, hm⟩ := hm
  refine (Tryd.strings_Contains s t m w (by omega) hm).mono ?_
  rintro e w1 ⟨rfl, rfl⟩
  exact ⟨rfl, Below.refl _ _⟩
theorem implTurn_any (v x : ByteArray) (hv : v.size ≤ 1048576) (hx : x.size ≤ 1048576) (w : World) (hm : MaxHere w) : Calls Tryd.prog 17 #[.string v, .string x] w fun e w' =>
    e = .returned (.tuple #[.bool (turnR v.data.toList x.data.toList).1, .int .i64 (turnR v.data.toList x.data.toList).2]) ∧ Below w.heap.size w w' := by
  have hlv : v.data.toList.length = v.size := Array.length_toList
  have hlx : x.data.toList.length = x.size := Array.length_toList
  have h1 := fun W => isWord_any v hv W
  have h2 := fun W => isWord_any x hx W
  unfold turnR
  cases e1 : wordB v.data.toList
  · rw [Bool.false_and, if_neg (by decide)]
    rw [e1] at h1
    have H1 := Lib.hid h1
    clear h1 h2 e1 hlv hlx hm
    go_enter Tryd.func17, Tryd.ntmps17
    go_wp2_with (go_at_call 41; go_must ((with_reducible refine (H1.out _).mono ?_)); rintro e w1 ⟨rfl, hb1⟩)
    go_returns
    exact ⟨rfl, hb1⟩
  · rw [e1] at h1
    rw [Bool.true_and]
    have H1 := Lib.hid h1
    cases e2 : wordB x.data.toList
    · rw [if_neg (by decide)]
      rw [e2] at h2
      have H2 := Lib.hid h2
      clear h1 h2 e1 e2 hlv hlx hm
      go_enter Tryd.func17, Tryd.ntmps17
      go_wp2_with (first
        | (go_at_call_of 41 (Value.string v); go_must ((with_reducible refine (H1.out _).mono ?_)); rintro e w1 ⟨rfl, hb1⟩)
        | (go_at_call_of 41 (Value.string x); go_must ((with_reducible refine (H2.out _).mono ?_)); rintro e w2 ⟨rfl, hb2⟩))
      go_returns
      exact ⟨rfl, hb1.trans (hb2.mono hb1.size)⟩
    · rw [if_pos rfl]
      rw [e2] at h2
      have H2 := Lib.hid h2
      have hc := fun W (hW : Below w.heap.size w W) => contains_any (v ++ v) x (by rw [ByteArray.size_append]; omega) W (hm.keep hW)
      rw [show (v ++ v).data.toList = v.data.toList ++ v.data.toList by rw [ByteArray.data_append, Array.toList_append]] at hc
      have hvv : ¬ v.size + v.size > 9223372036854775807 := by omega
      dsimp only
      rw [hlv, hlx]
      obtain ⟨C, hC⟩ : ∃ C, Lib.contains (v.data.toList ++ v.data.toList) x.data.toList = C := ⟨_, rfl⟩
      rw [hC] at hc ⊢
      have HC := Lib.hid hc
      clear h1 h2 hc hm hC e1 e2 hlv hlx
      by_cases hsz : v.size = x.size
      · rw [decide_eq_true hsz, Bool.true_and]
        have hszi : ((v.size : Int) == (x.size : Int)) = true := by rw [hsz]; simp
        clear hsz
        go_enter Tryd.func17, Tryd.ntmps17
        go_wp2_with (first
          | (go_at_call_of 41 (Value.string v); go_must ((with_reducible refine (H1.out _).mono ?_)); rintro e w1 ⟨rfl, hb1⟩; have hs1 := hb1.size)
          | (go_at_call_of 41 (Value.string x); go_must ((with_reducible refine (H2.out _).mono ?_)); rintro e w2 ⟨rfl, hb2⟩; have hs2 := hb2.size)
          | (go_at_call 47; go_must ((with_reducible refine (HC.out _ ?_).mono ?_)); (focus (repeat' (first | (with_reducible exact Below.refl _ _) | (with_reducible refine Below.alloc ?_ ?_ _) | (with_reducible refine Below.drew ?_) | (with_reducible refine below_drewN' ?_ _) | (with_reducible refine Below.setCell ?_ ?_ _) | (with_reducible refine Below.trans ?_ (Below.mono (by assumption) ?_)) | go_size))); rintro e w3 ⟨rfl, hb3⟩; have hs3 := hb3.size))
        go_returns
        exact ⟨rfl, by (repeat' (first | (with_reducible exact Below.refl _ _) | (with_reducible refine Below.alloc ?_ ?_ _) | (with_reducible refine Below.drew ?_) | (with_reducible refine below_drewN' ?_ _) | (with_reducible refine Below.setCell ?_ ?_ _) | (with_reducible refine Below.trans ?_ (Below.mono (by assumption) ?_)) | go_size))⟩
      · rw [decide_eq_false hsz, Bool.false_and]
        have hszi : ((v.size : Int) == (x.size : Int)) = false := by simpa using fun h => hsz (by omega)
        go_enter Tryd.func17, Tryd.ntmps17
        go_wp2_with (first
          | (go_at_call_of 41 (Value.string v); go_must ((with_reducible refine (H1.out _).mono ?_)); rintro e w1 ⟨rfl, hb1⟩; have hs1 := hb1.size)
          | (go_at_call_of 41 (Value.string x); go_must ((with_reducible refine (H2.out _).mono ?_)); rintro e w2 ⟨rfl, hb2⟩; have hs2 := hb2.size))
        go_returns
        exact ⟨rfl, by (repeat' (first | (with_reducible exact Below.refl _ _) | (with_reducible refine Below.alloc ?_ ?_ _) | (with_reducible refine Below.drew ?_) | (with_reducible refine below_drewN' ?_ _) | (with_reducible refine Below.setCell ?_ ?_ _) | (with_reducible refine Below.trans ?_ (Below.mono (by assumption) ?_)) | go_size))⟩
theorem FnExactAreTurns_walk (a0 a1 : ByteArray) (w : World) (hm : MaxHere w) :
    Calls Tryd.prog 5 #[.string a0, .string a1] w fun e w' => e = .returned (.bool true) ∧ Below w.heap.size w w' := by
  by_cases hs : 1048576 < a0.size
  · have hsi : (a0.size : Int) > 1048576 := by omega
    go_enter Tryd.func5, Tryd.ntmps5
    go_wp2
    go_returns
    exact ⟨rfl, Below.refl _ _⟩
  · have hsi : ¬ (a0.size : Int) > 1048576 := by omega
    by_cases ht : 1048576 < a1.size
    · have hti : (a1.size : Int) > 1048576 := by omega
      go_enter Tryd.func5, Tryd.ntmps5
      go_wp2
      go_returns
      exact ⟨rfl, Below.refl _ _⟩
    · have hti : ¬ (a1.size : Int) > 1048576 := by omega
      have h1 := fun W => specTurn_any a0 a1 (by omega) (by omega) W
      have h2 := fun W (hW : Below w.heap.size w W) => implTurn_any a0 a1 (by omega) (by omega) W (hm.keep hW)
      obtain ⟨⟨b, c⟩, hr⟩ : ∃ r, turnR a0.data.toList a1.data.toList = r := ⟨_, rfl⟩
      rw [hr] at h1 h2
      dsimp only at h1 h2
      have H1 := Lib.hid h1
      have H2 := Lib.hid h2
      clear h1 h2 hr hs ht hm
      cases b
      all_goals
        go_enter Tryd.func5, Tryd.ntmps5
        go_wp2_with (first
          | (go_at_call 16; go_must ((with_reducible refine (H1.out _).mono ?_)); rintro e w1 ⟨rfl, hb1⟩; have hbs := hb1.size)
          | (go_at_call 17; go_must ((with_reducible refine (H2.out _ ?_).mono ?_)); (focus (repeat' (first | (with_reducible exact Below.refl _ _) | (with_reducible refine Below.alloc ?_ ?_ _) | (with_reducible refine Below.drew ?_) | (with_reducible refine below_drewN' ?_ _) | (with_reducible refine Below.setCell ?_ ?_ _) | (with_reducible refine Below.trans ?_ (Below.mono (by assumption) ?_)) | go_size))); rintro e w2 ⟨rfl, hb2⟩))
        go_returns
        exact ⟨rfl, by (repeat' (first | (with_reducible exact Below.refl _ _) | (with_reducible refine Below.alloc ?_ ?_ _) | (with_reducible refine Below.drew ?_) | (with_reducible refine below_drewN' ?_ _) | (with_reducible refine Below.setCell ?_ ?_ _) | (with_reducible refine Below.trans ?_ (Below.mono (by assumption) ?_)) | go_size))⟩
end Go.Proofs.YtajjoihfccnfhaaDoor
