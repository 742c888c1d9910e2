/-
  Texts of lists of points, by both programs. Conditions: the sizes, and the table that the library reads, as each says.
-/
import Derived.Test.YtajjoihfccnfhaaDoorPpl
import Derived.Lib.Join
import Derived.Test.YtajjoihfccnfhaaDoorShj
import Derived.Deep.AppendLies
import Derived.Laws.MakeOwn
import Derived.Laws.OwnMore
namespace Go.Proofs.YtajjoihfccnfhaaDoor
open Go.RowKit
set_option maxHeartbeats 1000000
theorem pointB_eq (x y : Int) : pointB x y = ⟨(ptL x y).toArray⟩ := by
  unfold pointB txtB ptL
  rw [show (⟨#[44]⟩ : ByteArray) = ⟨[44].toArray⟩ from rfl, ByteArray.mk_append_mk, ByteArray.mk_append_mk]
theorem ptL_len {x y : Int} (h : ptB x y = true) : (ptL x y).length ≤ 43 := by
  rw [ptB_iff] at h
  have h1 := txtB_size (n := x) (by omega)
  have h2 := txtB_size (n := y) (by omega)
  have e1 : (txtB x).size = (Lib.itoa x).length := by show (Lib.itoa x).toArray.size = _; simp
  have e2 : (txtB y).size = (Lib.itoa y).length := by show (Lib.itoa y).toArray.size = _; simp
  unfold ptL
  simp only [List.length_append, List.length_singleton]
  omega
def listL (xs : List (Int × Int)) : List UInt8 := Lib.join (xs.map fun p => ptL p.1 p.2) [59]
theorem join_snoc (sep x : List UInt8) : ∀ (r : List (List UInt8)), r ≠ [] → Lib.join (r ++ [x]) sep = Lib.join r sep ++ sep ++ x
  | [], h => absurd rfl h
  | [a], _ => by simp [Lib.join, List.intercalate]
  | a :: b :: r, _ => by
    have ih := join_snoc sep x (b :: r) (by simp)
    simp only [Lib.join, List.intercalate] at ih ⊢
    simp only [List.cons_append, List.intersperse_cons_cons, List.flatten_cons] at ih ⊢
    rw [ih]
    simp [List.append_assoc]
theorem listL_step {xs : List (Int × Int)} {k : Nat} (h : k < xs.length) : listL (xs.take (k + 1)) = (if k = 0 then [] else listL (xs.take k) ++ [59]) ++ ptL (xs[k]?.getD (0, 0)).1 (xs[k]?.getD (0, 0)).2 := by
  have e : xs.take (k + 1) = xs.take k ++ [xs[k]?.getD (0, 0)] := by
    rw [List.take_add_one]
    simp [h]
  unfold listL
  rw [e, List.map_append]
  by_cases h0 : k = 0
  · subst h0
    simp [Lib.join, List.intercalate]
  · rw [if_neg h0]
    exact join_snoc _ _ _ (by intro hn; have := congrArg List.length hn; rw [List.length_map, List.length_take, List.length_nil] at this; omega)
theorem listL_len {xs : List (Int × Int)} (h : ∀ k, k < xs.length → ptB (xs[k]?.getD (0, 0)).1 (xs[k]?.getD (0, 0)).2 = true) : ∀ k, k ≤ xs.length → (listL (xs.take k)).length ≤ 44 * k
  | 0, _ => by simp [listL, Lib.join, List.intercalate]
  | k + 1, hk => by
    have ih := listL_len h k (by omega)
    have hp := ptL_len (h k (by omega))
    rw [listL_step (by omega)]
    split
    · simp; omega
    · simp only [List.length_append, List.length_singleton]; omega
theorem l01ListText_any (A : Option Addr) (n c : Nat) (xs : List (Int × Int)) (w : World) (h : PSl w A n xs) (hn : n ≤ 100) (hp : ∀ k, k < xs.length → ptB (xs[k]?.getD (0, 0)).1 (xs[k]?.getD (0, 0)).2 = true) : Calls Tryd.prog 49 #[.slice A n c] w fun e w' => e = .returned (.string ⟨(listL xs).toArray⟩) ∧ Below w.heap.size w w' := by
  obtain ⟨rfl, hx⟩ := h
  have hlen := listL_len hp
  have HP := Lib.hid hp
  have HL := Lib.hid hlen
  clear hp hlen
  go_enter Tryd.func49, Tryd.ntmps49
  go_wp2
  go_loopw [3, 4] (fun o i wr => ∃ j : Nat, i = .int .i64 j ∧ j ≤ xs.length ∧ o = .string ⟨(listL (xs.take j)).toArray⟩ ∧ Below w.heap.size w wr) (fun _ i _ => xs.length - (intOf i).toNat)
  case atStart => exact ⟨0, rfl, Nat.zero_le _, rfl, Below.refl _ _⟩
  case round =>
    obtain ⟨j, rfl, hj, rfl, hB⟩ := hrel
    by_cases hjn : j < xs.length
    · obtain ⟨b, off, rfl, hb, hr⟩ := hx (by omega)
      have h3 := cell_keep hB (hr j hjn).1
      have h4 := cell_keep hB (hr j hjn).2
      have hst := listL_step hjn
      have hpt := HP.out j hjn
      have hl := HL.out j hj
      obtain ⟨⟨x, y⟩, hp⟩ : ∃ p, xs[j]?.getD (0, 0) = p := ⟨_, rfl⟩
      rw [hp] at h3 h4 hst hpt
      dsimp only at h3 h4 hst hpt
      have hpl := ptL_len hpt
      rw [ptB_iff] at hpt
      have ht := fun W => l01Text_any x y (by omega) (by omega) W
      rw [pointB_eq] at ht
      have HT := Lib.hid ht
      have HS := Lib.hid hst
      have ej : wrap64 ((j : Int) + 1) = (j : Int) + 1 := by unfold wrap64; omega
      obtain ⟨o, ho⟩ : ∃ o, (⟨(listL (xs.take j)).toArray⟩ : ByteArray) = o := ⟨_, rfl⟩
      obtain ⟨p, hpp⟩ : ∃ o, (⟨(ptL x y).toArray⟩ : ByteArray) = o := ⟨_, rfl⟩
      have so : o.size ≤ 4400 := by rw [← ho]; show (listL (xs.take j)).toArray.size ≤ _; simp; omega
      have sp : p.size ≤ 43 := by rw [← hpp]; show (ptL x y).toArray.size ≤ _; simpa using hpl
      have z1 : ¬ o.size + 1 > 9223372036854775807 := by omega
      have z2 : ¬ o.size + p.size > 9223372036854775807 := by omega
      have z3 : ¬ o.size + 1 + p.size > 9223372036854775807 := by omega
      have z4 : (o ++ ⟨#[59]⟩).size = o.size + 1 := by rw [ByteArray.size_append]; rfl
      have hone : (⟨#[59]⟩ : ByteArray).size = 1 := rfl
      by_cases hj0 : j = 0
      · subst hj0
        simp only [Nat.zero_mul, Nat.add_zero] at h3 h4
        have hfin : o ++ p = ⟨(listL (xs.take 1)).toArray⟩ := by
          rw [HS.out, if_pos rfl, ← ho, ← hpp]
          simp [listL, Lib.join, List.intercalate, ByteArray.mk_append_mk]
        have HF := Lib.hid hfin
        clear hfin ht hst hl hpl hp
        rw [ho]
        rw [hpp] at HT
        clear ho hpp
        go_wp2_with (go_at_call 36; go_must ((with_reducible refine (HT.out _).mono ?_)); rintro e w1 ⟨rfl, hb1⟩)
        have hBs := hB.size
        exact ⟨⟨1, rfl, by omega, by rw [← HF.out], hB.trans (hb1.mono hBs)⟩, by simp [intOf]; omega⟩
      · have hj1 : (j : Int) > 0 := by omega
        have hfin : o ++ ⟨#[59]⟩ ++ p = ⟨(listL (xs.take (j + 1))).toArray⟩ := by
          rw [HS.out, if_neg hj0, ← ho, ← hpp, show (⟨#[59]⟩ : ByteArray) = ⟨[59].toArray⟩ from rfl, ByteArray.mk_append_mk, ByteArray.mk_append_mk]
        have HF := Lib.hid hfin
        clear hfin ht hst hl hpl hp
        rw [ho]
        rw [hpp] at HT
        clear ho hpp
        go_wp2_with (go_at_call 36; go_must ((with_reducible refine (HT.out _).mono ?_)); rintro e w1 ⟨rfl, hb1⟩)
        have hBs := hB.size
        exact ⟨⟨j + 1, by go_num, by omega, by rw [← HF.out], hB.trans (hb1.mono hBs)⟩, by simp [intOf]; omega⟩
    · obtain rfl : j = xs.length := by omega
      rw [List.take_length]
      go_wp2
      go_returns
      exact ⟨rfl, hB⟩
theorem below_gn {w w1 : World} (h : Below w.heap.size w w1) : w.grownBy w1 none := ⟨h.os, h.tape, h.output, h.size, fun i hi _ => h.block i hi⟩
theorem own_keep {base : Nat} {e : TypeId} {s n : Nat} {v : Value} {xs : List Value} {w w1 : World} (h : w.ownsRow base e s v n xs) (hb : Below w.heap.size w w1) : w1.ownsRow base e s v n xs := by
  refine h.kept (below_gn hb) ?_
  cases v.ownBlock with
  | none => exact .inl rfl
  | some k => exact .inr (by simp)
def strV (xs : List (Int × Int)) : List Value := xs.map fun p => .string ⟨(ptL p.1 p.2).toArray⟩
theorem strV_step {xs : List (Int × Int)} {k : Nat} (h : k < xs.length) : strV (xs.take (k + 1)) = strV (xs.take k) ++ [.string ⟨(ptL (xs[k]?.getD (0, 0)).1 (xs[k]?.getD (0, 0)).2).toArray⟩] := by
  unfold strV
  rw [List.take_add_one, List.map_append]
  simp [h]
theorem infoStr : (Tryd.prog.info? 9).map (fun i => (i.zero, i.size, i.bytes)) = some (some (.string ⟨#[]⟩), 1, 16) := by kernel_rfl
theorem new_str (W : World) (v : Value) (T : TypeId) : ∀ j u, [v][j]? = some u → (W.alloc (.cells #[v] T)).cell? ((⟨W.heap.size, 0, none⟩ : Addr).add j) = some u := by
  intro j u hj
  match j, hj with
  | 0, hj => simp at hj; subst hj; rw [add_at]; simp
theorem join_any (b o c : Nat) (xs : List ByteArray) (w : World) (hc : ∀ (j : Nat) x, xs[j]? = some x → w.cell? ⟨b, o + j, none⟩ = some (.string x)) (hb : b < w.heap.size) (hn : xs.length ≤ 100) (hcap : xs.length ≤ c) (hl : (Lib.join (xs.map (·.data.toList)) [59]).length ≤ 10000) :
    Calls Tryd.prog 73 #[.slice (some ⟨b, o, none⟩) xs.length c, .string ⟨#[59]⟩] w fun e w' => e = .returned (.string ⟨(Lib.join (xs.map (·.data.toList)) [59]).toArray⟩) ∧ Below w.heap.size w w' :=
  Tryd.strings_Join b o c xs ⟨#[59]⟩ w hc hb (by omega) hcap (by show (Lib.join (xs.map (·.data.toList)) [59]).length ≤ _; omega)
set_option maxRecDepth 100000 in
theorem texts_any (A : Option Addr) (n c : Nat) (xs : List (Int × Int)) (w : World) (h : PSl w A n xs) (hn : n ≤ 100) (hp : ∀ k, k < xs.length → ptB (xs[k]?.getD (0, 0)).1 (xs[k]?.getD (0, 0)).2 = true) (ht : TabHere w) : Calls Tryd.prog 51 #[.slice A n c] w fun e w' => e = .returned (.string ⟨(listL xs).toArray⟩) ∧ Below w.heap.size w w' := by
  obtain ⟨rfl, hx⟩ := h
  have hlen := listL_len hp
  have HP := Lib.hid hp
  have HL := Lib.hid hlen
  have HT := Lib.hid (Lib.tabBelow_of_tabIs ht)
  clear hp hlen ht
  obtain ⟨i0, hI0⟩ := info_parts infoStr
  have HI := Lib.hid hI0
  clear hI0
  go_enter Tryd.func51, Tryd.ntmps51
  go_wp2
  go_loopw [3, 5, 9] (fun v _ i W => ∃ (j : Nat) (A' : Option Addr) (cc : Nat), i = .int .i64 j ∧ j ≤ xs.length ∧ v = .slice A' j cc ∧ W.ownsRow w.heap.size 9 1 v j (strV (xs.take j)) ∧ Below w.heap.size w W) (fun _ _ i _ => xs.length - (intOf i).toNat)
  case atStart => exact ⟨0, some ⟨w.heap.size, 0, none⟩, 0, rfl, Nat.zero_le _, rfl, World.ownsRow_made _ _ _ (by omega) (by decide) rfl, by (repeat' (first | (with_reducible exact Below.refl _ _) | (with_reducible refine Below.alloc ?_ ?_ _) | (with_reducible refine Below.drew ?_) | (with_reducible refine below_drewN' ?_ _) | (with_reducible refine Below.setCell ?_ ?_ _) | (with_reducible refine Below.trans ?_ (Below.mono (by assumption) ?_)) | go_size))⟩
  case round =>
    obtain ⟨j, A', cc, rfl, hj, rfl, hown, hB⟩ := hrel
    have HO := Lib.hid hown
    clear hown
    by_cases hjn : j < xs.length
    · obtain ⟨b, off, rfl, hb, hr⟩ := hx (by omega)
      have h3 := cell_keep hB (hr j hjn).1
      have h4 := cell_keep hB (hr j hjn).2
      have hst := strV_step hjn
      have hpt := HP.out j hjn
      obtain ⟨⟨x, y⟩, hp⟩ : ∃ p, xs[j]?.getD (0, 0) = p := ⟨_, rfl⟩
      rw [hp] at h3 h4 hst hpt
      dsimp only at h3 h4 hst hpt
      have HS := Lib.hid hst
      rw [ptB_iff] at hpt
      have htx := fun W (hW : Below w.heap.size w W) => ptext_any x y (by omega) (by omega) W (HT.out W hW)
      rw [pointB_eq] at htx
      obtain ⟨s, hs⟩ : ∃ s, (⟨(ptL x y).toArray⟩ : ByteArray) = s := ⟨_, rfl⟩
      rw [hs] at htx hst
      have HX := Lib.hid htx
      have HS := Lib.hid hst
      clear htx hst hp hpt hs HP HL hx hr
      have hB1 := hB.size
      have ej : wrap64 ((j : Int) + 1) = (j : Int) + 1 := by unfold wrap64; omega
      have HB := Lib.hid hB
      go_wp2_with (first
        | (go_at_call 38; go_must ((with_reducible refine (HX.out _ (HB.out.alloc hB1 _)).mono ?_)); rintro e w1 ⟨rfl, hb1⟩)
        | (at_builtin; go_must ((refine wpList_append_lies _ rfl _ _ _ rfl w.heap.size 9 i0 (.string ⟨#[]⟩) 1 16 Tryd.underlying79 HI.out.1 HI.out.2.1 HI.out.2.2.1 HI.out.2.2.2 rfl (by decide) (.slice A' j cc) j (strV (xs.take j)) rfl ((own_keep ((HO.out).alloc _) hb1).alloc _) ⟨w1.heap.size, 0, none⟩ 1 1 [.string s] rfl rfl (new_str _ _ _) (by simp [Value.oneCell']) (by omega) (by unfold maxLen; omega) (by omega) (by have := hb1.size; simp at this ⊢; omega) (w1.heap.size + 1) (by simp) ?_)); intro g cap w3 hown3 hgrow3 hat3 hlt3))
      have hB2 := hb1.size
      simp only [World.size_alloc] at hB2
      refine ⟨⟨j + 1, some ⟨g, 0, none⟩, cap, by go_num, by omega, rfl, ?_, ?_⟩, by simp [intOf]; omega⟩
      · rw [HS.out]; exact hown3
      · exact (((HB.out.alloc hB1 _).trans (hb1.mono (by simp only [World.size_alloc]; omega))).alloc (by omega) _).grown hgrow3 (by simp only [World.size_alloc]; omega) (fun k e => (HO.out.lt k e).1)
    · obtain rfl : j = xs.length := by omega
      rw [List.take_length] at HO
      have hl := HL.out xs.length (Nat.le_refl _)
      rw [List.take_length] at hl
      have hB1 := hB.size
      by_cases h0 : xs.length = 0
      · have hx0 : xs = [] := List.eq_nil_of_length_eq_zero h0
        subst hx0
        go_wp2_with (go_at_call 73; go_must ((with_reducible refine (Tryd.strings_Join_none _ _ _ _).mono ?_)); rintro e w1 ⟨rfl, rfl⟩)
        go_returns
        exact ⟨rfl, hB⟩
      · have hcells := fun g => @World.ownsRow.cells wr w.heap.size 9 1 (.slice A' xs.length cc) xs.length (strV xs) HO.out g
        obtain ⟨_, ⟨_, hz⟩ | ⟨g, cap, cur, hv, hbs, hg, hcu, hca, hrest⟩⟩ := HO.out
        · exact absurd hz h0
        · obtain ⟨rfl, rfl⟩ : A' = some ⟨g, 0, none⟩ ∧ cc = cap := by cases hv; exact ⟨rfl, rfl⟩
          have hlt : g < wr.heap.size := by
            rcases Nat.lt_or_ge g wr.heap.size with hlt | hge
            · exact hlt
            · rw [Array.getElem?_eq_none hge] at hg; cases hg
          have e1 : (xs.map fun p => (⟨(ptL p.1 p.2).toArray⟩ : ByteArray)).map (·.data.toList) = xs.map fun p => ptL p.1 p.2 := by simp [List.map_map, Function.comp_def]
          have hj := join_any g 0 cc (xs.map fun p => (⟨(ptL p.1 p.2).toArray⟩ : ByteArray)) wr (fun j x hjx => by
            have := hcells g rfl j (.string x) (by unfold strV; rw [List.getElem?_map] at hjx ⊢; cases hq : xs[j]? with | none => rw [hq] at hjx; cases hjx | some q => rw [hq] at hjx; cases hjx; rfl)
            rw [add_at] at this; exact this) hlt (by rw [List.length_map]; exact hn) (by rw [List.length_map]; omega) (by rw [e1]; unfold listL at hl; omega)
          rw [e1, List.length_map] at hj
          have HJ := Lib.hid hj
          clear hj hcells
          go_wp2_with (go_at_call 73; go_must ((with_reducible refine (HJ.out).mono ?_)); rintro e w1 ⟨rfl, hb1⟩)
          go_returns
          exact ⟨rfl, hB.trans (hb1.mono hB1)⟩
