/-
  A region that draws its order, reads and then stores once, within a round of a range over a function. Condition: no call among its operations.
-/
import Derived.WalkKit
import Derived.StillTailTactics
import Derived.OrdersIn
import Derived.CallsIn
namespace Go.Proofs.Ytdenfmgmapgpiaa
open Go.RowKit
/-- Operations that enter nothing. -/
def plainOp : Op → Bool
  | .move _ | .assign _ | .load _ _ | .store _ _ _ | .indexAddr _ _ _ | .binOp _ _ _ _ _ | .build _ _ => true
  | _ => false
theorem andThen_value {α : Type} (r : Result α) (f : α → Next) (hf : ∀ a, (∃ v, f a = .value v) ∨ f a = .skip) : ∀ x w', (r.andThen fun a w => .ok (f a) w) = .ok x w' → (∃ v, x = .value v) ∨ x = .skip := by
  intro x w' h
  cases r with
  | ok a w => simp only [Result.andThen] at h; cases h; exact hf a
  | halt e w => simp only [Result.andThen] at h; cases h
theorem run_v {P : Program} (s : Sem Value) (w : World) : Sem.run P (do pure (Next.value (← s))) w = (s.run P w).andThen fun a w => .ok (.value a) w := by
  simp only [Sem.run_bind, Sem.run_pure]
theorem run_u {P : Program} (s : Sem Unit) (w : World) : Sem.run P (do s; pure Next.skip) w = (s.run P w).andThen fun _ w => .ok .skip w := by
  simp only [Sem.run_bind, Sem.run_pure]
theorem exec_plain {P : Program} {o : Oper} (h : plainOp o.op = true) (ρ : Operand → Value) (w : World) : ∀ x w', (execOp ρ o).run P w = .ok x w' → (∃ v, x = .value v) ∨ x = .skip := by
  intro x w' hr
  unfold execOp at hr
  cases ho : o.op <;> rw [ho] at h hr <;> first
    | (cases h; done)
    | (exact andThen_value _ (fun a => .value a) (fun a => .inl ⟨a, rfl⟩) x w' ((run_v _ _).symm.trans hr); done)
    | (exact andThen_value _ (fun _ => .skip) (fun _ => .inr rfl) x w' ((run_u _ _).symm.trans hr); done)
    | (simp only [go_sem] at hr; cases hr; exact .inl ⟨_, rfl⟩; done)
def plainOps (l : List Oper) : Bool := l.all fun o => plainOp o.op
/-- What a region leaves that ends as it should. -/
def Norm (K : Act → World → Prop) : Exit → Act → World → Prop
  | .normal, a, w => K a w
  | _, _, _ => False
theorem plain_about {P : Program} {o : Oper} (h : plainOp o.op = true) (w : World) (ρ : Operand → Value) : o.about P w ρ = none := by
  unfold Oper.about
  cases ho : o.op <;> rw [ho] at h <;> first | rfl | (cases h; done)
theorem plain_semAt {o : Oper} (h : plainOp o.op = true) (ro : Option Nat) (ρ : Operand → Value) : o.semAt ro ρ = execOp ρ o :=
  Oper.semAt_eq _ _ _ (fun c e => by rw [e] at h; cases h)
theorem wpOp_in {F : Fence} {n : Nat} {P : Program} {ops : Array Oper} {K : Act → World → Prop} {Q : Exit → Act → World → Prop} (hp : ∀ (i : Nat) (o : Oper), ops[i]? = some o → plainOp o.op = true) {i : Nat} {Kx Ky : Act → World → Prop} (hk : ∀ a w, Kx a w → Ky a w) {a : Act} {w : World}
    (h : wpOp P ops (Norm K) i Kx a w) : wpOpIn F n P ops (Exit.then K Q) i Ky a w := by
  unfold wpOp at h
  unfold wpOpIn
  cases ho : ops[i]? with
  | none => rw [ho] at h; exact hk _ _ h
  | some o =>
    rw [ho] at h
    have hpl := hp i o ho
    dsimp only at h ⊢
    split
    · rename_i hw
      rw [if_pos hw] at h
      rcases h with h | ⟨_, a0, w0, h0⟩
      · refine ⟨fun f hf => (by rw [plain_about hpl] at hf; cases hf), ?_⟩
        rw [plain_semAt hpl]
        unfold Oper.wp at h
        have hx := exec_plain hpl a.eval w (P := P)
        revert h hx
        generalize (execOp a.eval o).run P w = r
        intro h hx
        cases r with
        | ok x w' =>
          rcases hx x w' rfl with ⟨v, rfl⟩ | rfl
          · exact hk _ _ h
          · exact hk _ _ h
        | halt e w' => cases e <;> exact (h : False).elim
      · exact (h0 : False).elim
    · rename_i hw
      rw [if_neg hw] at h
      exact ⟨fun f hf => (by rw [plain_about hpl] at hf; cases hf), hk _ _ h⟩
theorem wpAny_in {F : Fence} {n : Nat} {P : Program} {md : Region.Mode} {ops : Array Oper} {K : Act → World → Prop} {Q : Exit → Act → World → Prop} (hp : ∀ (i : Nat) (o : Oper), ops[i]? = some o → plainOp o.op = true) :
    ∀ (fuel : Nat) (listed : Array Bool) (a : Act) (w : World), wpAny P md ops (Norm K) fuel listed a w → wpAnyIn F n P md ops (Exit.then K Q) fuel listed a w
  | 0, _, _, _, h => ⟨h.1, h.2⟩
  | fuel + 1, _, _, _, h => ⟨fun hr => h.1 hr, fun i hi => wpOp_in hp (fun a w => wpAny_in hp fuel _ a w) (h.2 i hi)⟩
theorem plain_at {l : List Oper} (h : plainOps l = true) : ∀ (i : Nat) (o : Oper), l.toArray[i]? = some o → plainOp o.op = true := by
  intro i o ho
  unfold plainOps at h
  rw [List.all_eq_true] at h
  exact h o (List.mem_of_getElem? (by simpa using ho))
theorem wpIn_still_tail {F : Fence} {m : Nat} {P : Program} {id : Nat} {K : Act → World → Prop} {Q : Exit → Act → World → Prop} {a : Act} {w : World} {l : List Oper} (n : Nat) (hm : P.follows .mixedOrders = true) (hB : Region.lexTailB .any l.toArray n = true) (hp : plainOps l = true)
    (h : wpStill P l.toArray { w with drawn := w.drawn + 1 } (fun a' => wpList P l.toArray (Norm K) (l.drop n) a' { w with drawn := w.drawn + 1 }) (l.take n) a) : (Code.region id l.toArray true).wpIn F m P (Exit.then K Q) a w := by
  simp only [Region.lexTailB, Bool.and_eq_true, decide_eq_true_eq] at hB
  obtain ⟨⟨⟨⟨hsel, hn⟩, hs⟩, hc⟩, hlex⟩ := hB
  have hn' : n < l.length := by simpa using hn
  have htl : (l.take n).length = n := by simp; omega
  have hdl : (l.drop n).length = l.toArray.size - n := by simp
  have inv0 : HeadInv .any l.toArray n (Array.replicate l.toArray.size false) :=
    ⟨by simp, fun j oj _ hl => (by rw [getD_replicate_false] at hl; cases hl), fun t _ ht => getD_in (by simpa using ht) (getD_replicate_false _ _)⟩
  have H := wpAnyL_lex (md := .any) (g := l.toArray.size - n) hsel hs hc hn (l.take n) 0 _ a (fun j hj => by
    have hj' : j < n := by rw [htl] at hj; exact hj
    simp [hj']) (by simpa using htl) inv0 (by rw [htl]; exact hlex) h
  refine wpIn_region_any hm ?_
  have := wpAny_of_head (Q' := Norm K) (g := l.toArray.size - n) (fun listed a' hL => by
    have := wpAny_of_seq (md := .any) (Q' := Norm K) (l.drop n) n listed a' { w with drawn := w.drawn + 1 } (fun j => by simp [List.getElem?_drop]) (by rw [hdl]; exact hL.1) hL.2
    rwa [hdl] at this) _ _ _ H
  rw [htl, show n + (l.toArray.size - n) = l.toArray.size by omega] at this
  exact wpAny_in (plain_at hp) _ _ _ _ this
end Go.Proofs.Ytdenfmgmapgpiaa
