import Derived.Test.YtbiocicogminlaaEng17
import Derived.Orders
namespace Go.Eng
open Go Go.RowKit

/-! ### regions that draw their order, every order walked -/
section
variable {E : Env} {F : Nat → Prop} {B : Base} {w : World} {o : Oper} {st : St} {K : St → Prop} {a : Act} {all : List Oper} {Q : Exit → St → Prop} {n : Nat} {ls : Array Bool} {d : D}
/-- From here on, whatever is picked. -/
def RA (E : Env) (B : Base) (all : List Oper) (n : Nat) (ls : Array Bool) (st : St) (K : St → Prop) : Prop :=
  ∀ (F : Nat → Prop) (a : Act) (w : World), Rel F B st a w → ∀ (Q : Exit → Act → World → Prop), (∀ F' st' a' w', K st' → Rel F' B st' a' w' → Q .normal a' w') → wpAny E.P .any all.toArray Q n ls a w
/-- One operation of it, then the rest. -/
def RO (E : Env) (B : Base) (all : List Oper) (n : Nat) (ls : Array Bool) (st : St) (K : St → Prop) (i : Nat) : Prop :=
  ∃ o, all[i]? = some o ∧ o.guard = none ∧ OK E B o st (fun st' => RA E B all n (ls.setIfInBounds i true) st' K)
theorem RA.step {L : List Nat} (hL : Region.ready .any all.toArray ls = L) (hne : L ≠ []) (h : ∀ i ∈ L, RO E B all n ls st K i) : RA E B all (n + 1) ls st K := by
  intro F a w hr Q hQ
  refine ⟨fun h0 => absurd (hL.symm.trans h0) hne, fun i hi => ?_⟩
  rw [hL] at hi
  obtain ⟨o, h1, h2, h3⟩ := h i hi
  unfold wpOp
  have ho : all.toArray[i]? = some o := by simpa using h1
  rw [ho]
  have hw : Region.wanted o (yielded all.toArray a.tmps) = true := by simp [Region.wanted, h2]
  simp only [hw, if_true]
  exact .inl (h3 F a w hr _ Q (fun F' st' a' w' hk hr' => hk F' a' w' hr' Q hQ))
theorem RA.fin (hL : Region.ready .any all.toArray ls = []) (h : K st) : RA E B all n ls st K := by
  intro F a w hr Q hQ
  cases n with
  | zero => exact ⟨hL, hQ F st a w h hr⟩
  | succ n => exact ⟨fun _ => hQ F st a w h hr, fun i hi => by rw [hL] at hi; cases hi⟩
theorem CW.any {id : Nat} {l : List Oper} (h : RA E B l l.length (Array.replicate l.length false) st (Q .normal)) : CW E B (.region id l.toArray true) st Q := by
  intro F a w hr
  refine wp_region_any E.mixed ?_
  have := h F a { w with drawn := w.drawn + 1 } (hr.grow ⟨rfl, rfl, rfl, Nat.le_refl _, fun _ _ _ => rfl⟩) (fun e a' w' => ∃ st' F', Q e st' ∧ Rel F' B st' a' w') (fun F' st' a' w' hk hr' => ⟨st', F', hk, hr'⟩)
  simpa using this
theorem RA.each0 : ∀ i ∈ ([] : List Nat), RO E B all n ls st K i := fun _ h => by cases h
theorem RA.each {j : Nat} {L : List Nat} (h : RO E B all n ls st K j) (hs : ∀ i ∈ L, RO E B all n ls st K i) : ∀ i ∈ j :: L, RO E B all n ls st K i := fun i hi => by
  rcases List.mem_cons.1 hi with rfl | hi
  · exact h
  · exact hs i hi
theorem RO.v {i : Nat} {ls' : Array Bool} (ho : all[i]? = some o) (hg : o.guard = none) (hv : V E B o st d) (hl : ls.setIfInBounds i true = ls') (h : RA E B all n ls' (setD st o.dst d) K) : RO E B all n ls st K i :=
  ⟨o, ho, hg, OK.ofV hv (by rw [hl]; exact h)⟩
theorem RO.call {i : Nat} {ls' : Array Bool} {f : FuncId} {xs : List Operand} {tys : Array TypeId} {as outs : List A} {res : R} (ho : all[i]? = some o) (hg : o.guard = none) (hf : Eng.Fn E.P f as res outs) (hop : o.op = .call { callee := .value (.func f), args := xs.toArray, argTypes := tys })
    (ha : AsAs st false none xs as) (hl : ls.setIfInBounds i true = ls') (h : ∀ g, RA E B all n ls' (setD st o.dst (rD g res)) K) : RO E B all n ls st K i := ⟨o, ho, hg, OK.call hf hop ha (fun g => by rw [hl]; exact h g)⟩
theorem RO.callOwn {i : Nat} {ls' : Array Bool} {f : FuncId} {xs : List Operand} {tys : Array TypeId} {as outs : List A} {res : R} (ho : all[i]? = some o) (hg : o.guard = none) (hf : Eng.Fn E.P f as res outs) (hop : o.op = .call { callee := .value (.func f), args := xs.toArray, argTypes := tys })
    (ha : AsAs st true none xs as) (hres : ownR res = true) (hl : ls.setIfInBounds i true = ls') (h : ∀ g, RA E B all n ls' (setD st o.dst (rD g res)) K) : RO E B all n ls st K i := ⟨o, ho, hg, OK.callOwn hf hop ha hres (fun g => by rw [hl]; exact h g)⟩
end
end Go.Eng
