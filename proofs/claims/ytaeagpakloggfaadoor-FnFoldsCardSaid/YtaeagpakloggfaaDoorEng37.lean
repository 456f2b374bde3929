/- A literal of two. -/
import Derived.Test.YtaeagpakloggfaaDoorEng36
namespace Go.Eng
open Go Go.RowKit
section
variable {E : Env} {F : Nat → Prop} {B : Base E.P} {w : World} {o : Oper} {st : St} {K : St → Prop} {a : Act} {all rest : List Oper}
end
section
variable {E : Env} {F : Nat → Prop} {B : Base E.P} {w : World} {o oj : Oper} {st : St} {K : St → Prop} {a : Act} {all rest : List Oper} {fc : Facts} {n i j : Nat} {ls ls' : Array Bool} {d : D}
def GOk (all : List Oper) (o : Oper) (st : St) : Prop := o.guard = none ∨ ∃ (j : Nat) (want : Bool) (oj : Oper) (d : Tmp), o.guard = some (j, want) ∧ all[j]? = some oj ∧ oj.dst = some d ∧ Eng.gt st d = .r (.v (.bool want))
def RG (fc : Facts) (E : Env) (B : Base E.P) (all : List Oper) (n : Nat) (ls : Array Bool) (st : St) (K : St → Prop) (i : Nat) : Prop :=
  ∃ o, all[i]? = some o ∧ GOk all o st ∧ OK E B o st (fun st' => RA fc E B all n (ls.setIfInBounds i true) st' K)
theorem RG.v (ho : all[i]? = some o) (hg : GOk all o st) (hv : V E B o st d) (hl : ls.setIfInBounds i true = ls') (h : RA fc E B all n ls' (setD st o.dst d) K) : RG fc E B all n ls st K i :=
  ⟨o, ho, hg, OK.ofV hv (by rw [hl]; exact h)⟩
theorem RG.call {f : FuncId} {xs : List Operand} {tys : Array TypeId} {as outs : List A} {res : R} (ho : all[i]? = some o) (hg : GOk all o st) (hf : Eng.Fn E.P f as res outs) (hop : o.op = .call { callee := .value (.func f), args := xs.toArray, argTypes := tys })
    (ha : AsAs st false none xs as) (hl : ls.setIfInBounds i true = ls') (h : ∀ g, RA fc E B all n ls' (setD st o.dst (rD g res)) K) : RG fc E B all n ls st K i := ⟨o, ho, hg, OK.call hf hop ha (fun g => by rw [hl]; exact h g)⟩
theorem RG.callOwn {f : FuncId} {xs : List Operand} {tys : Array TypeId} {as outs : List A} {res : R} (ho : all[i]? = some o) (hg : GOk all o st) (hf : Eng.Fn E.P f as res outs) (hop : o.op = .call { callee := .value (.func f), args := xs.toArray, argTypes := tys })
    (ha : AsAs st true none xs as) (hres : ownR res = true) (hl : ls.setIfInBounds i true = ls') (h : ∀ g, RA fc E B all n ls' (setD st o.dst (rD g res)) K) : RG fc E B all n ls st K i := ⟨o, ho, hg, OK.callOwn hf hop ha hres (fun g => by rw [hl]; exact h g)⟩
end
end Go.Eng
