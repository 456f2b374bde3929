import Derived.Test.YtmhnehgpmndiiaaDoorEng31
namespace Go.Eng
open Go Go.RowKit

section
variable {fc : Facts} {E : Env} {F : Nat → Prop} {B : Base E.P} {w : World} {o : Oper} {st : St} {K : St → Prop} {a : Act} {d : D} {all rest : List Oper} {Q : Exit → St → Prop} {fu : Nat} {ls : Array Bool}
theorem Le.of {s : St} : ∀ {l : List (Nat × D)}, l.map (fun p => Eng.gt s p.1) = l.map Prod.snd → Le s l
  | [], _ => trivial
  | (k, d) :: l, h => by
    simp only [List.map_cons, List.cons.injEq] at h
    exact ⟨h.1, Le.of h.2⟩
theorem V.minI {pu : Bool} {t u : TypeId} {x y : Operand} {p q : Int} (ho : o.op = .call { callee := .builtin .min, args := #[x, y], argTypes := #[t, u] }) (hx : ev st x = .r (.v (.int .i64 p))) (hy : ev st y = .r (.v (.int .i64 q))) : VP pu E B o st (.r (.v (.int .i64 (if q < p then q else p)))) := fun F ac w hr =>
  ⟨.int .i64 (if q < p then q else p), fun w' hs => by
    simp [execOp, ho, resolve, invoke, builtin, ev_scalar hr hx, ev_scalar hr hy, Builtin.min_, Builtin.min2], by simp [DR, RT]⟩
end
section
variable {E : Env} {st : St} {g : Nat → Nat → Value} {bo : Nat → Nat} {as outs : List A}
end
end Go.Eng
