import Derived.Test.YtmhnehgpmndiiaaDoorEng25
namespace Go.Eng
open Go Go.RowKit

section
variable {E : Env} {F : Nat → Prop} {B : Base E.P} {w : World} {o : Oper} {st : St} {K : St → Prop} {a : Act} {d : D} {all rest : List Oper} {Q : Exit → St → Prop}
theorem V.fieldE {pu : Bool} {s : TypeId} {x : Operand} {f off ty sz : Nat} {i : TyI} {fs : List (Nat × Nat × Nat)} {k : Nat} {j : Option Nat} {s' : Nat} {X : Value} {pos : Nat} (ho : o.op = .fieldAddr s x f) (ht : E.tabs s = some i) (hf : i.td = .agg fs)
    (hn : fs[f]? = some (off, ty, sz)) (hz : sz ≠ 0) (hx : ev st x = .ep k j s' X pos) : VP pu E B o st (.ep k j s' X (pos + off)) := fun F a w hr => by
  have hx' := hr.ev x
  rw [hx] at hx'
  simp only [DR] at hx'
  obtain ⟨⟨b, of, n, c, h1, h2⟩, _⟩ := hx'
  refine ⟨.pointer (some ⟨b, of + pos + off, none⟩), fun w' hs => by simp [execOp, ho, h2, Sem.run_bind, run_fieldAt ht hf hn hz], ?_⟩
  simp only [DR]
  exact ⟨⟨b, of, n, c, h1, by rw [Nat.add_assoc]⟩, trivial⟩
end
end Go.Eng
