/- Numbers of 32 bits without a sign. -/
import Derived.Test.YtmhnehgpmndiiaaDoorEng43
namespace Go.Eng
open Go Go.RowKit
def xorW (a b : Int) : Int := IntKind.u32.wrap ((BitVec.ofInt 32 a ^^^ BitVec.ofInt 32 b).toNat : Int)
def shrW (a n : Int) : Int := a.fdiv (2 ^ (min n.toNat 32))
section
variable {E : Env} {B : Base E.P} {st : St} {o : Oper}
theorem V.xorW {pu : Bool} {t u : TypeId} {x y : Operand} {p q : Int} (ho : o.op = .binOp .xor t x y u) (hx : ev st x = .r (.v (.int .u32 p))) (hy : ev st y = .r (.v (.int .u32 q))) : VP pu E B o st (.r (.v (.int .u32 (xorW p q)))) := fun F a w hr =>
  ⟨.int .u32 (Eng.xorW p q), fun w' hs => by simp [execOp, ho, ev_scalar hr hx, ev_scalar hr hy, eqGuard, binOp, Op.intBits, Eng.xorW] <;> rfl, by simp [DR, RT]⟩
theorem V.shrW {pu : Bool} {t u : TypeId} {x y : Operand} {k : IntKind} {p q : Int} (ho : o.op = .binOp .shr t x y u) (hx : ev st x = .r (.v (.int .u32 p))) (hy : ev st y = .r (.v (.int k q)))
    (hn : 0 ≤ q) : VP pu E B o st (.r (.v (.int .u32 (shrW p q)))) := fun F a w hr =>
  ⟨.int .u32 (Eng.shrW p q), fun w' hs => by
    have h0 : ¬ q < 0 := by omega
    simp [execOp, ho, ev_scalar hr hx, ev_scalar hr hy, eqGuard, binOp, Op.shift, h0, Eng.shrW] <;> rfl, by simp [DR, RT]⟩
end
end Go.Eng
