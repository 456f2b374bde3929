/- Bits, shifts, the least of three; pointers that are handed back. -/
import Derived.Test.YtmhnehgpmndiiaaDoorEng32
namespace Go.Eng
open Go Go.RowKit
def andI (a b : Int) : Int := IntKind.i64.wrap ((BitVec.ofInt 64 a &&& BitVec.ofInt 64 b).toNat : Int)
def orI (a b : Int) : Int := IntKind.i64.wrap ((BitVec.ofInt 64 a ||| BitVec.ofInt 64 b).toNat : Int)
def xorI (a b : Int) : Int := IntKind.i64.wrap ((BitVec.ofInt 64 a ^^^ BitVec.ofInt 64 b).toNat : Int)
def shlI (a n : Int) : Int := IntKind.i64.wrap (a * 2 ^ (min n.toNat 64))
def shrI (a n : Int) : Int := a.fdiv (2 ^ (min n.toNat 64))
def bitI : BinOp → Int → Int → Option Int
  | .and, a, b => some (andI a b)
  | .or, a, b => some (orI a b)
  | .xor, a, b => some (xorI a b)
  | _, _, _ => none
section
variable {E : Env} {B : Base E.P} {st : St} {o : Oper}
theorem V.bits {pu : Bool} {op : BinOp} {t u : TypeId} {x y : Operand} {p q r : Int} (ho : o.op = .binOp op t x y u) (hx : ev st x = .r (.v (.int .i64 p))) (hy : ev st y = .r (.v (.int .i64 q)))
    (hc : bitI op p q = some r) : VP pu E B o st (.r (.v (.int .i64 r))) := fun F a w hr =>
  ⟨.int .i64 r, fun w' hs => by
    cases op <;> simp only [bitI, Option.some.injEq, reduceCtorEq] at hc <;> subst hc <;> simp [execOp, ho, ev_scalar hr hx, ev_scalar hr hy, eqGuard, binOp, Op.intBits, andI, orI, xorI] <;> rfl, by simp [DR, RT]⟩
theorem V.shl {pu : Bool} {t u : TypeId} {x y : Operand} {k : IntKind} {p q : Int} (ho : o.op = .binOp .shl t x y u) (hx : ev st x = .r (.v (.int .i64 p))) (hy : ev st y = .r (.v (.int k q)))
    (hn : 0 ≤ q) : VP pu E B o st (.r (.v (.int .i64 (shlI p q)))) := fun F a w hr =>
  ⟨.int .i64 (shlI p q), fun w' hs => by
    have h0 : ¬ q < 0 := by omega
    simp [execOp, ho, ev_scalar hr hx, ev_scalar hr hy, eqGuard, binOp, Op.shift, h0, shlI] <;> rfl, by simp [DR, RT]⟩
theorem V.shr {pu : Bool} {t u : TypeId} {x y : Operand} {k : IntKind} {p q : Int} (ho : o.op = .binOp .shr t x y u) (hx : ev st x = .r (.v (.int .i64 p))) (hy : ev st y = .r (.v (.int k q)))
    (hn : 0 ≤ q) : VP pu E B o st (.r (.v (.int .i64 (shrI p q)))) := fun F a w hr =>
  ⟨.int .i64 (shrI p q), fun w' hs => by
    have h0 : ¬ q < 0 := by omega
    simp [execOp, ho, ev_scalar hr hx, ev_scalar hr hy, eqGuard, binOp, Op.shift, h0, shrI] <;> rfl, by simp [DR, RT]⟩
theorem V.neg {pu : Bool} {t : TypeId} {x : Operand} {p : Int} (ho : o.op = .unOp .neg t x) (hx : ev st x = .r (.v (.int .i64 p))) : VP pu E B o st (.r (.v (.int .i64 (IntKind.i64.wrap (0 - p))))) := fun F a w hr =>
  ⟨.int .i64 (IntKind.i64.wrap (0 - p)), fun w' hs => by simp [execOp, ho, ev_scalar hr hx, Op.unary, Op.intArith], by simp [DR, RT]⟩
def mnI (p q : Int) : Int := if q < p then q else p
theorem V.min2I {pu : Bool} {t u : TypeId} {x y : Operand} {p q : Int} (ho : o.op = .call { callee := .builtin .min, args := #[x, y], argTypes := #[t, u] }) (hx : ev st x = .r (.v (.int .i64 p))) (hy : ev st y = .r (.v (.int .i64 q))) : VP pu E B o st (.r (.v (.int .i64 (mnI p q)))) := V.minI ho hx hy
end
section
variable {E : Env} {B : Base E.P} {st : St}
theorem RV.p {α : Type} {k b : Nat} {f : α → List C} {ds : List D} {e' e : α} (hk : gt st k = .obj b ds) (hd : DT ds (f e')) (h : e' = e) : RV E st (.tmp k) (.ob (f e)) := by
  subst h
  exact ⟨b, ds, hk, hd⟩
end
end Go.Eng
