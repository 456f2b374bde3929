/- An array inside an own array is taken out, and given back; a call that takes a struct over. -/
import Derived.Test.YtaeagpakloggfaaDoorEng38
namespace Go.Eng
open Go Go.RowKit

section
variable {w : World}
end
section
variable {E : Env} {F : Nat → Prop} {B : Base E.P} {w : World} {o : Oper} {st : St} {K : St → Prop} {a : Act} {all rest : List Oper}
end
section
variable {fc : Facts} {E : Env} {B : Base E.P} {w : World} {o : Oper} {st : St} {K : St → Prop} {all : List Oper} {n i' : Nat} {ls ls' : Array Bool}
end
end Go.Eng
