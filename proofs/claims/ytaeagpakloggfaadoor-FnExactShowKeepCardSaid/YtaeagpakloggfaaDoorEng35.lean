/- Calls that write a struct of one's own of which parts are only looked at. -/
import Derived.Test.YtaeagpakloggfaaDoorEng34
namespace Go.Eng
open Go Go.RowKit
section
variable {E : Env} {F : Nat → Prop} {B : Base E.P} {w : World} {o : Oper} {st : St} {K : St → Prop} {a : Act} {all rest : List Oper}
end
end Go.Eng
