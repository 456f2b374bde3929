/- The end of an own array is taken over. -/
import Derived.Test.YtmhnehgpmndiiaaDoorEng40
namespace Go.Eng
open Go Go.RowKit
section
variable {E : Env} {F : Nat → Prop} {B : Base E.P} {w : World} {o : Oper} {st : St} {K : St → Prop} {a : Act} {all rest : List Oper}
end
end Go.Eng
