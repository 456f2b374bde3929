import Derived.Test.YtaeagpakloggfaaDoorEng19
import Derived.Deep.AppendSrc
namespace Go.Eng
open Go Go.RowKit

section
variable {E : Env} {F : Nat → Prop} {B : Base E.P} {w : World} {o : Oper} {st : St} {K : St → Prop} {a : Act}
end
end Go.Eng
