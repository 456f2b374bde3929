import Derived.Test.YtaeagpakloggfaaDoorEng20
namespace Go.Eng
open Go Go.RowKit

section
variable {w : World}
end
section
variable {E : Env} {F : Nat → Prop} {B : Base E.P} {w : World} {o : Oper} {st : St} {K : St → Prop} {a : Act}
end
end Go.Eng
