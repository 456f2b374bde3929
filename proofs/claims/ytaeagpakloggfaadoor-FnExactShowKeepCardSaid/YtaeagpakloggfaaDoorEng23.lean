import Derived.Test.YtaeagpakloggfaaDoorEng22
namespace Go.Eng
open Go Go.RowKit

section
variable {F : Nat → Prop} {w : World}
end
inductive One (k j sz n : Nat) (V : Value) (ts : List T) (t' : T) : List D → List C → List C → Prop where
  | here {xs : List Value} : One k j sz n V ts t' (.al k (some j) sz n V 0 :: xs.map fun x => .r (.v x)) (.w (.a sz n ts) :: xs.map fun x => .w (.v x)) (.w t' :: xs.map fun x => .w (.v x))
  | there {x : Value} {es : List D} {cs os : List C} (h : One k j sz n V ts t' es cs os) : One k j sz n V ts t' (.r (.v x) :: es) (.w (.v x) :: cs) (.w (.v x) :: os)
section
variable {E : Env} {F : Nat → Prop} {B : Base E.P} {w : World} {o : Oper} {st : St} {K : St → Prop} {a : Act} {all rest : List Oper}
end
end Go.Eng
