import Derived.Test.YtmhnehgpmndiiaaDoorEng13
import Derived.Laws.StructEq
namespace Go.Eng
open Go Go.RowKit

def cI (n : Int) : List T := [.v (.int .i64 n)]
theorem cI.len (n : Int) : (cI n).length = 1 := rfl
def cB (n : Bool) : List T := [.v (.bool n)]
theorem cB.len (n : Bool) : (cB n).length = 1 := rfl
def cS (n : ByteArray) : List T := [.v (.string n)]
theorem cS.len (n : ByteArray) : (cS n).length = 1 := rfl

section
variable {E : Env} {F : Nat → Prop} {B : Base E.P} {w : World} {o : Oper} {st : St} {K : St → Prop} {a : Act} {d : D} {Q : Exit → St → Prop} {all rest : List Oper}
variable {P : Program} {n : Nat} {xs ys : Array Value} {f : Field} {fs : List Field} {p q : Value} {r s : Bool}
end
end Go.Eng
