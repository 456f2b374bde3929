import Derived.Test.YtmhnehgpmndiiaaDoorEng27
import Derived.Lib.SliceRun
namespace Go.Eng
open Go Go.RowKit

section
variable {E : Env} {F : Nat → Prop} {B : Base E.P} {w : World} {o : Oper} {st : St} {K : St → Prop} {a : Act} {d : D} {all rest : List Oper} {Q : Exit → St → Prop}
theorem RW.pullS (k l : Nat) {sz n : Nat} {ts : List T} {X : Value} (hkl : k ≠ l) (hk : Eng.gt st k = .al l none sz n X 0) (hl : Eng.gt st l = .w (.a sz n ts) X)
    (h : RW E B all rest ((st.set k (.w (.a sz n ts) X)).set l .u) K) : RW E B all rest st K := fun F a w hr => h F a w (hr.pull hkl hk hl)
end
end Go.Eng
