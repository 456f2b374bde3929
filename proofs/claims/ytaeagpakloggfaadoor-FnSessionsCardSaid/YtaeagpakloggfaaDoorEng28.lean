import Derived.Test.YtaeagpakloggfaaDoorEng27
import Derived.Lib.SliceRun
namespace Go.Eng
open Go Go.RowKit

section
variable {E : Env} {F : Nat → Prop} {B : Base E.P} {w : World} {o : Oper} {st : St} {K : St → Prop} {a : Act} {d : D} {all rest : List Oper} {Q : Exit → St → Prop}
theorem V.indexZ {pu : Bool} {α : Type} {t e : TypeId} {x y : Operand} {i ie : TyI} {c : α → List T} {l : List α} {m : Nat} {z : Int} {v : α} (ho : o.op = .indexAddr t x y) (ht : E.tabs t = some i) (he : i.td = .slice e) (hte : E.tabs e = some ie)
    (hx : ev st x = .r (sl ie.sz c l)) (hy : ev st y = .r (.v (.int .i64 z))) (hz : z = (m : Int)) (hc : ∀ x, (c x).length = ie.sz) (hv : l[m]? = some v) : VP pu E B o st (.rp (c v)) := by
  subst hz
  exact V.indexS ho ht he hte hx hy hc hv
end
end Go.Eng
