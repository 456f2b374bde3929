import Derived.Test.YtmhnehgpmndiiaaEng21
namespace Go.Eng
open Go Go.RowKit

section
variable {E : Env} {F : Nat → Prop} {B : Base E.P} {w : World} {o : Oper} {st : St} {K : St → Prop} {a : Act} {d : D} {all rest : List Oper}
theorem RW.build0 {α : Type} {t e : TypeId} {i ie : TyI} (c : α → List T) (hg : o.guard = none) (ho : o.op = .buildSlice t 0 #[]) (ht : E.tabs t = some i) (he : i.td = .slice e) (hte : E.tabs e = some ie)
    (h : ∀ X, RW E B all rest (setD st o.dst (.w (sl ie.sz c []) X)) K) : RW E B all (o :: rest) st K := RW.cons hg (OK.build0 c ho ht he hte h)
theorem RW.build1 {α : Type} {t e : TypeId} {x : Operand} {i ie : TyI} {c : α → List T} {v : α} {es : List D} (hg : o.guard = none) (ho : o.op = .buildSlice t 1 #[(0, x)]) (ht : E.tabs t = some i) (he : i.td = .slice e) (hte : E.tabs e = some ie)
    (hx : ev st x = .agg es) (hw : DW es (c v)) (hc : ∀ x, (c x).length = ie.sz) (hp : ie.sz ≠ 0) (hsm : ie.sz ≤ 1000) (h : ∀ X, RW E B all rest (setD st o.dst (.w (sl ie.sz c [v]) X)) K) : RW E B all (o :: rest) st K :=
  RW.cons hg (OK.build1 ho ht he hte hx hw hc hp hsm h)
theorem RW.build1c {α : Type} {t e : TypeId} {x : Operand} {i ie : TyI} {c : α → List T} {v : α} {u : T} (hg : o.guard = none) (ho : o.op = .buildSlice t 1 #[(0, x)]) (ht : E.tabs t = some i) (he : i.td = .slice e) (hte : E.tabs e = some ie)
    (h1 : one1 (ev st x) = true) (hw : DT1 (ev st x) (.w u)) (hu : c v = [u]) (hsz : ie.sz = 1) (h : ∀ X, RW E B all rest (setD st o.dst (.w (sl ie.sz c [v]) X)) K) : RW E B all (o :: rest) st K := RW.cons hg (OK.build1c ho ht he hte h1 hw hu hsz h)
def cU (n : Int) : List T := [.v (.int .u8 n)]
theorem cU.len (n : Int) : (cU n).length = 1 := rfl
def bytesOf (l : List Int) : ByteArray := l.foldl (fun r n => r.push (UInt8.ofNat n.toNat)) ByteArray.empty
end
end Go.Eng
