import Derived.Test.YtmhnehgpmndiiaaEng13
import Derived.Laws.StructEq
namespace Go.Eng
open Go Go.RowKit

def cI (n : Int) : List T := [.v (.int .i64 n)]
theorem cI.len (n : Int) : (cI n).length = 1 := rfl
def cB (n : Bool) : List T := [.v (.bool n)]
theorem cB.len (n : Bool) : (cB n).length = 1 := rfl
def cS (n : ByteArray) : List T := [.v (.string n)]
theorem cS.len (n : ByteArray) : (cS n).length = 1 := rfl

section
variable {E : Env} {F : Nat → Prop} {B : Base E.P} {w : World} {o : Oper} {st : St} {K : St → Prop} {a : Act} {d : D} {Q : Exit → St → Prop} {all rest : List Oper}
variable {P : Program} {n : Nat} {xs ys : Array Value} {f : Field} {fs : List Field} {p q : Value} {r s : Bool}
theorem eqF_last (hn : (f.name == "_") = false) (ha : (part f.type xs f.offset).run P w = .ok p w) (hb : (part f.type ys f.offset).run P w = .ok q w) (he : (Op.equalIn n f.type p q).run P w = .ok r w) : (Op.eqFields n xs ys [f]).run P w = .ok r w := by
  have hn' : f.name ≠ "_" := by simpa using hn
  simp only [Op.eqFields, if_pos hn', Sem.run_bind, ha, hb, he, Result.andThen_ok]
  cases r <;> simp
theorem eqF_cons (hn : (f.name == "_") = false) (ha : (part f.type xs f.offset).run P w = .ok p w) (hb : (part f.type ys f.offset).run P w = .ok q w) (he : (Op.equalIn n f.type p q).run P w = .ok r w) (hr : (Op.eqFields n xs ys fs).run P w = .ok s w) : (Op.eqFields n xs ys (f :: fs)).run P w = .ok (r && s) w := by
  have hn' : f.name ≠ "_" := by simpa using hn
  rw [Op.eqFields]
  simp only [if_pos hn', Sem.run_bind, ha, hb, he, Result.andThen_ok]
  cases r
  · simp
  · simpa using hr
theorem eqA_of {t : TypeId} {fs : Array Field} (hu : P.underlying t = some (.struct fs)) (hp : P.stoodInHeld t = false) (h : (Op.eqFields n xs ys fs.toList).run P w = .ok r w) : (Op.equalIn (n + 1) t (.agg xs) (.agg ys)).run P w = .ok r w := by
  have hf : P.fieldsOf t = fs := by simp [Program.fieldsOf, hu]
  rw [run_equalIn_struct (P := P) w n t xs ys (by rw [hf]; exact hu) hp, hf]
  exact h
end
end Go.Eng
