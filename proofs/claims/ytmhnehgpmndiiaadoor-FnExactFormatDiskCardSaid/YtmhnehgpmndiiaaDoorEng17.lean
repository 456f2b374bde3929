import Derived.Test.YtmhnehgpmndiiaaDoorEng15
import Derived.Laws.Tables
namespace Go.Eng
open Go Go.RowKit

inductive Bld (st : St) (fs : List (Nat × Nat × Nat)) : List (Nat × Operand) → List D → List D → Prop where
  | nil {ds : List D} : Bld st fs [] ds ds
  | one {i off ty : Nat} {x : Operand} {d : D} {rest : List (Nat × Operand)} {ds out : List D} (hi : fs[i]? = some (off, ty, 1)) (hx : ev st x = d) (h1 : one1 d = true) (hl : off < ds.length) (h : Bld st fs rest (ds.set off d) out) : Bld st fs ((i, x) :: rest) ds out
  | agg {i off ty sz : Nat} {x : Operand} {es : List D} {rest : List (Nat × Operand)} {ds out : List D} (hi : fs[i]? = some (off, ty, sz)) (hx : ev st x = .agg es) (he : es.length = sz) (hl : off + sz ≤ ds.length) (h : Bld st fs rest (setN ds off es) out) : Bld st fs ((i, x) :: rest) ds out
theorem foldl_set (vs : List Value) : ∀ (cs : List Value) (o j : Nat), (vs.zipIdx j).foldl (fun (a : Array Value) (p : Value × Nat) => a.setIfInBounds (o + p.2) p.1) cs.toArray = (setN cs (o + j) vs).toArray := by
  induction vs with
  | nil => intro cs o j; rfl
  | cons v r ih =>
    intro cs o j
    rw [List.zipIdx_cons, List.foldl_cons, setN]
    have : cs.toArray.setIfInBounds (o + j) v = (cs.set (o + j) v).toArray := by simp
    rw [this, ih, Nat.add_assoc]
theorem fill_cons {pl : Nat → Option (Nat × Nat)} {cs : Array Value} {i off : Nat} {v : Value} {vs : List Value} {rest : List (Nat × Value)} (hv : v.cells = vs.toArray) (hp : pl i = some (off, vs.length)) (h2 : off + vs.length ≤ cs.size) :
    Instr.fill pl cs ((i, v) :: rest) = Instr.fill pl (setN cs.toList off vs).toArray rest := by
  have hf := foldl_set vs cs.toList off 0
  rw [Nat.add_zero] at hf
  have hz : vs.toArray.zipIdx.foldl (fun cs (x : Value × Nat) => match x with | (c, j) => cs.setIfInBounds (off + j) c) cs = (setN cs.toList off vs).toArray := by
    rw [← hf, ← Array.foldl_toList]
    simp
  rw [Instr.fill, hp]
  simp only [hv]
  have hn : (decide (vs.toArray.size ≠ vs.length) || decide (off + vs.toArray.size > cs.size)) = false := by simp; omega
  rw [hn, hz]
  rfl
section
variable {E : Env} {F : Nat → Prop} {B : Base E.P} {w : World} {o : Oper} {st : St} {a : Act}
theorem Bld.fill (hr : Rel F B st a w) {fs : List (Nat × Nat × Nat)} {ps : List (Nat × Operand)} {ds out : List D} (h : Bld st fs ps ds out) : ∀ {cs : List Value}, DLs F w ds cs [] →
    ∃ cs', Instr.fill ((fs.map fun f => (f.1, f.2.2))[·]?) cs.toArray (ps.map fun p => (p.1, a.eval p.2)) = some cs'.toArray ∧ DLs F w out cs' [] := by
  induction h with
  | nil => intro cs hd; exact ⟨cs, rfl, hd⟩
  | @one i off ty x d rest ds out hi hx h1 hl h ih =>
    intro cs hd
    have hv := hr.ev x
    rw [hx] at hv
    have h1c := oneCell_cells (one1_val h1 hv)
    have hlen := DLs_length hd
    obtain ⟨bs', g1, g2, _⟩ := DLs_set hd hv hl
    have hb : bs' = [] := by
      cases bs' with
      | nil => rfl
      | cons b _ => rcases g2 b (by simp) with h | h <;> simp at h
    subst hb
    obtain ⟨cs', e1, e2⟩ := ih g1
    refine ⟨cs', ?_, e2⟩
    have hp : (fs.map fun f => (f.1, f.2.2))[i]? = some (off, [a.eval x].length) := by simp [hi]
    rw [List.map_cons, fill_cons (vs := [a.eval x]) h1c hp (by simp; omega)]
    exact e1
  | @agg i off ty sz x es rest ds out hi hx he hl h ih =>
    intro cs hd
    have hv := hr.ev x
    rw [hx] at hv
    simp only [DR] at hv
    obtain ⟨vs, hv1, hv2⟩ := hv
    have hlen := DLs_length hd
    have hvl := DLs_length hv2
    obtain ⟨bs', g1, g2, _⟩ := DLs_setN (o := off) hd hv2 (by omega)
    have hb : bs' = [] := by
      cases bs' with
      | nil => rfl
      | cons b _ => rcases g2 b (by simp) with h | h <;> simp at h
    subst hb
    obtain ⟨cs', e1, e2⟩ := ih g1
    refine ⟨cs', ?_, e2⟩
    have hp : (fs.map fun f => (f.1, f.2.2))[i]? = some (off, vs.length) := by simp [hi]; omega
    rw [List.map_cons, fill_cons (vs := vs) (by rw [hv1]; rfl) hp (by simp; omega)]
    exact e1
theorem V.build {pu : Bool} {t : TypeId} {ps : List (Nat × Operand)} {i : TyI} {fs : List (Nat × Nat × Nat)} {ds : List D} (ho : o.op = .build t ps.toArray) (ht : E.tabs t = some i) (hf : i.td = .agg fs) (hz : (fs.all fun f => !Nat.beq f.2.2 0) = true) (hb : Bld st fs ps (i.zero.map fun v => .r (.v v)) ds) :
    VP pu E B o st (.agg ds) := fun F a w hr => by
  obtain ⟨j, d, z, t1, t2, t3, t4, t5, t6, t7⟩ := tyI_spec (E.ok _ _ ht)
  obtain ⟨cs', e1, e2⟩ := hb.fill hr (DLs_zero i.zero w)
  have hd : ∃ fields : Array Field, d = .struct fields ∧ fs = fields.toList.map fun f => (f.offset, f.type, E.P.cellsOf f.type) := by
    rw [hf] at t7
    cases d <;> simp [tdOf] at t7
    rename_i fields
    exact ⟨fields, rfl, t7.symm⟩
  obtain ⟨fields, rfl, rfl⟩ := hd
  have hpl : fields.toList.mapM (fun f => (E.P.info? f.type).map fun i => (f.offset, i.size)) = some (fields.toList.map fun f => (f.offset, E.P.cellsOf f.type)) := by
    have : ∀ l : List Field, (∀ f ∈ l, E.P.cellsOf f.type ≠ 0) → l.mapM (fun f => (E.P.info? f.type).map fun i => (f.offset, i.size)) = some (l.map fun f => (f.offset, E.P.cellsOf f.type)) := by
      intro l
      induction l with
      | nil => intro _; rfl
      | cons f l ih =>
        intro h
        have h0 := h f (by simp)
        cases hq : E.P.info? f.type with
        | none => simp [Program.cellsOf, hq] at h0
        | some i => simp [List.mapM_cons, hq, ih (fun g hg => h g (by simp [hg])), Program.cellsOf]
    refine this _ (fun f hf' => ?_)
    have := List.all_eq_true.1 hz (f.offset, f.type, E.P.cellsOf f.type) (List.mem_map.2 ⟨f, hf', rfl⟩)
    intro h0
    simp [h0] at this
  have hblt : E.P.built t (ps.map fun p => (p.1, a.eval p.2)) = some cs'.toArray := by
    simp only [Program.built, t1, t2, t3, hpl]
    have hzc : z.cells = i.zero.toArray := by rw [← t6]
    rw [hzc]
    have e : (fields.toList.map fun f => (f.offset, f.type, E.P.cellsOf f.type)).map (fun f => (f.1, f.2.2)) = fields.toList.map fun f => (f.offset, E.P.cellsOf f.type) := by simp
    rw [e] at e1
    simpa using e1
  refine ⟨.agg cs'.toArray, fun w' hs => ?_, by simp only [DR]; exact ⟨cs', rfl, e2⟩⟩
  have := run_build w' t (ps.map fun p => (p.1, a.eval p.2)).toArray cs'.toArray (by simpa using hblt)
  simp [execOp, ho, Sem.run_bind, this]
end
end Go.Eng
