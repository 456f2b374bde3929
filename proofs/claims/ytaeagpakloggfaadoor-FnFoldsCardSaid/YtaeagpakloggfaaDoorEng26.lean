import Derived.Test.YtaeagpakloggfaaDoorEng25
namespace Go.Eng
open Go Go.RowKit

section
variable {E : Env} {F : Nat → Prop} {B : Base E.P} {w : World} {o : Oper} {st : St} {K : St → Prop} {a : Act} {d : D} {all rest : List Oper} {Q : Exit → St → Prop}
theorem V.fieldE {pu : Bool} {s : TypeId} {x : Operand} {f off ty sz : Nat} {i : TyI} {fs : List (Nat × Nat × Nat)} {k : Nat} {j : Option Nat} {s' : Nat} {X : Value} {pos : Nat} (ho : o.op = .fieldAddr s x f) (ht : E.tabs s = some i) (hf : i.td = .agg fs)
    (hn : fs[f]? = some (off, ty, sz)) (hz : sz ≠ 0) (hx : ev st x = .ep k j s' X pos) : VP pu E B o st (.ep k j s' X (pos + off)) := fun F a w hr => by
  have hx' := hr.ev x
  rw [hx] at hx'
  simp only [DR] at hx'
  obtain ⟨⟨b, of, n, c, h1, h2⟩, _⟩ := hx'
  refine ⟨.pointer (some ⟨b, of + pos + off, none⟩), fun w' hs => by simp [execOp, ho, h2, Sem.run_bind, run_fieldAt ht hf hn hz], ?_⟩
  simp only [DR]
  exact ⟨⟨b, of, n, c, h1, by rw [Nat.add_assoc]⟩, trivial⟩
theorem Rel.ownLt (hr : Rel F B st a w) {k sz n : Nat} {ts : List T} {X : Value} (hk : Eng.gt st k = .w (.a sz n ts) X) {b of m c : Nat} (hX : X = .slice (some ⟨b, of, none⟩) m c) : b < w.heap.size := by
  rcases hr.own hk with ⟨h, _, _⟩ | ⟨b', of', cap, cs, ty, bs', h1, h2, h3, h4, _⟩
  · rw [hX] at h; cases h
  · rw [hX] at h1
    cases h1
    exact (Array.getElem?_eq_some_iff.1 h4).1
theorem V.loadE {t : TypeId} {x : Operand} {i : TyI} {k sz n pos : Nat} {ts : List T} {X v : Value} (ho : o.op = .load t x) (ht : E.tabs t = some i) (hf : i.td = .prim ∨ ∃ e, i.td = .slice e)
    (hx : ev st x = .ep k none sz X pos) (hk : Eng.gt st k = .w (.a sz n ts) X) (hl : ts[pos]? = some (.v v)) : V E B o st (.r (.v v)) := fun F a w hr => by
  rcases hr.own hk with ⟨_, _, rfl⟩ | ⟨b, of, cap, cs, ty, bs', hV, g2, g3, g4, g5, g6, g7⟩
  · simp at hl
  · have hc := OL_get g7 hl
    rw [List.getElem?_drop] at hc
    refine ⟨v, fun w' hs => ?_, by simp [DR, RT]⟩
    have hcell : w'.cell? ⟨b, of + pos, none⟩ = some v := by
      rw [World.cell?_of_block (w := w) ((hs rfl).block b (hr.ownLt hk hV) (by simp))]
      simp [World.cell?, g4, hc]
    simp [execOp, ho, ev_ep hr hx hV, Instr.loadAt, Instr.sureAddr, loadVar, Sem.run_bind, tyI_notAgg (E.ok _ _ ht) hf, hcell]
theorem V.loadF {α : Type} {t : TypeId} {x : Operand} {i : TyI} {k m sz off : Nat} {c : α → List T} {l : List α} {v : α} {u X : Value} (ho : o.op = .load t x) (ht : E.tabs t = some i) (hf : i.td = .prim ∨ ∃ e, i.td = .slice e)
    (hx : ev st x = .ep k none sz X (m * sz + off)) (hk : Eng.gt st k = .w (sl sz c l) X) (hc : ∀ x, (c x).length = sz) (hv : l[m]? = some v) (hoff : off < sz) (hu : (c v)[off]? = some (.v u)) : V E B o st (.r (.v u)) :=
  V.loadE ho ht hf hx hk (by rw [flatMap_get hc l m off v hv hoff]; exact hu)
theorem V.loadAggE {t : TypeId} {x : Operand} {i : TyI} {fs : List (Nat × Nat × Nat)} {k sz n pos : Nat} {ts : List T} {X : Value} {vs : List Value} (ho : o.op = .load t x) (ht : E.tabs t = some i) (hf : i.td = .agg fs)
    (hx : ev st x = .ep k none sz X pos) (hk : Eng.gt st k = .w (.a sz n ts) X) (hl : (ts.drop pos).take i.sz = vs.map .v) (hn : vs.length = i.sz) (hz : vs ≠ []) : V E B o st (.agg (vs.map fun v => .r (.v v))) := fun F a w hr => by
  rcases hr.own hk with ⟨_, _, rfl⟩ | ⟨b, of, cap, cs, ty, bs', hV, g2, g3, g4, g5, g6, g7⟩
  · simp at hl; exact absurd hl hz
  · have hget : ∀ j v, vs[j]? = some v → w.cell? ⟨b, of + pos + j, none⟩ = some v := by
      intro j v hj
      have h1 : ts[pos + j]? = some (.v v) := by
        have := congrArg (·[j]?) hl
        simp only [List.getElem?_take, List.getElem?_drop, List.getElem?_map, hj, Option.map_some] at this
        split at this
        · exact this
        · cases this
      have hc := OL_get g7 h1
      rw [List.getElem?_drop] at hc
      simp [World.cell?, g4, Nat.add_assoc, hc]
    have hT := E.ok _ _ ht
    obtain ⟨j, d, z, t1, t2, t3, t4, t5, t6, t7⟩ := tyI_spec hT
    have hrow : d.isRow = true := by
      rw [hf] at t7
      cases d <;> simp [tdOf] at t7 <;> rfl
    refine ⟨.agg vs.toArray, fun w' hs => ?_, by simp only [DR]; exact ⟨vs, rfl, DLs_zero vs w⟩⟩
    have hget' : ∀ j v, vs[j]? = some v → w'.cell? ⟨b, of + pos + j, none⟩ = some v := fun j v hj => by
      rw [World.cell?_of_block (w := w) ((hs rfl).block b (hr.ownLt hk hV) (by simp))]
      exact hget j v hj
    simp [execOp, ho, ev_ep hr hx hV, Sem.run_bind, run_loadAt_mid w' b (of + pos) t vs d hget' t2 hrow (by rw [tyI_size hT, hn])]
theorem V.loadAggF {α : Type} {t : TypeId} {x : Operand} {i : TyI} {fs : List (Nat × Nat × Nat)} {k m : Nat} {c : α → List T} {l : List α} {v : α} {X : Value} {vs : List Value} (ho : o.op = .load t x) (ht : E.tabs t = some i) (hf : i.td = .agg fs)
    (hx : ev st x = .ep k none i.sz X (m * i.sz)) (hk : Eng.gt st k = .w (sl i.sz c l) X) (hc : ∀ x, (c x).length = i.sz) (hv : l[m]? = some v) (hvs : c v = vs.map .v) (hz : i.sz ≠ 0) : V E B o st (.agg (vs.map fun v => .r (.v v))) := by
  have hn : vs.length = i.sz := by rw [← hc v, hvs, List.length_map]
  refine V.loadAggE ho ht hf hx hk ?_ hn (fun e => hz (by rw [← hn, e]; rfl))
  obtain ⟨us, hu⟩ := flatMap_drop hc l m v hv
  rw [hu, ← hc v, List.take_left, hvs]

end
end Go.Eng
