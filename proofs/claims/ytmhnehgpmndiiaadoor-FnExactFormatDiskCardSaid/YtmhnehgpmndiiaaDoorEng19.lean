import Derived.Test.YtmhnehgpmndiiaaDoorEng18
import Derived.Great.BuildSlice
import Derived.Laws.BytesString
namespace Go.Eng
open Go Go.RowKit

section
variable {E : Env} {F : Nat → Prop} {B : Base E.P} {w : World} {o : Oper} {st : St} {K : St → Prop} {a : Act} {d : D} {Q : Exit → St → Prop} {all rest : List Oper}
theorem V.quo {pu : Bool} {t u : TypeId} {x y : Operand} {k : IntKind} {p q : Int} (ho : o.op = .binOp .quo t x y u) (hx : ev st x = .r (.v (.int k p))) (hy : ev st y = .r (.v (.int k q))) (hb : q ≠ 0) : VP pu E B o st (.r (.v (.int k (k.wrap (p.tdiv q))))) := fun F a w hr =>
  ⟨.int k (k.wrap (p.tdiv q)), fun w' hs => by simp [execOp, ho, ev_scalar hr hx, ev_scalar hr hy, eqGuard, binOp, Op.intDiv, hb], by simp [DR, RT]⟩
theorem V.rem {pu : Bool} {t u : TypeId} {x y : Operand} {k : IntKind} {p q : Int} (ho : o.op = .binOp .rem t x y u) (hx : ev st x = .r (.v (.int k p))) (hy : ev st y = .r (.v (.int k q))) (hb : q ≠ 0) : VP pu E B o st (.r (.v (.int k (p.tmod q)))) := fun F a w hr =>
  ⟨.int k (p.tmod q), fun w' hs => by simp [execOp, ho, ev_scalar hr hx, ev_scalar hr hy, eqGuard, binOp, Op.intDiv, hb], by simp [DR, RT]⟩
theorem V.cat {pu : Bool} {t u : TypeId} {x y : Operand} {p q : ByteArray} (ho : o.op = .binOp .add t x y u) (hx : ev st x = .r (.v (.string p))) (hy : ev st y = .r (.v (.string q))) (hl : p.size + q.size ≤ maxLen) : VP pu E B o st (.r (.v (.string (p ++ q)))) := fun F a w hr =>
  ⟨.string (p ++ q), fun w' hs => by simp [execOp, ho, ev_scalar hr hx, ev_scalar hr hy, eqGuard, binOp, Op.stringOp]; simp only [maxLen] at hl; omega, by simp [DR, RT]⟩
theorem V.convInt {pu : Bool} {s t : TypeId} {x : Operand} {k k' : IntKind} {p : Int} (ho : o.op = .convert s t x) (hs : E.P.underlying s = some (.int k')) (ht : E.P.underlying t = some (.int k)) (hx : ev st x = .r (.v (.int k' p))) : VP pu E B o st (.r (.v (.int k (k.wrap p)))) := fun F a w hr =>
  ⟨.int k (k.wrap p), fun w' hs' => by simp [execOp, ho, ev_scalar hr hx, convert, Sem.run_bind, run_underlying hs, run_underlying ht, Conv.intToInt], by simp [DR, RT]⟩
theorem DW_OL : ∀ {es : List D} {us : List T} {vs : List Value} {bs : List Nat}, DW es us → DLs F w es vs bs → OL w us vs bs
  | [], us, vs, bs, h, h' => by
    simp only [DW] at h
    simp only [DLs] at h'
    subst h
    simp [OL, h'.2]
  | e :: es, us, vs, bs, h, h' => by
    simp only [DW] at h
    obtain ⟨t, ts', rfl, h1, h2⟩ := h
    simp only [DLs] at h'
    obtain ⟨c, cs', b1, b2, rfl, rfl, h3, h4⟩ := h'
    simp only [OL]
    exact ⟨c, cs', b1, b2, rfl, rfl, DT1_CR h1 h3, DW_OL h2 h4⟩
theorem OK.build0 {α : Type} {t e : TypeId} {i ie : TyI} (c : α → List T) (ho : o.op = .buildSlice t 0 #[]) (ht : E.tabs t = some i) (he : i.td = .slice e) (hte : E.tabs e = some ie)
    (h : ∀ X, K (setD st o.dst (.w (sl ie.sz c []) X))) : OK E B o st K := by
  intro F a w hr next Q hn
  obtain ⟨j, d, z, t1, t2, t3, t4, t5, t6, t7⟩ := tyI_spec (E.ok _ _ hte)
  have hu := tyI_slice (E.ok _ _ ht) he
  have hrun : (execOp a.eval o).run E.P w = .ok (.value (.slice (some ⟨w.heap.size, 0, none⟩) 0 0)) (w.alloc (.cells ([] : List Value).toArray e)) := by
    have e0 : (Array.range 0).map (fun _ => (default : Value)) = #[] := Array.eq_empty_of_size_eq_zero (by simp)
    simp [execOp, ho, Instr.buildSlice, run_underlying hu, Sem.run_bind, tyI_sizeOf (E.ok _ _ hte), Instr.fill, newRow]
    rw [e0]
  unfold Oper.wp
  rw [hrun, Oper.upon_value]
  refine hn _ _ _ _ (h (.slice (some ⟨w.heap.size, 0, none⟩) 0 0)) (hr.putNew' o.dst (Stp.alloc w _ []) (d := .w _ _) (bs := [w.heap.size]) ?_ (by simp) (by simp))
  simp only [DR, sl, OT]
  exact ⟨trivial, .inr ⟨w.heap.size, 0, 0, ([] : List Value).toArray, e, [], rfl, Nat.le_refl _, by simp, heap_alloc_new w _, by simp, by simp, rfl, by simp [OL]⟩⟩
theorem build1_run {t e : TypeId} {i ie : TyI} {x : Operand} {vs : List Value} (ho : o.op = .buildSlice t 1 #[(0, x)]) (ht : E.tabs t = some i) (he : i.td = .slice e) (hte : E.tabs e = some ie) (hx : (a.eval x).cells = vs.toArray) (hl : vs.length = ie.sz) (hp : ie.sz ≠ 0) (hsm : ie.sz ≤ 1000) :
    (execOp a.eval o).run E.P w = .ok (.value (.slice (some ⟨w.heap.size, 0, none⟩) 1 1)) (w.alloc (.cells vs.toArray e)) := by
  obtain ⟨j, d, z, t1, t2, t3, t4, t5, t6, t7⟩ := tyI_spec (E.ok _ _ hte)
  have hu := tyI_slice (E.ok _ _ ht) he
  have hf : Instr.fill (fun i => some (i * j.size, j.size)) ((Array.range (1 * j.size)).map (z.cells[· % z.cells.size]!)) [(0, a.eval x)] = some vs.toArray := by
    rw [fill_cons (off := 0) hx (by simp [t4, hl]) (by simp [t4, hl])]
    simp only [Instr.fill]
    rw [setN_eq _ _ _ (by simp [t4, hl])]
    simp [t4, hl]
  have := run_buildSlice w t e 1 #[(0, a.eval x)] vs.toArray j z hu t1 t3 (by rw [t4]; omega) (by rw [t4]; omega) (by simpa using hf)
  simp [execOp, ho, Sem.run_bind, this]
theorem OK.build1 {α : Type} {t e : TypeId} {x : Operand} {i ie : TyI} {c : α → List T} {v : α} {es : List D} (ho : o.op = .buildSlice t 1 #[(0, x)]) (ht : E.tabs t = some i) (he : i.td = .slice e) (hte : E.tabs e = some ie)
    (hx : ev st x = .agg es) (hw : DW es (c v)) (hc : ∀ x, (c x).length = ie.sz) (hp : ie.sz ≠ 0) (hsm : ie.sz ≤ 1000) (h : ∀ X, K (setD st o.dst (.w (sl ie.sz c [v]) X))) : OK E B o st K := by
  intro F a w hr next Q hn
  have hxv := hr.ev x
  rw [hx] at hxv
  simp only [DR] at hxv
  obtain ⟨vs, hv1, hv2⟩ := hxv
  have hl : vs.length = ie.sz := by rw [DLs_length hv2, ← DW_len hw, hc]
  unfold Oper.wp
  rw [build1_run ho ht he hte (vs := vs) (by rw [hv1]; rfl) hl hp hsm, Oper.upon_value]
  refine hn _ _ _ _ (h (.slice (some ⟨w.heap.size, 0, none⟩) 1 1)) (hr.putNew' o.dst (Stp.alloc w _ []) (d := .w _ _) (bs := [w.heap.size]) ?_ (by simp) (by simp))
  simp only [DR, sl, OT]
  refine ⟨trivial, .inr ⟨w.heap.size, 0, 1, vs.toArray, e, [], rfl, Nat.le_refl _, by simp [maxLen], heap_alloc_new w _, by simp [hl], by simp [hc], rfl, ?_⟩⟩
  have h2 := DLs_fix hr.Flt (.cells vs.toArray e) hv2
  simpa using DW_OL hw h2
theorem OK.build1c {α : Type} {t e : TypeId} {x : Operand} {i ie : TyI} {c : α → List T} {v : α} {u : T} (ho : o.op = .buildSlice t 1 #[(0, x)]) (ht : E.tabs t = some i) (he : i.td = .slice e) (hte : E.tabs e = some ie)
    (h1 : one1 (ev st x) = true) (hw : DT1 (ev st x) (.w u)) (hu : c v = [u]) (hsz : ie.sz = 1) (h : ∀ X, K (setD st o.dst (.w (sl ie.sz c [v]) X))) : OK E B o st K := by
  intro F a w hr next Q hn
  have hxv := hr.ev x
  have hone := one1_val h1 hxv
  unfold Oper.wp
  rw [build1_run ho ht he hte (vs := [a.eval x]) (oneCell_cells hone) (by simp [hsz]) (by omega) (by omega), Oper.upon_value]
  refine hn _ _ _ _ (h (.slice (some ⟨w.heap.size, 0, none⟩) 1 1)) (hr.putNew' o.dst (Stp.alloc w _ []) (d := .w _ _) (bs := [w.heap.size]) ?_ (by simp) (by simp))
  simp only [DR, sl, OT]
  refine ⟨trivial, .inr ⟨w.heap.size, 0, 1, [a.eval x].toArray, e, [], rfl, Nat.le_refl _, by simp [maxLen], heap_alloc_new w _, by simp [hsz], by simp [hu, hsz], rfl, ?_⟩⟩
  have h2 := DR_fix hr.Flt (.cells [a.eval x].toArray e) hxv
  have h3 := DT1_CR hw h2
  simp only [CR] at h3
  simp [hu, OL, h3]
end
end Go.Eng
