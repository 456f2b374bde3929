/- Loads from blocks that nobody writes: they may be taken first. -/
import Derived.Test.YtmhnehgpmndiiaaDoorEng33
namespace Go.Eng
open Go Go.RowKit
section
variable {fc : Facts} {E : Env} {B : Base E.P} {o : Oper} {st : St}
theorem VF.loadPrim {m : Nat} {t : TypeId} {x : Operand} {i : TyI} {k b off : Nat} {ds : List D} {d : D} {xs : List Value} (hm : fc[m]? = some (k, b, xs)) (ho : o.op = .load t x) (ht : E.tabs t = some i) (hf : i.td = .prim ∨ ∃ e, i.td = .slice e)
    (hx : ev st x = .pt k b off) (hk : gt st k = .obj b ds) (hd : dvals ds = some xs) (hl : (cpyL k 0 ds)[off]? = some d) : VF fc E B o st d := fun F a w hr => by
  obtain ⟨cs, ty, bs, h1, h2⟩ := hr.obj hk
  obtain ⟨c, hc, hdr⟩ := DLs_get (DLs_cpyL k ds 0 cs bs h2) hl
  refine ⟨c, fun w' hs => ?_, hdr⟩
  obtain ⟨ty', h3⟩ := hs _ (List.mem_of_getElem? hm)
  have h1' : w'.heap[b]? = some (.cells cs.toArray ty' (0, 0)) := by rw [h3, dvals_eq hd h2]
  have hcell : w'.cell? ⟨b, off, none⟩ = some c := by
    simp only [World.cell?, h1', Option.isSome_none, Bool.false_eq_true, if_false]
    simpa using hc
  simp [execOp, ho, ev_pt hr hx, Instr.loadAt, Instr.sureAddr, loadVar, Sem.run_bind, tyI_notAgg (E.ok _ _ ht) hf, hcell]
theorem VF.loadAgg {m : Nat} {t : TypeId} {x : Operand} {i : TyI} {fs : List (Nat × Nat × Nat)} {k b off : Nat} {ds : List D} {xs : List Value} (hm : fc[m]? = some (k, b, xs)) (ho : o.op = .load t x) (ht : E.tabs t = some i) (hf : i.td = .agg fs)
    (hx : ev st x = .pt k b off) (hk : gt st k = .obj b ds) (hdv : dvals ds = some xs) (hl : off + i.sz ≤ ds.length) : VF fc E B o st (.agg (((cpyL k 0 ds).drop off).take i.sz)) := fun F a w hr => by
  obtain ⟨cs, ty, bs, h1, h2⟩ := hr.obj hk
  have hlen := DLs_length h2
  have hd := DLs_take i.sz (DLs_drop off (DLs_cpyL k ds 0 cs bs h2))
  have hT := E.ok _ _ ht
  obtain ⟨j, d, z, t1, t2, t3, t4, t5, t6, t7⟩ := tyI_spec hT
  have hrow : d.isRow = true := by
    rw [hf] at t7
    cases d <;> simp [tdOf] at t7 <;> rfl
  have hsz : (E.P.info? t).map (·.size) = some ((cs.drop off).take i.sz).length := by
    rw [tyI_size hT]
    simp only [List.length_take, List.length_drop]
    congr 1
    omega
  refine ⟨.agg ((cs.drop off).take i.sz).toArray, fun w' hs => ?_, ?_⟩
  · obtain ⟨ty', h3⟩ := hs _ (List.mem_of_getElem? hm)
    have h1' : w'.heap[b]? = some (.cells cs.toArray ty' (0, 0)) := by rw [h3, dvals_eq hdv h2]
    simp [execOp, ho, ev_pt hr hx, Sem.run_bind, run_loadAt_mid w' b off t _ d (rangeAt_take (rangeAt_of_block h1' off) i.sz) t2 hrow hsz]
  · simp only [DR]
    exact ⟨_, rfl, hd⟩
end
end Go.Eng
