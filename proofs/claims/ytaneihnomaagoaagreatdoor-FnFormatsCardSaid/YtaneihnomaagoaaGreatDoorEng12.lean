import Derived.Test.YtaneihnomaagoaaGreatDoorEng10
import Derived.Deep.Quiet
import Derived.Laws.StructEq
namespace Go.Eng
open Go Go.RowKit

section
variable {E : Env} {F : Nat → Prop} {B : Base E.P} {w : World} {o : Oper} {st : St} {K : St → Prop} {a : Act} {d : D}

def VP (pu : Bool) (E : Env) (B : Base E.P) (o : Oper) (st : St) (d : D) : Prop :=
  ∀ (F : Nat → Prop) (a : Act) (w : World), Rel F B st a w → ∃ x, (∀ w', (pu = false → Stp w w' []) → (execOp a.eval o).run E.P w' = .ok (.value x) w') ∧ DR F w d x []
abbrev V (E : Env) (B : Base E.P) (o : Oper) (st : St) (d : D) : Prop := VP false E B o st d
theorem OK.ofV (hv : V E B o st d) (h : K (setD st o.dst d)) : OK E B o st K :=
  OK.val (fun F a w hr => by
    obtain ⟨x, h1, h2⟩ := hv F a w hr
    exact ⟨x, h1 w (fun _ => Stp.refl _ _), h2⟩) h
def QOK (E : Env) (B : Base E.P) (o : Oper) (st : St) (K : St → Prop) : Prop :=
  ∀ (F : Nat → Prop) (a : Act) (w : World), Rel F B st a w → ∀ (next : Act → Prop), (∀ st' a', K st' → Rel F B st' a' w → next a') → o.quiet E.P a (fun w' => Stp w w' []) next
theorem QOK.val (hv : V E B o st d) (h : K (setD st o.dst d)) : QOK E B o st K := by
  intro F a w hr next hn
  obtain ⟨x, h1, h2⟩ := hv F a w hr
  refine ⟨x, fun w' hw' => ?_, hn _ _ h (hr.putD _ h2)⟩
  unfold Oper.quietAt
  rw [h1 w' (fun _ => hw')]
  exact ⟨rfl, rfl⟩
theorem QOK.call {f : FuncId} {xs : List Operand} {tys : Array TypeId} {as outs : List A} {x : Value} (hf : Fn E.P f as (.one (.one (.w (.v x)))) outs) (ho : o.op = .call { callee := .value (.func f), args := xs.toArray, argTypes := tys })
    (ha : AsAs st true none xs as) (h : K (setD st o.dst (.r (.v x)))) : QOK E B o st K := by
  intro F a w hr next hn
  refine ⟨x, fun w' hw' => ?_, hn _ _ h (hr.putD _ (by simp [DR, RT]))⟩
  have hr' := hr.grow hw'
  unfold Oper.quietAt
  rw [run_call hf.1 ho]
  refine ⟨rfl, Calls.mono (hf.2 w' _ [] (fx w' []) (hr'.tb (by simp)) (fun b hb => hb) (ha.read hr' hr'.out) (by simp) (by simp)) ?_⟩
  rintro e w'' ⟨y, b1, b2, rfl, hs, h1, _, h3, h4⟩
  simp only [OR, OR1, CR, OT] at h1
  rw [h1.1]
  exact ⟨rfl, hw'.trans hs⟩

def RQ (E : Env) (B : Base E.P) (all rest : List Oper) (st : St) (K : St → Prop) : Prop :=
  ∀ (F : Nat → Prop) (a : Act) (w : World), Rel F B st a w → ∀ (Q : Act → Prop), (∀ st' a', K st' → Rel F B st' a' w → Q a') → wpQuiet E.P all.toArray (fun w' => Stp w w' []) Q rest a
theorem RQ.nil {all : List Oper} (h : K st) : RQ E B all [] st K := fun F a w hr Q hQ => hQ st a h hr
theorem RQ.cons {all rest : List Oper} (hg : o.guard = none) (h : QOK E B o st (fun st' => RQ E B all rest st' K)) : RQ E B all (o :: rest) st K := by
  intro F a w hr Q hQ
  refine wpQuiet_step fun K' hK => ?_
  have hw' : Region.wanted o (yielded all.toArray a.tmps) = true := by simp [Region.wanted, hg]
  rw [if_pos hw']
  exact h F a w hr K' (fun st' a' hk hr' => hK _ (hk F a' w hr' Q hQ))
theorem RQ.guard {all rest : List Oper} {oj : Oper} {j : Nat} {want g : Bool} {d : Tmp} (hg : o.guard = some (j, want)) (hj : all[j]? = some oj) (hd : oj.dst = some d) (hv : gt st d = .r (.v (.bool g)))
    (h1 : g = want → QOK E B o (st.set d (.r (.v (.bool want)))) (fun st' => RQ E B all rest st' K))
    (h2 : g = !want → RQ E B all rest (setD (st.set d (.r (.v (.bool (!want))))) o.dst (.r (.v undef))) K) : RQ E B all (o :: rest) st K := by
  intro F a w hr Q hQ
  have hy := yielded_of hr hj hd hv
  refine wpQuiet_step fun K' hK => ?_
  by_cases hw : g = want
  · have hw' : Region.wanted o (yielded all.toArray a.tmps) = true := by simp [Region.wanted, hg, hy, hw]
    rw [if_pos hw']
    exact h1 hw F a w (hr.same hv (by rw [hw])) K' (fun st' a' hk hr' => hK _ (hk F a' w hr' Q hQ))
  · have hn : g = !want := by cases g <;> cases want <;> simp_all
    have hw' : Region.wanted o (yielded all.toArray a.tmps) = false := by simp [Region.wanted, hg, hy, hw]
    rw [if_neg (by simp [hw'])]
    exact hK _ (h2 hn F _ w ((hr.same hv (by rw [hn])).undefD o.dst) Q hQ)
theorem RQ.guardU {all rest : List Oper} {oj : Oper} {j : Nat} {want : Bool} {d : Tmp} (hg : o.guard = some (j, want)) (hj : all[j]? = some oj) (hd : oj.dst = some d) (hv : gt st d = .r (.v undef))
    (h2 : RQ E B all rest (setD st o.dst (.r (.v undef))) K) : RQ E B all (o :: rest) st K := by
  intro F a w hr Q hQ
  have hy := yielded_undef hr hj hd hv
  have hw' : Region.wanted o (yielded all.toArray a.tmps) = false := by simp [Region.wanted, hg, hy]
  refine wpQuiet_step fun K' hK => ?_
  rw [if_neg (by simp [hw'])]
  exact hK _ (h2 F _ w (hr.undefD o.dst) Q hQ)
theorem RQ.guardT {all rest : List Oper} {oj : Oper} {j : Nat} {want : Bool} {d : Tmp} (hg : o.guard = some (j, want)) (hj : all[j]? = some oj) (hd : oj.dst = some d) (hv : gt st d = .r (.v (.bool want)))
    (h1 : QOK E B o st (fun st' => RQ E B all rest st' K)) : RQ E B all (o :: rest) st K := by
  intro F a w hr Q hQ
  have hy := yielded_of hr hj hd hv
  have hw' : Region.wanted o (yielded all.toArray a.tmps) = true := by simp [Region.wanted, hg, hy]
  refine wpQuiet_step fun K' hK => ?_
  rw [if_pos hw']
  exact h1 F a w hr K' (fun st' a' hk hr' => hK _ (hk F a' w hr' Q hQ))
theorem RQ.guardF {all rest : List Oper} {oj : Oper} {j : Nat} {want : Bool} {d : Tmp} (hg : o.guard = some (j, want)) (hj : all[j]? = some oj) (hd : oj.dst = some d) (hv : gt st d = .r (.v (.bool (!want))))
    (h2 : RQ E B all rest (setD st o.dst (.r (.v undef))) K) : RQ E B all (o :: rest) st K := by
  intro F a w hr Q hQ
  have hy := yielded_of hr hj hd hv
  have hw' : Region.wanted o (yielded all.toArray a.tmps) = false := by cases want <;> simp [Region.wanted, hg, hy]
  refine wpQuiet_step fun K' hK => ?_
  rw [if_neg (by simp [hw'])]
  exact hK _ (h2 F _ w (hr.undefD o.dst) Q hQ)
theorem CW.drawn {id : Nat} {l : List Oper} {Q : Exit → St → Prop} (hB : Region.lexB .any l.toArray = true) (h : RQ E B l l st (Q .normal)) : CW E B (.region id l.toArray true) st Q := by
  intro F a w hr
  refine wp_region_quiet (C := fun w' => Stp w w' []) E.mixed hB ⟨rfl, rfl, rfl, Nat.le_refl _, fun _ _ _ => rfl⟩ ?_
  simp only []
  exact h F a w hr _ (fun st' a' hk hr' w' hw' => ⟨st', F, hk, hr'.grow hw'⟩)

theorem V.move {pu : Bool} {x : Operand} (ho : o.op = .move x) : VP pu E B o st (ev st x) := fun F a w hr => ⟨a.eval x, fun w' hs => by simp [execOp, ho], hr.ev x⟩
theorem V.assign {pu : Bool} {x : Operand} (ho : o.op = .assign x) : VP pu E B o st (ev st x) := fun F a w hr => ⟨a.eval x, fun w' hs => by simp [execOp, ho], hr.ev x⟩
theorem V.pickD {pu : Bool} {c x y : Operand} {t : Bool} (ho : o.op = .pick c x y) (hc : ev st c = .r (.v (.bool t))) : VP pu E B o st (if t then ev st x else ev st y) := fun F a w hr =>
  ⟨if t then a.eval x else a.eval y, fun w' hs => by simp [execOp, ho, ev_scalar hr hc, asBool], by cases t <;> simp <;> exact hr.ev _⟩
theorem V.pick {pu : Bool} {c x y : Operand} {t : Bool} {v u : Value} (ho : o.op = .pick c x y) (hc : ev st c = .r (.v (.bool t))) (hx : ev st x = .r (.v v)) (hy : ev st y = .r (.v u)) : VP pu E B o st (.r (.v (if t then v else u))) := fun F a w hr =>
  ⟨if t then v else u, fun w' hs => by
    rw [← ev_scalar hr hx, ← ev_scalar hr hy]
    simp [execOp, ho, ev_scalar hr hc, asBool], by simp [DR, RT]⟩
theorem V.cmpInt {pu : Bool} {op : BinOp} {t u : TypeId} {x y : Operand} {k : IntKind} {p q : Int} {r : Bool} (ho : o.op = .binOp op t x y u) (hx : ev st x = .r (.v (.int k p))) (hy : ev st y = .r (.v (.int k q)))
    (hc : Eng.cmpInt op p q = some r) : VP pu E B o st (.r (.v (.bool r))) := fun F a w hr =>
  ⟨.bool r, fun w' hs => by
    cases op <;> simp [Eng.cmpInt] at hc <;> subst hc <;> simp [execOp, ho, ev_scalar hr hx, ev_scalar hr hy, eqGuard, binOp, Op.intCmp], by simp [DR, RT]⟩
theorem V.arInt {pu : Bool} {op : BinOp} {t u : TypeId} {x y : Operand} {k : IntKind} {p q r : Int} (ho : o.op = .binOp op t x y u) (hx : ev st x = .r (.v (.int k p))) (hy : ev st y = .r (.v (.int k q)))
    (hc : Eng.arInt op k p q = some r) : VP pu E B o st (.r (.v (.int k r))) := fun F a w hr =>
  ⟨.int k r, fun w' hs => by
    cases op <;> simp [Eng.arInt] at hc <;> subst hc <;> simp [execOp, ho, ev_scalar hr hx, ev_scalar hr hy, eqGuard, binOp, Op.intArith], by simp [DR, RT]⟩
theorem V.strCmp {pu : Bool} {op : BinOp} {t u : TypeId} {x y : Operand} {p q : ByteArray} {r : Bool} (ho : o.op = .binOp op t x y u) (hx : ev st x = .r (.v (.string p))) (hy : ev st y = .r (.v (.string q)))
    (hc : strOp op p q = some r) : VP pu E B o st (.r (.v (.bool r))) := fun F a w hr =>
  ⟨.bool r, fun w' hs => by
    cases op <;> cases hc <;> simp [execOp, ho, ev_scalar hr hx, ev_scalar hr hy, eqGuard, binOp, Op.stringOp], by simp [DR, RT]⟩
theorem V.not {pu : Bool} {t : TypeId} {x : Operand} {b : Bool} (ho : o.op = .unOp .not t x) (hx : ev st x = .r (.v (.bool b))) : VP pu E B o st (.r (.v (.bool (!b)))) := fun F a w hr =>
  ⟨.bool (!b), fun w' hs => by simp [execOp, ho, ev_scalar hr hx, Op.unary], by simp [DR, RT]⟩
theorem V.eqBool {pu : Bool} {op : BinOp} {t u : TypeId} {x y : Operand} {p q r : Bool} (ho : o.op = .binOp op t x y u) (hx : ev st x = .r (.v (.bool p))) (hy : ev st y = .r (.v (.bool q))) (ht : E.P.underlying t = some .bool)
    (hop : (op = .eql ∧ r = (p == q)) ∨ (op = .neq ∧ r = !(p == q))) : VP pu E B o st (.r (.v (.bool r))) := fun F a w hr =>
  ⟨.bool r, fun w' hs => by
    have he : ∀ w : World, (Op.equal t (.bool p) (.bool q)).run E.P w = .ok (p == q) w := fun w => run_equalIn_bool w 9999 t p q ht
    rcases hop with ⟨rfl, rfl⟩ | ⟨rfl, rfl⟩ <;> simp [execOp, ho, ev_scalar hr hx, ev_scalar hr hy, eqGuard, binOp, Sem.run_bind, he], by simp [DR, RT]⟩
theorem V.lenT {pu : Bool} {t : TypeId} {x : Operand} {sz n : Nat} {ts : List T} (ho : o.op = .call { callee := .builtin .len, args := #[x], argTypes := #[t] }) {i : TyI} {e : TypeId} (ht : E.tabs t = some i) (he : i.td = .slice e)
    (hx : AsT st true none (ev st x) (.a sz n ts)) : VP pu E B o st (.r (.v (.int .i64 n))) := fun F ac w hr =>
  ⟨.int .i64 n, fun w' hs => by
    have hx' := hx.readAll hr
    simp only [RT] at hx'
    have hu := tyI_slice (E.ok _ _ ht) he
    rcases hx' with ⟨A, C, h1, h2, h3⟩ | ⟨b, of, cap, h1, _⟩
    · subst h2
      simp [execOp, ho, resolve, invoke, builtin, h1, Builtin.len_, run_underlying hu, goInt]
    · simp [execOp, ho, resolve, invoke, builtin, h1, Builtin.len_, run_underlying hu, goInt], by simp [DR, RT]⟩
theorem V.indexR {pu : Bool} {t e : TypeId} {x y : Operand} {i ie : TyI} {n : Nat} {ts : List T} {k : IntKind} {iv : Int} (ho : o.op = .indexAddr t x y) (ht : E.tabs t = some i) (he : i.td = .slice e) (hte : E.tabs e = some ie)
    (hx : ev st x = .r (.a ie.sz n ts)) (hy : ev st y = .r (.v (.int k iv))) (h0 : 0 ≤ iv) (h1 : iv < n) : VP pu E B o st (.rp (ts.drop (iv.toNat * ie.sz))) := fun F a w hr => by
    have hx' := hr.ev x
    rw [hx] at hx'
    simp only [DR, RT] at hx'
    rcases hx'.1 with ⟨_, _, _, h2, _⟩ | ⟨b, of, cap, g1, g2, g3, g4, g5, g6⟩
    · subst h2; omega
    · refine ⟨.pointer (some ⟨b, of + iv.toNat * ie.sz, none⟩), fun w' hs => by simp [execOp, ho, g1, ev_scalar hr hy, Sem.run_bind, run_indexAt_in ht he hte b of n cap k iv h0 h1], ?_⟩
      simp only [DR]
      refine ⟨⟨b, _, rfl, g4, RL_drop _ ?_ g6⟩, trivial⟩
      rw [g5]
      exact Nat.mul_le_mul_right _ (by omega)
theorem V.fieldR {pu : Bool} {s : TypeId} {x : Operand} {f off ty sz : Nat} {i : TyI} {fs : List (Nat × Nat × Nat)} {ts : List T} (ho : o.op = .fieldAddr s x f) (ht : E.tabs s = some i) (hf : i.td = .agg fs)
    (hn : fs[f]? = some (off, ty, sz)) (hz : sz ≠ 0) (hx : ev st x = .rp ts) (hl : off ≤ ts.length) : VP pu E B o st (.rp (ts.drop off)) := fun F a w hr => by
    obtain ⟨b, of, h1, h2, h3⟩ := ev_rp hr hx
    refine ⟨.pointer (some ⟨b, of + off, none⟩), fun w' hs => by simp [execOp, ho, h1, Sem.run_bind, run_fieldAt ht hf hn hz], ?_⟩
    simp only [DR]
    exact ⟨⟨b, of + off, rfl, h2, RL_drop off hl h3⟩, trivial⟩
theorem V.field {pu : Bool} {s : TypeId} {x : Operand} {f off ty sz : Nat} {i : TyI} {fs : List (Nat × Nat × Nat)} {k b of : Nat} (ho : o.op = .fieldAddr s x f) (ht : E.tabs s = some i) (hf : i.td = .agg fs)
    (hn : fs[f]? = some (off, ty, sz)) (hz : sz ≠ 0) (hx : ev st x = .pt k b of) : VP pu E B o st (.pt k b (of + off)) := fun F a w hr =>
  ⟨.pointer (some ⟨b, of + off, none⟩), fun w' hs => by simp [execOp, ho, ev_pt hr hx, Sem.run_bind, run_fieldAt ht hf hn hz], by simp [DR]⟩
theorem V.loadPrimR {t : TypeId} {x : Operand} {i : TyI} {ts : List T} {t0 : T} (ho : o.op = .load t x) (ht : E.tabs t = some i) (hf : i.td = .prim ∨ ∃ e, i.td = .slice e)
    (hx : ev st x = .rp ts) (hl : ts[0]? = some t0) : V E B o st (.r t0) := fun F a w hr => by
    obtain ⟨b, off, h1, h2, h3⟩ := ev_rp hr hx
    cases ts with
    | nil => simp at hl
    | cons t1 ts =>
      simp at hl
      subst hl
      simp only [RL] at h3
      obtain ⟨⟨c, h4, h5⟩, _⟩ := h3
      refine ⟨c, fun w' hs => ?_, by simp [DR, h5]⟩
      have h4' : w'.cell? ⟨b, off, none⟩ = some c := by rw [World.cell?_of_block (w := w) ((hs rfl).block b (hr.Flt b h2) (by simp))]; exact h4
      simp [execOp, ho, h1, Instr.loadAt, Instr.sureAddr, loadVar, Sem.run_bind, tyI_notAgg (E.ok _ _ ht) hf, h4']
theorem V.loadAggR {t : TypeId} {x : Operand} {i : TyI} {fs : List (Nat × Nat × Nat)} {ts : List T} (ho : o.op = .load t x) (ht : E.tabs t = some i) (hf : i.td = .agg fs)
    (hx : ev st x = .rp ts) (hl : i.sz ≤ ts.length) : V E B o st (.agg ((ts.take i.sz).map .r)) := fun F a w hr => by
    obtain ⟨b, off, h1, h2, h3⟩ := ev_rp hr hx
    obtain ⟨cs, h4, h5⟩ := RL_range h3
    have hlen := DLs_length h5
    rw [List.length_map] at hlen
    have hd := DLs_take i.sz h5
    rw [← List.map_take] at hd
    have hT := E.ok _ _ ht
    obtain ⟨j, d, z, t1, t2, t3, t4, t5, t6, t7⟩ := tyI_spec hT
    have hrow : d.isRow = true := by
      rw [hf] at t7
      cases d <;> simp [tdOf] at t7 <;> rfl
    have hsz : (E.P.info? t).map (·.size) = some (cs.take i.sz).length := by
      rw [tyI_size hT]
      simp only [List.length_take]
      congr 1
      omega
    refine ⟨.agg (cs.take i.sz).toArray, fun w' hs => ?_, ?_⟩
    · have h4' : w'.rangeAt b off cs := fun j v hj => by
        rw [World.cell?_of_block (w := w) ((hs rfl).block b (hr.Flt b h2) (by simp))]
        exact h4 j v hj
      simp [execOp, ho, h1, Sem.run_bind, run_loadAt_mid w' b off t _ d (rangeAt_take h4' i.sz) t2 hrow hsz]
    · simp only [DR]
      exact ⟨_, rfl, hd⟩
theorem Rel.objLt (hr : Rel F B st a w) {k b : Nat} {ds : List D} (hk : gt st k = .obj b ds) : b < w.heap.size := by
  obtain ⟨cs, ty, bs, h1, _⟩ := hr.obj hk
  exact (Array.getElem?_eq_some_iff.1 h1).1
theorem V.loadPrim {t : TypeId} {x : Operand} {i : TyI} {k b off : Nat} {ds : List D} {d : D} (ho : o.op = .load t x) (ht : E.tabs t = some i) (hf : i.td = .prim ∨ ∃ e, i.td = .slice e)
    (hx : ev st x = .pt k b off) (hk : gt st k = .obj b ds) (hl : (cpyL k 0 ds)[off]? = some d) : V E B o st d := fun F a w hr => by
    obtain ⟨cs, ty, bs, h1, h2⟩ := hr.obj hk
    obtain ⟨c, hc, hd⟩ := DLs_get (DLs_cpyL k ds 0 cs bs h2) hl
    refine ⟨c, fun w' hs => ?_, hd⟩
    have h1' : w'.heap[b]? = some (.cells cs.toArray ty (0, 0)) := by rw [(hs rfl).block b (hr.objLt hk) (by simp)]; exact h1
    have hcell : w'.cell? ⟨b, off, none⟩ = some c := by
      simp only [World.cell?, h1', Option.isSome_none, Bool.false_eq_true, if_false]
      simpa using hc
    simp [execOp, ho, ev_pt hr hx, Instr.loadAt, Instr.sureAddr, loadVar, Sem.run_bind, tyI_notAgg (E.ok _ _ ht) hf, hcell]
theorem V.loadAgg {t : TypeId} {x : Operand} {i : TyI} {fs : List (Nat × Nat × Nat)} {k b off : Nat} {ds : List D} (ho : o.op = .load t x) (ht : E.tabs t = some i) (hf : i.td = .agg fs)
    (hx : ev st x = .pt k b off) (hk : gt st k = .obj b ds) (hl : off + i.sz ≤ ds.length) : V E B o st (.agg (((cpyL k 0 ds).drop off).take i.sz)) := fun F a w hr => by
    obtain ⟨cs, ty, bs, h1, h2⟩ := hr.obj hk
    have hlen := DLs_length h2
    have hd := DLs_take i.sz (DLs_drop off (DLs_cpyL k ds 0 cs bs h2))
    have hT := E.ok _ _ ht
    obtain ⟨j, d, z, t1, t2, t3, t4, t5, t6, t7⟩ := tyI_spec hT
    have hrow : d.isRow = true := by
      rw [hf] at t7
      cases d <;> simp [tdOf] at t7 <;> rfl
    have hsz : (E.P.info? t).map (·.size) = some ((cs.drop off).take i.sz).length := by
      rw [tyI_size hT]
      simp only [List.length_take, List.length_drop]
      congr 1
      omega
    refine ⟨.agg ((cs.drop off).take i.sz).toArray, fun w' hs => ?_, ?_⟩
    · have h1' : w'.heap[b]? = some (.cells cs.toArray ty (0, 0)) := by rw [(hs rfl).block b (hr.objLt hk) (by simp)]; exact h1
      simp [execOp, ho, ev_pt hr hx, Sem.run_bind, run_loadAt_mid w' b off t _ d (rangeAt_take (rangeAt_of_block h1' off) i.sz) t2 hrow hsz]
    · simp only [DR]
      exact ⟨_, rfl, hd⟩
theorem V.eqAgg {pu : Bool} {op : BinOp} {t u : TypeId} {x y : Operand} {xs ys : List Value} {r b : Bool} (ho : o.op = .binOp op t x y u) (hx : ev st x = .agg (xs.map fun v => .r (.v v))) (hy : ev st y = .agg (ys.map fun v => .r (.v v)))
    (hg : E.P.eqGuardType E.P.depth t = false) (he : ∀ w : World, (Op.equal t (.agg xs.toArray) (.agg ys.toArray)).run E.P w = .ok r w) (hop : (op = .eql ∧ b = r) ∨ (op = .neq ∧ b = !r)) : VP pu E B o st (.r (.v (.bool b))) := fun F a w hr => by
    have key : ∀ (x : Operand) (xs : List Value), ev st x = .agg (xs.map fun v => .r (.v v)) → a.eval x = .agg xs.toArray := by
      intro x xs hx
      have h := hr.ev x
      rw [hx] at h
      simp only [DR] at h
      obtain ⟨cs, h1, h2⟩ := h
      have : ∀ (xs cs : List Value), DLs F w (xs.map fun v => .r (.v v)) cs [] → cs = xs := by
        intro xs
        induction xs with
        | nil => intro cs h; simp only [List.map_nil, DLs] at h; exact h.1
        | cons v vs ih =>
          intro cs h
          simp only [List.map_cons, DLs, DR, RT] at h
          obtain ⟨c, cs', b1, b2, rfl, hb, ⟨rfl, rfl⟩, h4⟩ := h
          have : b2 = [] := by simpa using hb.symm
          subst this
          rw [ih cs' h4]
      rw [h1, this xs cs h2]
    refine ⟨.bool b, fun w' hs => ?_, by simp [DR, RT]⟩
    rcases hop with ⟨rfl, rfl⟩ | ⟨rfl, rfl⟩ <;> simp [execOp, ho, key x xs hx, key y ys hy, eqGuard, hg, binOp, Sem.run_bind, he]
end
end Go.Eng
