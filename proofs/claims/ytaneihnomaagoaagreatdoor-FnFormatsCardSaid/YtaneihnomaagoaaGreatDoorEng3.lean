import Derived.Test.YtaneihnomaagoaaGreatDoorEng2
import Derived.Deep.MidRow
import Derived.ChangeKeysEq
namespace Go.Eng
open Go Go.RowKit

inductive TD where
  | prim
  | agg (fs : List (Nat × Nat × Nat))
  | slice (e : TypeId)
  | other
structure TyI where
  sz : Nat
  bytes : Nat
  zero : List Value
  td : TD
def tdOf (P : Program) : TypeDesc → TD
  | .struct fs => .agg (fs.toList.map fun f => (f.offset, f.type, P.cellsOf f.type))
  | .slice e => .slice e
  | .array _ _ => .other
  | _ => .prim
def tyI (P : Program) (t : TypeId) : Option TyI :=
  match P.info? t, P.underlying t with
  | some i, some d => match i.zero with
    | some z => some ⟨i.size, i.bytes, z.cells.toList, tdOf P d⟩
    | none => none
  | _, _ => none
structure Env where
  P : Program
  tabs : Nat → Option TyI
  ok : ∀ t i, tabs t = some i → tyI P t = some i
  mixed : P.follows .mixedOrders = true

theorem tyI_spec {P : Program} {t : TypeId} {i : TyI} (h : tyI P t = some i) : ∃ (j : TypeInfo) (d : TypeDesc) (z : Value),
    P.info? t = some j ∧ P.underlying t = some d ∧ j.zero = some z ∧ j.size = i.sz ∧ j.bytes = i.bytes ∧ z.cells.toList = i.zero ∧ tdOf P d = i.td := by
  unfold tyI at h
  split at h
  · rename_i j d h1 h2
    split at h
    · rename_i z h3
      cases h
      exact ⟨j, d, z, h1, h2, h3, rfl, rfl, rfl, rfl⟩
    · cases h
  · cases h
theorem tyI_slice {P : Program} {t e : TypeId} {i : TyI} (h : tyI P t = some i) (he : i.td = .slice e) : P.underlying t = some (.slice e) := by
  obtain ⟨j, d, z, h1, h2, h3, h4, h5, h6, h7⟩ := tyI_spec h
  rw [he] at h7
  cases d <;> simp [tdOf] at h7
  rw [h2, h7]
theorem tyI_size {P : Program} {t : TypeId} {i : TyI} (h : tyI P t = some i) : (P.info? t).map (·.size) = some i.sz := by
  obtain ⟨j, d, z, h1, h2, h3, h4, h5, h6, h7⟩ := tyI_spec h
  simp [h1, h4]
theorem tyI_sizeOf {P : Program} {t : TypeId} {i : TyI} (h : tyI P t = some i) (w : World) : (sizeOf t).run P w = .ok i.sz w := by
  obtain ⟨j, d, z, h1, h2, h3, h4, h5, h6, h7⟩ := tyI_spec h
  simp [sizeOf, typeInfo, h1, h4]
theorem tyI_notAgg {P : Program} {t : TypeId} {i : TyI} (h : tyI P t = some i) (hf : i.td = .prim ∨ ∃ e, i.td = .slice e) (w : World) : (isAgg t).run P w = .ok false w := by
  obtain ⟨j, d, z, h1, h2, h3, h4, h5, h6, h7⟩ := tyI_spec h
  rcases hf with hf | ⟨e, hf⟩ <;> rw [hf] at h7 <;> cases d <;> simp [tdOf] at h7 <;> simp [isAgg, Sem.run_bind, run_underlying h2]
theorem tyI_zero {P : Program} {t : TypeId} {i : TyI} (h : tyI P t = some i) (w : World) : ∃ z : Value, z.cells.toList = i.zero ∧ (zeroValue t).run P w = .ok z w := by
  obtain ⟨j, d, z, h1, h2, h3, h4, h5, h6, h7⟩ := tyI_spec h
  exact ⟨z, h6, by simp [zeroValue, typeInfo, h1, h3]⟩

section
variable {E : Env} {F : Nat → Prop} {B : Base E.P} {o : Oper} {st : St} {K : St → Prop}

def OK (E : Env) (B : Base E.P) (o : Oper) (st : St) (K : St → Prop) : Prop :=
  ∀ (F : Nat → Prop) (a : Act) (w : World), Rel F B st a w → ∀ (next : Act → World → Prop) (Q : Exit → Act → World → Prop), (∀ F' st' a' w', K st' → Rel F' B st' a' w' → next a' w') → o.wp E.P a w next Q

def setD (st : St) (d : Option Tmp) (x : D) : St := match d with | some k => st.set k x | none => st
@[simp] theorem setD_some (st : St) (k : Nat) (x : D) : setD st (some k) x = st.set k x := rfl
@[simp] theorem setD_none (st : St) (x : D) : setD st none x = st := rfl

theorem Rel.putD {a : Act} {w : World} (h : Rel F B st a w) (k : Option Tmp) {d : D} {x : Value} (hd : DR F w d x []) : Rel F B (setD st k d) (a.put k x) w := by
  cases k with
  | none => exact h
  | some k => exact h.put k hd

theorem OK.val {d : D} (hd : ∀ (F : Nat → Prop) (a : Act) (w : World), Rel F B st a w → ∃ x, (execOp a.eval o).run E.P w = .ok (.value x) w ∧ DR F w d x []) (h : K (setD st o.dst d)) : OK E B o st K := by
  intro F a w hr next Q hn
  obtain ⟨x, h1, h2⟩ := hd F a w hr
  unfold Oper.wp
  rw [h1, Oper.upon_value]
  exact hn _ _ _ _ h (hr.putD _ h2)

theorem OK.move {x : Operand} (ho : o.op = .move x) (h : K (setD st o.dst (ev st x))) : OK E B o st K :=
  OK.val (fun F a w hr => ⟨a.eval x, by simp [execOp, ho], hr.ev x⟩) h
theorem ev_scalar {a : Act} {w : World} (hr : Rel F B st a w) {x : Operand} {v : Value} (hx : ev st x = .r (.v v)) : a.eval x = v := by
  have := hr.ev x
  rw [hx] at this
  simpa [DR, RT] using this

theorem OK.pick {c x y : Operand} {t : Bool} {v u : Value} (ho : o.op = .pick c x y) (hc : ev st c = .r (.v (.bool t))) (hx : ev st x = .r (.v v)) (hy : ev st y = .r (.v u))
    (h : K (setD st o.dst (.r (.v (if t then v else u))))) : OK E B o st K :=
  OK.val (fun F a w hr => ⟨if t then v else u, by
    rw [← ev_scalar hr hx, ← ev_scalar hr hy]
    simp [execOp, ho, ev_scalar hr hc, asBool], by simp [DR, RT]⟩) h
theorem OK.pickD {c x y : Operand} {t : Bool} (ho : o.op = .pick c x y) (hc : ev st c = .r (.v (.bool t)))
    (h : K (setD st o.dst (if t then ev st x else ev st y))) : OK E B o st K :=
  OK.val (fun F a w hr => ⟨if t then a.eval x else a.eval y, by
    simp [execOp, ho, ev_scalar hr hc, asBool], by cases t <;> simp <;> exact hr.ev _⟩) h

def cmpInt (op : BinOp) (a b : Int) : Option Bool :=
  match op with
  | .eql => some (a == b)
  | .neq => some (a != b)
  | .lss => some (decide (a < b))
  | .leq => some (decide (a ≤ b))
  | .gtr => some (decide (a > b))
  | .geq => some (decide (a ≥ b))
  | _ => none
theorem OK.cmpInt {op : BinOp} {t u : TypeId} {x y : Operand} {k : IntKind} {a b : Int} {r : Bool} (ho : o.op = .binOp op t x y u) (hx : ev st x = .r (.v (.int k a))) (hy : ev st y = .r (.v (.int k b)))
    (hc : Eng.cmpInt op a b = some r) (h : K (setD st o.dst (.r (.v (.bool r))))) : OK E B o st K :=
  OK.val (fun F ac w hr => ⟨.bool r, by
    cases op <;> simp [Eng.cmpInt] at hc <;> subst hc <;> simp [execOp, ho, ev_scalar hr hx, ev_scalar hr hy, eqGuard, binOp, Op.intCmp], by simp [DR, RT]⟩) h
def arInt (op : BinOp) (k : IntKind) (a b : Int) : Option Int :=
  match op with
  | .add => some (k.wrap (a + b))
  | .sub => some (k.wrap (a - b))
  | .mul => some (k.wrap (a * b))
  | _ => none
theorem OK.arInt {op : BinOp} {t u : TypeId} {x y : Operand} {k : IntKind} {a b r : Int} (ho : o.op = .binOp op t x y u) (hx : ev st x = .r (.v (.int k a))) (hy : ev st y = .r (.v (.int k b)))
    (hc : Eng.arInt op k a b = some r) (h : K (setD st o.dst (.r (.v (.int k r))))) : OK E B o st K :=
  OK.val (fun F ac w hr => ⟨.int k r, by
    cases op <;> simp [Eng.arInt] at hc <;> subst hc <;> simp [execOp, ho, ev_scalar hr hx, ev_scalar hr hy, eqGuard, binOp, Op.intArith], by simp [DR, RT]⟩) h
theorem OK.quo {t u : TypeId} {x y : Operand} {k : IntKind} {a b : Int} (ho : o.op = .binOp .quo t x y u) (hx : ev st x = .r (.v (.int k a))) (hy : ev st y = .r (.v (.int k b)))
    (hb : b ≠ 0) (h : K (setD st o.dst (.r (.v (.int k (k.wrap (a.tdiv b))))))) : OK E B o st K :=
  OK.val (fun F ac w hr => ⟨.int k (k.wrap (a.tdiv b)), by simp [execOp, ho, ev_scalar hr hx, ev_scalar hr hy, eqGuard, binOp, Op.intDiv, hb], by simp [DR, RT]⟩) h
theorem OK.rem {t u : TypeId} {x y : Operand} {k : IntKind} {a b : Int} (ho : o.op = .binOp .rem t x y u) (hx : ev st x = .r (.v (.int k a))) (hy : ev st y = .r (.v (.int k b)))
    (hb : b ≠ 0) (h : K (setD st o.dst (.r (.v (.int k (a.tmod b)))))) : OK E B o st K :=
  OK.val (fun F ac w hr => ⟨.int k (a.tmod b), by simp [execOp, ho, ev_scalar hr hx, ev_scalar hr hy, eqGuard, binOp, Op.intDiv, hb], by simp [DR, RT]⟩) h
def strOp (op : BinOp) (a b : ByteArray) : Option Bool :=
  match op with
  | .eql => some (a.toList == b.toList)
  | .neq => some (!(a.toList == b.toList))
  | .lss => some (Op.bytesLess a.toList b.toList)
  | .leq => some (Op.bytesLess a.toList b.toList || a.toList == b.toList)
  | .gtr => some (!(Op.bytesLess a.toList b.toList || a.toList == b.toList))
  | .geq => some (!(Op.bytesLess a.toList b.toList))
  | _ => none
theorem OK.strCmp {op : BinOp} {t u : TypeId} {x y : Operand} {a b : ByteArray} {r : Bool} (ho : o.op = .binOp op t x y u) (hx : ev st x = .r (.v (.string a))) (hy : ev st y = .r (.v (.string b)))
    (hc : strOp op a b = some r) (h : K (setD st o.dst (.r (.v (.bool r))))) : OK E B o st K :=
  OK.val (fun F ac w hr => ⟨.bool r, by
    cases op <;> cases hc <;> simp [execOp, ho, ev_scalar hr hx, ev_scalar hr hy, eqGuard, binOp, Op.stringOp], by simp [DR, RT]⟩) h
theorem OK.not {t : TypeId} {x : Operand} {b : Bool} (ho : o.op = .unOp .not t x) (hx : ev st x = .r (.v (.bool b))) (h : K (setD st o.dst (.r (.v (.bool (!b)))))) : OK E B o st K :=
  OK.val (fun F ac w hr => ⟨.bool (!b), by simp [execOp, ho, ev_scalar hr hx, Op.unary], by simp [DR, RT]⟩) h

theorem OK.len {t : TypeId} {x : Operand} {sz n : Nat} {ts : List T} (ho : o.op = .call { callee := .builtin .len, args := #[x], argTypes := #[t] }) {i : TyI} {e : TypeId} (ht : E.tabs t = some i) (he : i.td = .slice e)
    (hx : ev st x = .r (.a sz n ts)) (h : K (setD st o.dst (.r (.v (.int .i64 n))))) : OK E B o st K :=
  OK.val (fun F ac w hr => ⟨.int .i64 n, by
    have hx' := hr.ev x
    rw [hx] at hx'
    simp only [DR, RT] at hx'
    have hu := tyI_slice (E.ok _ _ ht) he
    rcases hx'.1 with ⟨A, C, h1, h2, h3⟩ | ⟨b, of, cap, h1, _⟩
    · subst h2
      simp [execOp, ho, resolve, invoke, builtin, h1, Builtin.len_, run_underlying hu, goInt]
    · simp [execOp, ho, resolve, invoke, builtin, h1, Builtin.len_, run_underlying hu, goInt], by simp [DR, RT]⟩) h
theorem OK.lenAl {t : TypeId} {x : Operand} {k : Nat} {j : Option Nat} {sz n off : Nat} {V : Value} (ho : o.op = .call { callee := .builtin .len, args := #[x], argTypes := #[t] }) {i : TyI} {e : TypeId} (ht : E.tabs t = some i) (he : i.td = .slice e)
    (hx : ev st x = .al k j sz n V off) (hV : ∃ A m C, V = .slice A m C) (h : K (setD st o.dst (.r (.v (.int .i64 n))))) : OK E B o st K :=
  OK.val (fun F ac w hr => ⟨.int .i64 n, by
    have hx' := hr.ev x
    rw [hx] at hx'
    obtain ⟨A, m, C, rfl⟩ := hV
    simp only [DR, subV] at hx'
    have hu := tyI_slice (E.ok _ _ ht) he
    simp [execOp, ho, resolve, invoke, builtin, hx'.1, Builtin.len_, run_underlying hu, goInt], by simp [DR, RT]⟩) h
end
end Go.Eng
