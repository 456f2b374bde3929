import Derived.Test.YtdipdkfbaehglaaGreatDoorEng25
namespace Go.Eng
open Go Go.RowKit

section
variable {fc : Facts} {E : Env} {F : Nat → Prop} {B : Base E.P} {w : World} {o : Oper} {st : St} {K : St → Prop} {a : Act} {d : D} {all rest : List Oper} {Q : Exit → St → Prop} {fu : Nat} {ls : Array Bool}
theorem RA.pullT {k l b j sz n : Nat} {ds : List D} {ts : List T} {X : Value} (k' l' j0 : Nat) (h1 : k' = k) (h2 : l' = l) (h3 : j0 = j) (hkl : k ≠ l) (hk : gt st k = .obj b ds) (hj : ds[j]? = some (.al l none sz n X 0)) (hl : gt st l = .w (.a sz n ts) X)
    (h : RA fc E B all fu ls ((st.set k (.obj b (ds.set j (.w (.a sz n ts) X)))).set l .u) K) : RA fc E B all fu ls st K := fun F a w hr => h F a w (hr.pullT hkl hk hj hl)
theorem RA.pullO {k l b b' j j' sz n : Nat} {ds es : List D} {ts : List T} {X : Value} (k' l' j0 : Nat) (h1 : k' = k) (h2 : l' = l) (h3 : j0 = j) (hkl : k ≠ l) (hk : gt st k = .obj b ds) (hj : ds[j]? = some (.al l (some j') sz n X 0)) (hl : gt st l = .obj b' es)
    (hj' : es[j']? = some (.w (.a sz n ts) X)) (h : RA fc E B all fu ls ((st.set k (.obj b (ds.set j (.w (.a sz n ts) X)))).set l (.obj b' (es.set j' .u))) K) : RA fc E B all fu ls st K := fun F a w hr => h F a w (hr.pullO hkl hk hj hl hj')
theorem RA.pullA {k l b j j' sz n : Nat} {ds es : List D} {ts : List T} {X : Value} (k' l' j0 : Nat) (h1 : k' = k) (h2 : l' = l) (h3 : j0 = j) (hkl : k ≠ l) (hk : gt st k = .obj b ds) (hj : ds[j]? = some (.al l (some j') sz n X 0)) (hl : gt st l = .agg es)
    (hj' : es[j']? = some (.w (.a sz n ts) X)) (h : RA fc E B all fu ls ((st.set k (.obj b (ds.set j (.w (.a sz n ts) X)))).set l (.agg (es.set j' .u))) K) : RA fc E B all fu ls st K := fun F a w hr => h F a w (hr.pullA hkl hk hj hl hj')

theorem RA.freezeB (k : Nat) {b : Nat} {ds : List D} {ts : List T} (hk : Eng.gt st k = .obj b ds) (hd : DRd ds ts) (h : RA fc E B all fu ls (st.set k (.rp ts)) K) : RA fc E B all fu ls st K := fun F a w hr => by
  obtain ⟨H, hr'⟩ := hr.freezeB hk hd
  exact h H a w hr'
theorem RA.freeze (k : Nat) {d d' : D} (hk : Eng.gt st k = d) (hd : frz d = d') (h : RA fc E B all fu ls (st.set k d') K) : RA fc E B all fu ls st K := fun F a w hr => by
  obtain ⟨H, hr'⟩ := hr.freeze k
  rw [hk, hd] at hr'
  exact h H a w hr'
theorem RA.pullS (k l : Nat) {sz n : Nat} {ts : List T} {X : Value} (hkl : k ≠ l) (hk : Eng.gt st k = .al l none sz n X 0) (hl : Eng.gt st l = .w (.a sz n ts) X)
    (h : RA fc E B all fu ls ((st.set k (.w (.a sz n ts) X)).set l .u) K) : RA fc E B all fu ls st K := fun F a w hr => h F a w (hr.pull hkl hk hl)
theorem RO.pullT {q : Nat} {k l b j sz n : Nat} {ds : List D} {ts : List T} {X : Value} (k' l' j0 : Nat) (h1 : k' = k) (h2 : l' = l) (h3 : j0 = j) (hkl : k ≠ l) (hk : gt st k = .obj b ds) (hj : ds[j]? = some (.al l none sz n X 0)) (hl : gt st l = .w (.a sz n ts) X)
    (h : RO fc E B all fu ls ((st.set k (.obj b (ds.set j (.w (.a sz n ts) X)))).set l .u) K q) : RO fc E B all fu ls st K q := by
  obtain ⟨o, g1, g2, g3⟩ := h
  exact ⟨o, g1, g2, fun F a w hr => g3 F a w (hr.pullT hkl hk hj hl)⟩
theorem RO.pullO {q : Nat} {k l b b' j j' sz n : Nat} {ds es : List D} {ts : List T} {X : Value} (k' l' j0 : Nat) (h1 : k' = k) (h2 : l' = l) (h3 : j0 = j) (hkl : k ≠ l) (hk : gt st k = .obj b ds) (hj : ds[j]? = some (.al l (some j') sz n X 0)) (hl : gt st l = .obj b' es)
    (hj' : es[j']? = some (.w (.a sz n ts) X)) (h : RO fc E B all fu ls ((st.set k (.obj b (ds.set j (.w (.a sz n ts) X)))).set l (.obj b' (es.set j' .u))) K q) : RO fc E B all fu ls st K q := by
  obtain ⟨o, g1, g2, g3⟩ := h
  exact ⟨o, g1, g2, fun F a w hr => g3 F a w (hr.pullO hkl hk hj hl hj')⟩
theorem RO.pullA {q : Nat} {k l b j j' sz n : Nat} {ds es : List D} {ts : List T} {X : Value} (k' l' j0 : Nat) (h1 : k' = k) (h2 : l' = l) (h3 : j0 = j) (hkl : k ≠ l) (hk : gt st k = .obj b ds) (hj : ds[j]? = some (.al l (some j') sz n X 0)) (hl : gt st l = .agg es)
    (hj' : es[j']? = some (.w (.a sz n ts) X)) (h : RO fc E B all fu ls ((st.set k (.obj b (ds.set j (.w (.a sz n ts) X)))).set l (.agg (es.set j' .u))) K q) : RO fc E B all fu ls st K q := by
  obtain ⟨o, g1, g2, g3⟩ := h
  exact ⟨o, g1, g2, fun F a w hr => g3 F a w (hr.pullA hkl hk hj hl hj')⟩
theorem RO.freezeB {q : Nat} (k : Nat) {b : Nat} {ds : List D} {ts : List T} (hk : Eng.gt st k = .obj b ds) (hd : DRd ds ts) (h : RO fc E B all fu ls (st.set k (.rp ts)) K q) : RO fc E B all fu ls st K q := by
  obtain ⟨o, h1, h2, h3⟩ := h
  exact ⟨o, h1, h2, fun F a w hr => by
    obtain ⟨H, hr'⟩ := hr.freezeB hk hd
    exact h3 H a w hr'⟩
theorem RO.freeze {q : Nat} (k : Nat) {d d' : D} (hk : Eng.gt st k = d) (hd : frz d = d') (h : RO fc E B all fu ls (st.set k d') K q) : RO fc E B all fu ls st K q := by
  obtain ⟨o, h1, h2, h3⟩ := h
  exact ⟨o, h1, h2, fun F a w hr => by
    obtain ⟨H, hr'⟩ := hr.freeze k
    rw [hk, hd] at hr'
    exact h3 H a w hr'⟩
theorem RO.pullS {q : Nat} (k l : Nat) {sz n : Nat} {ts : List T} {X : Value} (hkl : k ≠ l) (hk : Eng.gt st k = .al l none sz n X 0) (hl : Eng.gt st l = .w (.a sz n ts) X)
    (h : RO fc E B all fu ls ((st.set k (.w (.a sz n ts) X)).set l .u) K q) : RO fc E B all fu ls st K q := by
  obtain ⟨o, h1, h2, h3⟩ := h
  exact ⟨o, h1, h2, fun F a w hr => h3 F a w (hr.pull hkl hk hl)⟩
end
end Go.Eng

namespace Go.Eng
open Go Go.RowKit

section
variable {fc : Facts} {E : Env} {F : Nat → Prop} {B : Base E.P} {w : World} {o : Oper} {st : St} {K : St → Prop} {a : Act} {d : D} {all rest : List Oper} {Q : Exit → St → Prop} {fu : Nat} {ls : Array Bool}
theorem Le.of {s : St} : ∀ {l : List (Nat × D)}, l.map (fun p => Eng.gt s p.1) = l.map Prod.snd → Le s l
  | [], _ => trivial
  | (k, d) :: l, h => by
    simp only [List.map_cons, List.cons.injEq] at h
    exact ⟨h.1, Le.of h.2⟩
theorem V.minI {pu : Bool} {t u : TypeId} {x y : Operand} {p q : Int} (ho : o.op = .call { callee := .builtin .min, args := #[x, y], argTypes := #[t, u] }) (hx : ev st x = .r (.v (.int .i64 p))) (hy : ev st y = .r (.v (.int .i64 q))) : VP pu E B o st (.r (.v (.int .i64 (if q < p then q else p)))) := fun F ac w hr =>
  ⟨.int .i64 (if q < p then q else p), fun w' hs => by
    simp [execOp, ho, resolve, invoke, builtin, ev_scalar hr hx, ev_scalar hr hy, Builtin.min_, Builtin.min2], by simp [DR, RT]⟩
end
section
variable {E : Env} {st : St} {g : Nat → Nat → Value} {bo : Nat → Nat} {as outs : List A}
theorem AOs.obE {α : Type} {f : α → List C} {i : Nat} {cs : List C} {ds : List D} {e' e : α} {as outs : List A} (hk : gt st i = .obj (bo i) ds) (hd : DT ds (f e')) (h : e' = e) (hs : AOs st g bo (i + 1) as outs) : AOs st g bo i (.ob cs :: as) (.ob (f e) :: outs) := by
  subst h
  exact AOs.ob (b := 0) hk hd hs
end
end Go.Eng

namespace Go.Eng
open Go Go.RowKit
def andI (a b : Int) : Int := IntKind.i64.wrap ((BitVec.ofInt 64 a &&& BitVec.ofInt 64 b).toNat : Int)
def orI (a b : Int) : Int := IntKind.i64.wrap ((BitVec.ofInt 64 a ||| BitVec.ofInt 64 b).toNat : Int)
def xorI (a b : Int) : Int := IntKind.i64.wrap ((BitVec.ofInt 64 a ^^^ BitVec.ofInt 64 b).toNat : Int)
def shlI (a n : Int) : Int := IntKind.i64.wrap (a * 2 ^ (min n.toNat 64))
def shrI (a n : Int) : Int := a.fdiv (2 ^ (min n.toNat 64))
def bitI : BinOp → Int → Int → Option Int
  | .and, a, b => some (andI a b)
  | .or, a, b => some (orI a b)
  | .xor, a, b => some (xorI a b)
  | _, _, _ => none
section
variable {E : Env} {B : Base E.P} {st : St} {o : Oper}
theorem V.bits {pu : Bool} {op : BinOp} {t u : TypeId} {x y : Operand} {p q r : Int} (ho : o.op = .binOp op t x y u) (hx : ev st x = .r (.v (.int .i64 p))) (hy : ev st y = .r (.v (.int .i64 q)))
    (hc : bitI op p q = some r) : VP pu E B o st (.r (.v (.int .i64 r))) := fun F a w hr =>
  ⟨.int .i64 r, fun w' hs => by
    cases op <;> simp only [bitI, Option.some.injEq, reduceCtorEq] at hc <;> subst hc <;> simp [execOp, ho, ev_scalar hr hx, ev_scalar hr hy, eqGuard, binOp, Op.intBits, andI, orI, xorI] <;> rfl, by simp [DR, RT]⟩
theorem V.shl {pu : Bool} {t u : TypeId} {x y : Operand} {k : IntKind} {p q : Int} (ho : o.op = .binOp .shl t x y u) (hx : ev st x = .r (.v (.int .i64 p))) (hy : ev st y = .r (.v (.int k q)))
    (hn : 0 ≤ q) : VP pu E B o st (.r (.v (.int .i64 (shlI p q)))) := fun F a w hr =>
  ⟨.int .i64 (shlI p q), fun w' hs => by
    have h0 : ¬ q < 0 := by omega
    simp [execOp, ho, ev_scalar hr hx, ev_scalar hr hy, eqGuard, binOp, Op.shift, h0, shlI] <;> rfl, by simp [DR, RT]⟩
theorem V.shr {pu : Bool} {t u : TypeId} {x y : Operand} {k : IntKind} {p q : Int} (ho : o.op = .binOp .shr t x y u) (hx : ev st x = .r (.v (.int .i64 p))) (hy : ev st y = .r (.v (.int k q)))
    (hn : 0 ≤ q) : VP pu E B o st (.r (.v (.int .i64 (shrI p q)))) := fun F a w hr =>
  ⟨.int .i64 (shrI p q), fun w' hs => by
    have h0 : ¬ q < 0 := by omega
    simp [execOp, ho, ev_scalar hr hx, ev_scalar hr hy, eqGuard, binOp, Op.shift, h0, shrI] <;> rfl, by simp [DR, RT]⟩
theorem V.neg {pu : Bool} {t : TypeId} {x : Operand} {p : Int} (ho : o.op = .unOp .neg t x) (hx : ev st x = .r (.v (.int .i64 p))) : VP pu E B o st (.r (.v (.int .i64 (IntKind.i64.wrap (0 - p))))) := fun F a w hr =>
  ⟨.int .i64 (IntKind.i64.wrap (0 - p)), fun w' hs => by simp [execOp, ho, ev_scalar hr hx, Op.unary, Op.intArith], by simp [DR, RT]⟩
def mnI (p q : Int) : Int := if q < p then q else p
theorem V.min2I {pu : Bool} {t u : TypeId} {x y : Operand} {p q : Int} (ho : o.op = .call { callee := .builtin .min, args := #[x, y], argTypes := #[t, u] }) (hx : ev st x = .r (.v (.int .i64 p))) (hy : ev st y = .r (.v (.int .i64 q))) : VP pu E B o st (.r (.v (.int .i64 (mnI p q)))) := V.minI ho hx hy
theorem V.strSlice {pu : Bool} {t : TypeId} {x : Operand} {lo hi : Option Operand} {s : ByteArray} {l h : Int} (ho : o.op = .slice t x lo hi none) (ht : E.P.underlying t = some .string)
    (hx : ev st x = .r (.v (.string s))) (hlo : (lo = none ∧ l = 0) ∨ ∃ y k, lo = some y ∧ ev st y = .r (.v (.int k l))) (hhi : (hi = none ∧ h = s.size) ∨ ∃ y k, hi = some y ∧ ev st y = .r (.v (.int k h)))
    (hb : 0 ≤ l ∧ l ≤ h ∧ h ≤ s.size) : VP pu E B o st (.r (.v (.string (s.extract l.toNat h.toNat)))) := fun F a w hr => by
  obtain ⟨h0, h1, h2⟩ := hb
  have q1 : 0 ≤ h := by omega
  have q2 : (h.toNat : Int) = h := Int.toNat_of_nonneg q1
  refine ⟨.string (s.extract l.toNat h.toNat), fun w' hs => ?_, by simp [DR, RT]⟩
  rcases hhi with ⟨rfl, rfl⟩ | ⟨y, k, rfl, hy⟩ <;> rcases hlo with ⟨rfl, rfl⟩ | ⟨z, k', rfl, hz⟩
  · simp [execOp, ho, ev_scalar hr hx, Instr.sliceAt, run_underlying ht, Instr.slice, Sem.run_bind, Instr.sliceBounds]
  · simp [execOp, ho, ev_scalar hr hx, Instr.sliceAt, run_underlying ht, Instr.slice, Sem.run_bind, Instr.sliceBounds, ev_scalar hr hz, run_sliceBound w' k' l s.size .sliceB h0 (by omega)]
  · simp [execOp, ho, ev_scalar hr hx, Instr.sliceAt, run_underlying ht, Instr.slice, Sem.run_bind, Instr.sliceBounds, ev_scalar hr hy, run_sliceBound w' k h s.size .sliceAlen q1 (by omega)]
  · simp [execOp, ho, ev_scalar hr hx, Instr.sliceAt, run_underlying ht, Instr.slice, Sem.run_bind, Instr.sliceBounds, ev_scalar hr hy, ev_scalar hr hz, run_sliceBound w' k h s.size .sliceAlen q1 (by omega), run_sliceBound w' k' l h.toNat .sliceB h0 (by omega)]
end
section
variable {E : Env} {B : Base E.P} {st : St}
theorem RV.p {α : Type} {k b : Nat} {f : α → List C} {ds : List D} {e' e : α} (hk : gt st k = .obj b ds) (hd : DT ds (f e')) (h : e' = e) : RV E st (.tmp k) (.ob (f e)) := by
  subst h
  exact ⟨b, ds, hk, hd⟩
end
end Go.Eng

namespace Go.Eng
open Go Go.RowKit
section
variable {fc : Facts} {E : Env} {B : Base E.P} {o : Oper} {st : St}
theorem VF.loadPrim {m : Nat} {t : TypeId} {x : Operand} {i : TyI} {k b off : Nat} {ds : List D} {d : D} {xs : List Value} (hm : fc[m]? = some (k, b, xs)) (ho : o.op = .load t x) (ht : E.tabs t = some i) (hf : i.td = .prim ∨ ∃ e, i.td = .slice e)
    (hx : ev st x = .pt k b off) (hk : gt st k = .obj b ds) (hd : dvals ds = some xs) (hl : (cpyL k 0 ds)[off]? = some d) : VF fc E B o st d := fun F a w hr => by
  obtain ⟨cs, ty, bs, h1, h2⟩ := hr.obj hk
  obtain ⟨c, hc, hdr⟩ := DLs_get (DLs_cpyL k ds 0 cs bs h2) hl
  refine ⟨c, fun w' hs => ?_, hdr⟩
  obtain ⟨ty', h3⟩ := hs _ (List.mem_of_getElem? hm)
  have h1' : w'.heap[b]? = some (.cells cs.toArray ty' (0, 0)) := by rw [h3, dvals_eq hd h2]
  have hcell : w'.cell? ⟨b, off, none⟩ = some c := by
    simp only [World.cell?, h1', Option.isSome_none, Bool.false_eq_true, if_false]
    simpa using hc
  simp [execOp, ho, ev_pt hr hx, Instr.loadAt, Instr.sureAddr, loadVar, Sem.run_bind, tyI_notAgg (E.ok _ _ ht) hf, hcell]
theorem VF.loadAgg {m : Nat} {t : TypeId} {x : Operand} {i : TyI} {fs : List (Nat × Nat × Nat)} {k b off : Nat} {ds : List D} {xs : List Value} (hm : fc[m]? = some (k, b, xs)) (ho : o.op = .load t x) (ht : E.tabs t = some i) (hf : i.td = .agg fs)
    (hx : ev st x = .pt k b off) (hk : gt st k = .obj b ds) (hdv : dvals ds = some xs) (hl : off + i.sz ≤ ds.length) : VF fc E B o st (.agg (((cpyL k 0 ds).drop off).take i.sz)) := fun F a w hr => by
  obtain ⟨cs, ty, bs, h1, h2⟩ := hr.obj hk
  have hlen := DLs_length h2
  have hd := DLs_take i.sz (DLs_drop off (DLs_cpyL k ds 0 cs bs h2))
  have hT := E.ok _ _ ht
  obtain ⟨j, d, z, t1, t2, t3, t4, t5, t6, t7⟩ := tyI_spec hT
  have hrow : d.isRow = true := by
    rw [hf] at t7
    cases d <;> simp [tdOf] at t7 <;> rfl
  have hsz : (E.P.info? t).map (·.size) = some ((cs.drop off).take i.sz).length := by
    rw [tyI_size hT]
    simp only [List.length_take, List.length_drop]
    congr 1
    omega
  refine ⟨.agg ((cs.drop off).take i.sz).toArray, fun w' hs => ?_, ?_⟩
  · obtain ⟨ty', h3⟩ := hs _ (List.mem_of_getElem? hm)
    have h1' : w'.heap[b]? = some (.cells cs.toArray ty' (0, 0)) := by rw [h3, dvals_eq hdv h2]
    simp [execOp, ho, ev_pt hr hx, Sem.run_bind, run_loadAt_mid w' b off t _ d (rangeAt_take (rangeAt_of_block h1' off) i.sz) t2 hrow hsz]
  · simp only [DR]
    exact ⟨_, rfl, hd⟩
end
end Go.Eng

namespace Go.Eng
open Go Go.RowKit
section
variable {E : Env} {F : Nat → Prop} {B : Base E.P} {w : World} {o : Oper} {st : St} {K : St → Prop} {a : Act} {all rest : List Oper}
theorem Rel.twoH (h : Rel F B st a w) (k l : Nat) (hkl : k ≠ l) (hk : k < st.length) :
    ∃ bk : List Nat, (∀ b ∈ bk, ¬ F b ∧ b < w.heap.size ∧ (b ∈ B.bs ∨ B.w.heap.size ≤ b)) ∧ bk.Nodup ∧ (∃ xk, a.tmps[k]? = some xk ∧ DR F w (gt st k) xk bk) ∧
      ∀ (w' : World) (dk dl : D) (a' : Act) (ck cl : List Nat) (H : Nat → Prop), Stp w w' bk → a'.defers = a.defers → a'.tmps.size = a.tmps.size →
        (∀ i, i ≠ k → i ≠ l → a'.tmps[i]? = a.tmps[i]?) →
        (∃ xk, a'.tmps[k]? = some xk ∧ DR H w' dk xk ck) → (l < st.length → ∃ xl, a'.tmps[l]? = some xl ∧ DR H w' dl xl cl) →
        (ck ++ cl).Nodup → (∀ b ∈ ck ++ cl, (b ∈ bk ∨ w.heap.size ≤ b) ∧ b < w'.heap.size ∧ ¬ H b) →
        (∀ b, F b → H b) → (∀ b, H b → b < w'.heap.size) → (∀ b, H b → F b ∨ b ∈ bk ∨ w.heap.size ≤ b) →
        Rel H B ((st.set k dk).set l dl) a' w' := by
  obtain ⟨own, hs⟩ := h.slots
  have hgk : st.get? k = some (gt st k) := St.get_of hk
  obtain ⟨xk, bk, h1, h2, h3, h4⟩ := hs k _ hgk
  refine ⟨bk, fun b hb => ⟨(h4 b hb).2.1.1, (h4 b hb).2.2, (h4 b hb).2.1.2⟩, h3, ⟨xk, h1, h2⟩, ?_⟩
  intro w' dk dl a' ck cl H hst hdef hsz hoth hnk hnl hnd hin hsub hlt hi
  have hfr : Fr B w' := h.fr.stp hst (fun b hb => (h4 b hb).2.1.2)
  have hF : ∀ b, F b → w'.heap[b]? = w.heap[b]? := fun b hb => hst.block b (h.Flt b hb) (fun hm => (h4 b hm).2.1.1 hb)
  have hB : ∀ b, b ∈ bk ∨ w.heap.size ≤ b → b ∈ B.bs ∨ B.w.heap.size ≤ b := fun b hb => by
    rcases hb with hb | hb
    · exact (h4 b hb).2.1.2
    · exact .inr (Nat.le_trans h.fr.size hb)
  rw [List.nodup_append] at hnd
  refine ⟨hdef.trans h.defers, by rw [hsz, h.len]; simp, hfr, hlt, fun b hb => ?_, fun b => if b ∈ ck then k else if b ∈ cl then l else own b, ?_⟩
  · rcases hi b hb with h5 | h5
    · exact h.Fin b h5
    · exact .inr (hB b h5)
  · intro i d hi'
    by_cases hil : i = l
    · subst hil
      have hlt' : i < st.length := by have := St.get_lt hi'; simpa using this
      rw [St.get_set_self (by simpa using hlt')] at hi'
      cases hi'
      obtain ⟨xl, e1, e2⟩ := hnl hlt'
      refine ⟨xl, cl, e1, e2, hnd.2.1, fun b hb => ?_⟩
      have hbk : b ∉ ck := fun hb' => hnd.2.2 b hb' b hb rfl
      exact ⟨by simp [hbk, hb], ⟨(hin b (by simp [hb])).2.2, hB b (hin b (by simp [hb])).1⟩, (hin b (by simp [hb])).2.1⟩
    · rw [St.get_set_ne (Ne.symm hil)] at hi'
      by_cases hik : i = k
      · subst hik
        rw [St.get_set_self hk] at hi'
        cases hi'
        obtain ⟨xk, e1, e2⟩ := hnk
        exact ⟨xk, ck, e1, e2, hnd.1, fun b hb => ⟨by simp [hb], ⟨(hin b (by simp [hb])).2.2, hB b (hin b (by simp [hb])).1⟩, (hin b (by simp [hb])).2.1⟩⟩
      · rw [St.get_set_ne (Ne.symm hik)] at hi'
        obtain ⟨x, bs, f1, f2, f3, f4⟩ := hs i d hi'
        have hnot : ∀ b ∈ bs, b ∉ bk := fun b hb hb' => hik ((f4 b hb).1.symm.trans (h4 b hb').1)
        have hsame : ∀ b ∈ bs, w'.heap[b]? = w.heap[b]? := fun b hb => hst.block b (f4 b hb).2.2 (fun hm => hnot b hb hm)
        have hno : ∀ b ∈ bs, ¬ (b ∈ bk ∨ w.heap.size ≤ b) := fun b hb h' => by
          rcases h' with h' | h'
          · exact hnot b hb h'
          · have := (f4 b hb).2.2; omega
        refine ⟨x, bs, by rw [hoth i hik hil]; exact f1, DR_mono hsub _ _ _ (DR_world hF d x bs hsame f2), f3, fun b hb => ⟨?_, ⟨fun hH => ?_, (f4 b hb).2.1.2⟩, Nat.lt_of_lt_of_le (f4 b hb).2.2 hst.size⟩⟩
        · have h1 : b ∉ ck := fun hb' => hno b hb (hin b (by simp [hb'])).1
          have h2 : b ∉ cl := fun hb' => hno b hb (hin b (by simp [hb'])).1
          simp [h1, h2, (f4 b hb).1]
        · rcases hi b hH with h5 | h5
          · exact (f4 b hb).2.1.1 h5
          · exact hno b hb h5
inductive AsPs (st : St) (k b : Nat) (cs os : List C) : List Operand → List A → List A → Prop where
  | here {x : Operand} {xs : List Operand} {as outs : List A} (hx : ev st x = .pt k b 0) (hs : AsAs st false none xs as) : AsPs st k b cs os (x :: xs) (.ob cs :: as) (.ob os :: outs)
  | there {x : Operand} {a o : A} {xs : List Operand} {as outs : List A} (h : AsA st false none (ev st x) a) (hs : AsPs st k b cs os xs as outs) : AsPs st k b cs os (x :: xs) (a :: as) (o :: outs)
theorem AsPs.give {k b : Nat} {ds : List D} {cs os : List C} {xs : List Operand} {as outs : List A} (hr : Rel F B st a w) (h : AsPs st k b cs os xs as outs) (hd : DT ds cs) {x : Value} {bk : List Nat} (hx : DR F w (.obj b ds) x bk) :
    ARs F w as (xs.map a.eval) bk ∧ ∀ (w' : World) (H : Nat → Prop) (b2 : List Nat), ARs H w' outs (xs.map a.eval) b2 → ∃ g b3, b3.Sublist b2 ∧ DR H w' (.obj b (cD g 0 os)) x b3 := by
  induction h with
  | here hv hs =>
    simp only [DR] at hx
    obtain ⟨ys, ty, bs', rfl, h2, rfl, h3⟩ := hx
    have he := hr.ev _ |> hv.subst (motive := fun d => DR F w d _ [])
    simp only [DR] at he
    refine ⟨?_, fun w' H b2 h4 => ?_⟩
    · simp only [List.map_cons, ARs]
      exact ⟨_, _, b :: bs', [], rfl, by simp, ⟨b, ys, ty, bs', he.1, h2, rfl, DT_CRs ds cs ys bs' hd h3⟩, hs.read hr (Out.own none)⟩
    · simp only [List.map_cons, ARs] at h4
      obtain ⟨y, zs, c1, c2, hy, rfl, h5, h6⟩ := h4
      cases hy
      obtain ⟨b', xs', ty', bs2, hp, h7, rfl, h8⟩ := h5
      rw [he.1] at hp
      cases hp
      obtain ⟨g, hg⟩ := CRs_D os 0 xs' bs2 h8
      exact ⟨g, _, List.sublist_append_left _ _, by simp only [DR]; exact ⟨xs', ty', bs2, trivial, h7, rfl, hg⟩⟩
  | there h hs ih =>
    obtain ⟨h1, h2⟩ := ih
    refine ⟨?_, fun w' H b2 h4 => ?_⟩
    · simp only [List.map_cons, ARs]
      exact ⟨_, _, [], bk, rfl, by simp, h.read (Out.own (a := a) none) (hr.ev _), h1⟩
    · simp only [List.map_cons, ARs] at h4
      obtain ⟨y, ys, c1, c2, hy, rfl, h5, h6⟩ := h4
      cases hy
      obtain ⟨g, b3, hb, hg⟩ := h2 w' H c2 h6
      exact ⟨g, b3, hb.trans (List.sublist_append_right _ _), hg⟩
theorem OK.callP {f : FuncId} {xs : List Operand} {tys : Array TypeId} {as outs : List A} {res : R} {k b : Nat} {ds : List D} {cs os : List C} (hf : Fn E.P f as res outs) (ho : o.op = .call { callee := .value (.func f), args := xs.toArray, argTypes := tys })
    (hk : k < st.length) (hd : o.dst ≠ some k) (hg : gt st k = .obj b ds) (hc : DT ds cs) (ha : AsPs st k b cs os xs as outs) (h : ∀ g g', K (setD (st.set k (.obj b (cD g' 0 os))) o.dst (rD g res))) : OK E B o st K := by
  intro F a w hr next Q hn
  have hl : ∃ l, k ≠ l ∧ (o.dst = some l ∨ (o.dst = none ∧ l = st.length)) := by
    cases hdd : o.dst with
    | none => exact ⟨st.length, by omega, .inr ⟨rfl, rfl⟩⟩
    | some l => exact ⟨l, fun e => hd (by rw [hdd, e]), .inl rfl⟩
  obtain ⟨l, hkl, hl⟩ := hl
  obtain ⟨bk, p1, p2, ⟨xk, q1, q2⟩, p6⟩ := hr.twoH k l hkl hk
  rw [hg] at q2
  obtain ⟨h2, h3⟩ := ha.give hr hc q2
  unfold Oper.wp
  rw [run_call hf.1 ho, Oper.upon_enter]
  refine Calls.mono (hf.2 w _ bk F (hr.tb fun b hb => (p1 b hb).2.2) (fun b hb => ⟨hr.Flt b hb, fun hm => (p1 b hm).1 hb⟩) h2 p2 (fun b hb => (p1 b hb).2.1)) ?_
  rintro e w' ⟨x, b1, b2, rfl, hs, h4, h5, h6, h7⟩
  obtain ⟨g, hgr⟩ := OR_D h4
  obtain ⟨g', b3, hsub, hd3⟩ := h3 w' _ b2 h5
  have h6' := List.nodup_append.1 h6
  have hrel := p6 w' (.obj b (cD g' 0 os)) (rD g res) (a.put o.dst x) b3 (if o.dst = none then [] else b1) (aft F w w' bk (b1 ++ b2)) hs (by cases o.dst <;> rfl) (by cases o.dst <;> simp [Act.put])
    (fun i hik hil => by
      rcases hl with hl | hl
      · rw [hl]; exact get_put_ne a x hil
      · rw [hl.1]; rfl)
    ⟨xk, by
      rcases hl with hl | hl
      · rw [hl, get_put_ne a x hkl]; exact q1
      · rw [hl.1]; exact q1, hd3⟩
    (fun hlt => by
      rcases hl with hl | hl
      · rw [hl]
        exact ⟨x, get_put_eq a x (by rw [hr.len]; exact hlt), by rw [if_neg (by simp)]; exact hgr⟩
      · omega)
    (by
      rw [List.nodup_append]
      refine ⟨h6'.2.1.sublist hsub, ?_, fun p hp q hq e => ?_⟩
      · split
        · simp
        · exact h6'.1
      · split at hq
        · simp at hq
        · subst e
          exact h6'.2.2 p hq p (hsub.subset hp) rfl)
    (by
      intro c hc'
      have hm : c ∈ b1 ++ b2 := by
        rcases List.mem_append.1 hc' with hc' | hc'
        · exact List.mem_append.2 (.inr (hsub.subset hc'))
        · split at hc'
          · simp at hc'
          · exact List.mem_append.2 (.inl hc')
      exact ⟨(h7 c hm).1, (h7 c hm).2, fun hH => hH.2.2 hm⟩)
    (fun c hc' => ⟨.inl hc', Nat.lt_of_lt_of_le (hr.Flt c hc') hs.size, fun hm => by
      rcases (h7 c hm).1 with h' | h'
      · exact (p1 c h').1 hc'
      · have := hr.Flt c hc'; omega⟩)
    (fun c hc' => hc'.2.1)
    (fun c hc' => hc'.1)
  refine hn (aft F w w' bk (b1 ++ b2)) _ _ _ (h g g') ?_
  rcases hl with hl | hl
  · rw [hl] at hrel ⊢
    exact hrel
  · rw [hl.1] at hrel ⊢
    exact hrel.oob (by simp [hl.2])
theorem RW.callP {f : FuncId} {xs : List Operand} {tys : Array TypeId} {as outs : List A} {res : R} {k b : Nat} {ds : List D} {cs os : List C} (hf : Fn E.P f as res outs) (hgu : o.guard = none) (ho : o.op = .call { callee := .value (.func f), args := xs.toArray, argTypes := tys })
    (hk : k < st.length) (hd : o.dst ≠ some k) (hg : Eng.gt st k = .obj b ds) (hc : DT ds cs) (ha : AsPs st k b cs os xs as outs) (h : ∀ g g', RW E B all rest (setD (st.set k (.obj b (cD g' 0 os))) o.dst (rD g res)) K) : RW E B all (o :: rest) st K := RW.cons hgu (OK.callP hf ho hk hd hg hc ha h)
theorem RO.callP {fc : Facts} {n i : Nat} {ls ls' : Array Bool} {f : FuncId} {xs : List Operand} {tys : Array TypeId} {as outs : List A} {res : R} {k b : Nat} {ds : List D} {cs os : List C} (hf : Fn E.P f as res outs) (hi : all[i]? = some o) (hgu : o.guard = none) (ho : o.op = .call { callee := .value (.func f), args := xs.toArray, argTypes := tys })
    (hl : ls.setIfInBounds i true = ls') (hk : k < st.length) (hd : o.dst ≠ some k) (hg : Eng.gt st k = .obj b ds) (hc : DT ds cs) (ha : AsPs st k b cs os xs as outs) (h : ∀ g g', RA fc E B all n ls' (setD (st.set k (.obj b (cD g' 0 os))) o.dst (rD g res)) K) : RO fc E B all n ls st K i :=
  ⟨o, hi, hgu, OK.callP hf ho hk hd hg hc ha (fun g g' => by rw [hl]; exact h g g')⟩
end
end Go.Eng
