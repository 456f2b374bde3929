import Derived.Test.YtaneihnomaagoaaGreatDoorEng15
import Derived.Deep.Slices
import Derived.Deep.Fields
import Derived.ChangeSame
import Derived.ProofKit
import Derived.OpenShut
import Derived.ShutString
import Derived.ChangeOld
import Derived.SizedLaws
import Derived.Laws.Tables
import Derived.OrdersHeld
namespace Go.Eng
open Go Go.RowKit Go.ChangeShapes Go.WideShapes Go.Deep

section
variable {F : Nat → Prop} {w : World}
def RTs (F : Nat → Prop) (w : World) : List T → List Value → Prop
  | [], cs => cs = []
  | t :: ts, cs => ∃ c cs', cs = c :: cs' ∧ RT F w t c ∧ RTs F w ts cs'
theorem RTs_append : ∀ {ts us : List T} {cs ds : List Value}, RTs F w ts cs → RTs F w us ds → RTs F w (ts ++ us) (cs ++ ds)
  | [], _, cs, _, h, h' => by simp only [RTs] at h; subst h; exact h'
  | t :: ts, us, cs, ds, h, h' => by
    simp only [RTs] at h
    obtain ⟨c, cs', rfl, h1, h2⟩ := h
    exact ⟨c, cs' ++ ds, rfl, h1, RTs_append h2 h'⟩
theorem RTs_step {ts us : List T} {cs : List Value} {o k : Nat} (h : RTs F w ts ((cs.drop o).take k)) (h' : RTs F w us (cs.drop (o + k))) : RTs F w (ts ++ us) (cs.drop o) := by
  have := RTs_append h h'
  rwa [show cs.drop (o + k) = (cs.drop o).drop k from by rw [List.drop_drop], List.take_append_drop] at this
theorem RTs_end {cs : List Value} {n : Nat} (h : cs.length = n) : RTs F w [] (cs.drop n) := by
  rw [← h]
  simp [RTs]
theorem RTs_CRs : ∀ {ts : List T} {cs : List Value}, RTs F w ts cs → CRs F w (ts.map .r) cs []
  | [], cs, h => by simp only [RTs] at h; simp [CRs, h]
  | t :: ts, cs, h => by
    simp only [RTs] at h
    obtain ⟨c, cs', rfl, h1, h2⟩ := h
    simp only [List.map_cons, CRs]
    exact ⟨c, cs', [], [], rfl, rfl, ⟨h1, rfl⟩, RTs_CRs h2⟩
theorem RTs_RL {b : Nat} : ∀ {ts : List T} {cs : List Value} {o : Nat}, RTs F w ts cs → (∀ j v, cs[j]? = some v → w.cell? ⟨b, o + j, none⟩ = some v) → RL F w ts b o
  | [], _, _, _, _ => by simp [RL]
  | t :: ts, cs, o, h, hc => by
    simp only [RTs] at h
    obtain ⟨c, cs', rfl, h1, h2⟩ := h
    simp only [RL]
    refine ⟨⟨c, by simpa using hc 0 c rfl, h1⟩, RTs_RL h2 (fun j v hj => ?_)⟩
    have := hc (j + 1) v (by simpa using hj)
    rwa [show o + (j + 1) = o + 1 + j from by omega] at this
end

def Opens {α : Type} (P : Program) (t : TypeId) (c : α → List T) (ok : α → Prop) : Prop :=
  ∀ {H : Type} (enc : TypeId × Value → H) (w : World) (fuel : Nat) (cs : List Value) (x : DataW H × List MemPlace), DataW.trod enc P w 0 (fun _ => true) true fuel t cs = some x →
    ∃ v, ok v ∧ RTs (fun b => b < w.heap.size) w (c v) cs
def okI (n : Int) : Prop := (Lit.int .i64 n).wf = true
def okS (s : ByteArray) : Prop := s.size ≤ maxLen
def okB (_ : Bool) : Prop := True
def okL {α : Type} (ok : α → Prop) (l : List α) : Prop := l.length ≤ maxLen ∧ ∀ x ∈ l, ok x
section
variable {P : Program} {t e : TypeId}
theorem Opens.int (ht : P.underlying t = some (.int .i64)) : Opens P t cI okI := by
  intro H enc w fuel cs x h
  obtain ⟨n, rfl, _, hw⟩ := DataW.trod_int ht h
  exact ⟨n, hw, _, [], rfl, by simp [RT], rfl⟩
theorem Opens.bool (ht : P.underlying t = some .bool) : Opens P t cB okB := by
  intro H enc w fuel cs x h
  obtain ⟨n, rfl, _⟩ := DataW.trod_bool ht h
  exact ⟨n, trivial, _, [], rfl, by simp [RT], rfl⟩
theorem Opens.str (ht : P.underlying t = some .string) : Opens P t cS okS := by
  intro H enc w fuel cs x h
  obtain ⟨n, rfl, _, hw⟩ := DataW.trod_string ht h
  exact ⟨n, hw, _, [], rfl, by simp [RT], rfl⟩
def cL {α : Type} (sz : Nat) (c : α → List T) (l : List α) : List T := [sl sz c l]
theorem Opens.slice {α : Type} {c : α → List T} {ok : α → Prop} {k : Nat} (ht : P.underlying t = some (.slice e)) (hk : P.cellsOf e = k) (hp : 0 < k) (hc : ∀ x, (c x).length = k) (he : Opens P e c ok) : Opens P t (cL k c) (okL ok) := by
  intro H enc w fuel cs x h
  rcases open_slice ht h with ⟨rfl, _⟩ | ⟨a, len, cap, m, n, D, Pl, rfl, _, hl, hm, hmm, _, hi⟩
  · exact ⟨[], ⟨by simp, by simp⟩, _, [], rfl, by simp [sl, RT], rfl⟩
  · rw [hk] at hi
    rw [if_pos rfl] at hmm
    subst hmm
    have key : ∀ j, j ≤ len → ∃ l : List α, l.length = j ∧ (∀ v ∈ l, ok v) ∧ ∃ ds : List Value, RTs (fun b => b < w.heap.size) w (l.flatMap c) ds ∧ ds.length = j * k ∧ ∀ p v, ds[p]? = some v → w.cell? (a.add p) = some v := by
      intro j
      induction j with
      | zero => exact fun _ => ⟨[], rfl, by simp, [], by simp [RTs], by simp, by simp⟩
      | succ j ih =>
        intro hj
        obtain ⟨l, h1, h2, ds, h3, h4, h5⟩ := ih (by omega)
        obtain ⟨cs', q1, q2⟩ := hi j (by omega)
        obtain ⟨v, hv, hr⟩ := he enc w n cs' _ q2
        obtain ⟨_, hcl, hat⟩ := World.cells?_some q1
        refine ⟨l ++ [v], by simp [h1], ?_, ds ++ cs', ?_, by rw [List.length_append, h4, hcl, Nat.succ_mul], ?_⟩
        · intro u hu
          rcases List.mem_append.1 hu with hu | hu
          · exact h2 u hu
          · rw [List.mem_singleton.1 hu]; exact hv
        · rw [List.flatMap_append]
          refine RTs_append h3 ?_
          simpa using hr
        · intro p u hp'
          rcases Nat.lt_or_ge p ds.length with h6 | h6
          · rw [List.getElem?_append_left h6] at hp'
            exact h5 p u hp'
          · rw [List.getElem?_append_right h6] at hp'
            have h7 : p - ds.length < k := by
              have := (List.getElem?_eq_some_iff.1 hp').1
              rwa [hcl] at this
            have h8 := hat (p - ds.length) h7
            rw [hp'] at h8
            rw [← h8, Go.Deep.add_add]
            congr 2
            omega
    obtain ⟨l, h1, h2, ds, h3, h4, h5⟩ := key len (Nat.le_refl _)
    refine ⟨l, ⟨by omega, h2⟩, _, [], rfl, ?_, rfl⟩
    rcases Nat.eq_zero_or_pos len with h0 | hpos
    · subst h0
      have : l = [] := List.length_eq_zero_iff.1 h1
      subst this
      simp [sl, RT]
    · have hd0 : 0 < ds.length := by rw [h4]; exact Nat.mul_pos hpos hp
      have hc0 := h5 0 ds[0] (List.getElem?_eq_getElem hd0)
      obtain ⟨b, o, s⟩ := a
      have hs : s = none := by
        cases s with
        | none => rfl
        | some s =>
          exfalso
          unfold World.cell? at hc0
          split at hc0
          · simp [Addr.add] at hc0
          · cases hc0
      subst hs
      have hb : b < w.heap.size := by
        unfold World.cell? at hc0
        split at hc0
        · rename_i hh
          have := (Array.getElem?_eq_some_iff.1 hh).1
          simpa [Addr.add] using this
        · cases hc0
      simp only [sl, RT]
      refine .inr ⟨b, o, m, by rw [h1], by omega, hm, hb, ?_, RTs_RL h3 (fun j v hj => ?_)⟩
      · rw [flatMap_len hc]
      · have := h5 j v hj
        rwa [Addr.add_mid] at this
theorem Opens.field {α : Type} {c : α → List T} {ok : α → Prop} {H : Type} {enc : TypeId × Value → H} {w : World} {n i o k : Nat} {fs : Array Field} {f : Field} {cs : List Value} {xs : List (DataW H × List MemPlace)} (ho : Opens P t c ok) (hk : P.cellsOf t = k)
    (hxl : xs.length = fs.size) (hf : ∀ (i : Nat) (f : Field), fs[i]? = some f → DataW.trod enc P w 0 (fun _ => true) true n f.type ((cs.drop f.offset).take (P.cellsOf f.type)) = xs[i]?) (hi : fs[i]? = some f) (ht : f.type = t) (hoff : f.offset = o) :
    ∃ v, ok v ∧ RTs (fun b => b < w.heap.size) w (c v) ((cs.drop o).take k) := by
  have h := hf i f hi
  have hlt : i < xs.length := by rw [hxl]; exact (Array.getElem?_eq_some_iff.1 hi).1
  rw [List.getElem?_eq_getElem hlt, ht, hoff, hk] at h
  exact ho enc w n _ _ h
theorem Opens.one {α : Type} {c : α → List T} {ok : α → Prop} {f : α → T} {H : Type} {enc : TypeId × Value → H} {w : World} {v : Value} {d : DataW H} {p : List MemPlace} (ho : Opens P t c ok) (hc : ∀ a, c a = [f a]) (hv : v.cells = #[v]) (h : DataW.Trod enc P w 0 (fun _ => true) true t v d p) :
    ∃ a, ok a ∧ RT (fx w []) w (f a) v := by
  obtain ⟨fuel, hf⟩ := h
  obtain ⟨a, h1, h2⟩ := ho enc w fuel _ _ hf
  rw [hc, hv] at h2
  simp only [RTs] at h2
  obtain ⟨x, cs', h3, h4, rfl⟩ := h2
  simp at h3
  subst h3
  exact ⟨a, h1, RT_mono (fun b hb => ⟨hb, by simp⟩) _ _ h4⟩
theorem Opens.agg {α : Type} {c : α → List T} {ok : α → Prop} {H : Type} {enc : TypeId × Value → H} {w : World} {cs : Array Value} {d : DataW H} {p : List MemPlace} (ho : Opens P t c ok) (h : DataW.Trod enc P w 0 (fun _ => true) true t (.agg cs) d p) :
    ∃ a, ok a ∧ AR (fx w []) w (.agg ((c a).map .r)) (.agg cs) [] := by
  obtain ⟨fuel, hf⟩ := h
  obtain ⟨a, h1, h2⟩ := ho enc w fuel _ _ hf
  refine ⟨a, h1, cs.toList, rfl, CRs_mono (fun b hb => ⟨hb, by simp⟩) _ _ _ (RTs_CRs (by simpa [Value.cells] using h2))⟩
theorem Stp.below {w w' : World} (h : Stp w w' []) : Below w.heap.size w w' := ⟨h.os, h.tape, h.output, h.size, fun k hk => h.block k hk (by simp)⟩
end
end Go.Eng

namespace Go.Eng
open Go Go.RowKit

inductive Bld (st : St) (fs : List (Nat × Nat × Nat)) : List (Nat × Operand) → List D → List D → Prop where
  | nil {ds : List D} : Bld st fs [] ds ds
  | one {i off ty : Nat} {x : Operand} {d : D} {rest : List (Nat × Operand)} {ds out : List D} (hi : fs[i]? = some (off, ty, 1)) (hx : ev st x = d) (h1 : one1 d = true) (hl : off < ds.length) (h : Bld st fs rest (ds.set off d) out) : Bld st fs ((i, x) :: rest) ds out
  | agg {i off ty sz : Nat} {x : Operand} {es : List D} {rest : List (Nat × Operand)} {ds out : List D} (hi : fs[i]? = some (off, ty, sz)) (hx : ev st x = .agg es) (he : es.length = sz) (hl : off + sz ≤ ds.length) (h : Bld st fs rest (setN ds off es) out) : Bld st fs ((i, x) :: rest) ds out
theorem foldl_set (vs : List Value) : ∀ (cs : List Value) (o j : Nat), (vs.zipIdx j).foldl (fun (a : Array Value) (p : Value × Nat) => a.setIfInBounds (o + p.2) p.1) cs.toArray = (setN cs (o + j) vs).toArray := by
  induction vs with
  | nil => intro cs o j; rfl
  | cons v r ih =>
    intro cs o j
    rw [List.zipIdx_cons, List.foldl_cons, setN]
    have : cs.toArray.setIfInBounds (o + j) v = (cs.set (o + j) v).toArray := by simp
    rw [this, ih, Nat.add_assoc]
theorem fill_cons {pl : Nat → Option (Nat × Nat)} {cs : Array Value} {i off : Nat} {v : Value} {vs : List Value} {rest : List (Nat × Value)} (hv : v.cells = vs.toArray) (hp : pl i = some (off, vs.length)) (h2 : off + vs.length ≤ cs.size) :
    Instr.fill pl cs ((i, v) :: rest) = Instr.fill pl (setN cs.toList off vs).toArray rest := by
  have hf := foldl_set vs cs.toList off 0
  rw [Nat.add_zero] at hf
  have hz : vs.toArray.zipIdx.foldl (fun cs (x : Value × Nat) => match x with | (c, j) => cs.setIfInBounds (off + j) c) cs = (setN cs.toList off vs).toArray := by
    rw [← hf, ← Array.foldl_toList]
    simp
  rw [Instr.fill, hp]
  simp only [hv]
  have hn : (decide (vs.toArray.size ≠ vs.length) || decide (off + vs.toArray.size > cs.size)) = false := by simp; omega
  rw [hn, hz]
  rfl
section
variable {E : Env} {F : Nat → Prop} {B : Base E.P} {w : World} {o : Oper} {st : St} {a : Act}
theorem Bld.fill (hr : Rel F B st a w) {fs : List (Nat × Nat × Nat)} {ps : List (Nat × Operand)} {ds out : List D} (h : Bld st fs ps ds out) : ∀ {cs : List Value}, DLs F w ds cs [] →
    ∃ cs', Instr.fill ((fs.map fun f => (f.1, f.2.2))[·]?) cs.toArray (ps.map fun p => (p.1, a.eval p.2)) = some cs'.toArray ∧ DLs F w out cs' [] := by
  induction h with
  | nil => intro cs hd; exact ⟨cs, rfl, hd⟩
  | @one i off ty x d rest ds out hi hx h1 hl h ih =>
    intro cs hd
    have hv := hr.ev x
    rw [hx] at hv
    have h1c := oneCell_cells (one1_val h1 hv)
    have hlen := DLs_length hd
    obtain ⟨bs', g1, g2, _⟩ := DLs_set hd hv hl
    have hb : bs' = [] := by
      cases bs' with
      | nil => rfl
      | cons b _ => rcases g2 b (by simp) with h | h <;> simp at h
    subst hb
    obtain ⟨cs', e1, e2⟩ := ih g1
    refine ⟨cs', ?_, e2⟩
    have hp : (fs.map fun f => (f.1, f.2.2))[i]? = some (off, [a.eval x].length) := by simp [hi]
    rw [List.map_cons, fill_cons (vs := [a.eval x]) h1c hp (by simp; omega)]
    exact e1
  | @agg i off ty sz x es rest ds out hi hx he hl h ih =>
    intro cs hd
    have hv := hr.ev x
    rw [hx] at hv
    simp only [DR] at hv
    obtain ⟨vs, hv1, hv2⟩ := hv
    have hlen := DLs_length hd
    have hvl := DLs_length hv2
    obtain ⟨bs', g1, g2, _⟩ := DLs_setN (o := off) hd hv2 (by omega)
    have hb : bs' = [] := by
      cases bs' with
      | nil => rfl
      | cons b _ => rcases g2 b (by simp) with h | h <;> simp at h
    subst hb
    obtain ⟨cs', e1, e2⟩ := ih g1
    refine ⟨cs', ?_, e2⟩
    have hp : (fs.map fun f => (f.1, f.2.2))[i]? = some (off, vs.length) := by simp [hi]; omega
    rw [List.map_cons, fill_cons (vs := vs) (by rw [hv1]; rfl) hp (by simp; omega)]
    exact e1
theorem V.build {pu : Bool} {t : TypeId} {ps : List (Nat × Operand)} {i : TyI} {fs : List (Nat × Nat × Nat)} {ds : List D} (ho : o.op = .build t ps.toArray) (ht : E.tabs t = some i) (hf : i.td = .agg fs) (hz : (fs.all fun f => !Nat.beq f.2.2 0) = true) (hb : Bld st fs ps (i.zero.map fun v => .r (.v v)) ds) :
    VP pu E B o st (.agg ds) := fun F a w hr => by
  obtain ⟨j, d, z, t1, t2, t3, t4, t5, t6, t7⟩ := tyI_spec (E.ok _ _ ht)
  obtain ⟨cs', e1, e2⟩ := hb.fill hr (DLs_zero i.zero w)
  have hd : ∃ fields : Array Field, d = .struct fields ∧ fs = fields.toList.map fun f => (f.offset, f.type, E.P.cellsOf f.type) := by
    rw [hf] at t7
    cases d <;> simp [tdOf] at t7
    rename_i fields
    exact ⟨fields, rfl, t7.symm⟩
  obtain ⟨fields, rfl, rfl⟩ := hd
  have hpl : fields.toList.mapM (fun f => (E.P.info? f.type).map fun i => (f.offset, i.size)) = some (fields.toList.map fun f => (f.offset, E.P.cellsOf f.type)) := by
    have : ∀ l : List Field, (∀ f ∈ l, E.P.cellsOf f.type ≠ 0) → l.mapM (fun f => (E.P.info? f.type).map fun i => (f.offset, i.size)) = some (l.map fun f => (f.offset, E.P.cellsOf f.type)) := by
      intro l
      induction l with
      | nil => intro _; rfl
      | cons f l ih =>
        intro h
        have h0 := h f (by simp)
        cases hq : E.P.info? f.type with
        | none => simp [Program.cellsOf, hq] at h0
        | some i => simp [List.mapM_cons, hq, ih (fun g hg => h g (by simp [hg])), Program.cellsOf]
    refine this _ (fun f hf' => ?_)
    have := List.all_eq_true.1 hz (f.offset, f.type, E.P.cellsOf f.type) (List.mem_map.2 ⟨f, hf', rfl⟩)
    intro h0
    simp [h0] at this
  have hblt : E.P.built t (ps.map fun p => (p.1, a.eval p.2)) = some cs'.toArray := by
    simp only [Program.built, t1, t2, t3, hpl]
    have hzc : z.cells = i.zero.toArray := by rw [← t6]
    rw [hzc]
    have e : (fields.toList.map fun f => (f.offset, f.type, E.P.cellsOf f.type)).map (fun f => (f.1, f.2.2)) = fields.toList.map fun f => (f.offset, E.P.cellsOf f.type) := by simp
    rw [e] at e1
    simpa using e1
  refine ⟨.agg cs'.toArray, fun w' hs => ?_, by simp only [DR]; exact ⟨cs', rfl, e2⟩⟩
  have := run_build w' t (ps.map fun p => (p.1, a.eval p.2)).toArray cs'.toArray (by simpa using hblt)
  simp [execOp, ho, Sem.run_bind, this]
end
end Go.Eng

namespace Go.Eng
open Go Go.RowKit

section
variable {P : Program} {ops : Array Oper} {Q Q' : Exit → Act → World → Prop} {md : Region.Mode}
theorem wp_monoQ {o : Oper} {a : Act} {w : World} {K : Act → World → Prop} (h : ∀ e a w, Q e a w → Q' e a w) (hh : o.wp P a w K Q) : o.wp P a w K Q' := by
  unfold Oper.wp at *
  generalize (execOp a.eval o).run P w = r at *
  cases r with
  | ok n w' =>
    cases n <;> simp only [Oper.upon] at hh ⊢ <;>
      first
        | exact hh
        | exact h _ _ _ hh
        | exact Calls.mono hh (fun e w'' he => by cases e <;> first | exact he | exact h _ _ _ he | exact he.imp fun a hw => hw.imp fun w => h _ _ _)
        | exact Rows.mono hh (fun _ _ he => he)
  | halt x w' => cases x <;> simp only [Oper.upon] at hh ⊢ <;> first | exact hh | exact h _ _ _ hh
theorem wpOp_monoQ {i : Nat} {a : Act} {w : World} {K K' : Act → World → Prop} (h : ∀ e a w, Q e a w → Q' e a w) (hk : ∀ a w, K a w → K' a w) (hl : LetsOut Q → LetsOut Q')
    (hh : wpOp P ops Q i K a w) : wpOp P ops Q' i K' a w := by
  refine wpOp_mono hk ?_
  unfold wpOp at *
  split
  · simpa [*] using hh
  · rename_i o ho
    simp only [ho] at hh
    split
    · rename_i hw; simp only [hw, if_true] at hh; exact hh.imp (wp_monoQ h) (fun ⟨x, y⟩ => ⟨x, hl y⟩)
    · rename_i hw; simp only [hw] at hh; exact hh
theorem wpAny_monoQ (h : ∀ e a w, Q e a w → Q' e a w) (hl : LetsOut Q → LetsOut Q') : ∀ (n : Nat) (ls : Array Bool) (a : Act) (w : World), wpAny P md ops Q n ls a w → wpAny P md ops Q' n ls a w
  | 0, _, _, _, hh => ⟨hh.1, h _ _ _ hh.2⟩
  | n + 1, _, _, _, hh => ⟨fun h0 => h _ _ _ (hh.1 h0), fun i hi => wpOp_monoQ h (fun a w => wpAny_monoQ h hl n _ a w) hl (hh.2 i hi)⟩
end
section
variable {E : Env} {F : Nat → Prop} {B : Base E.P} {w : World} {o : Oper} {st : St} {K : St → Prop} {a : Act} {all : List Oper} {Q : Exit → St → Prop} {n : Nat} {ls : Array Bool} {d : D}
abbrev Facts := List (Nat × Nat × List Value)
def Hd (fc : Facts) (w : World) : Prop := ∀ p ∈ fc, ∃ ty, w.heap[p.2.1]? = some (.cells p.2.2.toArray ty (0, 0))
def dval : D → Option Value
  | .r (.v x) => some x
  | .w _ V => some V
  | _ => none
def dvals : List D → Option (List Value)
  | [] => some []
  | d :: ds => match dval d, dvals ds with
    | some x, some xs => some (x :: xs)
    | _, _ => none
def Tell (fc : Facts) (st : St) : Prop := ∀ p ∈ fc, ∃ ds, gt st p.1 = .obj p.2.1 ds ∧ dvals ds = some p.2.2
theorem Tell.e : Tell [] st := fun _ h => by cases h
theorem Tell.c {k b : Nat} {xs : List Value} {ds : List D} {fc : Facts} (h1 : gt st k = .obj b ds) (h2 : dvals ds = some xs) (h : Tell fc st) : Tell ((k, b, xs) :: fc) st := fun p hp => by
  rcases List.mem_cons.1 hp with rfl | hp
  · exact ⟨ds, h1, h2⟩
  · exact h p hp
theorem dvals_eq : ∀ {ds : List D} {xs cs : List Value} {bs : List Nat}, dvals ds = some xs → DLs F w ds cs bs → cs = xs
  | [], xs, cs, bs, h, hd => by
    simp only [dvals, Option.some.injEq] at h
    simp only [DLs] at hd
    rw [hd.1, h]
  | d :: ds, xs, cs, bs, h, hd => by
    simp only [DLs] at hd
    obtain ⟨c, cs', b1, b2, rfl, rfl, h3, h4⟩ := hd
    simp only [dvals] at h
    split at h
    · rename_i x ys hx hy
      cases h
      rw [dvals_eq hy h4]
      congr 1
      cases d with
      | r t =>
        cases t with
        | v y => simp only [dval, Option.some.injEq] at hx; simp only [DR, RT] at h3; rw [h3.1, hx]
        | _ => simp [dval] at hx
      | w t V => simp only [dval, Option.some.injEq] at hx; simp only [DR] at h3; rw [h3.1, hx]
      | _ => simp [dval] at hx
    · cases h
theorem Tell.hd {fc : Facts} (h : Tell fc st) (hr : Rel F B st a w) : Hd fc w := fun p hp => by
  obtain ⟨ds, h1, h2⟩ := h p hp
  obtain ⟨cs, ty, bs, h3, h4⟩ := hr.obj h1
  exact ⟨ty, by rw [h3, dvals_eq h2 h4]⟩
def Fx {P : Program} (B : Base P) (w : World) : Prop := ∀ b, b < B.w.heap.size → b ∉ B.bs → w.heap[b]? = B.w.heap[b]?
def HX {P : Program} (fc : Facts) (B : Base P) (w : World) : Prop := Hd fc w ∧ Fx B w
theorem Tell.hx {fc : Facts} (h : Tell fc st) (hr : Rel F B st a w) : HX fc B w := ⟨h.hd hr, hr.fr.fix⟩
variable {fc : Facts}
def RA (fc : Facts) (E : Env) (B : Base E.P) (all : List Oper) (n : Nat) (ls : Array Bool) (st : St) (K : St → Prop) : Prop :=
  ∀ (F : Nat → Prop) (a : Act) (w : World), Rel F B st a w → HX fc B w ∧ ∀ (Q : Exit → Act → World → Prop), (∀ F' st' a' w', K st' → Rel F' B st' a' w' → Q .normal a' w') → (∀ c a w, ¬ Q (.panic c) a w) → wpAnyH E.P .any all.toArray Q (HX fc B) n ls a w
def RO (fc : Facts) (E : Env) (B : Base E.P) (all : List Oper) (n : Nat) (ls : Array Bool) (st : St) (K : St → Prop) (i : Nat) : Prop :=
  ∃ o, all[i]? = some o ∧ o.guard = none ∧ OK E B o st (fun st' => RA fc E B all n (ls.setIfInBounds i true) st' K)
theorem RA.stepH {L : List Nat} (ht : Tell fc st) (hL : Region.ready .any all.toArray ls = L) (hne : L ≠ []) (h : ∀ i ∈ L, RO fc E B all n ls st K i) : RA fc E B all (n + 1) ls st K := by
  intro F a w hr
  refine ⟨ht.hx hr, fun Q hQ hp => ⟨fun h0 => absurd (hL.symm.trans h0) hne, fun i hi => ?_⟩⟩
  rw [hL] at hi
  obtain ⟨o, h1, h2, h3⟩ := h i hi
  unfold wpOp
  have ho : all.toArray[i]? = some o := by simpa using h1
  rw [ho]
  have hw : Region.wanted o (yielded all.toArray a.tmps) = true := by simp [Region.wanted, h2]
  simp only [hw, if_true]
  exact .inl (h3 F a w hr _ Q (fun F' st' a' w' hk hr' => ⟨(hk F' a' w' hr').1, (hk F' a' w' hr').2 Q hQ hp⟩))
theorem RA.step {L : List Nat} (hL : Region.ready .any all.toArray ls = L) (hne : L ≠ []) (h : ∀ i ∈ L, RO [] E B all n ls st K i) : RA [] E B all (n + 1) ls st K := RA.stepH Tell.e hL hne h
theorem RA.finH (ht : Tell fc st) (hL : Region.ready .any all.toArray ls = []) (h : K st) : RA fc E B all n ls st K := by
  intro F a w hr
  exact ⟨ht.hx hr, fun Q hQ hp => wpAnyH_done hL (hQ F st a w h hr) n⟩
theorem RA.fin (hL : Region.ready .any all.toArray ls = []) (h : K st) : RA [] E B all n ls st K := RA.finH Tell.e hL h
def VF (fc : Facts) (E : Env) (B : Base E.P) (o : Oper) (st : St) (d : D) : Prop :=
  ∀ (F : Nat → Prop) (a : Act) (w : World), Rel F B st a w → ∃ x, (∀ w', Hd fc w' → (execOp a.eval o).run E.P w' = .ok (.value x) w') ∧ DR F w d x []
theorem VF.p (h : VP true E B o st d) : VF fc E B o st d := fun F a w hr => by
  obtain ⟨x, h1, h2⟩ := h F a w hr
  exact ⟨x, fun w' _ => h1 w' (by simp), h2⟩
theorem RA.first {i : Nat} {ls' : Array Bool} (ht : Tell fc st) (hc : (Region.noSelect all.toArray && Region.free .any all.toArray ls i && (Region.ready .any all.toArray ls).contains i) = true) (hl : ls.setIfInBounds i true = ls')
    (ho : all[i]? = some o) (hg : o.guard = none) (hv : VF fc E B o st d) (h : RA fc E B all n ls' (setD st o.dst d) K) : RA fc E B all (n + 1) ls st K := by
  subst hl
  simp only [Bool.and_eq_true] at hc
  intro F a w hr
  refine ⟨ht.hx hr, fun Q hQ hp => ?_⟩
  obtain ⟨x, h1, h2⟩ := hv F a w hr
  have ho' : all.toArray[i]? = some o := by simpa using ho
  exact wpAnyH_take ho' hc.1.1 hc.1.2 hc.2 (fun c a w hq => absurd hq (hp _ _ _)) (.inl ⟨by simp [Region.wanted, hg], fun w' h => h1 w' h.1⟩) (ht.hx hr) ((h F _ w (hr.putD o.dst h2)).2 Q hQ hp)
theorem CW.anyQ {id : Nat} {l : List Oper} (h : RA fc E B l l.length (Array.replicate l.length false) st (Q .normal)) : CW E B (.region id l.toArray true) st Q := by
  intro F a w hr
  refine wp_region_any E.mixed ?_
  have := (h F a { w with drawn := w.drawn + 1 } (hr.grow ⟨rfl, rfl, rfl, Nat.le_refl _, fun _ _ _ => rfl⟩)).2 (fun e a' w' => e = .normal ∧ ∃ st' F', Q e st' ∧ Rel F' B st' a' w') (fun F' st' a' w' hk hr' => ⟨rfl, st', F', hk, hr'⟩) (fun c a w hq => by cases hq.1)
  have h2 := wpAny_monoQ (Q' := fun e a' w' => ∃ st' F', Q e st' ∧ Rel F' B st' a' w') (fun e a w hq => hq.2) (fun ⟨a, w, hq⟩ => by cases hq.1) _ _ _ _ (wpAny_of_held _ _ _ _ this)
  simpa using h2
theorem CW.any {id : Nat} {l : List Oper} (h : RA fc E B l l.length (Array.replicate l.length false) st (Q .normal)) : CW E B (.region id l.toArray true) st Q := CW.anyQ h
theorem RA.each0 : ∀ i ∈ ([] : List Nat), RO fc E B all n ls st K i := fun _ h => by cases h
theorem RA.each {j : Nat} {L : List Nat} (h : RO fc E B all n ls st K j) (hs : ∀ i ∈ L, RO fc E B all n ls st K i) : ∀ i ∈ j :: L, RO fc E B all n ls st K i := fun i hi => by
  rcases List.mem_cons.1 hi with rfl | hi
  · exact h
  · exact hs i hi
theorem RO.v {i : Nat} {ls' : Array Bool} (ho : all[i]? = some o) (hg : o.guard = none) (hv : V E B o st d) (hl : ls.setIfInBounds i true = ls') (h : RA fc E B all n ls' (setD st o.dst d) K) : RO fc E B all n ls st K i :=
  ⟨o, ho, hg, OK.ofV hv (by rw [hl]; exact h)⟩
theorem RO.call {i : Nat} {ls' : Array Bool} {f : FuncId} {xs : List Operand} {tys : Array TypeId} {as outs : List A} {res : R} (ho : all[i]? = some o) (hg : o.guard = none) (hf : Eng.Fn E.P f as res outs) (hop : o.op = .call { callee := .value (.func f), args := xs.toArray, argTypes := tys })
    (ha : AsAs st false none xs as) (hl : ls.setIfInBounds i true = ls') (h : ∀ g, RA fc E B all n ls' (setD st o.dst (rD g res)) K) : RO fc E B all n ls st K i := ⟨o, ho, hg, OK.call hf hop ha (fun g => by rw [hl]; exact h g)⟩
theorem RO.callOwn {i : Nat} {ls' : Array Bool} {f : FuncId} {xs : List Operand} {tys : Array TypeId} {as outs : List A} {res : R} (ho : all[i]? = some o) (hg : o.guard = none) (hf : Eng.Fn E.P f as res outs) (hop : o.op = .call { callee := .value (.func f), args := xs.toArray, argTypes := tys })
    (ha : AsAs st true none xs as) (hres : ownR res = true) (hl : ls.setIfInBounds i true = ls') (h : ∀ g, RA fc E B all n ls' (setD st o.dst (rD g res)) K) : RO fc E B all n ls st K i := ⟨o, ho, hg, OK.callOwn hf hop ha hres (fun g => by rw [hl]; exact h g)⟩
end
end Go.Eng
