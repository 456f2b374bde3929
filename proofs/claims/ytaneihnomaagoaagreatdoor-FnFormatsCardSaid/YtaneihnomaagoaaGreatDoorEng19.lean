import Derived.Test.YtaneihnomaagoaaGreatDoorEng16
import Derived.Great.BuildSlice
import Derived.Laws.BytesString
import Derived.Deep.AppendSrc
namespace Go.Eng
open Go Go.RowKit

section
variable {E : Env} {F : Nat → Prop} {B : Base E.P} {w : World} {o : Oper} {st : St} {K : St → Prop} {a : Act} {d : D} {Q : Exit → St → Prop} {all rest : List Oper}
theorem V.quo {pu : Bool} {t u : TypeId} {x y : Operand} {k : IntKind} {p q : Int} (ho : o.op = .binOp .quo t x y u) (hx : ev st x = .r (.v (.int k p))) (hy : ev st y = .r (.v (.int k q))) (hb : q ≠ 0) : VP pu E B o st (.r (.v (.int k (k.wrap (p.tdiv q))))) := fun F a w hr =>
  ⟨.int k (k.wrap (p.tdiv q)), fun w' hs => by simp [execOp, ho, ev_scalar hr hx, ev_scalar hr hy, eqGuard, binOp, Op.intDiv, hb], by simp [DR, RT]⟩
theorem V.rem {pu : Bool} {t u : TypeId} {x y : Operand} {k : IntKind} {p q : Int} (ho : o.op = .binOp .rem t x y u) (hx : ev st x = .r (.v (.int k p))) (hy : ev st y = .r (.v (.int k q))) (hb : q ≠ 0) : VP pu E B o st (.r (.v (.int k (p.tmod q)))) := fun F a w hr =>
  ⟨.int k (p.tmod q), fun w' hs => by simp [execOp, ho, ev_scalar hr hx, ev_scalar hr hy, eqGuard, binOp, Op.intDiv, hb], by simp [DR, RT]⟩
theorem V.cat {pu : Bool} {t u : TypeId} {x y : Operand} {p q : ByteArray} (ho : o.op = .binOp .add t x y u) (hx : ev st x = .r (.v (.string p))) (hy : ev st y = .r (.v (.string q))) (hl : p.size + q.size ≤ maxLen) : VP pu E B o st (.r (.v (.string (p ++ q)))) := fun F a w hr =>
  ⟨.string (p ++ q), fun w' hs => by simp [execOp, ho, ev_scalar hr hx, ev_scalar hr hy, eqGuard, binOp, Op.stringOp]; simp only [maxLen] at hl; omega, by simp [DR, RT]⟩
theorem V.convInt {pu : Bool} {s t : TypeId} {x : Operand} {k k' : IntKind} {p : Int} (ho : o.op = .convert s t x) (hs : E.P.underlying s = some (.int k')) (ht : E.P.underlying t = some (.int k)) (hx : ev st x = .r (.v (.int k' p))) : VP pu E B o st (.r (.v (.int k (k.wrap p)))) := fun F a w hr =>
  ⟨.int k (k.wrap p), fun w' hs' => by simp [execOp, ho, ev_scalar hr hx, convert, Sem.run_bind, run_underlying hs, run_underlying ht, Conv.intToInt], by simp [DR, RT]⟩
theorem DW_OL : ∀ {es : List D} {us : List T} {vs : List Value} {bs : List Nat}, DW es us → DLs F w es vs bs → OL w us vs bs
  | [], us, vs, bs, h, h' => by
    simp only [DW] at h
    simp only [DLs] at h'
    subst h
    simp [OL, h'.2]
  | e :: es, us, vs, bs, h, h' => by
    simp only [DW] at h
    obtain ⟨t, ts', rfl, h1, h2⟩ := h
    simp only [DLs] at h'
    obtain ⟨c, cs', b1, b2, rfl, rfl, h3, h4⟩ := h'
    simp only [OL]
    exact ⟨c, cs', b1, b2, rfl, rfl, DT1_CR h1 h3, DW_OL h2 h4⟩
theorem OK.build0 {α : Type} {t e : TypeId} {i ie : TyI} (c : α → List T) (ho : o.op = .buildSlice t 0 #[]) (ht : E.tabs t = some i) (he : i.td = .slice e) (hte : E.tabs e = some ie)
    (h : ∀ X, K (setD st o.dst (.w (sl ie.sz c []) X))) : OK E B o st K := by
  intro F a w hr next Q hn
  obtain ⟨j, d, z, t1, t2, t3, t4, t5, t6, t7⟩ := tyI_spec (E.ok _ _ hte)
  have hu := tyI_slice (E.ok _ _ ht) he
  have hrun : (execOp a.eval o).run E.P w = .ok (.value (.slice (some ⟨w.heap.size, 0, none⟩) 0 0)) (w.alloc (.cells ([] : List Value).toArray e)) := by
    have e0 : (Array.range 0).map (fun _ => (default : Value)) = #[] := Array.eq_empty_of_size_eq_zero (by simp)
    simp [execOp, ho, Instr.buildSlice, run_underlying hu, Sem.run_bind, tyI_sizeOf (E.ok _ _ hte), Instr.fill, newRow]
    rw [e0]
  unfold Oper.wp
  rw [hrun, Oper.upon_value]
  refine hn _ _ _ _ (h (.slice (some ⟨w.heap.size, 0, none⟩) 0 0)) (hr.putNew' o.dst (Stp.alloc w _ []) (d := .w _ _) (bs := [w.heap.size]) ?_ (by simp) (by simp))
  simp only [DR, sl, OT]
  exact ⟨trivial, .inr ⟨w.heap.size, 0, 0, ([] : List Value).toArray, e, [], rfl, Nat.le_refl _, by simp, heap_alloc_new w _, by simp, by simp, rfl, by simp [OL]⟩⟩
theorem build1_run {t e : TypeId} {i ie : TyI} {x : Operand} {vs : List Value} (ho : o.op = .buildSlice t 1 #[(0, x)]) (ht : E.tabs t = some i) (he : i.td = .slice e) (hte : E.tabs e = some ie) (hx : (a.eval x).cells = vs.toArray) (hl : vs.length = ie.sz) (hp : ie.sz ≠ 0) (hsm : ie.sz ≤ 1000) :
    (execOp a.eval o).run E.P w = .ok (.value (.slice (some ⟨w.heap.size, 0, none⟩) 1 1)) (w.alloc (.cells vs.toArray e)) := by
  obtain ⟨j, d, z, t1, t2, t3, t4, t5, t6, t7⟩ := tyI_spec (E.ok _ _ hte)
  have hu := tyI_slice (E.ok _ _ ht) he
  have hf : Instr.fill (fun i => some (i * j.size, j.size)) ((Array.range (1 * j.size)).map (z.cells[· % z.cells.size]!)) [(0, a.eval x)] = some vs.toArray := by
    rw [fill_cons (off := 0) hx (by simp [t4, hl]) (by simp [t4, hl])]
    simp only [Instr.fill]
    rw [setN_eq _ _ _ (by simp [t4, hl])]
    simp [t4, hl]
  have := run_buildSlice w t e 1 #[(0, a.eval x)] vs.toArray j z hu t1 t3 (by rw [t4]; omega) (by rw [t4]; omega) (by simpa using hf)
  simp [execOp, ho, Sem.run_bind, this]
theorem OK.build1 {α : Type} {t e : TypeId} {x : Operand} {i ie : TyI} {c : α → List T} {v : α} {es : List D} (ho : o.op = .buildSlice t 1 #[(0, x)]) (ht : E.tabs t = some i) (he : i.td = .slice e) (hte : E.tabs e = some ie)
    (hx : ev st x = .agg es) (hw : DW es (c v)) (hc : ∀ x, (c x).length = ie.sz) (hp : ie.sz ≠ 0) (hsm : ie.sz ≤ 1000) (h : ∀ X, K (setD st o.dst (.w (sl ie.sz c [v]) X))) : OK E B o st K := by
  intro F a w hr next Q hn
  have hxv := hr.ev x
  rw [hx] at hxv
  simp only [DR] at hxv
  obtain ⟨vs, hv1, hv2⟩ := hxv
  have hl : vs.length = ie.sz := by rw [DLs_length hv2, ← DW_len hw, hc]
  unfold Oper.wp
  rw [build1_run ho ht he hte (vs := vs) (by rw [hv1]; rfl) hl hp hsm, Oper.upon_value]
  refine hn _ _ _ _ (h (.slice (some ⟨w.heap.size, 0, none⟩) 1 1)) (hr.putNew' o.dst (Stp.alloc w _ []) (d := .w _ _) (bs := [w.heap.size]) ?_ (by simp) (by simp))
  simp only [DR, sl, OT]
  refine ⟨trivial, .inr ⟨w.heap.size, 0, 1, vs.toArray, e, [], rfl, Nat.le_refl _, by simp [maxLen], heap_alloc_new w _, by simp [hl], by simp [hc], rfl, ?_⟩⟩
  have h2 := DLs_fix hr.Flt (.cells vs.toArray e) hv2
  simpa using DW_OL hw h2
theorem OK.build1c {α : Type} {t e : TypeId} {x : Operand} {i ie : TyI} {c : α → List T} {v : α} {u : T} (ho : o.op = .buildSlice t 1 #[(0, x)]) (ht : E.tabs t = some i) (he : i.td = .slice e) (hte : E.tabs e = some ie)
    (h1 : one1 (ev st x) = true) (hw : DT1 (ev st x) (.w u)) (hu : c v = [u]) (hsz : ie.sz = 1) (h : ∀ X, K (setD st o.dst (.w (sl ie.sz c [v]) X))) : OK E B o st K := by
  intro F a w hr next Q hn
  have hxv := hr.ev x
  have hone := one1_val h1 hxv
  unfold Oper.wp
  rw [build1_run ho ht he hte (vs := [a.eval x]) (oneCell_cells hone) (by simp [hsz]) (by omega) (by omega), Oper.upon_value]
  refine hn _ _ _ _ (h (.slice (some ⟨w.heap.size, 0, none⟩) 1 1)) (hr.putNew' o.dst (Stp.alloc w _ []) (d := .w _ _) (bs := [w.heap.size]) ?_ (by simp) (by simp))
  simp only [DR, sl, OT]
  refine ⟨trivial, .inr ⟨w.heap.size, 0, 1, [a.eval x].toArray, e, [], rfl, Nat.le_refl _, by simp [maxLen], heap_alloc_new w _, by simp [hsz], by simp [hu, hsz], rfl, ?_⟩⟩
  have h2 := DR_fix hr.Flt (.cells [a.eval x].toArray e) hxv
  have h3 := DT1_CR hw h2
  simp only [CR] at h3
  simp [hu, OL, h3]
end
end Go.Eng

namespace Go.Eng
open Go Go.RowKit

section
variable {E : Env} {F : Nat → Prop} {B : Base E.P} {w : World} {o : Oper} {st : St} {K : St → Prop} {a : Act}
def Had {P : Program} (F : Nat → Prop) (B : Base P) (w : World) (own : Nat → Nat) (S : List Nat) (b : Nat) : Prop := own b ∈ S ∧ (¬ F b ∧ (b ∈ B.bs ∨ B.w.heap.size ≤ b)) ∧ b < w.heap.size
theorem Rel.gather (hr : Rel F B st a w) (S : List Nat) (m : Nat) (hm : m ∈ S) :
    ∃ own : Nat → Nat, (∀ i d, i ∈ S → st.get? i = some d → ∃ x bs, a.tmps[i]? = some x ∧ DR F w d x bs ∧ bs.Nodup ∧ ∀ b ∈ bs, own b = i ∧ Had F B w own S b) ∧
      ∀ (w' : World) (a' : Act) (st' : St) (d : D) (x : Value) (cs W : List Nat), Stp w w' W → (∀ b ∈ W, Had F B w own S b) → a'.defers = a.defers → a'.tmps.size = a.tmps.size → st'.length = st.length →
        (∀ i, i ∉ S → st'.get? i = st.get? i ∧ a'.tmps[i]? = a.tmps[i]?) → (∀ i e, i ∈ S → i ≠ m → st'.get? i = some e → e = .u) →
        (∀ e, st'.get? m = some e → e = d ∧ a'.tmps[m]? = some x) → DR F w' d x cs → cs.Nodup → (∀ b ∈ cs, (Had F B w own S b ∨ w.heap.size ≤ b) ∧ b < w'.heap.size) → Rel F B st' a' w' := by
  obtain ⟨own, hs⟩ := hr.slots
  refine ⟨own, fun i d hi hd => ?_, ?_⟩
  · obtain ⟨x, bs, h1, h2, h3, h4⟩ := hs i d hd
    exact ⟨x, bs, h1, h2, h3, fun b hb => ⟨(h4 b hb).1, by rw [(h4 b hb).1]; exact hi, (h4 b hb).2⟩⟩
  · intro w' a' st' d x cs W hst hW hdef hsz hn hoth hS hmd hd hnd hin
    have hF : ∀ b, F b → w'.heap[b]? = w.heap[b]? := fun b hb => hst.block b (hr.Flt b hb) (fun hw => (hW b hw).2.1.1 hb)
    refine ⟨hdef.trans hr.defers, by rw [hsz, hr.len, hn], hr.fr.stp hst (fun b hb => (hW b hb).2.1.2), fun b hb => Nat.lt_of_lt_of_le (hr.Flt b hb) hst.size, hr.Fin, fun b => if b ∈ cs then m else own b, fun i e hi => ?_⟩
    by_cases him : i = m
    · subst him
      obtain ⟨rfl, h1⟩ := hmd e hi
      refine ⟨x, cs, h1, hd, hnd, fun b hb => ⟨by simp [hb], ?_, (hin b hb).2⟩⟩
      rcases (hin b hb).1 with h | h
      · exact h.2.1
      · exact ⟨fun hf => by have := hr.Flt b hf; omega, .inr (Nat.le_trans hr.fr.size h)⟩
    · by_cases hiS : i ∈ S
      · have := hS i e hiS him hi
        subst this
        have hlt : i < a'.tmps.size := by rw [hsz, hr.len, ← hn]; exact St.get_lt hi
        exact ⟨a'.tmps[i], [], Array.getElem?_eq_getElem hlt, by simp [DR], by simp, by simp⟩
      · obtain ⟨h1, h2⟩ := hoth i hiS
        rw [h1] at hi
        obtain ⟨y, bs, f1, f2, f3, f4⟩ := hs i e hi
        have hnot : ∀ b ∈ bs, ¬ Had F B w own S b := fun b hb h => hiS ((f4 b hb).1 ▸ h.1)
        refine ⟨y, bs, by rw [h2]; exact f1, DR_world hF e y bs (fun b hb => hst.block b (f4 b hb).2.2 (fun hw => hnot b hb (hW b hw))) f2, f3, fun b hb => ⟨?_, (f4 b hb).2.1, Nat.lt_of_lt_of_le (f4 b hb).2.2 hst.size⟩⟩
        have : b ∉ cs := fun hc => by
          rcases (hin b hc).1 with h | h
          · exact hnot b hb h
          · have := (f4 b hb).2.2; omega
        simp [this, (f4 b hb).1]
end
end Go.Eng

namespace Go.Eng
open Go Go.RowKit

section
variable {w : World}
theorem OL_app : ∀ {ts us : List T} {cs ds r : List Value} {bs es : List Nat}, OL w ts cs bs → OL w us ds es → OL w (ts ++ us) (cs.take ts.length ++ (ds ++ r)) (bs ++ es)
  | [], us, cs, ds, r, bs, es, h, h' => by
    simp only [OL] at h
    subst h
    have : ∀ {us : List T} {ds : List Value} {es : List Nat}, OL w us ds es → OL w us (ds ++ r) es := by
      intro us
      induction us with
      | nil => intro ds es h; simpa [OL] using h
      | cons u us ih =>
        intro ds es h
        simp only [OL] at h ⊢
        obtain ⟨c, cs', b1, b2, rfl, rfl, h3, h4⟩ := h
        exact ⟨c, cs' ++ r, b1, b2, rfl, rfl, h3, ih h4⟩
    simpa using this h'
  | t :: ts, us, cs, ds, r, bs, es, h, h' => by
    simp only [OL] at h
    obtain ⟨c, cs', b1, b2, rfl, rfl, h3, h4⟩ := h
    simp only [List.length_cons, List.take_succ_cons, List.cons_append, OL]
    exact ⟨c, _, b1, b2 ++ es, rfl, by simp, h3, OL_app h4 h'⟩
end
section
variable {E : Env} {F : Nat → Prop} {B : Base E.P} {w : World} {o : Oper} {st : St} {K : St → Prop} {a : Act}
theorem append_room_list {α : Type} (cs news : List α) (of p : Nat) (h : of + p + news.length ≤ cs.length) : (setN cs (of + p) news).drop of = (cs.drop of).take p ++ (news ++ (cs.drop of).drop (p + news.length)) := by
  rw [setN_drop, setN_eq _ _ _ (by simp; omega)]
  simp
end
end Go.Eng

namespace Go.Eng
open Go Go.RowKit

section
variable {E : Env} {F : Nat → Prop} {B : Base E.P} {w : World} {o : Oper} {st : St} {K : St → Prop} {a : Act} {d : D} {all rest : List Oper}
theorem RW.build0 {α : Type} {t e : TypeId} {i ie : TyI} (c : α → List T) (hg : o.guard = none) (ho : o.op = .buildSlice t 0 #[]) (ht : E.tabs t = some i) (he : i.td = .slice e) (hte : E.tabs e = some ie)
    (h : ∀ X, RW E B all rest (setD st o.dst (.w (sl ie.sz c []) X)) K) : RW E B all (o :: rest) st K := RW.cons hg (OK.build0 c ho ht he hte h)
theorem RW.build1 {α : Type} {t e : TypeId} {x : Operand} {i ie : TyI} {c : α → List T} {v : α} {es : List D} (hg : o.guard = none) (ho : o.op = .buildSlice t 1 #[(0, x)]) (ht : E.tabs t = some i) (he : i.td = .slice e) (hte : E.tabs e = some ie)
    (hx : ev st x = .agg es) (hw : DW es (c v)) (hc : ∀ x, (c x).length = ie.sz) (hp : ie.sz ≠ 0) (hsm : ie.sz ≤ 1000) (h : ∀ X, RW E B all rest (setD st o.dst (.w (sl ie.sz c [v]) X)) K) : RW E B all (o :: rest) st K :=
  RW.cons hg (OK.build1 ho ht he hte hx hw hc hp hsm h)
theorem RW.build1c {α : Type} {t e : TypeId} {x : Operand} {i ie : TyI} {c : α → List T} {v : α} {u : T} (hg : o.guard = none) (ho : o.op = .buildSlice t 1 #[(0, x)]) (ht : E.tabs t = some i) (he : i.td = .slice e) (hte : E.tabs e = some ie)
    (h1 : one1 (ev st x) = true) (hw : DT1 (ev st x) (.w u)) (hu : c v = [u]) (hsz : ie.sz = 1) (h : ∀ X, RW E B all rest (setD st o.dst (.w (sl ie.sz c [v]) X)) K) : RW E B all (o :: rest) st K := RW.cons hg (OK.build1c ho ht he hte h1 hw hu hsz h)
def cU (n : Int) : List T := [.v (.int .u8 n)]
theorem cU.len (n : Int) : (cU n).length = 1 := rfl
def bytesOf (l : List Int) : ByteArray := l.foldl (fun r n => r.push (UInt8.ofNat n.toNat)) ByteArray.empty
end
end Go.Eng
