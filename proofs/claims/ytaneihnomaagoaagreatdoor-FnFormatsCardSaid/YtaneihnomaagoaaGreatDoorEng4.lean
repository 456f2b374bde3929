import Derived.Test.YtaneihnomaagoaaGreatDoorEng3
namespace Go.Eng
open Go Go.RowKit

section
variable {F : Nat → Prop} {w : World}
theorem DLs_length : ∀ {ds : List D} {cs : List Value} {bs : List Nat}, DLs F w ds cs bs → cs.length = ds.length
  | [], _, _, h => by simp only [DLs] at h; simp [h.1]
  | d :: ds, cs, bs, h => by
    simp only [DLs] at h
    obtain ⟨c, cs', b1, b2, rfl, _, _, h4⟩ := h
    simp [DLs_length h4]
theorem DLs_drop : ∀ (n : Nat) {ds : List D} {cs : List Value}, DLs F w ds cs [] → DLs F w (ds.drop n) (cs.drop n) []
  | 0, _, _, h => by simpa using h
  | n + 1, [], cs, h => by simp only [DLs] at h; simp [h.1, DLs]
  | n + 1, d :: ds, cs, h => by
    simp only [DLs] at h
    obtain ⟨c, cs', b1, b2, rfl, hb, _, h4⟩ := h
    have : b2 = [] := (List.append_eq_nil_iff.1 hb.symm).2
    subst this
    simpa using DLs_drop n h4
theorem DLs_take : ∀ (n : Nat) {ds : List D} {cs : List Value}, DLs F w ds cs [] → DLs F w (ds.take n) (cs.take n) []
  | 0, _, _, h => by simp [DLs]
  | n + 1, [], cs, h => by simp only [DLs] at h; simp [h.1, DLs]
  | n + 1, d :: ds, cs, h => by
    simp only [DLs] at h
    obtain ⟨c, cs', b1, b2, rfl, hb, h3, h4⟩ := h
    obtain ⟨rfl, rfl⟩ := List.append_eq_nil_iff.1 hb.symm
    simp only [List.take_succ_cons, DLs]
    exact ⟨c, _, [], [], rfl, rfl, h3, DLs_take n h4⟩
theorem DLs_get : ∀ {ds : List D} {cs : List Value} {i : Nat} {d : D}, DLs F w ds cs [] → ds[i]? = some d → ∃ c, cs[i]? = some c ∧ DR F w d c []
  | [], _, _, _, _, hi => by simp at hi
  | d :: ds, cs, i, d', h, hi => by
    simp only [DLs] at h
    obtain ⟨c, cs', b1, b2, rfl, hb, h3, h4⟩ := h
    obtain ⟨rfl, rfl⟩ := List.append_eq_nil_iff.1 hb.symm
    cases i with
    | zero => simp at hi; subst hi; exact ⟨c, by simp, h3⟩
    | succ i => simpa using DLs_get h4 (by simpa using hi)
theorem RL_range : ∀ {ts : List T} {b o : Nat}, RL F w ts b o → ∃ cs : List Value, w.rangeAt b o cs ∧ DLs F w (ts.map D.r) cs []
  | [], b, o, _ => ⟨[], by intro j v hv; simp at hv, by simp [DLs]⟩
  | t :: ts, b, o, h => by
    simp only [RL] at h
    obtain ⟨⟨c, h1, h2⟩, h3⟩ := h
    obtain ⟨cs, h4, h5⟩ := RL_range h3
    refine ⟨c :: cs, ?_, ?_⟩
    · intro j v hv
      cases j with
      | zero => simp at hv; subst hv; exact h1
      | succ j =>
        have := h4 j v (by simpa using hv)
        rw [show o + (j + 1) = o + 1 + j from by omega]
        exact this
    · simp only [List.map_cons, DLs]
      exact ⟨c, cs, [], [], rfl, rfl, by simp [DR, h2], h5⟩
theorem RL_drop : ∀ (n : Nat) {ts : List T} {b o : Nat}, n ≤ ts.length → RL F w ts b o → RL F w (ts.drop n) b (o + n)
  | 0, _, _, _, _, h => by simpa using h
  | n + 1, [], _, _, hn, _ => by simp at hn
  | n + 1, t :: ts, b, o, hn, h => by
    simp only [RL] at h
    have := RL_drop n (by simpa using hn) h.2
    rw [show o + (n + 1) = o + 1 + n from by omega]
    simpa using this
theorem RL_take : ∀ (n : Nat) {ts : List T} {b o : Nat}, RL F w ts b o → RL F w (ts.take n) b o
  | 0, _, _, _, _ => by simp [RL]
  | n + 1, [], _, _, _ => by simp [RL]
  | n + 1, t :: ts, b, o, h => by
    simp only [RL] at h
    simp only [List.take_succ_cons, RL]
    exact ⟨h.1, RL_take n h.2⟩
end

theorem tyI_field {P : Program} {t : TypeId} {i : TyI} {fs : List (Nat × Nat × Nat)} (h : tyI P t = some i) (hf : i.td = .agg fs) {n : Nat} {x : Nat × Nat × Nat} (hx : fs[n]? = some x) :
    ∃ (fields : Array Field) (f : Field), P.underlying t = some (.struct fields) ∧ fields[n]? = some f ∧ x = (f.offset, f.type, P.cellsOf f.type) := by
  obtain ⟨j, d, z, h1, h2, h3, h4, h5, h6, h7⟩ := tyI_spec h
  rw [hf] at h7
  cases d <;> simp [tdOf] at h7
  rename_i fields
  subst h7
  rw [List.getElem?_map] at hx
  obtain ⟨f, hf1, hf2⟩ := Option.map_eq_some_iff.1 hx
  exact ⟨fields, f, h2, by simpa using hf1, hf2.symm⟩
theorem cellsOf_size {P : Program} {t : TypeId} (h : P.cellsOf t ≠ 0) (w : World) : (sizeOf t).run P w = .ok (P.cellsOf t) w := by
  unfold Program.cellsOf at h ⊢
  cases hq : P.info? t with
  | none => simp [hq] at h
  | some i => simp [sizeOf, typeInfo, hq]

section
variable {E : Env} {F : Nat → Prop} {B : Base E.P} {o : Oper} {st : St} {K : St → Prop}

theorem Rel.obj {a : Act} {w : World} (hr : Rel F B st a w) {k b : Nat} {ds : List D} (hk : gt st k = .obj b ds) :
    ∃ (cs : List Value) (ty : TypeId) (bs : List Nat), w.heap[b]? = some (.cells cs.toArray ty (0, 0)) ∧ DLs F w ds cs bs := by
  have hk' : st.get? k = some (.obj b ds) := gt_some hk (by simp)
  obtain ⟨x, bs, h1, h2⟩ := hr.slot hk'
  simp only [DR] at h2
  obtain ⟨cs, ty, bs', _, h3, _, h4⟩ := h2
  exact ⟨cs, ty, bs', h3, h4⟩
theorem rangeAt_of_block {w : World} {b : Nat} {cs : List Value} {ty : TypeId} {fr : Nat × Nat} (h : w.heap[b]? = some (.cells cs.toArray ty fr)) (off : Nat) : w.rangeAt b off (cs.drop off) := by
  intro j v hv
  simp only [World.cell?, h, Option.isSome_none, Bool.false_eq_true, if_false]
  rw [List.getElem?_drop] at hv
  simpa using hv
theorem rangeAt_take {w : World} {b o : Nat} {cs : List Value} (h : w.rangeAt b o cs) (n : Nat) : w.rangeAt b o (cs.take n) := fun j v hv => by
  rw [List.getElem?_take] at hv
  split at hv
  · exact h j v hv
  · cases hv
theorem ev_pt {a : Act} {w : World} (hr : Rel F B st a w) {x : Operand} {k b off : Nat} (hx : ev st x = .pt k b off) : a.eval x = .pointer (some ⟨b, off, none⟩) := by
  have := hr.ev x
  rw [hx] at this
  simpa [DR] using this

theorem OK.loadAgg {t : TypeId} {x : Operand} {i : TyI} {fs : List (Nat × Nat × Nat)} {k b off : Nat} {ds : List D} (ho : o.op = .load t x) (ht : E.tabs t = some i) (hf : i.td = .agg fs)
    (hx : ev st x = .pt k b off) (hk : gt st k = .obj b ds) (hl : off + i.sz ≤ ds.length) (h : K (setD st o.dst (.agg (((cpyL k 0 ds).drop off).take i.sz)))) : OK E B o st K :=
  OK.val (fun F a w hr => by
    obtain ⟨cs, ty, bs, h1, h2⟩ := hr.obj hk
    have hlen := DLs_length h2
    have hd := DLs_take i.sz (DLs_drop off (DLs_cpyL k ds 0 cs bs h2))
    have hT := E.ok _ _ ht
    obtain ⟨j, d, z, t1, t2, t3, t4, t5, t6, t7⟩ := tyI_spec hT
    have hrow : d.isRow = true := by
      rw [hf] at t7
      cases d <;> simp [tdOf] at t7 <;> rfl
    have hsz : (E.P.info? t).map (·.size) = some ((cs.drop off).take i.sz).length := by
      rw [tyI_size hT]
      simp only [List.length_take, List.length_drop]
      congr 1
      omega
    refine ⟨.agg ((cs.drop off).take i.sz).toArray, ?_, ?_⟩
    · simp [execOp, ho, ev_pt hr hx, Sem.run_bind, run_loadAt_mid w b off t _ d (rangeAt_take (rangeAt_of_block h1 off) i.sz) t2 hrow hsz]
    · simp only [DR]
      exact ⟨_, rfl, hd⟩) h
theorem OK.loadPrim {t : TypeId} {x : Operand} {i : TyI} {k b off : Nat} {ds : List D} {d : D} (ho : o.op = .load t x) (ht : E.tabs t = some i) (hf : i.td = .prim ∨ ∃ e, i.td = .slice e)
    (hx : ev st x = .pt k b off) (hk : gt st k = .obj b ds) (hl : (cpyL k 0 ds)[off]? = some d) (h : K (setD st o.dst d)) : OK E B o st K :=
  OK.val (fun F a w hr => by
    obtain ⟨cs, ty, bs, h1, h2⟩ := hr.obj hk
    obtain ⟨c, hc, hd⟩ := DLs_get (DLs_cpyL k ds 0 cs bs h2) hl
    have hcell : w.cell? ⟨b, off, none⟩ = some c := by
      simp only [World.cell?, h1, Option.isSome_none, Bool.false_eq_true, if_false]
      simpa using hc
    refine ⟨c, ?_, hd⟩
    simp [execOp, ho, ev_pt hr hx, Instr.loadAt, Instr.sureAddr, loadVar, Sem.run_bind, tyI_notAgg (E.ok _ _ ht) hf, hcell]) h
theorem ev_rp {a : Act} {w : World} (hr : Rel F B st a w) {x : Operand} {ts : List T} (hx : ev st x = .rp ts) : ∃ b o, a.eval x = .pointer (some ⟨b, o, none⟩) ∧ F b ∧ RL F w ts b o := by
  have := hr.ev x
  rw [hx] at this
  simp only [DR] at this
  exact this.1
theorem OK.loadAggR {t : TypeId} {x : Operand} {i : TyI} {fs : List (Nat × Nat × Nat)} {ts : List T} (ho : o.op = .load t x) (ht : E.tabs t = some i) (hf : i.td = .agg fs)
    (hx : ev st x = .rp ts) (hl : i.sz ≤ ts.length) (h : K (setD st o.dst (.agg ((ts.take i.sz).map .r)))) : OK E B o st K :=
  OK.val (fun F a w hr => by
    obtain ⟨b, off, h1, h2, h3⟩ := ev_rp hr hx
    obtain ⟨cs, h4, h5⟩ := RL_range h3
    have hlen := DLs_length h5
    rw [List.length_map] at hlen
    have hd := DLs_take i.sz h5
    rw [← List.map_take] at hd
    have hT := E.ok _ _ ht
    obtain ⟨j, d, z, t1, t2, t3, t4, t5, t6, t7⟩ := tyI_spec hT
    have hrow : d.isRow = true := by
      rw [hf] at t7
      cases d <;> simp [tdOf] at t7 <;> rfl
    have hsz : (E.P.info? t).map (·.size) = some (cs.take i.sz).length := by
      rw [tyI_size hT]
      simp only [List.length_take]
      congr 1
      omega
    refine ⟨.agg (cs.take i.sz).toArray, ?_, ?_⟩
    · simp [execOp, ho, h1, Sem.run_bind, run_loadAt_mid w b off t _ d (rangeAt_take h4 i.sz) t2 hrow hsz]
    · simp only [DR]
      exact ⟨_, rfl, hd⟩) h
theorem OK.loadPrimR {t : TypeId} {x : Operand} {i : TyI} {ts : List T} {t0 : T} (ho : o.op = .load t x) (ht : E.tabs t = some i) (hf : i.td = .prim ∨ ∃ e, i.td = .slice e)
    (hx : ev st x = .rp ts) (hl : ts[0]? = some t0) (h : K (setD st o.dst (.r t0))) : OK E B o st K :=
  OK.val (fun F a w hr => by
    obtain ⟨b, off, h1, h2, h3⟩ := ev_rp hr hx
    cases ts with
    | nil => simp at hl
    | cons t1 ts =>
      simp at hl
      subst hl
      simp only [RL] at h3
      obtain ⟨⟨c, h4, h5⟩, _⟩ := h3
      refine ⟨c, ?_, by simp [DR, h5]⟩
      simp [execOp, ho, h1, Instr.loadAt, Instr.sureAddr, loadVar, Sem.run_bind, tyI_notAgg (E.ok _ _ ht) hf, h4]) h
theorem run_fieldAt {s : TypeId} {i : TyI} {fs : List (Nat × Nat × Nat)} (ht : E.tabs s = some i) (hf : i.td = .agg fs) {f off ty sz : Nat} (hn : fs[f]? = some (off, ty, sz)) (hz : sz ≠ 0) (b o : Nat) (w : World) :
    (Instr.fieldAt s (.pointer (some ⟨b, o, none⟩)) f).run E.P w = .ok (.pointer (some ⟨b, o + off, none⟩)) w := by
  obtain ⟨fields, fd, h1, h2, h3⟩ := tyI_field (E.ok _ _ ht) hf hn
  obtain ⟨rfl, rfl, rfl⟩ : off = fd.offset ∧ ty = fd.type ∧ sz = E.P.cellsOf fd.type := by simpa using h3
  simp [Instr.fieldAt, Sem.run_bind, run_underlying h1, h2, Instr.sureAddr, fieldPlace, cellsOf_size hz, hz, Addr.add_mid]
theorem OK.field {s : TypeId} {x : Operand} {f off ty sz : Nat} {i : TyI} {fs : List (Nat × Nat × Nat)} {k b of : Nat} (ho : o.op = .fieldAddr s x f) (ht : E.tabs s = some i) (hf : i.td = .agg fs)
    (hn : fs[f]? = some (off, ty, sz)) (hz : sz ≠ 0) (hx : ev st x = .pt k b of) (h : K (setD st o.dst (.pt k b (of + off)))) : OK E B o st K :=
  OK.val (fun F a w hr => ⟨.pointer (some ⟨b, of + off, none⟩), by
    simp [execOp, ho, ev_pt hr hx, Sem.run_bind, run_fieldAt ht hf hn hz], by simp [DR]⟩) h
theorem OK.fieldR {s : TypeId} {x : Operand} {f off ty sz : Nat} {i : TyI} {fs : List (Nat × Nat × Nat)} {ts : List T} (ho : o.op = .fieldAddr s x f) (ht : E.tabs s = some i) (hf : i.td = .agg fs)
    (hn : fs[f]? = some (off, ty, sz)) (hz : sz ≠ 0) (hx : ev st x = .rp ts) (hl : off ≤ ts.length) (h : K (setD st o.dst (.rp (ts.drop off)))) : OK E B o st K :=
  OK.val (fun F a w hr => by
    obtain ⟨b, of, h1, h2, h3⟩ := ev_rp hr hx
    refine ⟨.pointer (some ⟨b, of + off, none⟩), by simp [execOp, ho, h1, Sem.run_bind, run_fieldAt ht hf hn hz], ?_⟩
    simp only [DR]
    exact ⟨⟨b, of + off, rfl, h2, RL_drop off hl h3⟩, trivial⟩) h
theorem OK.fieldE {s : TypeId} {x : Operand} {f off ty sz : Nat} {i : TyI} {fs : List (Nat × Nat × Nat)} {k : Nat} {j : Option Nat} {s' : Nat} {V : Value} {pos : Nat} (ho : o.op = .fieldAddr s x f) (ht : E.tabs s = some i) (hf : i.td = .agg fs)
    (hn : fs[f]? = some (off, ty, sz)) (hz : sz ≠ 0) (hx : ev st x = .ep k j s' V pos) (h : K (setD st o.dst (.ep k j s' V (pos + off)))) : OK E B o st K :=
  OK.val (fun F a w hr => by
    have := hr.ev x
    rw [hx] at this
    simp only [DR] at this
    obtain ⟨⟨b, of, n, c, h1, h2⟩, _⟩ := this
    refine ⟨.pointer (some ⟨b, of + pos + off, none⟩), by simp [execOp, ho, h2, Sem.run_bind, run_fieldAt ht hf hn hz], ?_⟩
    simp only [DR]
    exact ⟨⟨b, of, n, c, h1, by rw [Nat.add_assoc]⟩, trivial⟩) h
theorem run_indexAt_in {t e : TypeId} {i : TyI} (ht : E.tabs t = some i) (he : i.td = .slice e) {ie : TyI} (hte : E.tabs e = some ie) (b o n c : Nat) (k : IntKind) (iv : Int) (h0 : 0 ≤ iv) (h1 : iv < n) (w : World) :
    (Instr.indexAt t (.slice (some ⟨b, o, none⟩) n c) (.int k iv)).run E.P w = .ok (.pointer (some ⟨b, o + iv.toNat * ie.sz, none⟩)) w := by
  simp [Instr.indexAt, Sem.run_bind, run_underlying (tyI_slice (E.ok _ _ ht) he), asIntOf, h0, h1, tyI_sizeOf (E.ok _ _ hte), Addr.add_mid]
theorem OK.indexR {t e : TypeId} {x y : Operand} {i ie : TyI} {n : Nat} {ts : List T} {k : IntKind} {iv : Int} (ho : o.op = .indexAddr t x y) (ht : E.tabs t = some i) (he : i.td = .slice e) (hte : E.tabs e = some ie)
    (hx : ev st x = .r (.a ie.sz n ts)) (hy : ev st y = .r (.v (.int k iv))) (h0 : 0 ≤ iv) (h1 : iv < n) (h : K (setD st o.dst (.rp (ts.drop (iv.toNat * ie.sz))))) : OK E B o st K :=
  OK.val (fun F a w hr => by
    have hx' := hr.ev x
    rw [hx] at hx'
    simp only [DR, RT] at hx'
    rcases hx'.1 with ⟨_, _, _, h2, _⟩ | ⟨b, of, cap, g1, g2, g3, g4, g5, g6⟩
    · subst h2; omega
    · refine ⟨.pointer (some ⟨b, of + iv.toNat * ie.sz, none⟩), by simp [execOp, ho, g1, ev_scalar hr hy, Sem.run_bind, run_indexAt_in ht he hte b of n cap k iv h0 h1], ?_⟩
      simp only [DR]
      refine ⟨⟨b, _, rfl, g4, RL_drop _ ?_ g6⟩, trivial⟩
      rw [g5]
      exact Nat.mul_le_mul_right _ (by omega)) h

theorem Rel.putNew' {a : Act} {w : World} (h : Rel F B st a w) (k : Option Tmp) {w' : World} (hs : Stp w w' []) {d : D} {x : Value} {bs : List Nat} (hd : DR F w' d x bs) (hn : bs.Nodup)
    (hb : ∀ b ∈ bs, w.heap.size ≤ b ∧ b < w'.heap.size) : Rel F B (setD st k d) (a.put k x) w' := by
  cases k with
  | none => exact h.grow hs
  | some k =>
    by_cases hk : k < st.length
    · exact h.putNew hk hs hd hn hb
    · have h2 : a.put (some k) x = a := by
        have hs : a.tmps.setIfInBounds k x = a.tmps := by rw [Array.setIfInBounds, dif_neg (by rw [h.len]; exact hk)]
        simp [Act.put, hs]
      simp only [setD, h2]
      exact (h.grow hs).oob' (Nat.le_of_not_lt hk)

theorem DR_fix {F : Nat → Prop} {w : World} (hF : ∀ b, F b → b < w.heap.size) (ob : Obj) {d : D} {x : Value} (h : DR F w d x []) : DR F (w.alloc ob) d x [] :=
  DR_world (fun b hb => Below.heap_alloc w ob b (hF b hb)) d x [] (by simp) h
theorem DLs_fix {F : Nat → Prop} {w : World} (hF : ∀ b, F b → b < w.heap.size) (ob : Obj) {ds : List D} {cs : List Value} (h : DLs F w ds cs []) : DLs F (w.alloc ob) ds cs [] :=
  DLs_world (fun b hb => Below.heap_alloc w ob b (hF b hb)) ds cs [] (by simp) h
theorem Rel.newObj {a : Act} {w : World} (hr : Rel F B st a w) (k : Option Tmp) (ty : TypeId) {ds : List D} {cs : List Value} (hd : DLs F w ds cs []) :
    Rel F B (setD st k (.obj w.heap.size ds)) (a.put k (.pointer (some ⟨w.heap.size, 0, none⟩))) (w.alloc (.cells cs.toArray ty)) := by
  refine hr.putNew' k (Stp.alloc w _ []) (d := .obj w.heap.size ds) (bs := [w.heap.size]) ?_ (by simp) (by simp)
  simp only [DR]
  exact ⟨cs, ty, [], trivial, heap_alloc_new w _, rfl, DLs_fix hr.Flt _ hd⟩

theorem DLs_zero (vs : List Value) (w : World) : DLs F w (vs.map fun v => D.r (.v v)) vs [] := by
  induction vs with
  | nil => simp [DLs]
  | cons v vs ih =>
    simp only [List.map_cons, DLs]
    exact ⟨v, vs, [], [], rfl, rfl, by simp [DR, RT], ih⟩

theorem OK.alloc {t : TypeId} {i : TyI} (ho : o.op = .alloc t) (ht : E.tabs t = some i) (h : ∀ b, K (setD st o.dst (.obj b (i.zero.map fun v => D.r (.v v))))) : OK E B o st K := by
  intro F a w hr next Q hn
  obtain ⟨z, hz1, hz2⟩ := tyI_zero (E.ok _ _ ht) w
  have hrun : (execOp a.eval o).run E.P w = .ok (.value (.pointer (some ⟨w.heap.size, 0, none⟩))) (w.alloc (.cells i.zero.toArray t)) := by
    rw [← hz1]
    simp [execOp, ho, Instr.alloc, Sem.run_bind, hz2, newVar, newRow, newObj]
    rfl
  unfold Oper.wp
  rw [hrun, Oper.upon_value]
  exact hn _ _ _ _ (h _) (hr.newObj o.dst t (DLs_zero i.zero w))
theorem OK.boxAgg {t : TypeId} {x : Operand} {ds : List D} (ho : o.op = .box t x) (hx : ev st x = .agg ds) (h : ∀ b, K (setD st o.dst (.obj b ds))) : OK E B o st K := by
  intro F a w hr next Q hn
  have hx' := hr.ev x
  rw [hx] at hx'
  simp only [DR] at hx'
  obtain ⟨cs, h1, h2⟩ := hx'
  have hrun : (execOp a.eval o).run E.P w = .ok (.value (.pointer (some ⟨w.heap.size, 0, none⟩))) (w.alloc (.cells cs.toArray t)) := by
    simp [execOp, ho, h1, Instr.box, Sem.run_bind, newVar, newRow, newObj, Value.cells]
    rfl
  unfold Oper.wp
  rw [hrun, Oper.upon_value]
  exact hn _ _ _ _ (h _) (hr.newObj o.dst t h2)
theorem OK.boxPrim {t : TypeId} {x : Operand} {v : Value} (ho : o.op = .box t x) (hx : ev st x = .r (.v v)) (hv : v.cells = #[v]) (h : ∀ b, K (setD st o.dst (.obj b [.r (.v v)]))) : OK E B o st K := by
  intro F a w hr next Q hn
  have hrun : (execOp a.eval o).run E.P w = .ok (.value (.pointer (some ⟨w.heap.size, 0, none⟩))) (w.alloc (.cells [v].toArray t)) := by
    simp [execOp, ho, ev_scalar hr hx, Instr.box, Sem.run_bind, newVar, newRow, newObj, hv]
    rfl
  unfold Oper.wp
  rw [hrun, Oper.upon_value]
  exact hn _ _ _ _ (h _) (hr.newObj o.dst t (DLs_zero [v] w))
end
end Go.Eng
