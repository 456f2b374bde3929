import Derived.Test.YtaneihnomaagoaaGreatDoorEng8
import Derived.Deep.Upon
import Derived.Laws.MakeOwn
namespace Go.Eng
open Go Go.RowKit

def setN {α : Type} : List α → Nat → List α → List α
  | l, _, [] => l
  | l, o, v :: r => setN (l.set o v) (o + 1) r
theorem setN_length {α : Type} : ∀ (vs : List α) (l : List α) (o : Nat), (setN l o vs).length = l.length
  | [], _, _ => rfl
  | v :: r, l, o => by simp [setN, setN_length r]
theorem setN_eq {α : Type} : ∀ (vs : List α) (l : List α) (o : Nat), o + vs.length ≤ l.length → setN l o vs = l.take o ++ vs ++ l.drop (o + vs.length)
  | [], l, o, h => by simp [setN]
  | v :: r, l, o, h => by
    simp only [List.length_cons] at h
    rw [setN, setN_eq r (l.set o v) (o + 1) (by simp; omega)]
    have h1 : (l.set o v).take (o + 1) = l.take o ++ [v] := by
      rw [List.take_succ_eq_append_getElem (by simp; omega)]
      simp [List.take_set_of_le]
    have h2 : (l.set o v).drop (o + 1 + r.length) = l.drop (o + (v :: r).length) := by
      rw [List.drop_set_of_lt (by omega)]
      congr 1
      simp
      omega
    rw [h1, h2]
    simp
theorem heap_setCells (b : Nat) : ∀ (vs : List Value) (o : Nat) (w : World) (cs : List Value) (ty : TypeId) (fr : Nat × Nat), w.heap[b]? = some (.cells cs.toArray ty fr) → (w.setCells b o vs).heap[b]? = some (.cells (setN cs o vs).toArray ty fr)
  | [], _, _, _, _, _, h => h
  | v :: r, o, w, cs, ty, fr, h => by
    rw [World.setCells, setN]
    refine heap_setCells b r (o + 1) _ _ ty fr ?_
    have hlt : b < w.heap.size := (Array.getElem?_eq_some_iff.1 h).1
    simp [World.setCell, Array.getElem?_modify, h]
theorem Stp.setCells (b : Nat) : ∀ (vs : List Value) (o : Nat) (w : World), Stp w (w.setCells b o vs) [b]
  | [], _, w => Stp.refl _ _
  | v :: r, o, w => (Stp.set w ⟨b, o, none⟩ v).trans (Stp.setCells b r (o + 1) _)

section
variable {F : Nat → Prop} {w : World}
theorem DLs_set : ∀ {ds : List D} {cs : List Value} {bs : List Nat} {i : Nat} {d : D} {v : Value} {ce : List Nat}, DLs F w ds cs bs → DR F w d v ce → i < ds.length →
    ∃ bs', DLs F w (ds.set i d) (cs.set i v) bs' ∧ (∀ b ∈ bs', b ∈ bs ∨ b ∈ ce) ∧ ((bs ++ ce).Nodup → bs'.Nodup)
  | [], _, _, _, _, _, _, _, _, hi => by simp at hi
  | d0 :: ds, cs, bs, i, d, v, ce, h, hd, hi => by
    simp only [DLs] at h
    obtain ⟨c, cs', b1, b2, rfl, rfl, h3, h4⟩ := h
    cases i with
    | zero =>
      refine ⟨ce ++ b2, ?_, ?_, ?_⟩
      · simp only [List.set_cons_zero, DLs]
        exact ⟨v, cs', ce, b2, rfl, rfl, hd, h4⟩
      · intro b hb
        rcases List.mem_append.1 hb with hb | hb <;> simp [hb]
      · intro hn
        rw [List.nodup_append] at hn
        obtain ⟨n1, n2, n3⟩ := hn
        rw [List.nodup_append] at n1
        rw [List.nodup_append]
        exact ⟨n2, n1.2.1, fun a ha b hb e => n3 b (by simp [hb]) a ha e.symm⟩
    | succ i =>
      obtain ⟨bs', g1, g2, g3⟩ := DLs_set h4 hd (by simpa using hi)
      refine ⟨b1 ++ bs', ?_, ?_, ?_⟩
      · simp only [List.set_cons_succ, DLs]
        exact ⟨c, _, b1, bs', rfl, rfl, h3, g1⟩
      · intro b hb
        rcases List.mem_append.1 hb with hb | hb
        · simp [hb]
        · rcases g2 b hb with hb | hb <;> simp [hb]
      · intro hn
        rw [List.append_assoc, List.nodup_append] at hn
        rw [List.nodup_append]
        exact ⟨hn.1, g3 hn.2.1, fun a ha b hb e => by
          rcases g2 b hb with hb | hb
          · exact hn.2.2 a ha b (by simp [hb]) e
          · exact hn.2.2 a ha b (by simp [hb]) e⟩
theorem DLs_setN : ∀ {es : List D} {ds : List D} {cs vs : List Value} {bs ce : List Nat} {o : Nat}, DLs F w ds cs bs → DLs F w es vs ce → o + es.length ≤ ds.length →
    ∃ bs', DLs F w (setN ds o es) (setN cs o vs) bs' ∧ (∀ b ∈ bs', b ∈ bs ∨ b ∈ ce) ∧ ((bs ++ ce).Nodup → bs'.Nodup)
  | [], ds, cs, vs, bs, ce, o, h, he, ho => by
    simp only [DLs] at he
    obtain ⟨rfl, rfl⟩ := he
    exact ⟨bs, h, fun b hb => .inl hb, fun hn => by simpa using hn⟩
  | e :: es, ds, cs, vs, bs, ce, o, h, he, ho => by
    simp only [DLs] at he
    obtain ⟨c, cs', b1, b2, rfl, rfl, h3, h4⟩ := he
    simp only [List.length_cons] at ho
    obtain ⟨bs1, g1, g2, g3⟩ := DLs_set (i := o) h h3 (by omega)
    obtain ⟨bs2, f1, f2, f3⟩ := DLs_setN (o := o + 1) g1 h4 (by simp; omega)
    refine ⟨bs2, f1, ?_, ?_⟩
    · intro b hb
      rcases f2 b hb with hb | hb
      · rcases g2 b hb with hb | hb <;> simp [hb]
      · simp [hb]
    · intro hn
      refine f3 ?_
      rw [← List.append_assoc, List.nodup_append] at hn
      rw [List.nodup_append]
      refine ⟨g3 hn.1, hn.2.1, fun a ha b hb e => ?_⟩
      exact hn.2.2 a (by rcases g2 a ha with h | h <;> simp [h]) b hb e
theorem OL_set : ∀ {ts : List T} {cs : List Value} {bs : List Nat} {i : Nat} {t : T} {v : Value} {ce : List Nat}, OL w ts cs bs → OT w t v ce → i < ts.length →
    ∃ bs', OL w (ts.set i t) (cs.set i v) bs' ∧ (∀ b ∈ bs', b ∈ bs ∨ b ∈ ce) ∧ ((bs ++ ce).Nodup → bs'.Nodup)
  | [], _, _, _, _, _, _, _, _, hi => by simp at hi
  | d0 :: ds, cs, bs, i, d, v, ce, h, hd, hi => by
    simp only [OL] at h
    obtain ⟨c, cs', b1, b2, rfl, rfl, h3, h4⟩ := h
    cases i with
    | zero =>
      refine ⟨ce ++ b2, ?_, ?_, ?_⟩
      · simp only [List.set_cons_zero, OL]
        exact ⟨v, cs', ce, b2, rfl, rfl, hd, h4⟩
      · intro b hb
        rcases List.mem_append.1 hb with hb | hb <;> simp [hb]
      · intro hn
        rw [List.nodup_append] at hn
        obtain ⟨n1, n2, n3⟩ := hn
        rw [List.nodup_append] at n1
        rw [List.nodup_append]
        exact ⟨n2, n1.2.1, fun a ha b hb e => n3 b (by simp [hb]) a ha e.symm⟩
    | succ i =>
      obtain ⟨bs', g1, g2, g3⟩ := OL_set h4 hd (by simpa using hi)
      refine ⟨b1 ++ bs', ?_, ?_, ?_⟩
      · simp only [List.set_cons_succ, OL]
        exact ⟨c, _, b1, bs', rfl, rfl, h3, g1⟩
      · intro b hb
        rcases List.mem_append.1 hb with hb | hb
        · simp [hb]
        · rcases g2 b hb with hb | hb <;> simp [hb]
      · intro hn
        rw [List.append_assoc, List.nodup_append] at hn
        rw [List.nodup_append]
        exact ⟨hn.1, g3 hn.2.1, fun a ha b hb e => by
          rcases g2 b hb with hb | hb
          · exact hn.2.2 a ha b (by simp [hb]) e
          · exact hn.2.2 a ha b (by simp [hb]) e⟩
def DW : List D → List T → Prop
  | [], ts => ts = []
  | d :: ds, ts => ∃ t ts', ts = t :: ts' ∧ DT1 d (.w t) ∧ DW ds ts'
theorem OL_setN : ∀ {es : List D} {us : List T} {ts : List T} {cs vs : List Value} {bs ce : List Nat} {o : Nat}, OL w ts cs bs → DW es us → DLs F w es vs ce → o + es.length ≤ ts.length →
    ∃ bs', OL w (setN ts o us) (setN cs o vs) bs' ∧ (∀ b ∈ bs', b ∈ bs ∨ b ∈ ce) ∧ ((bs ++ ce).Nodup → bs'.Nodup)
  | [], us, ts, cs, vs, bs, ce, o, h, hw, he, ho => by
    simp only [DLs] at he
    obtain ⟨rfl, rfl⟩ := he
    simp only [DW] at hw
    subst hw
    exact ⟨bs, h, fun b hb => .inl hb, fun hn => by simpa using hn⟩
  | e :: es, us, ts, cs, vs, bs, ce, o, h, hw, he, ho => by
    simp only [DLs] at he
    obtain ⟨c, cs', b1, b2, rfl, rfl, h3, h4⟩ := he
    simp only [DW] at hw
    obtain ⟨t, us', rfl, hw1, hw2⟩ := hw
    simp only [List.length_cons] at ho
    obtain ⟨bs1, g1, g2, g3⟩ := OL_set (i := o) h (DT1_CR hw1 h3) (by omega)
    obtain ⟨bs2, f1, f2, f3⟩ := OL_setN (o := o + 1) g1 hw2 h4 (by simp; omega)
    refine ⟨bs2, f1, ?_, ?_⟩
    · intro b hb
      rcases f2 b hb with hb | hb
      · rcases g2 b hb with hb | hb <;> simp [hb]
      · simp [hb]
    · intro hn
      refine f3 ?_
      rw [← List.append_assoc, List.nodup_append] at hn
      rw [List.nodup_append]
      refine ⟨g3 hn.1, hn.2.1, fun a ha b hb e => ?_⟩
      exact hn.2.2 a (by rcases g2 a ha with h | h <;> simp [h]) b hb e

def one1 : D → Bool
  | .r (.v v) => v.oneCell'
  | .r (.a _ _ _) => true
  | .w (.a _ _ _) _ => true
  | .al _ _ _ _ _ _ => true
  | _ => false
theorem one1_val {d : D} {x : Value} {bs : List Nat} (h : one1 d = true) (hd : DR F w d x bs) : x.oneCell' = true := by
  cases d with
  | r t =>
    cases t with
    | v v => simp only [DR, RT] at hd; rw [hd.1]; exact h
    | f _ _ => simp [one1] at h
    | a sz n ts =>
      simp only [DR, RT] at hd
      rcases hd.1 with ⟨_, _, rfl, _⟩ | ⟨b, o, cap, rfl, _⟩ <;> rfl
  | w t V =>
    cases t with
    | v v => simp [one1] at h
    | f _ _ => simp [one1] at h
    | a sz n ts =>
      simp only [DR, OT] at hd
      obtain ⟨rfl, h1⟩ := hd
      rcases h1 with ⟨rfl, _⟩ | ⟨b, o, cap, cur, ty, bs', rfl, _⟩ <;> rfl
  | al k j sz n V off =>
    simp only [DR] at hd
    obtain ⟨rfl, _, A, m, C, rfl⟩ := hd
    rfl
  | _ => simp [one1] at h
theorem ones_val : ∀ {ds : List D} {cs : List Value} {bs : List Nat}, ds.all one1 = true → DLs F w ds cs bs → ∀ v ∈ cs, v.oneCell' = true
  | [], _, _, _, hd, v, hv => by simp only [DLs] at hd; rw [hd.1] at hv; simp at hv
  | d :: ds, cs, bs, h, hd, v, hv => by
    simp only [List.all_cons, Bool.and_eq_true] at h
    simp only [DLs] at hd
    obtain ⟨c, cs', b1, b2, rfl, rfl, h3, h4⟩ := hd
    rcases List.mem_cons.1 hv with rfl | hv
    · exact one1_val h.1 h3
    · exact ones_val h.2 h4 v hv
theorem there_of_block {b : Nat} {cs : List Value} {ty : TypeId} (h : w.heap[b]? = some (.cells cs.toArray ty (0, 0))) (o n : Nat) (hn : o + n ≤ cs.length) : w.there b o n := fun j hj => by
  have : o + j < cs.length := by omega
  refine ⟨by simp [World.cell?, h, List.getElem?_eq_getElem this], ?_⟩
  simp [World.frozen?, h]
theorem oneCell_cells {v : Value} (h : v.oneCell' = true) : v.cells = #[v] := by cases v <;> simp_all [Value.cells, Value.oneCell']
theorem run_store1 {P : Program} {t : TypeId} {i : TyI} (ht : tyI P t = some i) (hs : i.sz = 1) {b o : Nat} {v : Value} (hv : v.oneCell' = true) (hth : w.there b o 1) :
    (Instr.storeAt t (.pointer (some ⟨b, o, none⟩)) v).run P w = .ok () (w.setCells b o [v]) := by
  have := run_storeCells_cells (P := P) b o [v] 0 w (fun j hj => by simpa using (hth j (by simpa using hj)).1) (fun j hj => by simpa using (hth j (by simpa using hj)).2) (fun u hu => by simp at hu; rw [hu]; exact hv)
  simp only [Nat.add_zero] at this
  simp [Instr.storeAt, Instr.sureAddr, storeVar, Sem.run_bind, tyI_sizeOf ht, hs, oneCell_cells hv, this]
end

section
variable {E : Env} {F : Nat → Prop} {B : Base E.P} {w : World} {o : Oper} {st : St} {K : St → Prop} {a : Act}

theorem Rel.setObj (hr : Rel F B st a w) {k b off : Nat} {ds es : List D} {vs : List Value} (hk : gt st k = .obj b ds) (he : DLs F w es vs []) (hl : off + es.length ≤ ds.length) :
    (∃ (cs : List Value) (ty : TypeId), w.heap[b]? = some (.cells cs.toArray ty (0, 0)) ∧ cs.length = ds.length) ∧ Rel F B (st.set k (.obj b (setN ds off es))) a (w.setCells b off vs) := by
  obtain ⟨own, hs⟩ := hr.slots
  have hks := gt_some hk (by simp)
  have hklt := getD_eq hk (by simp)
  obtain ⟨bk, bl, p1, p2, p3, ⟨xk, q1, q2⟩, p5, p6⟩ := hr.two k st.length (by omega) hklt
  rw [hk] at q2
  simp only [DR] at q2
  obtain ⟨cs, ty, bs', rfl, hblk, rfl, hds⟩ := q2
  refine ⟨⟨cs, ty, hblk, DLs_length hds⟩, ?_⟩
  obtain ⟨bs2, g1, g2, g3⟩ := DLs_setN hds he hl
  have hst : Stp w (w.setCells b off vs) [b] := Stp.setCells b vs off w
  have hnd : (b :: bs').Nodup := (List.nodup_append.1 p3).1
  rw [List.nodup_cons] at hnd
  have hbF : ¬ F b := (p1 b (by simp)).1.1
  have hlen : vs.length = es.length := DLs_length he
  have := p6 (w.setCells b off vs) (.obj b (setN ds off es)) .u a (b :: bs2) [] (hst.mono (by intro c hc; simp at hc; simp [hc])) rfl rfl (fun i _ _ => rfl)
    ⟨_, q1, by
      simp only [DR]
      refine ⟨setN cs off vs, ty, bs2, trivial, heap_setCells b vs off w cs ty (0, 0) hblk, rfl, ?_⟩
      refine DLs_world (w := w) (fun c hc => hst.block c (hr.Flt c hc) (by simp; rintro rfl; exact hbF hc)) _ _ _ (fun c hc => ?_) g1
      have hc' : c ∈ bs' := by rcases g2 c hc with h | h; exact h; simp at h
      exact hst.block c (p1 c (by simp [hc'])).2 (by simp; rintro rfl; exact hnd.1 hc')⟩
    (fun h => absurd h (by omega))
    (by
      simp only [List.append_nil, List.nodup_cons]
      refine ⟨fun hm => hnd.1 (by rcases g2 b hm with h | h; exact h; simp at h), g3 (by simpa using hnd.2)⟩)
    (by
      intro c hc
      simp only [List.append_nil, List.mem_cons] at hc
      have : c ∈ b :: bs' := by
        rcases hc with rfl | hc
        · simp
        · rcases g2 c hc with h | h
          · simp [h]
          · simp at h
      exact ⟨.inl this, Nat.lt_of_lt_of_le (p1 c this).2 hst.size⟩)
  exact this.oob (by simp)
theorem OK.store {t : TypeId} {x y : Operand} {i : TyI} {k b off : Nat} {ds : List D} (ho : o.op = .store t x y) (hdst : o.dst = none) (ht : E.tabs t = some i) (hs : i.sz = 1)
    (hx : ev st x = .pt k b off) (hk : gt st k = .obj b ds) (hl : off < ds.length) (hy : one1 (ev st y) = true) (h : K (st.set k (.obj b (ds.set off (ev st y))))) : OK E B o st K := by
  intro F a w hr next Q hn
  have hyv := hr.ev y
  have hone := one1_val hy hyv
  obtain ⟨⟨cs, ty, h1, h2⟩, hr'⟩ := hr.setObj (off := off) (es := [ev st y]) (vs := [a.eval y]) hk (by simp only [DLs]; exact ⟨_, [], [], [], rfl, rfl, hyv, by simp⟩) (by simp; omega)
  unfold Oper.wp
  have hrun : (execOp a.eval o).run E.P w = .ok .skip (w.setCells b off [a.eval y]) := by
    simp [execOp, ho, ev_pt hr hx, Sem.run_bind, run_store1 (E.ok _ _ ht) hs hone (there_of_block h1 off 1 (by omega))]
  rw [hrun, Oper.upon_skip]
  rw [hdst]
  exact hn _ _ _ _ h hr'
theorem OK.storeAgg {t : TypeId} {x y : Operand} {i : TyI} {k b off : Nat} {ds es : List D} (ho : o.op = .store t x y) (hdst : o.dst = none) (ht : E.tabs t = some i)
    (hx : ev st x = .pt k b off) (hk : gt st k = .obj b ds) (hy : ev st y = .agg es) (he : es.length = i.sz) (hl : off + i.sz ≤ ds.length) (ho1 : es.all one1 = true) (h : K (st.set k (.obj b (setN ds off es)))) : OK E B o st K := by
  intro F a w hr next Q hn
  have hyv := hr.ev y
  rw [hy] at hyv
  simp only [DR] at hyv
  obtain ⟨vs, hv1, hv2⟩ := hyv
  have hones := ones_val ho1 hv2
  have hlen := DLs_length hv2
  obtain ⟨⟨cs, ty, h1, h2⟩, hr'⟩ := hr.setObj (off := off) hk hv2 (by omega)
  unfold Oper.wp
  have hrun : (execOp a.eval o).run E.P w = .ok .skip (w.setCells b off vs) := by
    simp [execOp, ho, ev_pt hr hx, hv1, Sem.run_bind, run_storeAt_mid w b off t vs.toArray (there_of_block h1 off _ (by simp; omega)) (by rw [tyI_size (E.ok _ _ ht)]; simp; omega) (by simpa using hones)]
  rw [hrun, Oper.upon_skip]
  rw [hdst]
  exact hn _ _ _ _ h hr'
end
end Go.Eng
