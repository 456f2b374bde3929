import Derived.Test.YtdipdkfbaehglaaGreatDoorEng10
namespace Go.Eng
open Go Go.RowKit

section
variable {E : Env} {F : Nat → Prop} {B : Base E.P} {w : World} {o : Oper} {st : St} {K : St → Prop} {a : Act}

theorem Rel.own (hr : Rel F B st a w) {k sz n : Nat} {ts : List T} {V : Value} (hk : gt st k = .w (.a sz n ts) V) :
    (V = .slice none 0 0 ∧ n = 0 ∧ ts = []) ∨ ∃ (b o cap : Nat) (cs : List Value) (ty : TypeId) (bs' : List Nat), V = .slice (some ⟨b, o, none⟩) n cap ∧ n ≤ cap ∧ cap ≤ maxLen ∧ w.heap[b]? = some (.cells cs.toArray ty (0, 0)) ∧
      o + cap * sz ≤ cs.length ∧ ts.length = n * sz ∧ OL w ts (cs.drop o) bs' := by
  obtain ⟨x, bs, h1, h2⟩ := hr.slot (gt_some hk (by simp))
  simp only [DR, OT] at h2
  rcases h2.2 with ⟨h3, h4, h5, _⟩ | ⟨b, o, cap, cur, ty, bs', g1, g2, g3, g4, g5, g6, g7, g8⟩
  · exact .inl ⟨h3, h4, h5⟩
  · exact .inr ⟨b, o, cap, cur.toList, ty, bs', g1, g2, g3, by simpa using g4, by simpa using g5, g6, g8⟩
theorem ev_al (hr : Rel F B st a w) {x : Operand} {k sz n : Nat} {V : Value} {ts : List T} (hx : ev st x = .al k none sz n V 0) (hk : gt st k = .w (.a sz n ts) V) : a.eval x = V := by
  have h := hr.ev x
  rw [hx] at h
  simp only [DR] at h
  obtain ⟨y, bs, h1, h2⟩ := hr.slot (gt_some hk (by simp))
  simp only [DR] at h2
  rw [h.1, ← subV_whole h2.2]
theorem OL_cells : ∀ {ts : List T} {cs : List Value} {bs : List Nat}, OL w ts cs bs → ts.length ≤ cs.length
  | [], _, _, _ => by simp
  | t :: ts, cs, bs, h => by
    simp only [OL] at h
    obtain ⟨c, cs', b1, b2, rfl, _, _, h4⟩ := h
    have := OL_cells h4
    simp
    omega
theorem setN_drop {α : Type} : ∀ (vs : List α) (l : List α) (o p : Nat), (setN l (o + p) vs).drop o = setN (l.drop o) p vs
  | [], _, _, _ => rfl
  | v :: r, l, o, p => by
    rw [setN, setN, Nat.add_assoc, setN_drop r, List.drop_set, if_neg (by omega), Nat.add_sub_cancel_left]
theorem Rel.setOwn (hr : Rel F B st a w) {k sz n pos : Nat} {ts us : List T} {V : Value} {es : List D} {vs : List Value} (hk : gt st k = .w (.a sz n ts) V) (hw : DW es us) (he : DLs F w es vs []) (hne : es ≠ []) (hl : pos + es.length ≤ ts.length) :
    ∃ (b of cap : Nat) (cs : List Value) (ty : TypeId), V = .slice (some ⟨b, of, none⟩) n cap ∧ w.heap[b]? = some (.cells cs.toArray ty (0, 0)) ∧ of + ts.length ≤ cs.length ∧ Rel F B (st.set k (.w (.a sz n (setN ts pos us)) V)) a (w.setCells b (of + pos) vs) := by
  have hks := gt_some hk (by simp)
  have hklt := getD_eq hk (by simp)
  obtain ⟨bk, bl, p1, p2, p3, ⟨xk, q1, q2⟩, p5, p6⟩ := hr.two k st.length (by omega) hklt
  rw [hk] at q2
  simp only [DR, OT] at q2
  obtain ⟨rfl, q2⟩ := q2
  have hpos : 0 < es.length := by cases es with | nil => exact absurd rfl hne | cons _ _ => simp
  rcases q2 with ⟨_, _, rfl, _⟩ | ⟨b, of, cap, cur, ty, bs', rfl, g2, g3, g4, g5, g6, rfl, g8⟩
  · exfalso; simp only [List.length_nil] at hl; omega
  have hlen : vs.length = es.length := DLs_length he
  have hcl := OL_cells g8
  have hof : of + ts.length ≤ cur.toList.length := by
    have : n * sz ≤ cap * sz := Nat.mul_le_mul_right _ g2
    rw [g6]
    simp
    omega
  refine ⟨b, of, cap, cur.toList, ty, rfl, by simpa using g4, hof, ?_⟩
  obtain ⟨bs2, f1, f2, f3⟩ := OL_setN g8 hw he hl
  have hdrop : setN (cur.toList.drop of) pos vs = (setN cur.toList (of + pos) vs).drop of := (setN_drop vs cur.toList of pos).symm
  have hst : Stp w (w.setCells b (of + pos) vs) [b] := Stp.setCells b vs _ w
  have hnd : (b :: bs').Nodup := (List.nodup_append.1 p3).1
  rw [List.nodup_cons] at hnd
  have hbF : ¬ F b := (p1 b (by simp)).1.1
  have hsub : ∀ c ∈ bs2, c ∈ bs' := fun c hc => by rcases f2 c hc with h | h; exact h; simp at h
  have hul : us.length = es.length := by
    clear he hne hl f1 hpos hlen
    have : ∀ (es : List D) (us : List T), DW es us → us.length = es.length := by
      intro es
      induction es with
      | nil => intro us h; simp only [DW] at h; simp [h]
      | cons e es ih => intro us h; simp only [DW] at h; obtain ⟨t, ts', rfl, _, h2⟩ := h; simp [ih ts' h2]
    exact this es us hw
  have := p6 (w.setCells b (of + pos) vs) (.w (.a sz n (setN ts pos us)) (.slice (some ⟨b, of, none⟩) n cap)) .u a (b :: bs2) [] (hst.mono (by intro c hc; simp at hc; simp [hc])) rfl rfl (fun i _ _ => rfl)
    ⟨_, q1, by
      simp only [DR, OT]
      refine ⟨trivial, .inr ⟨b, of, cap, (setN cur.toList (of + pos) vs).toArray, ty, bs2, rfl, g2, g3, heap_setCells b vs _ w cur.toList ty (0, 0) (by simpa using g4), ?_, ?_, rfl, ?_⟩⟩
      · simp [setN_length]; exact g5
      · rw [setN_length]; exact g6
      · simp only []
        rw [← hdrop]
        exact OL_world _ _ _ (fun c hc => hst.block c (p1 c (by simp [hsub c hc])).2 (by simp; rintro rfl; exact hnd.1 (hsub c hc))) f1⟩
    (fun h => absurd h (by omega))
    (by
      simp only [List.append_nil, List.nodup_cons]
      exact ⟨fun hm => hnd.1 (hsub b hm), f3 (by simpa using hnd.2)⟩)
    (by
      intro c hc
      simp only [List.append_nil, List.mem_cons] at hc
      have : c ∈ b :: bs' := by
        rcases hc with rfl | hc
        · simp
        · simp [hsub c hc]
      exact ⟨.inl this, Nat.lt_of_lt_of_le (p1 c this).2 hst.size⟩)
  exact this.oob (by simp)
theorem ev_ep (hr : Rel F B st a w) {x : Operand} {k sz pos : Nat} {V : Value} {b of n c : Nat} (hx : ev st x = .ep k none sz V pos) (hV : V = .slice (some ⟨b, of, none⟩) n c) : a.eval x = .pointer (some ⟨b, of + pos, none⟩) := by
  have h := hr.ev x
  rw [hx] at h
  simp only [DR] at h
  obtain ⟨⟨b', of', n', c', h1, h2⟩, _⟩ := h
  rw [hV] at h1
  cases h1
  exact h2
theorem OK.storeAggE {t : TypeId} {x y : Operand} {i : TyI} {k sz n pos : Nat} {ts us : List T} {V : Value} {es : List D} (ho : o.op = .store t x y) (hdst : o.dst = none) (ht : E.tabs t = some i)
    (hx : ev st x = .ep k none sz V pos) (hk : gt st k = .w (.a sz n ts) V) (hy : ev st y = .agg es) (hw : DW es us) (he : es.length = i.sz) (hne : es ≠ []) (hl : pos + i.sz ≤ ts.length) (ho1 : es.all one1 = true)
    (h : K (st.set k (.w (.a sz n (setN ts pos us)) V))) : OK E B o st K := by
  intro F a w hr next Q hn
  have hyv := hr.ev y
  rw [hy] at hyv
  simp only [DR] at hyv
  obtain ⟨vs, hv1, hv2⟩ := hyv
  have hones := ones_val ho1 hv2
  have hlen := DLs_length hv2
  obtain ⟨b, of, cap, cs, ty, hV, h1, h2, hr'⟩ := hr.setOwn (pos := pos) hk hw hv2 hne (by omega)
  unfold Oper.wp
  have hrun : (execOp a.eval o).run E.P w = .ok .skip (w.setCells b (of + pos) vs) := by
    simp [execOp, ho, ev_ep hr hx hV, hv1, Sem.run_bind, run_storeAt_mid w b (of + pos) t vs.toArray (there_of_block h1 _ _ (by simp; omega)) (by rw [tyI_size (E.ok _ _ ht)]; simp; omega) (by simpa using hones)]
  rw [hrun, Oper.upon_skip]
  rw [hdst]
  exact hn _ _ _ _ h hr'
theorem OK.storeE {t : TypeId} {x y : Operand} {i : TyI} {k sz n pos : Nat} {ts : List T} {u : T} {V : Value} (ho : o.op = .store t x y) (hdst : o.dst = none) (ht : E.tabs t = some i) (hs : i.sz = 1)
    (hx : ev st x = .ep k none sz V pos) (hk : gt st k = .w (.a sz n ts) V) (hw : DT1 (ev st y) (.w u)) (hl : pos < ts.length) (ho1 : one1 (ev st y) = true)
    (h : K (st.set k (.w (.a sz n (ts.set pos u)) V))) : OK E B o st K := by
  intro F a w hr next Q hn
  have hyv := hr.ev y
  have hone := one1_val ho1 hyv
  obtain ⟨b, of, cap, cs, ty, hV, h1, h2, hr'⟩ := hr.setOwn (pos := pos) (es := [ev st y]) (us := [u]) (vs := [a.eval y]) hk (by simp only [DW]; exact ⟨u, [], rfl, hw, rfl⟩) (by simp only [DLs]; exact ⟨_, [], [], [], rfl, rfl, hyv, by simp⟩) (by simp) (by simp; omega)
  unfold Oper.wp
  have hrun : (execOp a.eval o).run E.P w = .ok .skip (w.setCells b (of + pos) [a.eval y]) := by
    simp [execOp, ho, ev_ep hr hx hV, Sem.run_bind, run_store1 (E.ok _ _ ht) hs hone (there_of_block h1 (of + pos) 1 (by omega))]
  rw [hrun, Oper.upon_skip]
  rw [hdst]
  exact hn _ _ _ _ h hr'
theorem OL_get : ∀ {ts : List T} {cs : List Value} {bs : List Nat} {i : Nat} {x : Value}, OL w ts cs bs → ts[i]? = some (.v x) → cs[i]? = some x
  | [], _, _, _, _, _, hi => by simp at hi
  | t :: ts, cs, bs, i, x, h, hi => by
    simp only [OL] at h
    obtain ⟨c, cs', b1, b2, rfl, _, h3, h4⟩ := h
    cases i with
    | zero => simp at hi; subst hi; simp only [OT] at h3; simp [h3.1]
    | succ i => simpa using OL_get h4 (by simpa using hi)
theorem OK.loadE {t : TypeId} {x : Operand} {i : TyI} {k sz n pos : Nat} {ts : List T} {V v : Value} (ho : o.op = .load t x) (ht : E.tabs t = some i) (hf : i.td = .prim ∨ ∃ e, i.td = .slice e)
    (hx : ev st x = .ep k none sz V pos) (hk : gt st k = .w (.a sz n ts) V) (hl : ts[pos]? = some (.v v)) (h : K (setD st o.dst (.r (.v v)))) : OK E B o st K :=
  OK.val (fun F a w hr => by
    rcases hr.own hk with ⟨_, _, rfl⟩ | ⟨b, of, cap, cs, ty, bs', hV, g2, g3, g4, g5, g6, g7⟩
    · simp at hl
    · have hc := OL_get g7 hl
      rw [List.getElem?_drop] at hc
      have hcell : w.cell? ⟨b, of + pos, none⟩ = some v := by simp [World.cell?, g4, hc]
      refine ⟨v, ?_, by simp [DR, RT]⟩
      simp [execOp, ho, ev_ep hr hx hV, Instr.loadAt, Instr.sureAddr, loadVar, Sem.run_bind, tyI_notAgg (E.ok _ _ ht) hf, hcell]) h
theorem OK.loadAggE {t : TypeId} {x : Operand} {i : TyI} {fs : List (Nat × Nat × Nat)} {k sz n pos : Nat} {ts : List T} {V : Value} {vs : List Value} (ho : o.op = .load t x) (ht : E.tabs t = some i) (hf : i.td = .agg fs)
    (hx : ev st x = .ep k none sz V pos) (hk : gt st k = .w (.a sz n ts) V) (hl : (ts.drop pos).take i.sz = vs.map .v) (hn : vs.length = i.sz) (hz : vs ≠ []) (h : K (setD st o.dst (.agg (vs.map fun v => .r (.v v))))) : OK E B o st K :=
  OK.val (fun F a w hr => by
    rcases hr.own hk with ⟨_, _, rfl⟩ | ⟨b, of, cap, cs, ty, bs', hV, g2, g3, g4, g5, g6, g7⟩
    · simp at hl; exact absurd hl hz
    · have hget : ∀ j v, vs[j]? = some v → w.cell? ⟨b, of + pos + j, none⟩ = some v := by
        intro j v hj
        have h1 : ts[pos + j]? = some (.v v) := by
          have := congrArg (·[j]?) hl
          simp only [List.getElem?_take, List.getElem?_drop, List.getElem?_map, hj, Option.map_some] at this
          split at this
          · exact this
          · cases this
        have hc := OL_get g7 h1
        rw [List.getElem?_drop] at hc
        simp [World.cell?, g4, Nat.add_assoc, hc]
      have hT := E.ok _ _ ht
      obtain ⟨j, d, z, t1, t2, t3, t4, t5, t6, t7⟩ := tyI_spec hT
      have hrow : d.isRow = true := by
        rw [hf] at t7
        cases d <;> simp [tdOf] at t7 <;> rfl
      refine ⟨.agg vs.toArray, ?_, by simp only [DR]; exact ⟨vs, rfl, DLs_zero vs w⟩⟩
      simp [execOp, ho, ev_ep hr hx hV, Sem.run_bind, run_loadAt_mid w b (of + pos) t vs d hget t2 hrow (by rw [tyI_size hT, hn])]) h

theorem OL_values : ∀ (vs : List Value) (cs : List Value), (∃ r, cs = vs ++ r) → OL w (vs.map .v) cs []
  | [], _, _ => by simp [OL]
  | v :: vs, cs, ⟨r, hr⟩ => by
    subst hr
    simp only [List.map_cons, OL]
    exact ⟨v, vs ++ r, [], [], rfl, rfl, by simp [OT], OL_values vs _ ⟨r, rfl⟩⟩
theorem madeCells_eq (z : List Value) : ∀ n : Nat, (madeCells z.toArray (n * z.length)).toList = (List.replicate n z).flatten := by
  intro n
  rcases Nat.eq_zero_or_pos z.length with h0 | hp
  · have : z = [] := List.length_eq_zero_iff.1 h0
    subst this
    simp [madeCells]
  induction n with
  | zero => simp [madeCells]
  | succ n ih =>
    have e : List.replicate (n + 1) z = List.replicate n z ++ [z] := List.replicate_succ'
    rw [e, List.flatten_append, ← ih]
    apply List.ext_getElem?
    intro i
    have hl : (madeCells z.toArray (n * z.length)).toList.length = n * z.length := by simp [madeCells]
    rcases Nat.lt_or_ge i (n * z.length) with h | h
    · rw [List.getElem?_append_left (by rw [hl]; exact h)]
      have h2 : i < (n + 1) * z.length := by rw [Nat.succ_mul]; omega
      simp [madeCells, h, h2]
    · rw [List.getElem?_append_right (by rw [hl]; exact h), hl]
      simp only [List.flatten_cons, List.flatten_nil, List.append_nil]
      rcases Nat.lt_or_ge (i - n * z.length) z.length with h3 | h3
      · have h2 : i < (n + 1) * z.length := by rw [Nat.succ_mul]; omega
        have hm : i % z.length = i - n * z.length := by
          have : i = (i - n * z.length) + n * z.length := by omega
          rw [this, Nat.add_mul_mod_self_right, Nat.mod_eq_of_lt (by omega)]
          omega
        simp [madeCells, h2, hm, List.getElem?_eq_getElem h3, h3]
      · rw [List.getElem?_eq_none h3]
        have h2 : ¬ i < (n + 1) * z.length := by rw [Nat.succ_mul]; omega
        simp [madeCells, h2]
theorem OK.makeSlice {t e : TypeId} {x y : Operand} {i ie : TyI} {n : Nat} (ho : o.op = .makeSlice t x y) (ht : E.tabs t = some i) (he : i.td = .slice e) (hte : E.tabs e = some ie)
    (hx : ev st x = .r (.v (.int .i64 n))) (hy : ev st y = .r (.v (.int .i64 n))) (hz : ie.zero.length = ie.sz) (hb : ie.bytes * n ≤ 281474976710656) (hm : n ≤ maxLen)
    (h : ∀ V, K (setD st o.dst (.w (.a ie.sz n ((List.replicate n ie.zero).flatten.map .v)) V))) : OK E B o st K := by
  intro F a w hr next Q hn
  obtain ⟨j, d, z, t1, t2, t3, t4, t5, t6, t7⟩ := tyI_spec (E.ok _ _ hte)
  have hzc : z.cells = ie.zero.toArray := by rw [← t6]
  have hrun : (execOp a.eval o).run E.P w = .ok (.value (.slice (some ⟨w.heap.size, 0, none⟩) n n)) (w.alloc (.cells (List.replicate n ie.zero).flatten.toArray e)) := by
    have hm' : n ≤ 9223372036854775807 := by simpa [maxLen] using hm
    have hb' : (j.bytes : Int) * (n : Int) ≤ 281474976710656 := by
      rw [t5]
      have : ((ie.bytes * n : Nat) : Int) ≤ 281474976710656 := by omega
      simpa using this
    have hmk := run_make (P := E.P) w t e j z (tyI_slice (E.ok _ _ ht) he) t1 t3 .i64 .i64 n n (by omega) (Int.le_refl _) hb' (by omega)
    have hce : madeCells z.cells (n * j.size) = (List.replicate n ie.zero).flatten.toArray := by
      apply Array.ext'
      rw [hzc, t4, ← hz, madeCells_eq]
    simp only [Int.toNat_natCast, hce] at hmk
    simp [execOp, ho, ev_scalar hr hx, ev_scalar hr hy, Sem.run_bind, hmk]
  unfold Oper.wp
  rw [hrun, Oper.upon_value]
  refine hn _ _ _ _ (h (.slice (some ⟨w.heap.size, 0, none⟩) n n)) (hr.putNew' o.dst (Stp.alloc w _ []) (d := .w _ _) (bs := [w.heap.size]) ?_ (by simp) (by simp))
  simp only [DR, OT]
  have hlen : (List.replicate n ie.zero).flatten.length = n * ie.sz := by simp [hz]
  exact ⟨trivial, .inr ⟨w.heap.size, 0, n, (List.replicate n ie.zero).flatten.toArray, e, [], rfl, Nat.le_refl _, hm, heap_alloc_new w _, by simp [hz], by simpa using hlen, rfl, OL_values _ _ ⟨[], by simp⟩⟩⟩
end
end Go.Eng
