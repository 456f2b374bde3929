import Derived.Test.YtbiocicogminlaaEng31
namespace Go.Eng
open Go Go.RowKit

section
variable {fc : Facts} {E : Env} {F : Nat → Prop} {B : Base} {w : World} {o : Oper} {st : St} {K : St → Prop} {a : Act} {d : D} {all rest : List Oper} {Q : Exit → St → Prop} {fu : Nat} {ls : Array Bool}
theorem Le.of {s : St} : ∀ {l : List (Nat × D)}, l.map (fun p => Eng.gt s p.1) = l.map Prod.snd → Le s l
  | [], _ => trivial
  | (k, d) :: l, h => by
    simp only [List.map_cons, List.cons.injEq] at h
    exact ⟨h.1, Le.of h.2⟩
def rw1 : D → Bool
  | .r _ => true
  | .w (.a _ _ _) _ => true
  | _ => false
def unw : D → D
  | .w _ _ => .u
  | d => d
theorem DLs_take2 (l : Nat) : ∀ (ds : List D) (j : Nat) (xs ys : List Value) (bk : List Nat), ds.all rw1 = true → DLs F w ds xs bk → DLs F w (cpyL l j ds) ys [] → DLs F w ds ys bk ∧ DLs F w (ds.map unw) xs []
  | [], _, _, _, _, _, h, h' => by
    simp only [DLs, cpyL, List.map_nil] at h h' ⊢
    exact ⟨⟨h'.1, h.2⟩, h.1, trivial⟩
  | d :: ds, j, xs, ys, bk, ha, h, h' => by
    simp only [List.all_cons, Bool.and_eq_true] at ha
    simp only [DLs, cpyL, List.map_cons] at h h' ⊢
    obtain ⟨x, xs', p1, p2, rfl, rfl, h3, h4⟩ := h
    obtain ⟨y, ys', q1, q2, rfl, hq, h5, h6⟩ := h'
    obtain ⟨rfl, rfl⟩ := List.append_eq_nil_iff.1 hq.symm
    obtain ⟨i1, i2⟩ := DLs_take2 l ds (j + 1) xs' ys' p2 ha.2 h4 h6
    cases d with
    | r t =>
      simp only [DR, cpyC] at h3 h5
      obtain ⟨h3, rfl⟩ := h3
      exact ⟨⟨y, ys', [], p2, rfl, rfl, by simp only [DR]; exact ⟨h5.1, trivial⟩, i1⟩, ⟨x, xs', [], [], rfl, rfl, by simp only [unw, DR]; exact ⟨h3, trivial⟩, i2⟩⟩
    | w t V =>
      cases t with
      | a sz n ts =>
        simp only [DR, cpyC] at h3 h5
        obtain ⟨rfl, h3⟩ := h3
        have hy : y = x := by rw [h5.1, ← subV_whole h3]
        subst hy
        exact ⟨⟨_, ys', p1, p2, rfl, rfl, by simp only [DR]; exact ⟨trivial, h3⟩, i1⟩, ⟨_, xs', [], [], rfl, rfl, by simp [unw, DR], i2⟩⟩
      | v _ => simp [rw1] at ha
      | f _ _ => simp [rw1] at ha
    | _ => simp [rw1] at ha
theorem Rel.takeAgg (hr : Rel F B st a w) {k l b : Nat} {ds : List D} (hkl : k ≠ l) (hk : Eng.gt st k = .agg (cpyL l 0 ds)) (hl : Eng.gt st l = .obj b ds) (ha : ds.all rw1 = true) : Rel F B ((st.set k (.agg ds)).set l (.obj b (ds.map unw))) a w := by
  have hklt := getD_eq hk (by simp)
  obtain ⟨bk, bl, p1, p2, p3, ⟨xk, q1, q2⟩, p5, p6⟩ := hr.two k l hkl hklt
  obtain ⟨xl, r1, r2⟩ := p5 _ (gt_some hl (by simp))
  rw [hk] at q2
  simp only [DR] at q2 r2
  obtain ⟨cs, ty, bs', rfl, h2, rfl, h3⟩ := r2
  obtain ⟨ys, rfl, h4⟩ := q2
  have hbk : bk = [] := by
    have : ∀ (ds : List D) (j : Nat) (cs : List Value) (bs : List Nat), ds.all rw1 = true → DLs F w (cpyL l j ds) cs bs → bs = [] := by
      intro ds
      induction ds with
      | nil => intro j cs bs _ h; simp only [cpyL, DLs] at h; exact h.2
      | cons d ds ih =>
        intro j cs bs ha h
        simp only [List.all_cons, Bool.and_eq_true] at ha
        simp only [cpyL, DLs] at h
        obtain ⟨c, cs', b1, b2, rfl, rfl, h5, h6⟩ := h
        have e2 := ih _ _ _ ha.2 h6
        have e1 : b1 = [] := by
          cases d with
          | r t => simp only [cpyC, DR] at h5; exact h5.2
          | w t V =>
            cases t with
            | a _ _ _ => simp only [cpyC, DR] at h5; exact h5.2.1
            | v _ => simp [rw1] at ha
            | f _ _ => simp [rw1] at ha
          | _ => simp [rw1] at ha
        rw [e1, e2]; rfl
    exact this ds 0 ys bk ha h4
  subst hbk
  obtain ⟨i1, i2⟩ := DLs_take2 l ds 0 cs ys bs' ha h3 h4
  have hnd : (b :: bs').Nodup := by simpa using p3
  rw [List.nodup_cons] at hnd
  refine p6 w (.agg ds) (.obj b (ds.map unw)) a bs' [b] (Stp.refl _ _) rfl rfl (fun _ _ _ => rfl) ⟨_, q1, by simp only [DR]; exact ⟨ys, rfl, i1⟩⟩ (fun _ => ⟨_, r1, by simp only [DR]; exact ⟨cs, ty, [], trivial, h2, rfl, i2⟩⟩) ?_ ?_
  · rw [List.nodup_append]
    refine ⟨hnd.2, by simp, fun p hp q hq e => ?_⟩
    have : q = b := by simpa using hq
    subst this; subst e
    exact hnd.1 hp
  · intro c hc
    have : c ∈ b :: bs' := by simp only [List.mem_append, List.mem_cons, List.not_mem_nil, or_false] at hc ⊢; rcases hc with h | h; exact .inr h; exact .inl h
    exact ⟨.inr (.inl this), (p2 c this).2⟩
theorem RW.takeAgg (k l : Nat) {b : Nat} {ds : List D} (hkl : k ≠ l) (hk : Eng.gt st k = .agg (cpyL l 0 ds)) (hl : Eng.gt st l = .obj b ds) (ha : ds.all rw1 = true) (h : RW E B all rest ((st.set k (.agg ds)).set l (.obj b (ds.map unw))) K) : RW E B all rest st K := fun F a w hr => h F a w (hr.takeAgg hkl hk hl ha)
theorem RO.takeAgg {q : Nat} (k l : Nat) {b : Nat} {ds : List D} (hkl : k ≠ l) (hk : Eng.gt st k = .agg (cpyL l 0 ds)) (hl : Eng.gt st l = .obj b ds) (ha : ds.all rw1 = true) (h : RO fc E B all fu ls ((st.set k (.agg ds)).set l (.obj b (ds.map unw))) K q) : RO fc E B all fu ls st K q := by
  obtain ⟨o, h1, h2, h3⟩ := h
  exact ⟨o, h1, h2, fun F a w hr => h3 F a w (hr.takeAgg hkl hk hl ha)⟩
theorem OK.build1O {α : Type} {t e : TypeId} {l m : Nat} {i ie : TyI} {c : α → List T} {v : α} {es : List D} (ho : o.op = .buildSlice t 1 #[(0, .tmp l)]) (hd : o.dst = some m) (ht : E.tabs t = some i) (he : i.td = .slice e) (hte : E.tabs e = some ie)
    (hl : Eng.gt st l = .agg es) (hw : DW es (c v)) (hc : ∀ x, (c x).length = ie.sz) (hp : ie.sz ≠ 0) (hsm : ie.sz ≤ 1000) (hml : m ≠ l) (hm : m < st.length) (h : ∀ X, K ((st.set m (.w (sl ie.sz c [v]) X)).set l .u)) : OK E B o st K := by
  intro F a w hr next Q hn
  obtain ⟨bk, bl, p1, p2, p3, ⟨xk, q1, q2⟩, p5, p6⟩ := hr.two m l hml hm
  obtain ⟨xl, r1, r2⟩ := p5 _ (gt_some hl (by simp))
  simp only [DR] at r2
  obtain ⟨vs, rfl, hv2⟩ := r2
  have hlen : vs.length = ie.sz := by rw [DLs_length hv2, ← DW_len hw, hc]
  have hev : a.eval (.tmp l) = .agg vs.toArray := by simp [Act.eval, Array.getD_eq_getD_getElem?, r1]
  unfold Oper.wp
  rw [build1_run ho ht he hte (vs := vs) (by rw [hev]; rfl) hlen hp hsm, Oper.upon_value, hd]
  have hnl : bl.Nodup := (List.nodup_append.1 p3).2.1
  have hsame : ∀ b, b < w.heap.size → (w.alloc (.cells vs.toArray e)).heap[b]? = w.heap[b]? := fun b hb => Below.heap_alloc w _ b hb
  have h2 := DLs_world (w' := w.alloc (.cells vs.toArray e)) (fun b hb => hsame b (hr.Flt b hb)) _ _ _ (fun b hb => hsame b (p2 b hb).2) hv2
  have hrel := p6 (w.alloc (.cells vs.toArray e)) (.w (sl ie.sz c [v]) (.slice (some ⟨w.heap.size, 0, none⟩) 1 1)) .u (a.put (some m) (.slice (some ⟨w.heap.size, 0, none⟩) 1 1)) (w.heap.size :: bl) [] ((Stp.alloc w _ []).mono (by simp)) rfl (by simp [Act.put]) (fun i h1 _ => get_put_ne a _ h1)
    ⟨_, get_put_eq a _ (by rw [hr.len]; exact hm), by
      simp only [DR, sl, OT]
      refine ⟨trivial, .inr ⟨w.heap.size, 0, 1, vs.toArray, e, bl, rfl, Nat.le_refl _, by simp [maxLen], heap_alloc_new w _, by simp [hlen], by simp [hc], rfl, ?_⟩⟩
      simpa using DW_OL hw h2⟩
    (fun _ => ⟨.agg vs.toArray, by rw [get_put_ne a _ (Ne.symm hml)]; exact r1, by simp [DR]⟩)
    (by
      simp only [List.append_nil, List.nodup_cons]
      exact ⟨fun hm' => by have := (p2 _ hm').2; omega, hnl⟩)
    (by
      intro b hb
      simp only [List.append_nil, List.mem_cons] at hb
      rcases hb with rfl | hb
      · exact ⟨.inr (.inr (Nat.le_refl _)), by simp⟩
      · exact ⟨.inr (.inl hb), by have := (p2 b hb).2; simp; omega⟩)
  exact hn _ _ _ _ (h _) hrel
theorem RW.build1O {α : Type} {t e : TypeId} {l m : Nat} {i ie : TyI} {c : α → List T} {v : α} {es : List D} (hg : o.guard = none) (ho : o.op = .buildSlice t 1 #[(0, .tmp l)]) (hd : o.dst = some m) (ht : E.tabs t = some i) (he : i.td = .slice e) (hte : E.tabs e = some ie)
    (hl : Eng.gt st l = .agg es) (hw : DW es (c v)) (hc : ∀ x, (c x).length = ie.sz) (hp : ie.sz ≠ 0) (hsm : ie.sz ≤ 1000) (hml : m ≠ l) (hm : m < st.length) (h : ∀ X, RW E B all rest ((st.set m (.w (sl ie.sz c [v]) X)).set l .u) K) : RW E B all (o :: rest) st K := RW.cons hg (OK.build1O ho hd ht he hte hl hw hc hp hsm hml hm h)
theorem V.minI {pu : Bool} {t u : TypeId} {x y : Operand} {p q : Int} (ho : o.op = .call { callee := .builtin .min, args := #[x, y], argTypes := #[t, u] }) (hx : ev st x = .r (.v (.int .i64 p))) (hy : ev st y = .r (.v (.int .i64 q))) : VP pu E B o st (.r (.v (.int .i64 (if q < p then q else p)))) := fun F ac w hr =>
  ⟨.int .i64 (if q < p then q else p), fun w' hs => by
    simp [execOp, ho, resolve, invoke, builtin, ev_scalar hr hx, ev_scalar hr hy, Builtin.min_, Builtin.min2], by simp [DR, RT]⟩
end
section
variable {E : Env} {st : St} {g : Nat → Nat → Value} {bo : Nat → Nat} {as outs : List A}
theorem AOs.obE {α : Type} {f : α → List C} {i : Nat} {cs : List C} {ds : List D} {e' e : α} {as outs : List A} (hk : gt st i = .obj (bo i) ds) (hd : DT ds (f e')) (h : e' = e) (hs : AOs st g bo (i + 1) as outs) : AOs st g bo i (.ob cs :: as) (.ob (f e) :: outs) := by
  subst h
  exact AOs.ob (b := 0) hk hd hs
end
end Go.Eng
