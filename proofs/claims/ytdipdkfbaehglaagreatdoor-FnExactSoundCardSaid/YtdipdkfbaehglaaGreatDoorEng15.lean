import Derived.Test.YtdipdkfbaehglaaGreatDoorEng13
namespace Go.Eng
open Go Go.RowKit

section
variable {E : Env} {B : Base E.P} {o : Oper} {st : St} {K : St → Prop} {all rest : List Oper}
theorem RW.alloc {t : TypeId} {i : TyI} {ds : List D} (hg : o.guard = none) (ho : o.op = .alloc t) (ht : E.tabs t = some i) (hz : (i.zero.map fun v => D.r (.v v)) = ds) (h : ∀ b, RW E B all rest (setD st o.dst (.obj b ds)) K) : RW E B all (o :: rest) st K :=
  RW.cons hg (OK.alloc ho ht (fun b => by rw [hz]; exact h b))
theorem RW.box {t : TypeId} {x : Operand} {ds : List D} (hg : o.guard = none) (ho : o.op = .box t x) (hx : ev st x = .agg ds) (h : ∀ b, RW E B all rest (setD st o.dst (.obj b ds)) K) : RW E B all (o :: rest) st K :=
  RW.cons hg (OK.boxAgg ho hx h)
theorem RW.store {t : TypeId} {x y : Operand} {i : TyI} {k b off : Nat} {ds : List D} {d : D} (hg : o.guard = none) (ho : o.op = .store t x y) (hdst : o.dst = none) (ht : E.tabs t = some i) (hs : i.sz = 1)
    (hx : ev st x = .pt k b off) (hk : gt st k = .obj b ds) (hl : off < ds.length) (hd : ev st y = d) (hy : one1 d = true) (h : RW E B all rest (st.set k (.obj b (ds.set off d))) K) : RW E B all (o :: rest) st K :=
  RW.cons hg (OK.store ho hdst ht hs hx hk hl (by rw [hd]; exact hy) (by rw [hd]; exact h))
theorem RW.storeAgg {t : TypeId} {x y : Operand} {i : TyI} {k b off : Nat} {ds es : List D} (hg : o.guard = none) (ho : o.op = .store t x y) (hdst : o.dst = none) (ht : E.tabs t = some i)
    (hx : ev st x = .pt k b off) (hk : gt st k = .obj b ds) (hy : ev st y = .agg es) (he : es.length = i.sz) (hl : off + i.sz ≤ ds.length) (ho1 : es.all one1 = true) (h : RW E B all rest (st.set k (.obj b (setN ds off es))) K) : RW E B all (o :: rest) st K :=
  RW.cons hg (OK.storeAgg ho hdst ht hx hk hy he hl ho1 h)
theorem RW.call {f : FuncId} {xs : List Operand} {tys : Array TypeId} {as outs : List A} {res : R} (hg : o.guard = none) (hf : Eng.Fn E.P f as res outs) (ho : o.op = .call { callee := .value (.func f), args := xs.toArray, argTypes := tys })
    (ha : AsAs st false none xs as) (h : ∀ g, RW E B all rest (setD st o.dst (rD g res)) K) : RW E B all (o :: rest) st K := RW.cons hg (OK.call hf ho ha h)
theorem RW.callOwn {f : FuncId} {xs : List Operand} {tys : Array TypeId} {as outs : List A} {res : R} (hg : o.guard = none) (hf : Eng.Fn E.P f as res outs) (ho : o.op = .call { callee := .value (.func f), args := xs.toArray, argTypes := tys })
    (ha : AsAs st true none xs as) (hres : ownR res = true) (h : ∀ g, RW E B all rest (setD st o.dst (rD g res)) K) : RW E B all (o :: rest) st K := RW.cons hg (OK.callOwn hf ho ha hres h)
theorem RW.assignMove {k l : Nat} (hg : o.guard = none) (ho : o.op = .assign (.tmp l)) (hd : o.dst = some k) (hkl : k ≠ l) (hk : k < st.length) (hl : l < st.length) (h : RW E B all rest ((st.set k (gt st l)).set l .u) K) : RW E B all (o :: rest) st K :=
  RW.cons hg (OK.assignMove ho hd hkl hk hl h)
theorem RW.extract {k l i : Nat} {ds : List D} {d : D} (hg : o.guard = none) (ho : o.op = .extract (.tmp l) i) (hd : o.dst = some k) (hkl : k ≠ l) (hk : k < st.length) (hl : gt st l = .tup ds) (hi : ds[i]? = some d)
    (h : RW E B all rest ((st.set k d).set l (.tup (ds.set i .u))) K) : RW E B all (o :: rest) st K := RW.cons hg (OK.extract ho hd hkl hk hl hi h)
theorem RW.storeS {α : Type} {t : TypeId} {x y : Operand} {i : TyI} {k m : Nat} {c : α → List T} {l : List α} {v : α} {X : Value} {es : List D} (hg : o.guard = none) (ho : o.op = .store t x y) (hdst : o.dst = none) (ht : E.tabs t = some i)
    (hx : ev st x = .ep k none i.sz X (m * i.sz)) (hk : gt st k = .w (sl i.sz c l) X) (hy : ev st y = .agg es) (hw : DW es (c v)) (hc : ∀ x, (c x).length = i.sz) (hz : i.sz ≠ 0) (hm : m < l.length) (ho1 : es.all one1 = true)
    (h : RW E B all rest (st.set k (.w (sl i.sz c (l.set m v)) X)) K) : RW E B all (o :: rest) st K := RW.cons hg (OK.storeS ho hdst ht hx hk hy hw hc hz hm ho1 h)
theorem RW.storeS1 {α : Type} {t : TypeId} {x y : Operand} {i : TyI} {k m : Nat} {c : α → List T} {l : List α} {v : α} {X : Value} {u : T} (hg : o.guard = none) (ho : o.op = .store t x y) (hdst : o.dst = none) (ht : E.tabs t = some i) (hs : i.sz = 1)
    (hx : ev st x = .ep k none i.sz X (m * i.sz)) (hk : gt st k = .w (sl i.sz c l) X) (hw : DT1 (ev st y) (.w u)) (hu : c v = [u]) (hc : ∀ x, (c x).length = i.sz) (hm : m < l.length) (ho1 : one1 (ev st y) = true)
    (h : RW E B all rest (st.set k (.w (sl i.sz c (l.set m v)) X)) K) : RW E B all (o :: rest) st K := by
  refine RW.cons hg (OK.storeE (u := u) ho hdst ht hs hx hk hw ?_ ho1 ?_)
  · rw [flatMap_len hc, hs]
    omega
  · have h1 := flatMap_set hc l m v hm
    rw [hu] at h1
    have : T.a i.sz l.length ((l.flatMap c).set (m * i.sz) u) = sl i.sz c (l.set m v) := by
      simp only [setN] at h1
      rw [h1]
      simp [sl]
    rw [this]
    exact h
theorem RW.makeS {α : Type} {t e : TypeId} {x y : Operand} {i ie : TyI} {n : Nat} {c : α → List T} (z : α) (hg : o.guard = none) (ho : o.op = .makeSlice t x y) (ht : E.tabs t = some i) (he : i.td = .slice e) (hte : E.tabs e = some ie)
    (hx : ev st x = .r (.v (.int .i64 n))) (hy : ev st y = .r (.v (.int .i64 n))) (hz : ie.zero.length = ie.sz) (hzc : ZT (c z) ie.zero) (hb : ie.bytes * n ≤ 281474976710656) (hm : n ≤ maxLen)
    (h : ∀ X, RW E B all rest (setD st o.dst (.w (sl ie.sz c (List.replicate n z)) X)) K) : RW E B all (o :: rest) st K := RW.cons hg (OK.makeS z ho ht he hte hx hy hz hzc hb hm h)
theorem Rel.pull {F : Nat → Prop} {a : Act} {w : World} (hr : Rel F B st a w) {k l sz n : Nat} {ts : List T} {X : Value} (hkl : k ≠ l) (hk : gt st k = .al l none sz n X 0) (hl : gt st l = .w (.a sz n ts) X) : Rel F B ((st.set k (.w (.a sz n ts) X)).set l .u) a w := by
  obtain ⟨bk, bl, p1, p2, p3, ⟨xk, q1, q2⟩, p5, p6⟩ := hr.two k l hkl (getD_eq hk (by simp))
  obtain ⟨xl, r1, r2⟩ := p5 _ (gt_some hl (by simp))
  rw [hk] at q2
  simp only [DR] at q2 r2
  obtain ⟨rfl, r2⟩ := r2
  have hx : xk = xl := q2.1.trans (subV_whole r2).symm
  refine p6 w (.w (.a sz n ts) xl) .u a bl [] (Stp.refl _ _) rfl rfl (fun _ _ _ => rfl) ⟨xk, q1, by simp only [DR]; exact ⟨hx, r2⟩⟩ (fun _ => ⟨xl, r1, by simp [DR]⟩) ?_ ?_
  · rw [List.append_nil]
    exact (List.nodup_append.1 p3).2.1
  · intro b hb
    rw [List.append_nil] at hb
    exact ⟨.inr (.inl hb), (p2 b hb).2⟩
theorem CW.pull {c : Code} {Q : Exit → St → Prop} (k l : Nat) {sz n : Nat} {ts : List T} {X : Value} (hkl : k ≠ l) (hk : gt st k = .al l none sz n X 0) (hl : gt st l = .w (.a sz n ts) X) (h : CW E B c ((st.set k (.w (.a sz n ts) X)).set l .u) Q) : CW E B c st Q :=
  fun F a w hr => h F a w (hr.pull hkl hk hl)
theorem DLs_pull {F : Nat → Prop} {w : World} {ds : List D} {cs : List Value} {bs q : List Nat} {j l sz n : Nat} {i : Option Nat} {ts : List T} {X : Value} (h : DLs F w ds cs bs) (hj : ds[j]? = some (.al l i sz n X 0)) (ho : OT w (.a sz n ts) X q) :
    ∃ bs', DLs F w (ds.set j (.w (.a sz n ts) X)) cs bs' ∧ (∀ b ∈ bs', b ∈ bs ∨ b ∈ q) ∧ ((bs ++ q).Nodup → bs'.Nodup) := by
  have hlt : j < ds.length := (List.getElem?_eq_some_iff.1 hj).1
  obtain ⟨c, b', h1, h2, _⟩ := DLs_mem (G := fun _ => True) h hj (fun _ _ => trivial)
  simp only [DR] at h2
  have hx : c = X := h2.1.trans (subV_whole ho).symm
  obtain ⟨bs', g1, g2, g3⟩ := DLs_set (d := .w (.a sz n ts) X) (v := c) h (by simp only [DR]; exact ⟨hx, ho⟩) hlt
  refine ⟨bs', ?_, g2, g3⟩
  have : cs.set j c = cs := by
    apply List.ext_getElem?
    intro p
    rw [List.getElem?_set]
    split
    · rename_i hp; subst hp
      split
      · exact h1.symm
      · rename_i hn
        rw [List.getElem?_eq_none (by omega)] at h1
        cases h1
    · rfl
  rwa [this] at g1
theorem DLs_out {F : Nat → Prop} {w : World} : ∀ {es : List D} {cs : List Value} {bs : List Nat} {j : Nat} {t : T} {X : Value}, DLs F w es cs bs → es[j]? = some (.w t X) →
    ∃ q r, OT w t X q ∧ DLs F w (es.set j .u) cs r ∧ (bs.Nodup → (q ++ r).Nodup) ∧ ∀ b ∈ q ++ r, b ∈ bs
  | [], _, _, _, _, _, _, hj => by simp at hj
  | e :: es, cs, bs, j, t, X, h, hj => by
    simp only [DLs] at h
    obtain ⟨c, cs', b1, b2, rfl, rfl, h3, h4⟩ := h
    cases j with
    | zero =>
      simp at hj
      subst hj
      simp only [DR] at h3
      refine ⟨b1, b2, h3.2, ?_, fun h => h, fun b hb => hb⟩
      simp only [List.set_cons_zero, DLs]
      exact ⟨c, cs', [], b2, rfl, rfl, by simp [DR], h4⟩
    | succ j =>
      obtain ⟨q, r, g1, g2, g3, g4⟩ := DLs_out h4 (by simpa using hj)
      refine ⟨q, b1 ++ r, g1, ?_, ?_, ?_⟩
      · simp only [List.set_cons_succ, DLs]
        exact ⟨c, cs', b1, r, rfl, rfl, h3, g2⟩
      · intro hn
        rw [List.nodup_append] at hn
        have f := g3 hn.2.1
        rw [List.nodup_append] at f
        rw [List.nodup_append]
        refine ⟨f.1, ?_, ?_⟩
        · rw [List.nodup_append]
          exact ⟨hn.1, f.2.1, fun a ha b hb e => hn.2.2 a ha b (g4 b (by simp [hb])) e⟩
        · intro a ha b hb e
          rcases List.mem_append.1 hb with hb | hb
          · exact hn.2.2 b hb a (g4 a (by simp [ha])) e.symm
          · exact f.2.2 a ha b hb e
      · intro b hb
        rcases List.mem_append.1 hb with hb | hb
        · simp [g4 b (by simp [hb])]
        · rcases List.mem_append.1 hb with hb | hb
          · simp [hb]
          · simp [g4 b (by simp [hb])]
theorem Rel.pullX {F : Nat → Prop} {a : Act} {w : World} (hr : Rel F B st a w) {k l b j sz n : Nat} {i : Option Nat} {ds : List D} {ts : List T} {X : Value} {e e' : D} (hkl : k ≠ l) (hk : gt st k = .obj b ds) (hj : ds[j]? = some (.al l i sz n X 0)) (hl : gt st l = e) (hu : e ≠ .u)
    (hsrc : ∀ x bs, DR F w e x bs → ∃ q r, OT w (.a sz n ts) X q ∧ DR F w e' x r ∧ (bs.Nodup → (q ++ r).Nodup) ∧ ∀ b ∈ q ++ r, b ∈ bs) : Rel F B ((st.set k (.obj b (ds.set j (.w (.a sz n ts) X)))).set l e') a w := by
  obtain ⟨bk, bl, p1, p2, p3, ⟨xk, q1, q2⟩, p5, p6⟩ := hr.two k l hkl (getD_eq hk (by simp))
  obtain ⟨xl, r1, r2⟩ := p5 _ (gt_some hl hu)
  rw [hk] at q2
  simp only [DR] at q2
  obtain ⟨cs, ty, bs', rfl, hb, rfl, hd⟩ := q2
  obtain ⟨q, r, s1, s2, s3, s4⟩ := hsrc _ _ r2
  obtain ⟨bs2, t1, t2, t3⟩ := DLs_pull hd hj s1
  rw [List.nodup_append] at p3
  obtain ⟨n1, n2, n3⟩ := p3
  have hqr := s3 n2
  rw [List.nodup_append] at hqr
  rw [List.nodup_cons] at n1
  have hb2 : ∀ c ∈ bs2, c ∈ bs' ∨ c ∈ q := t2
  refine p6 w (.obj b (ds.set j (.w (.a sz n ts) X))) e' a (b :: bs2) r (Stp.refl _ _) rfl rfl (fun _ _ _ => rfl) ⟨_, q1, by simp only [DR]; exact ⟨cs, ty, bs2, trivial, hb, rfl, t1⟩⟩ (fun _ => ⟨xl, r1, s2⟩) ?_ ?_
  · rw [List.cons_append, List.nodup_cons, List.nodup_append]
    refine ⟨?_, t3 ?_, hqr.2.1, ?_⟩
    · intro hm
      rcases List.mem_append.1 hm with hm | hm
      · rcases hb2 b hm with h | h
        · exact n1.1 h
        · exact n3 b (by simp) b (s4 b (by simp [h])) rfl
      · exact n3 b (by simp) b (s4 b (by simp [hm])) rfl
    · rw [List.nodup_append]
      exact ⟨n1.2, hqr.1, fun x hx y hy exy => n3 x (by simp [hx]) y (s4 y (by simp [hy])) exy⟩
    · intro x hx y hy exy
      rcases hb2 x hx with h | h
      · exact n3 x (by simp [h]) y (s4 y (by simp [hy])) exy
      · exact hqr.2.2 x h y hy exy
  · intro c hc
    rcases List.mem_append.1 hc with hc | hc
    · rcases List.mem_cons.1 hc with rfl | hc
      · exact ⟨.inl (by simp), (p1 c (by simp)).2⟩
      · rcases hb2 c hc with h | h
        · exact ⟨.inl (by simp [h]), (p1 c (by simp [h])).2⟩
        · have := s4 c (by simp [h])
          exact ⟨.inr (.inl this), (p2 c this).2⟩
    · have := s4 c (by simp [hc])
      exact ⟨.inr (.inl this), (p2 c this).2⟩
theorem Rel.pullT {F : Nat → Prop} {a : Act} {w : World} (hr : Rel F B st a w) {k l b j sz n : Nat} {ds : List D} {ts : List T} {X : Value} (hkl : k ≠ l) (hk : gt st k = .obj b ds) (hj : ds[j]? = some (.al l none sz n X 0)) (hl : gt st l = .w (.a sz n ts) X) :
    Rel F B ((st.set k (.obj b (ds.set j (.w (.a sz n ts) X)))).set l .u) a w :=
  hr.pullX hkl hk hj hl (by simp) (fun x bs h => by
    simp only [DR] at h
    exact ⟨bs, [], h.2, by simp [DR], fun hn => by simpa using hn, fun b hb => by simpa using hb⟩)
theorem Rel.pullO {F : Nat → Prop} {a : Act} {w : World} (hr : Rel F B st a w) {k l b b' j j' sz n : Nat} {ds es : List D} {ts : List T} {X : Value} (hkl : k ≠ l) (hk : gt st k = .obj b ds) (hj : ds[j]? = some (.al l (some j') sz n X 0)) (hl : gt st l = .obj b' es)
    (hj' : es[j']? = some (.w (.a sz n ts) X)) : Rel F B ((st.set k (.obj b (ds.set j (.w (.a sz n ts) X)))).set l (.obj b' (es.set j' .u))) a w :=
  hr.pullX hkl hk hj hl (by simp) (fun x bs h => by
    simp only [DR] at h
    obtain ⟨cs, ty, bs', rfl, hb, rfl, hd⟩ := h
    obtain ⟨q, r, g1, g2, g3, g4⟩ := DLs_out hd hj'
    refine ⟨q, b' :: r, g1, by simp only [DR]; exact ⟨cs, ty, r, trivial, hb, rfl, g2⟩, fun hn => ?_, fun c hc => ?_⟩
    · rw [List.nodup_cons] at hn
      have := g3 hn.2
      rw [List.nodup_append] at this
      rw [List.nodup_append, List.nodup_cons]
      refine ⟨this.1, ⟨fun hm => hn.1 (g4 b' (by simp [hm])), this.2.1⟩, fun x hx y hy e => ?_⟩
      rcases List.mem_cons.1 hy with rfl | hy
      · exact hn.1 (g4 y (by rw [← e]; simp [hx]))
      · exact this.2.2 x hx y hy e
    · rcases List.mem_append.1 hc with hc | hc
      · simp [g4 c (by simp [hc])]
      · rcases List.mem_cons.1 hc with rfl | hc
        · simp
        · simp [g4 c (by simp [hc])])
theorem Rel.pullA {F : Nat → Prop} {a : Act} {w : World} (hr : Rel F B st a w) {k l b j j' sz n : Nat} {ds es : List D} {ts : List T} {X : Value} (hkl : k ≠ l) (hk : gt st k = .obj b ds) (hj : ds[j]? = some (.al l (some j') sz n X 0)) (hl : gt st l = .agg es)
    (hj' : es[j']? = some (.w (.a sz n ts) X)) : Rel F B ((st.set k (.obj b (ds.set j (.w (.a sz n ts) X)))).set l (.agg (es.set j' .u))) a w :=
  hr.pullX hkl hk hj hl (by simp) (fun x bs h => by
    simp only [DR] at h
    obtain ⟨cs, rfl, hd⟩ := h
    obtain ⟨q, r, g1, g2, g3, g4⟩ := DLs_out hd hj'
    exact ⟨q, r, g1, by simp only [DR]; exact ⟨cs, rfl, g2⟩, g3, g4⟩)
theorem RW.pullT {k l b j sz n : Nat} {ds : List D} {ts : List T} {X : Value} (k' l' j0 : Nat) (h1 : k' = k) (h2 : l' = l) (h3 : j0 = j) (hkl : k ≠ l) (hk : gt st k = .obj b ds) (hj : ds[j]? = some (.al l none sz n X 0)) (hl : gt st l = .w (.a sz n ts) X)
    (h : RW E B all rest ((st.set k (.obj b (ds.set j (.w (.a sz n ts) X)))).set l .u) K) : RW E B all rest st K := fun F a w hr => h F a w (hr.pullT hkl hk hj hl)
theorem RW.pullO {k l b b' j j' sz n : Nat} {ds es : List D} {ts : List T} {X : Value} (k' l' j0 : Nat) (h1 : k' = k) (h2 : l' = l) (h3 : j0 = j) (hkl : k ≠ l) (hk : gt st k = .obj b ds) (hj : ds[j]? = some (.al l (some j') sz n X 0)) (hl : gt st l = .obj b' es)
    (hj' : es[j']? = some (.w (.a sz n ts) X)) (h : RW E B all rest ((st.set k (.obj b (ds.set j (.w (.a sz n ts) X)))).set l (.obj b' (es.set j' .u))) K) : RW E B all rest st K := fun F a w hr => h F a w (hr.pullO hkl hk hj hl hj')
theorem RW.pullA {k l b j j' sz n : Nat} {ds es : List D} {ts : List T} {X : Value} (k' l' j0 : Nat) (h1 : k' = k) (h2 : l' = l) (h3 : j0 = j) (hkl : k ≠ l) (hk : gt st k = .obj b ds) (hj : ds[j]? = some (.al l (some j') sz n X 0)) (hl : gt st l = .agg es)
    (hj' : es[j']? = some (.w (.a sz n ts) X)) (h : RW E B all rest ((st.set k (.obj b (ds.set j (.w (.a sz n ts) X)))).set l (.agg (es.set j' .u))) K) : RW E B all rest st K := fun F a w hr => h F a w (hr.pullA hkl hk hj hl hj')

theorem Rel.setOwnM {F : Nat → Prop} {a : Act} {w : World} (hr : Rel F B st a w) {k l sz n pos : Nat} {ts us : List T} {X : Value} {es : List D} (hkl : k ≠ l) (hk : gt st k = .w (.a sz n ts) X) (hl0 : gt st l = .agg es) (hw : DW es us) (hne : es ≠ []) (ho : es.all one1 = true) (hl : pos + es.length ≤ ts.length) :
    ∃ (b of cap : Nat) (cs : List Value) (ty : TypeId) (vs : List Value), X = .slice (some ⟨b, of, none⟩) n cap ∧ w.heap[b]? = some (.cells cs.toArray ty (0, 0)) ∧ of + ts.length ≤ cs.length ∧ a.tmps[l]? = some (.agg vs.toArray) ∧ vs.length = es.length ∧ (∀ v ∈ vs, v.oneCell' = true) ∧
      Rel F B ((st.set k (.w (.a sz n (setN ts pos us)) X)).set l .u) a (w.setCells b (of + pos) vs) := by
  obtain ⟨bk, bl, p1, p2, p3, ⟨xk, q1, q2⟩, p5, p6⟩ := hr.two k l hkl (getD_eq hk (by simp))
  obtain ⟨xl, r1, r2⟩ := p5 _ (gt_some hl0 (by simp))
  simp only [DR] at r2
  obtain ⟨vs, rfl, he⟩ := r2
  rw [hk] at q2
  simp only [DR, OT] at q2
  obtain ⟨rfl, q2⟩ := q2
  have hpos : 0 < es.length := by cases es with | nil => exact absurd rfl hne | cons _ _ => simp
  rcases q2 with ⟨_, _, rfl, _⟩ | ⟨b, of, cap, cur, ty, bs', rfl, g2, g3, g4, g5, g6, rfl, g8⟩
  · exfalso; simp only [List.length_nil] at hl; omega
  have hlen : vs.length = es.length := DLs_length he
  have hcl := OL_cells g8
  have hof : of + ts.length ≤ cur.toList.length := by
    have : n * sz ≤ cap * sz := Nat.mul_le_mul_right _ g2
    rw [g6]
    simp
    omega
  refine ⟨b, of, cap, cur.toList, ty, vs, rfl, by simpa using g4, hof, r1, hlen, ones_val ho he, ?_⟩
  obtain ⟨bs2, f1, f2, f3⟩ := OL_setN g8 hw he hl
  have hdrop : setN (cur.toList.drop of) pos vs = (setN cur.toList (of + pos) vs).drop of := (setN_drop vs cur.toList of pos).symm
  have hst : Stp w (w.setCells b (of + pos) vs) [b] := Stp.setCells b vs _ w
  rw [List.nodup_append] at p3
  obtain ⟨n1, n2, n3⟩ := p3
  rw [List.nodup_cons] at n1
  have hsub : ∀ c ∈ bs2, c ∈ bs' ∨ c ∈ bl := f2
  have hb2 : b ∉ bs2 := fun hm => by
    rcases hsub b hm with h | h
    · exact n1.1 h
    · exact n3 b (by simp) b h rfl
  have hin : ∀ c ∈ bs2, c < w.heap.size := fun c hc => by
    rcases hsub c hc with h | h
    · exact (p1 c (by simp [h])).2
    · exact (p2 c h).2
  refine p6 (w.setCells b (of + pos) vs) (.w (.a sz n (setN ts pos us)) (.slice (some ⟨b, of, none⟩) n cap)) .u a (b :: bs2) [] (hst.mono (by intro c hc; simp at hc; simp [hc])) rfl rfl (fun i _ _ => rfl) ⟨_, q1, ?_⟩ (fun _ => ⟨_, r1, by simp [DR]⟩) ?_ ?_
  · simp only [DR, OT]
    refine ⟨trivial, .inr ⟨b, of, cap, (setN cur.toList (of + pos) vs).toArray, ty, bs2, rfl, g2, g3, heap_setCells b vs _ w cur.toList ty (0, 0) (by simpa using g4), ?_, ?_, rfl, ?_⟩⟩
    · simp [setN_length]; exact g5
    · rw [setN_length]; exact g6
    · simp only []
      rw [← hdrop]
      exact OL_world _ _ _ (fun c hc => hst.block c (hin c hc) (by simp; rintro rfl; exact hb2 hc)) f1
  · simp only [List.append_nil, List.nodup_cons]
    refine ⟨hb2, f3 ?_⟩
    rw [List.nodup_append]
    exact ⟨n1.2, n2, fun x hx y hy e => n3 x (by simp [hx]) y hy e⟩
  · intro c hc
    simp only [List.append_nil, List.mem_cons] at hc
    rcases hc with rfl | hc
    · exact ⟨.inl (by simp), Nat.lt_of_lt_of_le (p1 c (by simp)).2 hst.size⟩
    · refine ⟨?_, Nat.lt_of_lt_of_le (hin c hc) hst.size⟩
      rcases hsub c hc with h | h
      · exact .inl (by simp [h])
      · exact .inr (.inl h)
theorem OK.storeSM {α : Type} {t : TypeId} {x : Operand} {i : TyI} {k l m : Nat} {c : α → List T} {L : List α} {v : α} {X : Value} {es : List D} (ho : o.op = .store t x (.tmp l)) (hdst : o.dst = none) (ht : E.tabs t = some i) (hkl : k ≠ l)
    (hx : ev st x = .ep k none i.sz X (m * i.sz)) (hk : gt st k = .w (sl i.sz c L) X) (hy : gt st l = .agg es) (hw : DW es (c v)) (hc : ∀ x, (c x).length = i.sz) (hz : i.sz ≠ 0) (hm : m < L.length) (ho1 : es.all one1 = true)
    (h : K ((st.set k (.w (sl i.sz c (L.set m v)) X)).set l .u)) : OK E B o st K := by
  intro F a w hr next Q hn
  have hes : es.length = i.sz := by rw [← DW_len hw, hc]
  have hne : es ≠ [] := by rintro rfl; simp at hes; omega
  have hle : m * i.sz + es.length ≤ (L.flatMap c).length := by
    rw [flatMap_len hc, hes]
    have : (m + 1) * i.sz ≤ L.length * i.sz := Nat.mul_le_mul_right _ hm
    rwa [Nat.succ_mul] at this
  obtain ⟨b, of, cap, cs, ty, vs, hV, h1, h2, h3, h4, h5, hr'⟩ := hr.setOwnM hkl hk hy hw hne ho1 hle
  have hyv : a.eval (.tmp l) = .agg vs.toArray := by simp [Act.eval, Array.getD_eq_getD_getElem?, h3]
  have hrun : (execOp a.eval o).run E.P w = .ok .skip (w.setCells b (of + m * i.sz) vs) := by
    simp [execOp, ho, ev_ep hr hx hV, hyv, Sem.run_bind, run_storeAt_mid w b (of + m * i.sz) t vs.toArray (there_of_block h1 _ _ (by simp; omega)) (by rw [tyI_size (E.ok _ _ ht)]; simp; omega) (by simpa using h5)]
  unfold Oper.wp
  rw [hrun, Oper.upon_skip, hdst]
  have : T.a i.sz L.length (setN (L.flatMap c) (m * i.sz) (c v)) = sl i.sz c (L.set m v) := by
    rw [flatMap_set hc L m v hm]
    simp [sl]
  rw [this] at hr'
  exact hn _ _ _ _ h hr'
theorem RW.storeSM {α : Type} {t : TypeId} {x : Operand} {i : TyI} {k l m : Nat} {c : α → List T} {L : List α} {v : α} {X : Value} {es : List D} (hg : o.guard = none) (ho : o.op = .store t x (.tmp l)) (hdst : o.dst = none) (ht : E.tabs t = some i) (hkl : k ≠ l)
    (hx : ev st x = .ep k none i.sz X (m * i.sz)) (hk : gt st k = .w (sl i.sz c L) X) (hy : gt st l = .agg es) (hw : DW es (c v)) (hc : ∀ x, (c x).length = i.sz) (hz : i.sz ≠ 0) (hm : m < L.length) (ho1 : es.all one1 = true)
    (h : RW E B all rest ((st.set k (.w (sl i.sz c (L.set m v)) X)).set l .u) K) : RW E B all (o :: rest) st K := RW.cons hg (OK.storeSM ho hdst ht hkl hx hk hy hw hc hz hm ho1 h)

section
variable {oj : Oper} {j : Nat} {want g : Bool} {d : Tmp} {dv : D}
theorem RW.gv (hg : o.guard = some (j, want)) (hj : all[j]? = some oj) (hd : oj.dst = some d) (hv : gt st d = .r (.v (.bool g))) (hV : g = want → V E B o (st.set d (.r (.v (.bool want)))) dv)
    (h1 : g = want → RW E B all rest (setD (st.set d (.r (.v (.bool want)))) o.dst dv) K) (h2 : g = !want → RW E B all rest (setD (st.set d (.r (.v (.bool (!want))))) o.dst (.r (.v undef))) K) : RW E B all (o :: rest) st K :=
  RW.guard hg hj hd hv (fun h => OK.ofV (hV h) (h1 h)) h2
theorem RQ.gv (hg : o.guard = some (j, want)) (hj : all[j]? = some oj) (hd : oj.dst = some d) (hv : gt st d = .r (.v (.bool g))) (hV : g = want → V E B o (st.set d (.r (.v (.bool want)))) dv)
    (h1 : g = want → RQ E B all rest (setD (st.set d (.r (.v (.bool want)))) o.dst dv) K) (h2 : g = !want → RQ E B all rest (setD (st.set d (.r (.v (.bool (!want))))) o.dst (.r (.v undef))) K) : RQ E B all (o :: rest) st K :=
  RQ.guard hg hj hd hv (fun h => QOK.val (hV h) (h1 h)) h2
theorem RW.gt (hg : o.guard = some (j, want)) (hj : all[j]? = some oj) (hd : oj.dst = some d) (hv : Eng.gt st d = .r (.v (.bool want))) (hV : V E B o st dv) (h : RW E B all rest (setD st o.dst dv) K) : RW E B all (o :: rest) st K :=
  RW.guardT hg hj hd hv (OK.ofV hV h)
theorem RQ.gt (hg : o.guard = some (j, want)) (hj : all[j]? = some oj) (hd : oj.dst = some d) (hv : Eng.gt st d = .r (.v (.bool want))) (hV : V E B o st dv) (h : RQ E B all rest (setD st o.dst dv) K) : RQ E B all (o :: rest) st K :=
  RQ.guardT hg hj hd hv (QOK.val hV h)
theorem RW.gcall {f : FuncId} {xs : List Operand} {tys : Array TypeId} {as outs : List A} {res : R} (hg : o.guard = some (j, want)) (hj : all[j]? = some oj) (hd : oj.dst = some d) (hv : Eng.gt st d = .r (.v (.bool want)))
    (hf : Eng.Fn E.P f as res outs) (ho : o.op = .call { callee := .value (.func f), args := xs.toArray, argTypes := tys })
    (ha : AsAs st false none xs as) (h : ∀ g, RW E B all rest (setD st o.dst (rD g res)) K) : RW E B all (o :: rest) st K := RW.guardT hg hj hd hv (OK.call hf ho ha h)
end
end
end Go.Eng
