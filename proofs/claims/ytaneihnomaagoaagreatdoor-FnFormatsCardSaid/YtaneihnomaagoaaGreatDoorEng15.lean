import Derived.Test.YtaneihnomaagoaaGreatDoorEng13
namespace Go.Eng
open Go Go.RowKit

section
variable {E : Env} {B : Base E.P} {o : Oper} {st : St} {K : St → Prop} {all rest : List Oper}
theorem RW.alloc {t : TypeId} {i : TyI} {ds : List D} (hg : o.guard = none) (ho : o.op = .alloc t) (ht : E.tabs t = some i) (hz : (i.zero.map fun v => D.r (.v v)) = ds) (h : ∀ b, RW E B all rest (setD st o.dst (.obj b ds)) K) : RW E B all (o :: rest) st K :=
  RW.cons hg (OK.alloc ho ht (fun b => by rw [hz]; exact h b))
theorem RW.box {t : TypeId} {x : Operand} {ds : List D} (hg : o.guard = none) (ho : o.op = .box t x) (hx : ev st x = .agg ds) (h : ∀ b, RW E B all rest (setD st o.dst (.obj b ds)) K) : RW E B all (o :: rest) st K :=
  RW.cons hg (OK.boxAgg ho hx h)
theorem RW.store {t : TypeId} {x y : Operand} {i : TyI} {k b off : Nat} {ds : List D} {d : D} (hg : o.guard = none) (ho : o.op = .store t x y) (hdst : o.dst = none) (ht : E.tabs t = some i) (hs : i.sz = 1)
    (hx : ev st x = .pt k b off) (hk : gt st k = .obj b ds) (hl : off < ds.length) (hd : ev st y = d) (hy : one1 d = true) (h : RW E B all rest (st.set k (.obj b (ds.set off d))) K) : RW E B all (o :: rest) st K :=
  RW.cons hg (OK.store ho hdst ht hs hx hk hl (by rw [hd]; exact hy) (by rw [hd]; exact h))
theorem RW.storeAgg {t : TypeId} {x y : Operand} {i : TyI} {k b off : Nat} {ds es : List D} (hg : o.guard = none) (ho : o.op = .store t x y) (hdst : o.dst = none) (ht : E.tabs t = some i)
    (hx : ev st x = .pt k b off) (hk : gt st k = .obj b ds) (hy : ev st y = .agg es) (he : es.length = i.sz) (hl : off + i.sz ≤ ds.length) (ho1 : es.all one1 = true) (h : RW E B all rest (st.set k (.obj b (setN ds off es))) K) : RW E B all (o :: rest) st K :=
  RW.cons hg (OK.storeAgg ho hdst ht hx hk hy he hl ho1 h)
theorem RW.call {f : FuncId} {xs : List Operand} {tys : Array TypeId} {as outs : List A} {res : R} (hg : o.guard = none) (hf : Eng.Fn E.P f as res outs) (ho : o.op = .call { callee := .value (.func f), args := xs.toArray, argTypes := tys })
    (ha : AsAs st false none xs as) (h : ∀ g, RW E B all rest (setD st o.dst (rD g res)) K) : RW E B all (o :: rest) st K := RW.cons hg (OK.call hf ho ha h)
theorem RW.callOwn {f : FuncId} {xs : List Operand} {tys : Array TypeId} {as outs : List A} {res : R} (hg : o.guard = none) (hf : Eng.Fn E.P f as res outs) (ho : o.op = .call { callee := .value (.func f), args := xs.toArray, argTypes := tys })
    (ha : AsAs st true none xs as) (hres : ownR res = true) (h : ∀ g, RW E B all rest (setD st o.dst (rD g res)) K) : RW E B all (o :: rest) st K := RW.cons hg (OK.callOwn hf ho ha hres h)
theorem RW.assignMove {k l : Nat} (hg : o.guard = none) (ho : o.op = .assign (.tmp l)) (hd : o.dst = some k) (hkl : k ≠ l) (hk : k < st.length) (hl : l < st.length) (h : RW E B all rest ((st.set k (gt st l)).set l .u) K) : RW E B all (o :: rest) st K :=
  RW.cons hg (OK.assignMove ho hd hkl hk hl h)
theorem RW.extract {k l i : Nat} {ds : List D} {d : D} (hg : o.guard = none) (ho : o.op = .extract (.tmp l) i) (hd : o.dst = some k) (hkl : k ≠ l) (hk : k < st.length) (hl : gt st l = .tup ds) (hi : ds[i]? = some d)
    (h : RW E B all rest ((st.set k d).set l (.tup (ds.set i .u))) K) : RW E B all (o :: rest) st K := RW.cons hg (OK.extract ho hd hkl hk hl hi h)
theorem RW.storeS1 {α : Type} {t : TypeId} {x y : Operand} {i : TyI} {k m : Nat} {c : α → List T} {l : List α} {v : α} {X : Value} {u : T} (hg : o.guard = none) (ho : o.op = .store t x y) (hdst : o.dst = none) (ht : E.tabs t = some i) (hs : i.sz = 1)
    (hx : ev st x = .ep k none i.sz X (m * i.sz)) (hk : gt st k = .w (sl i.sz c l) X) (hw : DT1 (ev st y) (.w u)) (hu : c v = [u]) (hc : ∀ x, (c x).length = i.sz) (hm : m < l.length) (ho1 : one1 (ev st y) = true)
    (h : RW E B all rest (st.set k (.w (sl i.sz c (l.set m v)) X)) K) : RW E B all (o :: rest) st K := by
  refine RW.cons hg (OK.storeE (u := u) ho hdst ht hs hx hk hw ?_ ho1 ?_)
  · rw [flatMap_len hc, hs]
    omega
  · have h1 := flatMap_set hc l m v hm
    rw [hu] at h1
    have : T.a i.sz l.length ((l.flatMap c).set (m * i.sz) u) = sl i.sz c (l.set m v) := by
      simp only [setN] at h1
      rw [h1]
      simp [sl]
    rw [this]
    exact h
theorem RW.makeS {α : Type} {t e : TypeId} {x y : Operand} {i ie : TyI} {n : Nat} {c : α → List T} (z : α) (hg : o.guard = none) (ho : o.op = .makeSlice t x y) (ht : E.tabs t = some i) (he : i.td = .slice e) (hte : E.tabs e = some ie)
    (hx : ev st x = .r (.v (.int .i64 n))) (hy : ev st y = .r (.v (.int .i64 n))) (hz : ie.zero.length = ie.sz) (hzc : ZT (c z) ie.zero) (hb : ie.bytes * n ≤ 281474976710656) (hm : n ≤ maxLen)
    (h : ∀ X, RW E B all rest (setD st o.dst (.w (sl ie.sz c (List.replicate n z)) X)) K) : RW E B all (o :: rest) st K := RW.cons hg (OK.makeS z ho ht he hte hx hy hz hzc hb hm h)
theorem Rel.pull {F : Nat → Prop} {a : Act} {w : World} (hr : Rel F B st a w) {k l sz n : Nat} {ts : List T} {X : Value} (hkl : k ≠ l) (hk : gt st k = .al l none sz n X 0) (hl : gt st l = .w (.a sz n ts) X) : Rel F B ((st.set k (.w (.a sz n ts) X)).set l .u) a w := by
  obtain ⟨bk, bl, p1, p2, p3, ⟨xk, q1, q2⟩, p5, p6⟩ := hr.two k l hkl (getD_eq hk (by simp))
  obtain ⟨xl, r1, r2⟩ := p5 _ (gt_some hl (by simp))
  rw [hk] at q2
  simp only [DR] at q2 r2
  obtain ⟨rfl, r2⟩ := r2
  have hx : xk = xl := q2.1.trans (subV_whole r2).symm
  refine p6 w (.w (.a sz n ts) xl) .u a bl [] (Stp.refl _ _) rfl rfl (fun _ _ _ => rfl) ⟨xk, q1, by simp only [DR]; exact ⟨hx, r2⟩⟩ (fun _ => ⟨xl, r1, by simp [DR]⟩) ?_ ?_
  · rw [List.append_nil]
    exact (List.nodup_append.1 p3).2.1
  · intro b hb
    rw [List.append_nil] at hb
    exact ⟨.inr (.inl hb), (p2 b hb).2⟩
theorem CW.pull {c : Code} {Q : Exit → St → Prop} (k l : Nat) {sz n : Nat} {ts : List T} {X : Value} (hkl : k ≠ l) (hk : gt st k = .al l none sz n X 0) (hl : gt st l = .w (.a sz n ts) X) (h : CW E B c ((st.set k (.w (.a sz n ts) X)).set l .u) Q) : CW E B c st Q :=
  fun F a w hr => h F a w (hr.pull hkl hk hl)
theorem DLs_pull {F : Nat → Prop} {w : World} {ds : List D} {cs : List Value} {bs q : List Nat} {j l sz n : Nat} {i : Option Nat} {ts : List T} {X : Value} (h : DLs F w ds cs bs) (hj : ds[j]? = some (.al l i sz n X 0)) (ho : OT w (.a sz n ts) X q) :
    ∃ bs', DLs F w (ds.set j (.w (.a sz n ts) X)) cs bs' ∧ (∀ b ∈ bs', b ∈ bs ∨ b ∈ q) ∧ ((bs ++ q).Nodup → bs'.Nodup) := by
  have hlt : j < ds.length := (List.getElem?_eq_some_iff.1 hj).1
  obtain ⟨c, b', h1, h2, _⟩ := DLs_mem (G := fun _ => True) h hj (fun _ _ => trivial)
  simp only [DR] at h2
  have hx : c = X := h2.1.trans (subV_whole ho).symm
  obtain ⟨bs', g1, g2, g3⟩ := DLs_set (d := .w (.a sz n ts) X) (v := c) h (by simp only [DR]; exact ⟨hx, ho⟩) hlt
  refine ⟨bs', ?_, g2, g3⟩
  have : cs.set j c = cs := by
    apply List.ext_getElem?
    intro p
    rw [List.getElem?_set]
    split
    · rename_i hp; subst hp
      split
      · exact h1.symm
      · rename_i hn
        rw [List.getElem?_eq_none (by omega)] at h1
        cases h1
    · rfl
  rwa [this] at g1
theorem DLs_out {F : Nat → Prop} {w : World} : ∀ {es : List D} {cs : List Value} {bs : List Nat} {j : Nat} {t : T} {X : Value}, DLs F w es cs bs → es[j]? = some (.w t X) →
    ∃ q r, OT w t X q ∧ DLs F w (es.set j .u) cs r ∧ (bs.Nodup → (q ++ r).Nodup) ∧ ∀ b ∈ q ++ r, b ∈ bs
  | [], _, _, _, _, _, _, hj => by simp at hj
  | e :: es, cs, bs, j, t, X, h, hj => by
    simp only [DLs] at h
    obtain ⟨c, cs', b1, b2, rfl, rfl, h3, h4⟩ := h
    cases j with
    | zero =>
      simp at hj
      subst hj
      simp only [DR] at h3
      refine ⟨b1, b2, h3.2, ?_, fun h => h, fun b hb => hb⟩
      simp only [List.set_cons_zero, DLs]
      exact ⟨c, cs', [], b2, rfl, rfl, by simp [DR], h4⟩
    | succ j =>
      obtain ⟨q, r, g1, g2, g3, g4⟩ := DLs_out h4 (by simpa using hj)
      refine ⟨q, b1 ++ r, g1, ?_, ?_, ?_⟩
      · simp only [List.set_cons_succ, DLs]
        exact ⟨c, cs', b1, r, rfl, rfl, h3, g2⟩
      · intro hn
        rw [List.nodup_append] at hn
        have f := g3 hn.2.1
        rw [List.nodup_append] at f
        rw [List.nodup_append]
        refine ⟨f.1, ?_, ?_⟩
        · rw [List.nodup_append]
          exact ⟨hn.1, f.2.1, fun a ha b hb e => hn.2.2 a ha b (g4 b (by simp [hb])) e⟩
        · intro a ha b hb e
          rcases List.mem_append.1 hb with hb | hb
          · exact hn.2.2 b hb a (g4 a (by simp [ha])) e.symm
          · exact f.2.2 a ha b hb e
      · intro b hb
        rcases List.mem_append.1 hb with hb | hb
        · simp [g4 b (by simp [hb])]
        · rcases List.mem_append.1 hb with hb | hb
          · simp [hb]
          · simp [g4 b (by simp [hb])]
theorem Rel.pullX {F : Nat → Prop} {a : Act} {w : World} (hr : Rel F B st a w) {k l b j sz n : Nat} {i : Option Nat} {ds : List D} {ts : List T} {X : Value} {e e' : D} (hkl : k ≠ l) (hk : gt st k = .obj b ds) (hj : ds[j]? = some (.al l i sz n X 0)) (hl : gt st l = e) (hu : e ≠ .u)
    (hsrc : ∀ x bs, DR F w e x bs → ∃ q r, OT w (.a sz n ts) X q ∧ DR F w e' x r ∧ (bs.Nodup → (q ++ r).Nodup) ∧ ∀ b ∈ q ++ r, b ∈ bs) : Rel F B ((st.set k (.obj b (ds.set j (.w (.a sz n ts) X)))).set l e') a w := by
  obtain ⟨bk, bl, p1, p2, p3, ⟨xk, q1, q2⟩, p5, p6⟩ := hr.two k l hkl (getD_eq hk (by simp))
  obtain ⟨xl, r1, r2⟩ := p5 _ (gt_some hl hu)
  rw [hk] at q2
  simp only [DR] at q2
  obtain ⟨cs, ty, bs', rfl, hb, rfl, hd⟩ := q2
  obtain ⟨q, r, s1, s2, s3, s4⟩ := hsrc _ _ r2
  obtain ⟨bs2, t1, t2, t3⟩ := DLs_pull hd hj s1
  rw [List.nodup_append] at p3
  obtain ⟨n1, n2, n3⟩ := p3
  have hqr := s3 n2
  rw [List.nodup_append] at hqr
  rw [List.nodup_cons] at n1
  have hb2 : ∀ c ∈ bs2, c ∈ bs' ∨ c ∈ q := t2
  refine p6 w (.obj b (ds.set j (.w (.a sz n ts) X))) e' a (b :: bs2) r (Stp.refl _ _) rfl rfl (fun _ _ _ => rfl) ⟨_, q1, by simp only [DR]; exact ⟨cs, ty, bs2, trivial, hb, rfl, t1⟩⟩ (fun _ => ⟨xl, r1, s2⟩) ?_ ?_
  · rw [List.cons_append, List.nodup_cons, List.nodup_append]
    refine ⟨?_, t3 ?_, hqr.2.1, ?_⟩
    · intro hm
      rcases List.mem_append.1 hm with hm | hm
      · rcases hb2 b hm with h | h
        · exact n1.1 h
        · exact n3 b (by simp) b (s4 b (by simp [h])) rfl
      · exact n3 b (by simp) b (s4 b (by simp [hm])) rfl
    · rw [List.nodup_append]
      exact ⟨n1.2, hqr.1, fun x hx y hy exy => n3 x (by simp [hx]) y (s4 y (by simp [hy])) exy⟩
    · intro x hx y hy exy
      rcases hb2 x hx with h | h
      · exact n3 x (by simp [h]) y (s4 y (by simp [hy])) exy
      · exact hqr.2.2 x h y hy exy
  · intro c hc
    rcases List.mem_append.1 hc with hc | hc
    · rcases List.mem_cons.1 hc with rfl | hc
      · exact ⟨.inl (by simp), (p1 c (by simp)).2⟩
      · rcases hb2 c hc with h | h
        · exact ⟨.inl (by simp [h]), (p1 c (by simp [h])).2⟩
        · have := s4 c (by simp [h])
          exact ⟨.inr (.inl this), (p2 c this).2⟩
    · have := s4 c (by simp [hc])
      exact ⟨.inr (.inl this), (p2 c this).2⟩
theorem Rel.pullT {F : Nat → Prop} {a : Act} {w : World} (hr : Rel F B st a w) {k l b j sz n : Nat} {ds : List D} {ts : List T} {X : Value} (hkl : k ≠ l) (hk : gt st k = .obj b ds) (hj : ds[j]? = some (.al l none sz n X 0)) (hl : gt st l = .w (.a sz n ts) X) :
    Rel F B ((st.set k (.obj b (ds.set j (.w (.a sz n ts) X)))).set l .u) a w :=
  hr.pullX hkl hk hj hl (by simp) (fun x bs h => by
    simp only [DR] at h
    exact ⟨bs, [], h.2, by simp [DR], fun hn => by simpa using hn, fun b hb => by simpa using hb⟩)
theorem Rel.pullO {F : Nat → Prop} {a : Act} {w : World} (hr : Rel F B st a w) {k l b b' j j' sz n : Nat} {ds es : List D} {ts : List T} {X : Value} (hkl : k ≠ l) (hk : gt st k = .obj b ds) (hj : ds[j]? = some (.al l (some j') sz n X 0)) (hl : gt st l = .obj b' es)
    (hj' : es[j']? = some (.w (.a sz n ts) X)) : Rel F B ((st.set k (.obj b (ds.set j (.w (.a sz n ts) X)))).set l (.obj b' (es.set j' .u))) a w :=
  hr.pullX hkl hk hj hl (by simp) (fun x bs h => by
    simp only [DR] at h
    obtain ⟨cs, ty, bs', rfl, hb, rfl, hd⟩ := h
    obtain ⟨q, r, g1, g2, g3, g4⟩ := DLs_out hd hj'
    refine ⟨q, b' :: r, g1, by simp only [DR]; exact ⟨cs, ty, r, trivial, hb, rfl, g2⟩, fun hn => ?_, fun c hc => ?_⟩
    · rw [List.nodup_cons] at hn
      have := g3 hn.2
      rw [List.nodup_append] at this
      rw [List.nodup_append, List.nodup_cons]
      refine ⟨this.1, ⟨fun hm => hn.1 (g4 b' (by simp [hm])), this.2.1⟩, fun x hx y hy e => ?_⟩
      rcases List.mem_cons.1 hy with rfl | hy
      · exact hn.1 (g4 y (by rw [← e]; simp [hx]))
      · exact this.2.2 x hx y hy e
    · rcases List.mem_append.1 hc with hc | hc
      · simp [g4 c (by simp [hc])]
      · rcases List.mem_cons.1 hc with rfl | hc
        · simp
        · simp [g4 c (by simp [hc])])
theorem Rel.pullA {F : Nat → Prop} {a : Act} {w : World} (hr : Rel F B st a w) {k l b j j' sz n : Nat} {ds es : List D} {ts : List T} {X : Value} (hkl : k ≠ l) (hk : gt st k = .obj b ds) (hj : ds[j]? = some (.al l (some j') sz n X 0)) (hl : gt st l = .agg es)
    (hj' : es[j']? = some (.w (.a sz n ts) X)) : Rel F B ((st.set k (.obj b (ds.set j (.w (.a sz n ts) X)))).set l (.agg (es.set j' .u))) a w :=
  hr.pullX hkl hk hj hl (by simp) (fun x bs h => by
    simp only [DR] at h
    obtain ⟨cs, rfl, hd⟩ := h
    obtain ⟨q, r, g1, g2, g3, g4⟩ := DLs_out hd hj'
    exact ⟨q, r, g1, by simp only [DR]; exact ⟨cs, rfl, g2⟩, g3, g4⟩)
theorem RW.pullT {k l b j sz n : Nat} {ds : List D} {ts : List T} {X : Value} (k' l' j0 : Nat) (h1 : k' = k) (h2 : l' = l) (h3 : j0 = j) (hkl : k ≠ l) (hk : gt st k = .obj b ds) (hj : ds[j]? = some (.al l none sz n X 0)) (hl : gt st l = .w (.a sz n ts) X)
    (h : RW E B all rest ((st.set k (.obj b (ds.set j (.w (.a sz n ts) X)))).set l .u) K) : RW E B all rest st K := fun F a w hr => h F a w (hr.pullT hkl hk hj hl)
theorem RW.pullO {k l b b' j j' sz n : Nat} {ds es : List D} {ts : List T} {X : Value} (k' l' j0 : Nat) (h1 : k' = k) (h2 : l' = l) (h3 : j0 = j) (hkl : k ≠ l) (hk : gt st k = .obj b ds) (hj : ds[j]? = some (.al l (some j') sz n X 0)) (hl : gt st l = .obj b' es)
    (hj' : es[j']? = some (.w (.a sz n ts) X)) (h : RW E B all rest ((st.set k (.obj b (ds.set j (.w (.a sz n ts) X)))).set l (.obj b' (es.set j' .u))) K) : RW E B all rest st K := fun F a w hr => h F a w (hr.pullO hkl hk hj hl hj')
theorem RW.pullA {k l b j j' sz n : Nat} {ds es : List D} {ts : List T} {X : Value} (k' l' j0 : Nat) (h1 : k' = k) (h2 : l' = l) (h3 : j0 = j) (hkl : k ≠ l) (hk : gt st k = .obj b ds) (hj : ds[j]? = some (.al l (some j') sz n X 0)) (hl : gt st l = .agg es)
    (hj' : es[j']? = some (.w (.a sz n ts) X)) (h : RW E B all rest ((st.set k (.obj b (ds.set j (.w (.a sz n ts) X)))).set l (.agg (es.set j' .u))) K) : RW E B all rest st K := fun F a w hr => h F a w (hr.pullA hkl hk hj hl hj')

section
variable {oj : Oper} {j : Nat} {want g : Bool} {d : Tmp} {dv : D}
theorem RW.gv (hg : o.guard = some (j, want)) (hj : all[j]? = some oj) (hd : oj.dst = some d) (hv : gt st d = .r (.v (.bool g))) (hV : g = want → V E B o (st.set d (.r (.v (.bool want)))) dv)
    (h1 : g = want → RW E B all rest (setD (st.set d (.r (.v (.bool want)))) o.dst dv) K) (h2 : g = !want → RW E B all rest (setD (st.set d (.r (.v (.bool (!want))))) o.dst (.r (.v undef))) K) : RW E B all (o :: rest) st K :=
  RW.guard hg hj hd hv (fun h => OK.ofV (hV h) (h1 h)) h2
theorem RQ.gv (hg : o.guard = some (j, want)) (hj : all[j]? = some oj) (hd : oj.dst = some d) (hv : gt st d = .r (.v (.bool g))) (hV : g = want → V E B o (st.set d (.r (.v (.bool want)))) dv)
    (h1 : g = want → RQ E B all rest (setD (st.set d (.r (.v (.bool want)))) o.dst dv) K) (h2 : g = !want → RQ E B all rest (setD (st.set d (.r (.v (.bool (!want))))) o.dst (.r (.v undef))) K) : RQ E B all (o :: rest) st K :=
  RQ.guard hg hj hd hv (fun h => QOK.val (hV h) (h1 h)) h2
theorem RW.gt (hg : o.guard = some (j, want)) (hj : all[j]? = some oj) (hd : oj.dst = some d) (hv : Eng.gt st d = .r (.v (.bool want))) (hV : V E B o st dv) (h : RW E B all rest (setD st o.dst dv) K) : RW E B all (o :: rest) st K :=
  RW.guardT hg hj hd hv (OK.ofV hV h)
theorem RQ.gt (hg : o.guard = some (j, want)) (hj : all[j]? = some oj) (hd : oj.dst = some d) (hv : Eng.gt st d = .r (.v (.bool want))) (hV : V E B o st dv) (h : RQ E B all rest (setD st o.dst dv) K) : RQ E B all (o :: rest) st K :=
  RQ.guardT hg hj hd hv (QOK.val hV h)
theorem RW.gcall {f : FuncId} {xs : List Operand} {tys : Array TypeId} {as outs : List A} {res : R} (hg : o.guard = some (j, want)) (hj : all[j]? = some oj) (hd : oj.dst = some d) (hv : Eng.gt st d = .r (.v (.bool want)))
    (hf : Eng.Fn E.P f as res outs) (ho : o.op = .call { callee := .value (.func f), args := xs.toArray, argTypes := tys })
    (ha : AsAs st false none xs as) (h : ∀ g, RW E B all rest (setD st o.dst (rD g res)) K) : RW E B all (o :: rest) st K := RW.guardT hg hj hd hv (OK.call hf ho ha h)
end
end
end Go.Eng
