import Derived.Test.YthkiegfcahigkaaEng14
namespace Go.Eng
open Go Go.RowKit

/-! ### a step of a plain region -/
section
variable {E : Env} {B : Base} {o : Oper} {st : St} {K : St → Prop} {all rest : List Oper}
theorem RW.alloc {t : TypeId} {i : TyI} {ds : List D} (hg : o.guard = none) (ho : o.op = .alloc t) (ht : E.tabs t = some i) (hz : (i.zero.map fun v => D.r (.v v)) = ds) (h : ∀ b, RW E B all rest (setD st o.dst (.obj b ds)) K) : RW E B all (o :: rest) st K :=
  RW.cons hg (OK.alloc ho ht (fun b => by rw [hz]; exact h b))
theorem RW.box {t : TypeId} {x : Operand} {ds : List D} (hg : o.guard = none) (ho : o.op = .box t x) (hx : ev st x = .agg ds) (h : ∀ b, RW E B all rest (setD st o.dst (.obj b ds)) K) : RW E B all (o :: rest) st K :=
  RW.cons hg (OK.boxAgg ho hx h)
theorem RW.box1 {t : TypeId} {x : Operand} {v : Value} (hg : o.guard = none) (ho : o.op = .box t x) (hx : ev st x = .r (.v v)) (hv : v.cells = #[v]) (h : ∀ b, RW E B all rest (setD st o.dst (.obj b [.r (.v v)])) K) : RW E B all (o :: rest) st K :=
  RW.cons hg (OK.boxPrim ho hx hv h)
theorem RW.store {t : TypeId} {x y : Operand} {i : TyI} {k b off : Nat} {ds : List D} {d : D} (hg : o.guard = none) (ho : o.op = .store t x y) (hdst : o.dst = none) (ht : E.tabs t = some i) (hs : i.sz = 1)
    (hx : ev st x = .pt k b off) (hk : gt st k = .obj b ds) (hl : off < ds.length) (hd : ev st y = d) (hy : one1 d = true) (h : RW E B all rest (st.set k (.obj b (ds.set off d))) K) : RW E B all (o :: rest) st K :=
  RW.cons hg (OK.store ho hdst ht hs hx hk hl (by rw [hd]; exact hy) (by rw [hd]; exact h))
theorem RW.storeAgg {t : TypeId} {x y : Operand} {i : TyI} {k b off : Nat} {ds es : List D} (hg : o.guard = none) (ho : o.op = .store t x y) (hdst : o.dst = none) (ht : E.tabs t = some i)
    (hx : ev st x = .pt k b off) (hk : gt st k = .obj b ds) (hy : ev st y = .agg es) (he : es.length = i.sz) (hl : off + i.sz ≤ ds.length) (ho1 : es.all one1 = true) (h : RW E B all rest (st.set k (.obj b (setN ds off es))) K) : RW E B all (o :: rest) st K :=
  RW.cons hg (OK.storeAgg ho hdst ht hx hk hy he hl ho1 h)
theorem RW.call {f : FuncId} {xs : List Operand} {tys : Array TypeId} {as outs : List A} {res : R} (hg : o.guard = none) (hf : Eng.Fn E.P f as res outs) (ho : o.op = .call { callee := .value (.func f), args := xs.toArray, argTypes := tys })
    (ha : AsAs st false none xs as) (h : ∀ g, RW E B all rest (setD st o.dst (rD g res)) K) : RW E B all (o :: rest) st K := RW.cons hg (OK.call hf ho ha h)
theorem RW.callOwn {f : FuncId} {xs : List Operand} {tys : Array TypeId} {as outs : List A} {res : R} (hg : o.guard = none) (hf : Eng.Fn E.P f as res outs) (ho : o.op = .call { callee := .value (.func f), args := xs.toArray, argTypes := tys })
    (ha : AsAs st true none xs as) (hres : ownR res = true) (h : ∀ g, RW E B all rest (setD st o.dst (rD g res)) K) : RW E B all (o :: rest) st K := RW.cons hg (OK.callOwn hf ho ha hres h)
theorem RW.assignMove {k l : Nat} (hg : o.guard = none) (ho : o.op = .assign (.tmp l)) (hd : o.dst = some k) (hkl : k ≠ l) (hk : k < st.length) (hl : l < st.length) (h : RW E B all rest ((st.set k (gt st l)).set l .u) K) : RW E B all (o :: rest) st K :=
  RW.cons hg (OK.assignMove ho hd hkl hk hl h)
theorem RW.extract {k l i : Nat} {ds : List D} {d : D} (hg : o.guard = none) (ho : o.op = .extract (.tmp l) i) (hd : o.dst = some k) (hkl : k ≠ l) (hk : k < st.length) (hl : gt st l = .tup ds) (hi : ds[i]? = some d)
    (h : RW E B all rest ((st.set k d).set l (.tup (ds.set i .u))) K) : RW E B all (o :: rest) st K := RW.cons hg (OK.extract ho hd hkl hk hl hi h)
theorem RW.storeS {α : Type} {t : TypeId} {x y : Operand} {i : TyI} {k m : Nat} {c : α → List T} {l : List α} {v : α} {X : Value} {es : List D} (hg : o.guard = none) (ho : o.op = .store t x y) (hdst : o.dst = none) (ht : E.tabs t = some i)
    (hx : ev st x = .ep k none i.sz X (m * i.sz)) (hk : gt st k = .w (sl i.sz c l) X) (hy : ev st y = .agg es) (hw : DW es (c v)) (hc : ∀ x, (c x).length = i.sz) (hz : i.sz ≠ 0) (hm : m < l.length) (ho1 : es.all one1 = true)
    (h : RW E B all rest (st.set k (.w (sl i.sz c (l.set m v)) X)) K) : RW E B all (o :: rest) st K := RW.cons hg (OK.storeS ho hdst ht hx hk hy hw hc hz hm ho1 h)
/-- A single cell goes into its place in an own array. -/
theorem RW.storeS1 {α : Type} {t : TypeId} {x y : Operand} {i : TyI} {k m : Nat} {c : α → List T} {l : List α} {v : α} {X : Value} {u : T} (hg : o.guard = none) (ho : o.op = .store t x y) (hdst : o.dst = none) (ht : E.tabs t = some i) (hs : i.sz = 1)
    (hx : ev st x = .ep k none i.sz X (m * i.sz)) (hk : gt st k = .w (sl i.sz c l) X) (hw : DT1 (ev st y) (.w u)) (hu : c v = [u]) (hc : ∀ x, (c x).length = i.sz) (hm : m < l.length) (ho1 : one1 (ev st y) = true)
    (h : RW E B all rest (st.set k (.w (sl i.sz c (l.set m v)) X)) K) : RW E B all (o :: rest) st K := by
  refine RW.cons hg (OK.storeE (u := u) ho hdst ht hs hx hk hw ?_ ho1 ?_)
  · rw [flatMap_len hc, hs]
    omega
  · have h1 := flatMap_set hc l m v hm
    rw [hu] at h1
    have : T.a i.sz l.length ((l.flatMap c).set (m * i.sz) u) = sl i.sz c (l.set m v) := by
      simp only [setN] at h1
      rw [h1]
      simp [sl]
    rw [this]
    exact h
theorem RW.makeS {α : Type} {t e : TypeId} {x y : Operand} {i ie : TyI} {n : Nat} {c : α → List T} (z : α) (hg : o.guard = none) (ho : o.op = .makeSlice t x y) (ht : E.tabs t = some i) (he : i.td = .slice e) (hte : E.tabs e = some ie)
    (hx : ev st x = .r (.v (.int .i64 n))) (hy : ev st y = .r (.v (.int .i64 n))) (hz : ie.zero.length = ie.sz) (hzc : c z = ie.zero.map .v) (hb : ie.bytes * n ≤ 281474976710656) (hm : n ≤ maxLen)
    (h : ∀ X, RW E B all rest (setD st o.dst (.w (sl ie.sz c (List.replicate n z)) X)) K) : RW E B all (o :: rest) st K := RW.cons hg (OK.makeS z ho ht he hte hx hy hz hzc hb hm h)
/-- A slot that looks at an array takes it over. -/
theorem Rel.pull {F : Nat → Prop} {a : Act} {w : World} (hr : Rel F B st a w) {k l sz n : Nat} {ts : List T} {X : Value} (hkl : k ≠ l) (hk : gt st k = .al l none sz n X 0) (hl : gt st l = .w (.a sz n ts) X) : Rel F B ((st.set k (.w (.a sz n ts) X)).set l .u) a w := by
  obtain ⟨bk, bl, p1, p2, p3, ⟨xk, q1, q2⟩, p5, p6⟩ := hr.two k l hkl (getD_eq hk (by simp))
  obtain ⟨xl, r1, r2⟩ := p5 _ (gt_some hl (by simp))
  rw [hk] at q2
  simp only [DR] at q2 r2
  obtain ⟨rfl, r2⟩ := r2
  have hx : xk = xl := q2.1.trans (subV_whole r2).symm
  refine p6 w (.w (.a sz n ts) xl) .u a bl [] (Stp.refl _ _) rfl rfl (fun _ _ _ => rfl) ⟨xk, q1, by simp only [DR]; exact ⟨hx, r2⟩⟩ (fun _ => ⟨xl, r1, by simp [DR]⟩) ?_ ?_
  · rw [List.append_nil]
    exact (List.nodup_append.1 p3).2.1
  · intro b hb
    rw [List.append_nil] at hb
    exact ⟨.inr (.inl hb), (p2 b hb).2⟩
theorem CW.pull {c : Code} {Q : Exit → St → Prop} (k l : Nat) {sz n : Nat} {ts : List T} {X : Value} (hkl : k ≠ l) (hk : gt st k = .al l none sz n X 0) (hl : gt st l = .w (.a sz n ts) X) (h : CW E B c ((st.set k (.w (.a sz n ts) X)).set l .u) Q) : CW E B c st Q :=
  fun F a w hr => h F a w (hr.pull hkl hk hl)
/-! #### under a guard -/
section
variable {oj : Oper} {j : Nat} {want g : Bool} {d : Tmp} {dv : D}
theorem RW.gv (hg : o.guard = some (j, want)) (hj : all[j]? = some oj) (hd : oj.dst = some d) (hv : gt st d = .r (.v (.bool g))) (hV : g = want → V E B o (st.set d (.r (.v (.bool want)))) dv)
    (h1 : g = want → RW E B all rest (setD (st.set d (.r (.v (.bool want)))) o.dst dv) K) (h2 : g = !want → RW E B all rest (setD (st.set d (.r (.v (.bool (!want))))) o.dst (.r (.v undef))) K) : RW E B all (o :: rest) st K :=
  RW.guard hg hj hd hv (fun h => OK.ofV (hV h) (h1 h)) h2
theorem RQ.gv (hg : o.guard = some (j, want)) (hj : all[j]? = some oj) (hd : oj.dst = some d) (hv : gt st d = .r (.v (.bool g))) (hV : g = want → V E B o (st.set d (.r (.v (.bool want)))) dv)
    (h1 : g = want → RQ E B all rest (setD (st.set d (.r (.v (.bool want)))) o.dst dv) K) (h2 : g = !want → RQ E B all rest (setD (st.set d (.r (.v (.bool (!want))))) o.dst (.r (.v undef))) K) : RQ E B all (o :: rest) st K :=
  RQ.guard hg hj hd hv (fun h => QOK.val (hV h) (h1 h)) h2
theorem RW.gt (hg : o.guard = some (j, want)) (hj : all[j]? = some oj) (hd : oj.dst = some d) (hv : Eng.gt st d = .r (.v (.bool want))) (hV : V E B o st dv) (h : RW E B all rest (setD st o.dst dv) K) : RW E B all (o :: rest) st K :=
  RW.guardT hg hj hd hv (OK.ofV hV h)
theorem RQ.gt (hg : o.guard = some (j, want)) (hj : all[j]? = some oj) (hd : oj.dst = some d) (hv : Eng.gt st d = .r (.v (.bool want))) (hV : V E B o st dv) (h : RQ E B all rest (setD st o.dst dv) K) : RQ E B all (o :: rest) st K :=
  RQ.guardT hg hj hd hv (QOK.val hV h)
theorem RW.gcall {f : FuncId} {xs : List Operand} {tys : Array TypeId} {as outs : List A} {res : R} (hg : o.guard = some (j, want)) (hj : all[j]? = some oj) (hd : oj.dst = some d) (hv : Eng.gt st d = .r (.v (.bool want)))
    (hf : Eng.Fn E.P f as res outs) (ho : o.op = .call { callee := .value (.func f), args := xs.toArray, argTypes := tys })
    (ha : AsAs st false none xs as) (h : ∀ g, RW E B all rest (setD st o.dst (rD g res)) K) : RW E B all (o :: rest) st K := RW.guardT hg hj hd hv (OK.call hf ho ha h)
end
end
end Go.Eng
