import Derived.Test.YtaneihnomaagoaaGreatDoorEng35
namespace Go.Eng
open Go Go.RowKit
section
variable {E : Env} {F : Nat → Prop} {B : Base E.P} {w : World} {o : Oper} {st : St} {K : St → Prop} {a : Act} {all rest : List Oper}
theorem build2_run {t e : TypeId} {i ie : TyI} {x y : Operand} (ho : o.op = .buildSlice t 2 #[(0, x), (1, y)]) (ht : E.tabs t = some i) (he : i.td = .slice e) (hte : E.tabs e = some ie) (hx : (a.eval x).cells = #[a.eval x]) (hy : (a.eval y).cells = #[a.eval y]) (hsz : ie.sz = 1) :
    (execOp a.eval o).run E.P w = .ok (.value (.slice (some ⟨w.heap.size, 0, none⟩) 2 2)) (w.alloc (.cells #[a.eval x, a.eval y] e)) := by
  obtain ⟨j, d, z, t1, t2, t3, t4, t5, t6, t7⟩ := tyI_spec (E.ok _ _ hte)
  have hu := tyI_slice (E.ok _ _ ht) he
  have hj : j.size = 1 := by rw [t4, hsz]
  have hf : Instr.fill (fun i => some (i * j.size, j.size)) ((Array.range (2 * j.size)).map (z.cells[· % z.cells.size]!)) [(0, a.eval x), (1, a.eval y)] = some #[a.eval x, a.eval y] := by
    rw [hj]
    obtain ⟨p, q, hpq⟩ : ∃ p q : Value, (Array.range (2 * 1)).map (z.cells[· % z.cells.size]!) = #[p, q] := ⟨z.cells[0 % z.cells.size]!, z.cells[1 % z.cells.size]!, by rw [← Array.toList_inj]; simp [List.range_succ]⟩
    rw [hpq]
    rw [fill_cons (vs := [a.eval x]) (off := 0) (by simpa using hx) (by simp) (by simp)]
    rw [fill_cons (vs := [a.eval y]) (off := 1) (by simpa using hy) (by simp) (by simp [setN])]
    simp [Instr.fill, setN]
  have := run_buildSlice w t e 2 #[(0, a.eval x), (1, a.eval y)] #[a.eval x, a.eval y] j z hu t1 t3 (by omega) (by omega) (by simpa using hf)
  simp [execOp, ho, Sem.run_bind, this]
theorem OK.build2c {α : Type} {t e : TypeId} {x y : Operand} {i ie : TyI} {c : α → List T} {v1 v2 : α} {u1 u2 : T} (ho : o.op = .buildSlice t 2 #[(0, x), (1, y)]) (ht : E.tabs t = some i) (he : i.td = .slice e) (hte : E.tabs e = some ie)
    (h1 : one1 (ev st x) = true) (hw1 : DT1 (ev st x) (.w u1)) (hu1 : c v1 = [u1]) (h2 : one1 (ev st y) = true) (hw2 : DT1 (ev st y) (.w u2)) (hu2 : c v2 = [u2]) (hsz : ie.sz = 1) (h : ∀ X, K (setD st o.dst (.w (sl ie.sz c [v1, v2]) X))) : OK E B o st K := by
  intro F a w hr next Q hn
  have hxv := hr.ev x
  have hyv := hr.ev y
  have hone1 := one1_val h1 hxv
  have hone2 := one1_val h2 hyv
  unfold Oper.wp
  rw [build2_run ho ht he hte (oneCell_cells hone1) (oneCell_cells hone2) hsz, Oper.upon_value]
  refine hn _ _ _ _ (h (.slice (some ⟨w.heap.size, 0, none⟩) 2 2)) (hr.putNew' o.dst (Stp.alloc w _ []) (d := .w _ _) (bs := [w.heap.size]) ?_ (by simp) (by simp))
  simp only [DR, sl, OT]
  refine ⟨trivial, .inr ⟨w.heap.size, 0, 2, [a.eval x, a.eval y].toArray, e, [], rfl, Nat.le_refl _, by simp [maxLen], heap_alloc_new w _, by simp [hsz], by simp [hu1, hu2, hsz], rfl, ?_⟩⟩
  have g1 := DT1_CR hw1 (DR_fix hr.Flt (.cells [a.eval x, a.eval y].toArray e) hxv)
  have g2 := DT1_CR hw2 (DR_fix hr.Flt (.cells [a.eval x, a.eval y].toArray e) hyv)
  simp only [CR] at g1 g2
  simp [hu1, hu2, OL, g1, g2]
  exact ⟨_, _, ⟨rfl, rfl⟩, [], [], ⟨rfl, rfl⟩, g1, _, ⟨_, rfl⟩, g2⟩
theorem RW.build2c {α : Type} {t e : TypeId} {x y : Operand} {i ie : TyI} {c : α → List T} {v1 v2 : α} {u1 u2 : T} (hg : o.guard = none) (ho : o.op = .buildSlice t 2 #[(0, x), (1, y)]) (ht : E.tabs t = some i) (he : i.td = .slice e) (hte : E.tabs e = some ie)
    (h1 : one1 (ev st x) = true) (hw1 : DT1 (ev st x) (.w u1)) (hu1 : c v1 = [u1]) (h2 : one1 (ev st y) = true) (hw2 : DT1 (ev st y) (.w u2)) (hu2 : c v2 = [u2]) (hsz : ie.sz = 1) (h : ∀ X, RW E B all rest (setD st o.dst (.w (sl ie.sz c [v1, v2]) X)) K) : RW E B all (o :: rest) st K :=
  RW.cons hg (OK.build2c ho ht he hte h1 hw1 hu1 h2 hw2 hu2 hsz h)
theorem DLs_nil {F : Nat → Prop} {w : World} {sz : Nat} : ∀ {ds : List D} {cs : List Value} {bs : List Nat} {j : Nat}, DLs F w ds cs bs → ds[j]? = some (.r (.v (.slice none 0 0))) → DLs F w (ds.set j (.w (.a sz 0 []) (.slice none 0 0))) cs bs
  | [], _, _, _, _, hj => by simp at hj
  | d :: ds, cs, bs, j, h, hj => by
    simp only [DLs] at h
    obtain ⟨c, cs', b1, b2, rfl, rfl, h3, h4⟩ := h
    cases j with
    | zero =>
      simp at hj
      subst hj
      simp only [DR, RT] at h3
      simp only [List.set_cons_zero, DLs]
      refine ⟨c, cs', b1, b2, rfl, rfl, ?_, h4⟩
      simp only [DR, OT]
      exact ⟨h3.1, .inl ⟨trivial, trivial, trivial, h3.2⟩⟩
    | succ j =>
      simp only [List.set_cons_succ, DLs]
      exact ⟨c, cs', b1, b2, rfl, rfl, h3, DLs_nil h4 (by simpa using hj)⟩
theorem Rel.nilCell (hr : Rel F B st a w) {k b j sz : Nat} {ds : List D} (hk : Eng.gt st k = .obj b ds) (hj : ds[j]? = some (.r (.v (.slice none 0 0)))) : Rel F B (st.set k (.obj b (ds.set j (.w (.a sz 0 []) (.slice none 0 0))))) a w := by
  have hklt := getD_eq hk (by simp)
  obtain ⟨bk, bl, p1, p2, p3, ⟨xk, q1, q2⟩, p5, p6⟩ := hr.two k st.length (by omega) hklt
  rw [hk] at q2
  simp only [DR] at q2
  obtain ⟨cs, ty, bs', h1, h2, rfl, h3⟩ := q2
  refine (p6 w (.obj b (ds.set j (.w (.a sz 0 []) (.slice none 0 0)))) .u a (b :: bs') [] (Stp.refl _ _) rfl rfl (fun _ _ _ => rfl) ⟨xk, q1, by simp only [DR]; exact ⟨cs, ty, bs', h1, h2, rfl, DLs_nil h3 hj⟩⟩ (fun h => absurd h (by omega)) (by simpa using (List.nodup_append.1 p3).1) (fun c hc => ?_)).oob (by simp)
  have : c ∈ b :: bs' := by simpa using hc
  exact ⟨.inl this, (p1 c this).2⟩
theorem CW.nilCell {cd : Code} {Q : Exit → St → Prop} {α : Type} (k j sz : Nat) (c : α → List T) {b : Nat} {ds : List D} (hk : Eng.gt st k = .obj b ds) (hj : ds[j]? = some (.r (.v (.slice none 0 0)))) (h : CW E B cd (st.set k (.obj b (ds.set j (.w (sl sz c []) (.slice none 0 0))))) Q) : CW E B cd st Q :=
  fun F a w hr => h F a w (hr.nilCell hk hj)
end
section
variable {E : Env} {F : Nat → Prop} {B : Base E.P} {w : World} {o oj : Oper} {st : St} {K : St → Prop} {a : Act} {all rest : List Oper} {fc : Facts} {n i j : Nat} {ls ls' : Array Bool} {d : D}
def GOk (all : List Oper) (o : Oper) (st : St) : Prop := o.guard = none ∨ ∃ (j : Nat) (want : Bool) (oj : Oper) (d : Tmp), o.guard = some (j, want) ∧ all[j]? = some oj ∧ oj.dst = some d ∧ Eng.gt st d = .r (.v (.bool want))
def RG (fc : Facts) (E : Env) (B : Base E.P) (all : List Oper) (n : Nat) (ls : Array Bool) (st : St) (K : St → Prop) (i : Nat) : Prop :=
  ∃ o, all[i]? = some o ∧ GOk all o st ∧ OK E B o st (fun st' => RA fc E B all n (ls.setIfInBounds i true) st' K)
theorem RA.stepG {L : List Nat} (ht : Tell fc st) (hL : Region.ready .any all.toArray ls = L) (hne : L ≠ []) (h : ∀ i ∈ L, RG fc E B all n ls st K i) : RA fc E B all (n + 1) ls st K := by
  intro F a w hr
  refine ⟨ht.hx hr, fun Q hQ hp => ⟨fun h0 => absurd (hL.symm.trans h0) hne, fun i hi => ?_⟩⟩
  rw [hL] at hi
  obtain ⟨o, h1, h2, h3⟩ := h i hi
  unfold wpOp
  have ho : all.toArray[i]? = some o := by simpa using h1
  rw [ho]
  have hw : Region.wanted o (yielded all.toArray a.tmps) = true := by
    rcases h2 with h2 | ⟨j, want, oj, d, g1, g2, g3, g4⟩
    · simp [Region.wanted, h2]
    · have hy := yielded_of hr g2 g3 g4
      simp [Region.wanted, g1, hy]
  simp only [hw, if_true]
  exact .inl (h3 F a w hr _ Q (fun F' st' a' w' hk hr' => ⟨(hk F' a' w' hr').1, (hk F' a' w' hr').2 Q hQ hp⟩))
theorem RA.eachG0 : ∀ i ∈ ([] : List Nat), RG fc E B all n ls st K i := fun _ h => by cases h
theorem RA.eachG {j : Nat} {L : List Nat} (h : RG fc E B all n ls st K j) (hs : ∀ i ∈ L, RG fc E B all n ls st K i) : ∀ i ∈ j :: L, RG fc E B all n ls st K i := fun i hi => by
  rcases List.mem_cons.1 hi with rfl | hi
  · exact h
  · exact hs i hi
theorem RG.v (ho : all[i]? = some o) (hg : GOk all o st) (hv : V E B o st d) (hl : ls.setIfInBounds i true = ls') (h : RA fc E B all n ls' (setD st o.dst d) K) : RG fc E B all n ls st K i :=
  ⟨o, ho, hg, OK.ofV hv (by rw [hl]; exact h)⟩
theorem RG.call {f : FuncId} {xs : List Operand} {tys : Array TypeId} {as outs : List A} {res : R} (ho : all[i]? = some o) (hg : GOk all o st) (hf : Eng.Fn E.P f as res outs) (hop : o.op = .call { callee := .value (.func f), args := xs.toArray, argTypes := tys })
    (ha : AsAs st false none xs as) (hl : ls.setIfInBounds i true = ls') (h : ∀ g, RA fc E B all n ls' (setD st o.dst (rD g res)) K) : RG fc E B all n ls st K i := ⟨o, ho, hg, OK.call hf hop ha (fun g => by rw [hl]; exact h g)⟩
theorem RG.callOwn {f : FuncId} {xs : List Operand} {tys : Array TypeId} {as outs : List A} {res : R} (ho : all[i]? = some o) (hg : GOk all o st) (hf : Eng.Fn E.P f as res outs) (hop : o.op = .call { callee := .value (.func f), args := xs.toArray, argTypes := tys })
    (ha : AsAs st true none xs as) (hres : ownR res = true) (hl : ls.setIfInBounds i true = ls') (h : ∀ g, RA fc E B all n ls' (setD st o.dst (rD g res)) K) : RG fc E B all n ls st K i := ⟨o, ho, hg, OK.callOwn hf hop ha hres (fun g => by rw [hl]; exact h g)⟩
end
end Go.Eng
