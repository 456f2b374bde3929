import Derived.Test.YtaneihnomaagoaaGreatDoorEng38
namespace Go.Eng
open Go Go.RowKit

section
variable {w : World}
theorem OL_in : ∀ {ts : List T} {cs : List Value} {r q : List Nat} {j : Nat} {t : T} {x : Value}, OL w ts cs r → ts[j]? = some (.v x) → OT w t x q →
    ∃ bs, OL w (ts.set j t) cs bs ∧ (∀ b ∈ bs, b ∈ q ∨ b ∈ r) ∧ ((q ++ r).Nodup → bs.Nodup)
  | [], _, _, _, _, _, _, _, h, _ => by simp at h
  | t :: ts, cs, bs, q, 0, u, x, h, hj, ho => by
    simp at hj
    subst hj
    simp only [OL] at h
    obtain ⟨c, cs', b1, b2, rfl, rfl, h3, h4⟩ := h
    simp only [OT] at h3
    obtain ⟨rfl, rfl⟩ := h3
    refine ⟨q ++ b2, ?_, fun b hb => by simpa using hb, fun h => by simpa using h⟩
    simp only [List.set_cons_zero, OL]
    exact ⟨c, cs', q, b2, rfl, rfl, ho, h4⟩
  | t :: ts, cs, bs, q, j + 1, u, x, h, hj, ho => by
    simp only [OL] at h
    obtain ⟨c, cs', b1, b2, rfl, rfl, h3, h4⟩ := h
    obtain ⟨r, g1, g2, g3⟩ := OL_in h4 (by simpa using hj) ho
    refine ⟨b1 ++ r, ?_, fun b hb => ?_, fun hn => ?_⟩
    · simp only [List.set_cons_succ, OL]
      exact ⟨c, cs', b1, r, rfl, rfl, h3, g1⟩
    · rcases List.mem_append.1 hb with h | h
      · exact .inr (by simp [h])
      · rcases g2 b h with h' | h'
        · exact .inl h'
        · exact .inr (by simp [h'])
    · rw [List.nodup_append, List.nodup_append] at hn
      obtain ⟨n1, ⟨n2, n3, n4⟩, n5⟩ := hn
      rw [List.nodup_append]
      refine ⟨n2, g3 (by rw [List.nodup_append]; exact ⟨n1, n3, fun a ha b hb e => n5 a ha b (by simp [hb]) e⟩), fun a ha b hb e => ?_⟩
      rcases g2 b hb with h' | h'
      · exact n5 b h' a (by simp [ha]) e.symm
      · exact n4 a ha b h' e
end
section
variable {E : Env} {F : Nat → Prop} {B : Base E.P} {w : World} {o : Oper} {st : St} {K : St → Prop} {a : Act} {all rest : List Oper}
theorem Rel.give (hr : Rel F B st a w) {k d sz n pos sz' n' : Nat} {ts us : List T} {V X : Value} (hkd : k ≠ d) (hk : Eng.gt st k = .w (.a sz n ts) V) (hd : Eng.gt st d = .w (.a sz' n' us) X) (hp : ts[pos]? = some (.v X)) :
    Rel F B ((st.set k (.w (.a sz n (ts.set pos (.a sz' n' us))) V)).set d .u) a w := by
  obtain ⟨bk, bl, p1, p2, p3, ⟨xk, q1, q2⟩, p5, p6⟩ := hr.two k d hkd (getD_eq hk (by simp))
  obtain ⟨xl, r1, r2⟩ := p5 _ (gt_some hd (by simp))
  rw [hk] at q2
  simp only [DR] at q2 r2
  obtain ⟨rfl, q2⟩ := q2
  obtain ⟨rfl, r2⟩ := r2
  simp only [OT] at q2
  rcases q2 with ⟨_, _, rfl, _⟩ | ⟨b, of, cap, cur, ty, bs', rfl, g2, g3, g4, g5, g6, rfl, g8⟩
  · simp at hp
  · obtain ⟨bs2, f1, f2, f3⟩ := OL_in g8 hp r2
    rw [List.nodup_append] at p3
    have hnd := p3.1
    rw [List.nodup_cons] at hnd
    refine p6 w _ _ a (b :: bs2) [] (Stp.refl _ _) rfl rfl (fun _ _ _ => rfl) ⟨_, q1, ?_⟩ (fun _ => ⟨xl, r1, by simp [DR]⟩) ?_ ?_
    · simp only [DR, OT]
      exact ⟨trivial, .inr ⟨b, of, cap, cur, ty, bs2, rfl, g2, g3, g4, g5, by rw [List.length_set]; exact g6, rfl, f1⟩⟩
    · rw [List.append_nil, List.nodup_cons]
      refine ⟨fun hm => ?_, f3 (by rw [List.nodup_append]; exact ⟨p3.2.1, hnd.2, fun x hx y hy e => p3.2.2 y (by simp [hy]) x hx e.symm⟩)⟩
      rcases f2 b hm with h | h
      · exact p3.2.2 b (by simp) b h rfl
      · exact hnd.1 h
    · intro x hx
      rw [List.append_nil] at hx
      rcases List.mem_cons.1 hx with rfl | hx
      · exact ⟨.inl (by simp), (p1 x (by simp)).2⟩
      · rcases f2 x hx with h | h
        · exact ⟨.inr (.inl h), (p2 x h).2⟩
        · exact ⟨.inl (by simp [h]), (p1 x (by simp [h])).2⟩
inductive Tk (q : Nat) : D → D → List C → Prop where
  | agg {es : List D} {cs : List C} (h : ∃ ds', Hand es cs cs ds') : Tk q (.agg es) (.agg (cpyL q 0 es)) cs
  | obj {b : Nat} {es : List D} {cs : List C} (h : ∃ ds', Hand es cs cs ds') : Tk q (.obj b es) (.agg (cpyL q 0 es)) cs
theorem Tk.give {q : Nat} {d e : D} {cs : List C} (h : Tk q d e cs) {x y : Value} {bq : List Nat} (hd : DR F w d x bq) (he : DR F w e y []) : ∃ b1, (∀ b ∈ b1, b ∈ bq) ∧ (bq.Nodup → b1.Nodup) ∧ ∀ G : Nat → Prop, (∀ b, F b → G b) → AR G w (.agg cs) y b1 := by
  cases h with
  | agg h =>
    obtain ⟨_, h⟩ := h
    simp only [DR] at hd he
    obtain ⟨xs, rfl, h1⟩ := hd
    obtain ⟨ys, rfl, h2⟩ := he
    refine ⟨bq, fun b hb => hb, fun h => h, fun G hG => ?_⟩
    simp only [AR]
    exact ⟨ys, rfl, (h.give q 0 xs ys bq h1 h2).1 G hG⟩
  | obj h =>
    obtain ⟨_, h⟩ := h
    simp only [DR] at hd he
    obtain ⟨xs, ty, bs', rfl, h0, rfl, h1⟩ := hd
    obtain ⟨ys, rfl, h2⟩ := he
    refine ⟨bs', fun b hb => by simp [hb], fun h => (List.nodup_cons.1 h).2, fun G hG => ?_⟩
    simp only [AR]
    exact ⟨ys, rfl, (h.give q 0 xs ys bs' h1 h2).1 G hG⟩
end
section
variable {fc : Facts} {E : Env} {B : Base E.P} {w : World} {o : Oper} {st : St} {K : St → Prop} {all : List Oper} {n i' : Nat} {ls ls' : Array Bool}
end
end Go.Eng

namespace Go.Eng
open Go Go.RowKit

section
variable {E : Env} {X : Kd E.P} {F : Nat → Prop} {B : Base E.P} {w : World} {o : Oper} {st : St} {K : St → Prop} {a : Act} {all : List Oper} {fc : Facts} {n : Nat} {ls : Array Bool} {d : D}
open Classical in
theorem Rel.rebase (hr : Rel F B st a w) : ∃ B' : Base E.P, Rel F B' st a w ∧ B'.w = w ∧ (∀ b, F b → b < w.heap.size ∧ b ∉ B'.bs) ∧ (∀ w', Fx B' w' → Fx B w') ∧ ∀ F' st' a' w', Rel F' B' st' a' w' → Rel F' B st' a' w' := by
  let bs : List Nat := (List.range w.heap.size).filter fun b => decide (¬ F b ∧ (b ∈ B.bs ∨ B.w.heap.size ≤ b))
  have hbs : ∀ b, b ∈ bs ↔ b < w.heap.size ∧ ¬ F b ∧ (b ∈ B.bs ∨ B.w.heap.size ≤ b) := fun b => by simp [bs]
  have htb : Tb E.P w bs := hr.tb fun b hb => ((hbs b).1 hb).2.2
  have hfx : ∀ w', Fx ⟨F, bs, w, htb⟩ w' → Fx B w' := fun w' h b hb hn => by
    rw [h b (Nat.lt_of_lt_of_le hb hr.fr.size) (fun hm => by
      rcases ((hbs b).1 hm).2.2 with h1 | h1
      · exact hn h1
      · omega)]
    exact hr.fr.fix b hb hn
  refine ⟨⟨F, bs, w, htb⟩, ?_, rfl, fun b hb => ⟨hr.Flt b hb, fun hm => ((hbs b).1 hm).2.1 hb⟩, hfx, fun F' st' a' w' h => ?_⟩
  · obtain ⟨own, hs⟩ := hr.slots
    refine ⟨hr.defers, hr.len, ⟨rfl, rfl, rfl, Nat.le_refl _, fun _ _ _ => rfl⟩, hr.Flt, fun b hb => .inl hb, own, fun k e hk => ?_⟩
    obtain ⟨x, cs, h1, h2, h3, h4⟩ := hs k e hk
    exact ⟨x, cs, h1, h2, h3, fun b hb => ⟨(h4 b hb).1, ⟨(h4 b hb).2.1.1, .inl ((hbs b).2 ⟨(h4 b hb).2.2, (h4 b hb).2.1⟩)⟩, (h4 b hb).2.2⟩⟩
  · have hB : ∀ b, b ∈ bs ∨ w.heap.size ≤ b → b ∈ B.bs ∨ B.w.heap.size ≤ b := fun b hb => by
      rcases hb with hb | hb
      · exact ((hbs b).1 hb).2.2
      · exact .inr (Nat.le_trans hr.fr.size hb)
    obtain ⟨own, hs⟩ := h.slots
    refine ⟨h.defers, h.len, ⟨h.fr.os.trans hr.fr.os, h.fr.tape.trans hr.fr.tape, h.fr.output.trans hr.fr.output, Nat.le_trans hr.fr.size h.fr.size, hfx w' h.fr.fix⟩, h.Flt, fun b hb => ?_, own, fun k e hk => ?_⟩
    · rcases h.Fin b hb with h1 | h1
      · exact hr.Fin b h1
      · exact .inr (hB b h1)
    · obtain ⟨x, cs, h1, h2, h3, h4⟩ := hs k e hk
      exact ⟨x, cs, h1, h2, h3, fun b hb => ⟨(h4 b hb).1, ⟨(h4 b hb).2.1.1, hB b (h4 b hb).2.1.2⟩, (h4 b hb).2.2⟩⟩
def VR (fc : Facts) (E : Env) (o : Oper) (st : St) (d : D) : Prop :=
  ∀ (B : Base E.P) (F : Nat → Prop) (a : Act) (w : World), Rel F B st a w → ∃ x, (∀ w', Hd fc w' → (∀ b, F b → w'.heap[b]? = w.heap[b]?) → (execOp a.eval o).run E.P w' = .ok (.value x) w') ∧ DR F w d x []
theorem VR.f (h : ∀ B, VF fc E B o st d) : VR fc E o st d := fun B F a w hr => by
  obtain ⟨x, h1, h2⟩ := h B F a w hr
  exact ⟨x, fun w' hd _ => h1 w' hd, h2⟩
theorem VR.loadPrimR {t : TypeId} {x : Operand} {i : TyI} {ts : List T} {t0 : T} (ho : o.op = .load t x) (ht : E.tabs t = some i) (hf : i.td = .prim ∨ ∃ e, i.td = .slice e)
    (hx : ev st x = .rp ts) (hl : ts[0]? = some t0) : VR fc E o st (.r t0) := fun B F a w hr => by
  obtain ⟨b, off, h1, h2, h3⟩ := ev_rp hr hx
  cases ts with
  | nil => simp at hl
  | cons t1 ts =>
    simp at hl
    subst hl
    simp only [RL] at h3
    obtain ⟨⟨c, h4, h5⟩, _⟩ := h3
    refine ⟨c, fun w' _ hs => ?_, by simp [DR, h5]⟩
    have h4' : w'.cell? ⟨b, off, none⟩ = some c := by rw [World.cell?_of_block (w := w) (hs b h2)]; exact h4
    simp [execOp, ho, h1, Instr.loadAt, Instr.sureAddr, loadVar, Sem.run_bind, tyI_notAgg (E.ok _ _ ht) hf, h4']
theorem VR.loadAggR {t : TypeId} {x : Operand} {i : TyI} {fs : List (Nat × Nat × Nat)} {ts : List T} (ho : o.op = .load t x) (ht : E.tabs t = some i) (hf : i.td = .agg fs)
    (hx : ev st x = .rp ts) (hl : i.sz ≤ ts.length) : VR fc E o st (.agg ((ts.take i.sz).map .r)) := fun B F a w hr => by
  obtain ⟨b, off, h1, h2, h3⟩ := ev_rp hr hx
  obtain ⟨cs, h4, h5⟩ := RL_range h3
  have hlen := DLs_length h5
  rw [List.length_map] at hlen
  have hd := DLs_take i.sz h5
  rw [← List.map_take] at hd
  have hT := E.ok _ _ ht
  obtain ⟨j, d, z, t1, t2, t3, t4, t5, t6, t7⟩ := tyI_spec hT
  have hrow : d.isRow = true := by
    rw [hf] at t7
    cases d <;> simp [tdOf] at t7 <;> rfl
  have hsz : (E.P.info? t).map (·.size) = some (cs.take i.sz).length := by
    rw [tyI_size hT]
    simp only [List.length_take]
    congr 1
    omega
  refine ⟨.agg (cs.take i.sz).toArray, fun w' _ hs => ?_, ?_⟩
  · have h4' : w'.rangeAt b off cs := fun j v hj => by
      rw [World.cell?_of_block (w := w) (hs b h2)]
      exact h4 j v hj
    simp [execOp, ho, h1, Sem.run_bind, run_loadAt_mid w' b off t _ d (rangeAt_take h4' i.sz) t2 hrow hsz]
  · simp only [DR]
    exact ⟨_, rfl, hd⟩
theorem wpAnyH_weak {P : Program} {ops : Array Oper} {Q : Exit → Act → World → Prop} {md : Region.Mode} {S S' : World → Prop} (h : ∀ w, S w → S' w) : ∀ (fuel : Nat) (ls : Array Bool) (a : Act) (w : World), wpAnyH P md ops Q S fuel ls a w → wpAnyH P md ops Q S' fuel ls a w
  | 0, _, _, _, hh => hh
  | fuel + 1, _, _, _, hh => ⟨hh.1, fun i hi => wpOp_mono (fun a' w' h' => ⟨h w' h'.1, wpAnyH_weak h fuel _ a' w' h'.2⟩) (hh.2 i hi)⟩
theorem RA.firstR {i : Nat} {ls' : Array Bool} (ht : Tell fc st) (hc : (Region.noSelect all.toArray && Region.free .any all.toArray ls i && (Region.ready .any all.toArray ls).contains i) = true) (hl : ls.setIfInBounds i true = ls')
    (ho : all[i]? = some o) (hg : o.guard = none) (hv : VR fc E o st d) (h : ∀ B, RA fc E B all n ls' (setD st o.dst d) K) : RA fc E B all (n + 1) ls st K := by
  subst hl
  simp only [Bool.and_eq_true] at hc
  intro F a w hr
  refine ⟨ht.hx hr, fun Q hQ hp => ?_⟩
  obtain ⟨B', hr', hw, hF, hfx, hback⟩ := hr.rebase
  obtain ⟨x, h1, h2⟩ := hv B' F a w hr'
  have ho' : all.toArray[i]? = some o := by simpa using ho
  refine wpAnyH_weak (S := HX fc B') (fun w' h => ⟨h.1, hfx w' h.2⟩) _ _ _ _ ?_
  refine wpAnyH_take ho' hc.1.1 hc.1.2 hc.2 (fun c a w hq => absurd hq (hp _ _ _)) (.inl ⟨by simp [Region.wanted, hg], fun w' hh => h1 w' hh.1 fun b hb => ?_⟩) (ht.hx hr')
    ((h B' F _ w (hr'.putD o.dst h2)).2 Q (fun F' st' a' w' hk hrr => hQ F' st' a' w' hk (hback _ _ _ _ hrr)) hp)
  have := hh.2 b (by rw [hw]; exact (hF b hb).1) (hF b hb).2
  rw [this, hw]
def ldR (fc : Facts) (E : Env) (st : St) (t : TypeId) (x : Operand) (f : D → List (Nat × Nat) → Prop) : Prop :=
  match ev st x with
  | .rp ts => match E.tabs t with
    | some i => match i.td with
      | .agg fs => bif Nat.ble i.sz ts.length then f (.agg ((ts.take i.sz).map .r)) [] else False
      | .prim => match ts[0]? with
        | some t0 => f (.r t0) []
        | none => False
      | .slice _ => match ts[0]? with
        | some t0 => f (.r t0) []
        | none => False
      | .other => False
    | none => False
  | _ => ldF fc E st t x f
theorem ldR_ok {t : TypeId} {x : Operand} (ht : Tell fc st) (ho : o.op = .load t x) {f : D → List (Nat × Nat) → Prop} {P : D → Prop} (hf : ∀ d q, f d q → Eqs q ∧ P d) (h : ldR fc E st t x f) : ∃ d, VR fc E o st d ∧ P d := by
  unfold ldR at h
  split at h
  · rename_i ts hx
    split at h
    · rename_i i hty
      split at h
      · rename_i fs hfs
        cases hl : Nat.ble i.sz ts.length with
        | false => rw [hl] at h; cases h
        | true =>
          rw [hl] at h
          exact ⟨_, VR.loadAggR ho hty hfs hx (Nat.le_of_ble_eq_true hl), (hf _ _ h).2⟩
      · rename_i hpr
        split at h
        · rename_i t0 h0; exact ⟨_, VR.loadPrimR ho hty (.inl hpr) hx h0, (hf _ _ h).2⟩
        · cases h
      · rename_i e0 hpr
        split at h
        · rename_i t0 h0; exact ⟨_, VR.loadPrimR ho hty (.inr ⟨_, hpr⟩) hx h0, (hf _ _ h).2⟩
        · cases h
      · cases h
    · cases h
  · unfold ldF at h
    split at h
    · rename_i i hty
      split at h
      · rename_i k b off hx
        cases hin : fcIn fc k with
        | false => rw [hin] at h; cases h
        | true =>
          rw [hin] at h
          simp only [cond_true] at h
          obtain ⟨p, hp, rfl⟩ := fcIn_of hin
          obtain ⟨m, hm⟩ := List.getElem?_of_mem hp
          obtain ⟨ds0, g1, g2⟩ := ht p hp
          split at h
          · rename_i b' ds hk
            have e0 : D.obj p.2.1 ds0 = D.obj b' ds := g1.symm.trans hk
            simp only [D.obj.injEq] at e0
            obtain ⟨e1, rfl⟩ := e0
            have hm' : fc[m]? = some (p.1, b', p.2.2) := by rw [hm, ← e1]
            split at h
            · rename_i fs hfs
              cases hl : Nat.ble (off + i.sz) ds0.length with
              | false => rw [hl] at h; cases h
              | true =>
                rw [hl] at h
                obtain ⟨e, hP⟩ := hf _ _ h
                obtain rfl := e.one
                exact ⟨_, VR.f fun B => VF.loadAgg hm' ho hty hfs hx hk g2 (Nat.le_of_ble_eq_true hl), hP⟩
            · rename_i hpr
              split at h
              · rename_i d hd
                obtain ⟨e, hP⟩ := hf _ _ h
                obtain rfl := e.one
                exact ⟨_, VR.f fun B => VF.loadPrim hm' ho hty (.inl hpr) hx hk g2 hd, hP⟩
              · cases h
            · rename_i e0 hpr
              split at h
              · rename_i d hd
                obtain ⟨e, hP⟩ := hf _ _ h
                obtain rfl := e.one
                exact ⟨_, VR.f fun B => VF.loadPrim hm' ho hty (.inr ⟨_, hpr⟩) hx hk g2 hd, hP⟩
              · cases h
            · cases h
          · cases h
      · cases h
    · cases h
def valR (fc : Facts) (E : Env) (X : Kd E.P) (st : St) (op : Op) (f : D → List (Nat × Nat) → Prop) : Prop :=
  match op with
  | .load t x => ldR fc E st t x f
  | op => match vevP E X st op with
    | some d => f d []
    | none => False
theorem valR_ok (ht : Tell fc st) {f : D → List (Nat × Nat) → Prop} {P : D → Prop} (hf : ∀ d q, f d q → Eqs q ∧ P d) (h : valR fc E X st o.op f) : ∃ d, VR fc E o st d ∧ P d := by
  generalize ho : o.op = op at h
  unfold valR at h
  split at h
  · exact ldR_ok ht ho hf h
  · split at h
    · rename_i d hd; exact ⟨_, VR.f fun B => VF.p (vevP_ok (X := X) (by rw [ho]; exact hd)), (hf _ _ h).2⟩
    · cases h
end
def runR (fc : Facts) (E : Env) (X : Kd E.P) (all : List Oper) (n : Nat) (R : List (Nat × D) → List (Nat × Nat) → Prop) : List Nat → List (Nat × D) → List (Nat × Nat) → Prop
  | [], l, q => R l q
  | i :: is, l, q => match all[i]? with
    | some o => match o.guard with
      | none => valR fc E X ⟨n, l⟩ o.op fun d q' => match o.dst with
        | some k => bif fcIn fc k then False else nfD d fun d' => runR fc E X all n R is ((k, d') :: l) (q' ++ q)
        | none => runR fc E X all n R is l (q' ++ q)
      | some _ => False
    | none => False
theorem runR_ok {fc : Facts} {E : Env} {X : Kd E.P} {all : List Oper} {n m : Nat} {ls' : Array Bool} {K : St → Prop} {R : List (Nat × D) → List (Nat × Nat) → Prop} (hR : ∀ l q, R l q → Eqs q ∧ ∀ B, RA fc E B all m ls' ⟨n, l⟩ K) : ∀ (is : List Nat) (l : List (Nat × D)) (q : List (Nat × Nat)) (ls : Array Bool), Tell fc ⟨n, l⟩ → chkF all is ls ls' = true → runR fc E X all n R is l q →
    Eqs q ∧ ∀ B, RA fc E B all (m + is.length) ls ⟨n, l⟩ K
  | [], l, q, ls, ht, hc, h => by
    simp only [chkF, beq_iff_eq] at hc
    subst hc
    exact hR _ _ h
  | i :: is, l, q, ls, ht, hc, h => by
    unfold runR at h
    simp only [chkF, Bool.and_eq_true] at hc
    split at h
    · rename_i o ho
      split at h
      · rename_i hg
        have key : ∃ d, VR fc E o ⟨n, l⟩ d ∧ (Eqs q ∧ ∀ B, RA fc E B all (m + is.length) (ls.setIfInBounds i true) (setD ⟨n, l⟩ o.dst d) K) := by
          refine valR_ok ht (fun d q' h' => ?_) h
          split at h'
          · rename_i k hk
            cases hin : fcIn fc k with
            | true => rw [hin] at h'; cases h'
            | false =>
              rw [hin] at h'
              simp only [cond_false, nfD_eq] at h'
              obtain ⟨h1, h2⟩ := runR_ok hR is ((k, d) :: l) (q' ++ q) _ (ht.set hin) hc.2 h'
              simp only [Eqs, List.map_append] at h1
              have hl : (q'.map (·.1)).length = (q'.map (·.2)).length := by simp
              obtain ⟨e1, e2⟩ := List.append_inj h1 hl
              exact ⟨e1, e2, by rw [hk]; exact h2⟩
          · rename_i hk
            obtain ⟨h1, h2⟩ := runR_ok hR is l (q' ++ q) _ ht hc.2 h'
            simp only [Eqs, List.map_append] at h1
            have hl : (q'.map (·.1)).length = (q'.map (·.2)).length := by simp
            obtain ⟨e1, e2⟩ := List.append_inj h1 hl
            exact ⟨e1, e2, by rw [hk]; exact h2⟩
        obtain ⟨d, hv, h1, h2⟩ := key
        refine ⟨h1, fun B => ?_⟩
        have := RA.firstR (B := B) (i := i) (ls' := ls.setIfInBounds i true) (n := m + is.length) ht (by simp only [Bool.and_eq_true]; exact hc.1) rfl ho hg hv h2
        exact this
      · cases h
    · cases h
theorem RA.fr {fc : Facts} {E : Env} {B : Base E.P} {all : List Oper} {ls : Array Bool} {st : St} {K : St → Prop} {m0 : Nat} (X : Kd E.P) (n m : Nat) (is : List Nat) (ls' : Array Bool) (hn : st.n = n) (hm : m0 = m + is.length) (hc : chkF all is ls ls' = true) (ht : Tell fc st)
    (h : spK st.l fun l => runR fc E X all n (fun l q => Ob q (∀ B, RA fc E B all m ls' ⟨n, l⟩ K)) is l []) : RA fc E B all m0 ls st K := by
  subst hn hm
  rw [spK_eq] at h
  exact (runR_ok (fun _ _ h => ⟨h.e, h.h⟩) is st.l [] ls ht hc h).2 B
end Go.Eng

namespace Go.Eng
open Go Go.RowKit
section
variable {E : Env} {F : Nat → Prop} {B : Base E.P} {w : World} {o : Oper} {st : St} {K : St → Prop} {a : Act} {all rest : List Oper}
end
end Go.Eng
