/- An array inside an own array is taken out, and given back; a call that takes a struct over. -/
import Derived.Test.YtbiocicogminlaaEng38
namespace Go.Eng
open Go Go.RowKit

section
variable {w : World}
theorem OL_out : ∀ {ts : List T} {cs : List Value} {bs : List Nat} {j : Nat} {t : T}, OL w ts cs bs → ts[j]? = some t →
    ∃ x q r, cs[j]? = some x ∧ OT w t x q ∧ OL w (ts.set j (.v x)) cs r ∧ (bs.Nodup → (q ++ r).Nodup) ∧ ∀ b ∈ q ++ r, b ∈ bs
  | [], _, _, _, _, _, h => by simp at h
  | t :: ts, cs, bs, 0, u, h, hj => by
    simp at hj
    subst hj
    simp only [OL] at h
    obtain ⟨c, cs', b1, b2, rfl, rfl, h3, h4⟩ := h
    refine ⟨c, b1, b2, by simp, h3, ?_, fun h => h, fun b hb => hb⟩
    simp only [List.set_cons_zero, OL]
    exact ⟨c, cs', [], b2, rfl, rfl, by simp [OT], h4⟩
  | t :: ts, cs, bs, j + 1, u, h, hj => by
    simp only [OL] at h
    obtain ⟨c, cs', b1, b2, rfl, rfl, h3, h4⟩ := h
    obtain ⟨x, q, r, g1, g2, g3, g4, g5⟩ := OL_out h4 (by simpa using hj)
    refine ⟨x, q, b1 ++ r, by simpa using g1, g2, ?_, fun hn => ?_, fun b hb => ?_⟩
    · simp only [List.set_cons_succ, OL]
      exact ⟨c, cs', b1, r, rfl, rfl, h3, g3⟩
    · rw [List.nodup_append] at hn
      have f := g4 hn.2.1
      rw [List.nodup_append] at f ⊢
      refine ⟨f.1, ?_, ?_⟩
      · rw [List.nodup_append]
        exact ⟨hn.1, f.2.1, fun a ha b hb e => hn.2.2 a ha b (g5 b (by simp [hb])) e⟩
      · intro a ha b hb e
        rcases List.mem_append.1 hb with hb | hb
        · exact hn.2.2 b hb a (g5 a (by simp [ha])) e.symm
        · exact f.2.2 a ha b hb e
    · have hb' : b ∈ q ∨ b ∈ b1 ∨ b ∈ r := by simpa using hb
      rcases hb' with h | h | h
      · have := g5 b (by simp [h]); simp [this]
      · simp [h]
      · have := g5 b (by simp [h]); simp [this]
theorem OL_in : ∀ {ts : List T} {cs : List Value} {r q : List Nat} {j : Nat} {t : T} {x : Value}, OL w ts cs r → ts[j]? = some (.v x) → OT w t x q →
    ∃ bs, OL w (ts.set j t) cs bs ∧ (∀ b ∈ bs, b ∈ q ∨ b ∈ r) ∧ ((q ++ r).Nodup → bs.Nodup)
  | [], _, _, _, _, _, _, _, h, _ => by simp at h
  | t :: ts, cs, bs, q, 0, u, x, h, hj, ho => by
    simp at hj
    subst hj
    simp only [OL] at h
    obtain ⟨c, cs', b1, b2, rfl, rfl, h3, h4⟩ := h
    simp only [OT] at h3
    obtain ⟨rfl, rfl⟩ := h3
    refine ⟨q ++ b2, ?_, fun b hb => by simpa using hb, fun h => by simpa using h⟩
    simp only [List.set_cons_zero, OL]
    exact ⟨c, cs', q, b2, rfl, rfl, ho, h4⟩
  | t :: ts, cs, bs, q, j + 1, u, x, h, hj, ho => by
    simp only [OL] at h
    obtain ⟨c, cs', b1, b2, rfl, rfl, h3, h4⟩ := h
    obtain ⟨r, g1, g2, g3⟩ := OL_in h4 (by simpa using hj) ho
    refine ⟨b1 ++ r, ?_, fun b hb => ?_, fun hn => ?_⟩
    · simp only [List.set_cons_succ, OL]
      exact ⟨c, cs', b1, r, rfl, rfl, h3, g1⟩
    · rcases List.mem_append.1 hb with h | h
      · exact .inr (by simp [h])
      · rcases g2 b h with h' | h'
        · exact .inl h'
        · exact .inr (by simp [h'])
    · rw [List.nodup_append, List.nodup_append] at hn
      obtain ⟨n1, ⟨n2, n3, n4⟩, n5⟩ := hn
      rw [List.nodup_append]
      refine ⟨n2, g3 (by rw [List.nodup_append]; exact ⟨n1, n3, fun a ha b hb e => n5 a ha b (by simp [hb]) e⟩), fun a ha b hb e => ?_⟩
      rcases g2 b hb with h' | h'
      · exact n5 b h' a (by simp [ha]) e.symm
      · exact n4 a ha b h' e
end
section
variable {E : Env} {F : Nat → Prop} {B : Base} {w : World} {o : Oper} {st : St} {K : St → Prop} {a : Act} {all rest : List Oper}
theorem OK.loadTake {t e : TypeId} {x : Operand} {i : TyI} {k d sz n pos sz' n' : Nat} {ts ts' : List T} {V : Value} (ho : o.op = .load t x) (hd : o.dst = some d) (hkd : k ≠ d) (hdl : d < st.length) (ht : E.tabs t = some i) (he : i.td = .slice e)
    (hx : ev st x = .ep k none sz V pos) (hk : Eng.gt st k = .w (.a sz n ts) V) (hp : ts[pos]? = some (.a sz' n' ts')) (h : ∀ X, K ((st.set k (.w (.a sz n (ts.set pos (.v X))) V)).set d (.w (.a sz' n' ts') X))) : OK E B o st K := by
  intro F a w hr next Q hn
  obtain ⟨bk, bl, p1, p2, p3, ⟨xk, q1, q2⟩, p5, p6⟩ := hr.two k d hkd (getD_eq hk (by simp))
  have hev := hr.ev x
  rw [hx] at hev
  rw [hk] at q2
  simp only [DR] at q2 hev
  obtain ⟨rfl, q2⟩ := q2
  simp only [OT] at q2
  rcases q2 with ⟨_, _, rfl, _⟩ | ⟨b, of, cap, cur, ty, bs', rfl, g2, g3, g4, g5, g6, rfl, g8⟩
  · simp at hp
  · obtain ⟨⟨b', o', n'', c', hV, hxe⟩, _⟩ := hev
    cases hV
    obtain ⟨X, q, r, f1, f2, f3, f4, f5⟩ := OL_out g8 hp
    have hcell : w.cell? ⟨b, of + pos, none⟩ = some X := by
      simp only [World.cell?, g4, Option.isSome_none, Bool.false_eq_true, if_false]
      rw [List.getElem?_drop] at f1
      simpa using f1
    unfold Oper.wp
    have hrun : (execOp a.eval o).run E.P w = .ok (.value X) w := by
      simp [execOp, ho, hxe, Instr.loadAt, Instr.sureAddr, loadVar, Sem.run_bind, tyI_notAgg (E.ok _ _ ht) (.inr ⟨_, he⟩), hcell]
    rw [hrun, Oper.upon_value, hd]
    have hnd := (List.nodup_append.1 p3).1
    rw [List.nodup_cons] at hnd
    have f4' := f4 hnd.2
    have hdt : d < a.tmps.size := by rw [hr.len]; exact hdl
    refine hn F _ _ _ (h X) (p6 w _ _ (a.put (some d) X) (b :: r) q (Stp.refl _ _) rfl (by simp [Act.put]) (fun i hi hj => get_put_ne a X hj)
      ⟨.slice (some ⟨b, of, none⟩) n cap, by rw [get_put_ne a X hkd]; exact q1, ?_⟩ (fun _ => ⟨X, get_put_eq a X hdt, by simp only [DR]; exact ⟨trivial, f2⟩⟩) ?_ ?_)
    · simp only [DR, OT]
      exact ⟨trivial, .inr ⟨b, of, cap, cur, ty, r, rfl, g2, g3, g4, g5, by rw [List.length_set]; exact g6, rfl, f3⟩⟩
    · rw [List.nodup_append] at f4' ⊢
      rw [List.nodup_cons]
      refine ⟨⟨fun hm => hnd.1 (f5 b (by simp [hm])), f4'.2.1⟩, f4'.1, fun x hx y hy e => ?_⟩
      subst e
      rcases List.mem_cons.1 hx with rfl | hx
      · exact hnd.1 (f5 x (by simp [hy]))
      · exact f4'.2.2 x hy x hx rfl
    · intro x hx
      have hm : x ∈ b :: bs' := by
        have : x = b ∨ x ∈ r ∨ x ∈ q := by simpa using hx
        rcases this with rfl | h | h
        · simp
        · exact List.mem_cons_of_mem _ (f5 x (by simp [h]))
        · exact List.mem_cons_of_mem _ (f5 x (by simp [h]))
      exact ⟨.inl hm, (p1 x hm).2⟩
theorem RW.loadTake {t e : TypeId} {x : Operand} {i : TyI} {k d sz n pos sz' n' : Nat} {ts ts' : List T} {V : Value} (hg : o.guard = none) (ho : o.op = .load t x) (hd : o.dst = some d) (hkd : k ≠ d) (hdl : d < st.length) (ht : E.tabs t = some i) (he : i.td = .slice e)
    (hx : ev st x = .ep k none sz V pos) (hk : Eng.gt st k = .w (.a sz n ts) V) (hp : ts[pos]? = some (.a sz' n' ts')) (h : ∀ X, RW E B all rest ((st.set k (.w (.a sz n (ts.set pos (.v X))) V)).set d (.w (.a sz' n' ts') X)) K) : RW E B all (o :: rest) st K :=
  RW.cons hg (OK.loadTake ho hd hkd hdl ht he hx hk hp h)
theorem Rel.give (hr : Rel F B st a w) {k d sz n pos sz' n' : Nat} {ts us : List T} {V X : Value} (hkd : k ≠ d) (hk : Eng.gt st k = .w (.a sz n ts) V) (hd : Eng.gt st d = .w (.a sz' n' us) X) (hp : ts[pos]? = some (.v X)) :
    Rel F B ((st.set k (.w (.a sz n (ts.set pos (.a sz' n' us))) V)).set d .u) a w := by
  obtain ⟨bk, bl, p1, p2, p3, ⟨xk, q1, q2⟩, p5, p6⟩ := hr.two k d hkd (getD_eq hk (by simp))
  obtain ⟨xl, r1, r2⟩ := p5 _ (gt_some hd (by simp))
  rw [hk] at q2
  simp only [DR] at q2 r2
  obtain ⟨rfl, q2⟩ := q2
  obtain ⟨rfl, r2⟩ := r2
  simp only [OT] at q2
  rcases q2 with ⟨_, _, rfl, _⟩ | ⟨b, of, cap, cur, ty, bs', rfl, g2, g3, g4, g5, g6, rfl, g8⟩
  · simp at hp
  · obtain ⟨bs2, f1, f2, f3⟩ := OL_in g8 hp r2
    rw [List.nodup_append] at p3
    have hnd := p3.1
    rw [List.nodup_cons] at hnd
    refine p6 w _ _ a (b :: bs2) [] (Stp.refl _ _) rfl rfl (fun _ _ _ => rfl) ⟨_, q1, ?_⟩ (fun _ => ⟨xl, r1, by simp [DR]⟩) ?_ ?_
    · simp only [DR, OT]
      exact ⟨trivial, .inr ⟨b, of, cap, cur, ty, bs2, rfl, g2, g3, g4, g5, by rw [List.length_set]; exact g6, rfl, f1⟩⟩
    · rw [List.append_nil, List.nodup_cons]
      refine ⟨fun hm => ?_, f3 (by rw [List.nodup_append]; exact ⟨p3.2.1, hnd.2, fun x hx y hy e => p3.2.2 y (by simp [hy]) x hx e.symm⟩)⟩
      rcases f2 b hm with h | h
      · exact p3.2.2 b (by simp) b h rfl
      · exact hnd.1 h
    · intro x hx
      rw [List.append_nil] at hx
      rcases List.mem_cons.1 hx with rfl | hx
      · exact ⟨.inl (by simp), (p1 x (by simp)).2⟩
      · rcases f2 x hx with h | h
        · exact ⟨.inr (.inl h), (p2 x h).2⟩
        · exact ⟨.inl (by simp [h]), (p1 x (by simp [h])).2⟩
theorem RW.giveE {α : Type} {c : α → List T} {L : List α} {m off sz : Nat} {v v' : α} (k d : Nat) {sz' n' : Nat} {us : List T} {V X : Value} (hkd : k ≠ d) (hk : Eng.gt st k = .w (.a sz L.length ((L.flatMap c).set (m * sz + off) (.v X))) V) (hd : Eng.gt st d = .w (.a sz' n' us) X)
    (hv : L[m]? = some v) (hc : ∀ x, (c x).length = sz) (hoff : off < sz) (hu : (c v).set off (.a sz' n' us) = c v') (h : RW E B all rest ((st.set k (.w (sl sz c (L.set m v')) V)).set d .u) K) : RW E B all rest st K := fun F a w hr => by
  have hm : m < L.length := (List.getElem?_eq_some_iff.1 hv).1
  have hlt : m * sz + off < (L.flatMap c).length := by
    rw [flatMap_len hc]
    have : (m + 1) * sz ≤ L.length * sz := Nat.mul_le_mul_right _ hm
    rw [Nat.succ_mul] at this
    omega
  have h1 := hr.give hkd hk hd (pos := m * sz + off) (by rw [List.getElem?_set_self hlt])
  rw [List.set_set, flatMap_setOne hc L m off v v' _ hv hoff hu] at h1
  have e : T.a sz L.length ((L.set m v').flatMap c) = sl sz c (L.set m v') := by simp [sl]
  rw [e] at h1
  exact h F a w h1
inductive Tk (q : Nat) : D → D → List C → Prop where
  | agg {es : List D} {cs : List C} (h : ∃ ds', Hand es cs cs ds') : Tk q (.agg es) (.agg (cpyL q 0 es)) cs
  | obj {b : Nat} {es : List D} {cs : List C} (h : ∃ ds', Hand es cs cs ds') : Tk q (.obj b es) (.agg (cpyL q 0 es)) cs
theorem Tk.give {q : Nat} {d e : D} {cs : List C} (h : Tk q d e cs) {x y : Value} {bq : List Nat} (hd : DR F w d x bq) (he : DR F w e y []) : ∃ b1, (∀ b ∈ b1, b ∈ bq) ∧ (bq.Nodup → b1.Nodup) ∧ ∀ G : Nat → Prop, (∀ b, F b → G b) → AR G w (.agg cs) y b1 := by
  cases h with
  | agg h =>
    obtain ⟨_, h⟩ := h
    simp only [DR] at hd he
    obtain ⟨xs, rfl, h1⟩ := hd
    obtain ⟨ys, rfl, h2⟩ := he
    refine ⟨bq, fun b hb => hb, fun h => h, fun G hG => ?_⟩
    simp only [AR]
    exact ⟨ys, rfl, (h.give q 0 xs ys bq h1 h2).1 G hG⟩
  | obj h =>
    obtain ⟨_, h⟩ := h
    simp only [DR] at hd he
    obtain ⟨xs, ty, bs', rfl, h0, rfl, h1⟩ := hd
    obtain ⟨ys, rfl, h2⟩ := he
    refine ⟨bs', fun b hb => by simp [hb], fun h => (List.nodup_cons.1 h).2, fun G hG => ?_⟩
    simp only [AR]
    exact ⟨ys, rfl, (h.give q 0 xs ys bs' h1 h2).1 G hG⟩
theorem Rel.gatherH (hr : Rel F B st a w) (S : List Nat) (m : Nat) (hm : m ∈ S) :
    ∃ own : Nat → Nat, (∀ i d, i ∈ S → st.get? i = some d → ∃ x bs, a.tmps[i]? = some x ∧ DR F w d x bs ∧ bs.Nodup ∧ ∀ b ∈ bs, own b = i ∧ Had F B w own S b) ∧
      ∀ (w' : World) (a' : Act) (st' : St) (d : D) (x : Value) (cs W : List Nat) (H : Nat → Prop), Stp w w' W → (∀ b ∈ W, Had F B w own S b) → a'.defers = a.defers → a'.tmps.size = a.tmps.size → st'.length = st.length →
        (∀ i, i ∉ S → st'.get? i = st.get? i ∧ a'.tmps[i]? = a.tmps[i]?) → (∀ i e, i ∈ S → i ≠ m → st'.get? i = some e → e = .u) →
        (∀ e, st'.get? m = some e → e = d ∧ a'.tmps[m]? = some x) → DR H w' d x cs → cs.Nodup → (∀ b ∈ cs, (Had F B w own S b ∨ w.heap.size ≤ b) ∧ b < w'.heap.size ∧ ¬ H b) →
        (∀ b, F b → H b) → (∀ b, H b → b < w'.heap.size) → (∀ b, H b → F b ∨ Had F B w own S b ∨ w.heap.size ≤ b) → Rel H B st' a' w' := by
  obtain ⟨own, hs⟩ := hr.slots
  refine ⟨own, fun i d hi hd => ?_, ?_⟩
  · obtain ⟨x, bs, h1, h2, h3, h4⟩ := hs i d hd
    exact ⟨x, bs, h1, h2, h3, fun b hb => ⟨(h4 b hb).1, by rw [(h4 b hb).1]; exact hi, (h4 b hb).2⟩⟩
  · intro w' a' st' d x cs W H hst hW hdef hsz hn hoth hS hmd hd hnd hin hsub hlt hH
    have hF : ∀ b, F b → w'.heap[b]? = w.heap[b]? := fun b hb => hst.block b (hr.Flt b hb) (fun hw => (hW b hw).2.1.1 hb)
    have hB : ∀ b, Had F B w own S b ∨ w.heap.size ≤ b → b ∈ B.bs ∨ B.w.heap.size ≤ b := fun b hb => by
      rcases hb with hb | hb
      · exact hb.2.1.2
      · exact .inr (Nat.le_trans hr.fr.size hb)
    refine ⟨hdef.trans hr.defers, by rw [hsz, hr.len, hn], hr.fr.stp hst (fun b hb => (hW b hb).2.1.2), hlt, fun b hb => ?_, fun b => if b ∈ cs then m else own b, fun i e hi => ?_⟩
    · rcases hH b hb with h | h
      · exact hr.Fin b h
      · exact .inr (hB b h)
    by_cases him : i = m
    · subst him
      obtain ⟨rfl, h1⟩ := hmd e hi
      exact ⟨x, cs, h1, hd, hnd, fun b hb => ⟨by simp [hb], ⟨(hin b hb).2.2, hB b (hin b hb).1⟩, (hin b hb).2.1⟩⟩
    · by_cases hiS : i ∈ S
      · have := hS i e hiS him hi
        subst this
        have hlt : i < a'.tmps.size := by rw [hsz, hr.len, ← hn]; exact St.get_lt hi
        exact ⟨a'.tmps[i], [], Array.getElem?_eq_getElem hlt, by simp [DR], by simp, by simp⟩
      · obtain ⟨h1, h2⟩ := hoth i hiS
        rw [h1] at hi
        obtain ⟨y, bs, f1, f2, f3, f4⟩ := hs i e hi
        have hnot : ∀ b ∈ bs, ¬ (Had F B w own S b ∨ w.heap.size ≤ b) := fun b hb h => by
          rcases h with h | h
          · exact hiS ((f4 b hb).1 ▸ h.1)
          · have := (f4 b hb).2.2; omega
        refine ⟨y, bs, by rw [h2]; exact f1, DR_mono hsub _ _ _ (DR_world hF e y bs (fun b hb => hst.block b (f4 b hb).2.2 (fun hw => hnot b hb (.inl (hW b hw)))) f2), f3, fun b hb => ⟨?_, ⟨fun hh => ?_, (f4 b hb).2.1.2⟩, Nat.lt_of_lt_of_le (f4 b hb).2.2 hst.size⟩⟩
        · have : b ∉ cs := fun hc => hnot b hb (hin b hc).1
          simp [this, (f4 b hb).1]
        · rcases hH b hh with h | h
          · exact (f4 b hb).2.1.1 h
          · exact hnot b hb h
theorem OK.callT {f : FuncId} {x y : Operand} {tys : Array TypeId} {cs0 os0 cs1 : List C} {k q b : Nat} {ds : List D} {d1 : D} {res : R} (hf : Fn E.P f [.ob cs0, .agg cs1] res [.ob os0, .gone]) (ho : o.op = .call { callee := .value (.func f), args := #[x, y], argTypes := tys }) (hd : o.dst ≠ some k)
    (hkq : k ≠ q) (hx : ev st x = .pt k b 0) (hk : Eng.gt st k = .obj b ds) (hc : DT ds cs0) (hq : Eng.gt st q = d1) (hql : q < st.length) (hy : Tk q d1 (ev st y) cs1) (h : ∀ g, K (setD ((st.set q .u).set k (.obj b (cD g 0 os0))) o.dst .u)) : OK E B o st K := by
  intro F a w hr next Q hn
  obtain ⟨own, hs, hcl⟩ := hr.gatherH (k :: q :: o.dst.toList) k (by simp)
  have hkl : k < st.length := getD_eq hk (by simp)
  obtain ⟨xk, bk, k1, k2, k3, k4⟩ := hs k _ (by simp) (St.get_of hkl)
  obtain ⟨xq, bq, q1, q2, q3, q4⟩ := hs q _ (by simp) (St.get_of hql)
  rw [hk] at k2
  rw [hq] at q2
  have hex := hr.ev x
  rw [hx] at hex
  simp only [DR] at k2 hex
  obtain ⟨ys, ty, bs', rfl, k5, rfl, k6⟩ := k2
  obtain ⟨b1, t1, t2, t3⟩ := hy.give q2 (hr.ev y)
  unfold Oper.wp
  rw [run_call (xs := [x, y]) hf.1 (by simpa using ho), Oper.upon_enter]
  have hHad : ∀ z ∈ (b :: bs') ++ b1, Had F B w own (k :: q :: o.dst.toList) z := fun z hz => by
    rcases List.mem_append.1 hz with hz | hz
    · exact (k4 z hz).2
    · exact (q4 z (t1 z hz)).2
  have hnd : ((b :: bs') ++ b1).Nodup := by
    rw [List.nodup_append]
    refine ⟨k3, t2 q3, fun p hp r hr' e => ?_⟩
    subst e
    exact hkq ((k4 p hp).1.symm.trans (q4 p (t1 p hr')).1)
  refine Calls.mono (hf.2 w _ ((b :: bs') ++ b1) F (fun z hz => ⟨hr.Flt z hz, fun hm => (hHad z hm).2.1.1 hz⟩) ?_ hnd (fun z hz => (hHad z hz).2.2)) ?_
  · simp only [List.map_cons, List.map_nil, ARs]
    refine ⟨_, _, b :: bs', b1, rfl, rfl, ?_, ⟨_, _, b1, [], rfl, by simp, t3 F (fun _ h => h), rfl, rfl⟩⟩
    simp only [AR]
    exact ⟨b, ys, ty, bs', hex.1, k5, rfl, DT_CRs ds cs0 ys bs' hc k6⟩
  · rintro e w' ⟨xr, c1, c2, rfl, hst, h4, h5, h6, h7⟩
    simp only [List.map_cons, List.map_nil, ARs] at h5
    obtain ⟨z1, zs, e1, e2, hz, rfl, g1, g2⟩ := h5
    cases hz
    obtain ⟨z2, zs2, e3, e4, hz2, rfl, g3, g4, rfl⟩ := g2
    simp only [AR] at g1 g3
    subst g3
    obtain ⟨b'', xs', ty', bs2, hp, h8, rfl, h9⟩ := g1
    rw [hex.1] at hp
    cases hp
    obtain ⟨g, hg⟩ := CRs_D os0 0 xs' bs2 h9
    have hkt : k < a.tmps.size := by rw [hr.len]; exact hkl
    refine hn _ _ _ _ (h g) (hcl w' (a.put o.dst xr) _ (.obj b (cD g 0 os0)) (.pointer (some ⟨b, 0, none⟩)) (b :: bs2) ((b :: bs') ++ b1) (aft F w w' ((b :: bs') ++ b1) (c1 ++ ((b :: bs2) ++ ([] ++ [])))) hst hHad (by cases o.dst <;> rfl) (by cases o.dst <;> simp [Act.put]) (by cases o.dst <;> rfl) ?_ ?_ ?_ ?_ ?_ ?_ ?_ ?_ ?_)
    · intro i hi
      simp only [List.mem_cons, not_or] at hi
      cases hdd : o.dst with
      | none =>
        rw [setD_none]
        exact ⟨by rw [St.get_set_ne (Ne.symm hi.1), St.get_set_ne (Ne.symm hi.2.1)], rfl⟩
      | some d =>
        rw [hdd] at hi
        have hid : i ≠ d := by simpa using hi.2.2
        rw [setD_some]
        exact ⟨by rw [St.get_set_ne (Ne.symm hid), St.get_set_ne (Ne.symm hi.1), St.get_set_ne (Ne.symm hi.2.1)], get_put_ne a xr hid⟩
    · intro i e0 hi hik hget
      cases hdd : o.dst with
      | none =>
        rw [hdd] at hi hget
        rw [setD_none] at hget
        have : i = q := by simpa [hik] using hi
        subst this
        rw [St.get_set_ne (Ne.symm hik), St.get_set_self hql] at hget
        cases hget
        rfl
      | some d =>
        rw [hdd] at hi hget
        rw [setD_some] at hget
        by_cases hid : i = d
        · subst hid
          have hlt : i < ((st.set q .u).set k (.obj b (cD g 0 os0))).length := by have := St.get_lt hget; simpa using this
          rw [St.get_set_self hlt] at hget
          cases hget
          rfl
        · have : i = q := by simpa [hik, hid] using hi
          subst this
          rw [St.get_set_ne (Ne.symm hid), St.get_set_ne (Ne.symm hik), St.get_set_self hql] at hget
          cases hget
          rfl
    · intro e0 hget
      cases hdd : o.dst with
      | none =>
        rw [hdd, setD_none, St.get_set_self (by simpa using hkl)] at hget
        cases hget
        exact ⟨rfl, k1⟩
      | some d =>
        have hkd : k ≠ d := fun e => hd (by rw [hdd, e])
        rw [hdd, setD_some, St.get_set_ne (Ne.symm hkd), St.get_set_self (by simpa using hkl)] at hget
        cases hget
        exact ⟨rfl, by rw [get_put_ne a xr hkd]; exact k1⟩
    · simp only [DR]
      exact ⟨xs', ty', bs2, trivial, h8, rfl, hg⟩
    · have := (List.nodup_append.1 h6).2.1
      simpa using this
    · intro z hz
      have hz' : z ∈ c1 ++ ((b :: bs2) ++ ([] ++ [])) := by simp only [List.append_nil, List.mem_append]; exact .inr hz
      refine ⟨?_, (h7 z hz').2, fun hH => hH.2.2 hz'⟩
      rcases (h7 z hz').1 with h | h
      · exact .inl (hHad z h)
      · exact .inr h
    · intro z hz
      have hl := hr.Flt z hz
      refine ⟨.inl hz, Nat.lt_of_lt_of_le hl hst.size, fun hm => ?_⟩
      rcases (h7 z hm).1 with h | h
      · exact (hHad z h).2.1.1 hz
      · omega
    · exact fun z hz => hz.2.1
    · intro z hz
      rcases hz.1 with h | h | h
      · exact .inl h
      · exact .inr (.inl (hHad z h))
      · exact .inr (.inr h)
theorem RW.callT {f : FuncId} {x y : Operand} {tys : Array TypeId} {cs0 os0 cs1 : List C} {k q b : Nat} {ds : List D} {d1 : D} {res : R} (hf : Eng.Fn E.P f [.ob cs0, .agg cs1] res [.ob os0, .gone]) (hgd : o.guard = none) (ho : o.op = .call { callee := .value (.func f), args := #[x, y], argTypes := tys }) (hd : o.dst ≠ some k)
    (hkq : k ≠ q) (hx : ev st x = .pt k b 0) (hk : Eng.gt st k = .obj b ds) (hc : DT ds cs0) (hq : Eng.gt st q = d1) (hql : q < st.length) (hy : Tk q d1 (ev st y) cs1) (h : ∀ g, RW E B all rest (setD ((st.set q .u).set k (.obj b (cD g 0 os0))) o.dst .u) K) : RW E B all (o :: rest) st K :=
  RW.cons hgd (OK.callT hf ho hd hkq hx hk hc hq hql hy h)
def frzM : List Bool → List D → List D
  | b :: m, d :: ds => (bif b then frz1 d else d) :: frzM m ds
  | _, ds => ds
theorem frzM_ok : ∀ (m : List Bool) {ds : List D} {xs : List Value} {bs : List Nat}, DLs F w ds xs bs → bs.Nodup → ∃ keep free : List Nat, (∀ b ∈ keep ++ free, b ∈ bs) ∧ (keep ++ free).Nodup ∧
    ∀ H : Nat → Prop, (∀ b, F b → H b) → (∀ b ∈ free, H b) → DLs H w (frzM m ds) xs keep
  | [], ds, xs, bs, h, hn => ⟨bs, [], by simp, by simpa using hn, fun H hF _ => by simp only [frzM]; exact DLs_mono hF _ _ _ h⟩
  | _ :: _, [], xs, bs, h, hn => ⟨bs, [], by simp, by simpa using hn, fun H hF _ => by simp only [frzM]; exact DLs_mono hF _ _ _ h⟩
  | b :: m, d :: ds, xs, bs, h, hn => by
    simp only [DLs] at h
    obtain ⟨x, xs', p1, p2, rfl, rfl, h3, h4⟩ := h
    rw [List.nodup_append] at hn
    obtain ⟨keep, free, g1, g2, g3⟩ := frzM_ok m h4 hn.2.1
    have hd : ∀ z ∈ p1, z ∉ keep ++ free := fun z hz hm => hn.2.2 z hz z (g1 z hm) rfl
    cases b with
    | true =>
      refine ⟨keep, p1 ++ free, fun z hz => ?_, ?_, fun H hF hb => ?_⟩
      · have : z ∈ keep ∨ z ∈ p1 ∨ z ∈ free := by simpa using hz
        rcases this with h | h | h
        · simp [g1 z (by simp [h])]
        · simp [h]
        · simp [g1 z (by simp [h])]
      · rw [List.nodup_append] at g2 ⊢
        refine ⟨g2.1, ?_, fun p hp q hq e => ?_⟩
        · rw [List.nodup_append]
          exact ⟨hn.1, g2.2.1, fun p hp q hq e => hd p hp (by subst e; simp [hq])⟩
        · subst e
          rcases List.mem_append.1 hq with h | h
          · exact hd p h (by simp [hp])
          · exact g2.2.2 p hp p h rfl
      · simp only [frzM, cond_true, DLs]
        exact ⟨x, xs', [], keep, rfl, rfl, frz1_ok h3 hF (fun z hz => hb z (by simp [hz])), g3 H hF (fun z hz => hb z (by simp [hz]))⟩
    | false =>
      refine ⟨p1 ++ keep, free, fun z hz => ?_, ?_, fun H hF hb => ?_⟩
      · have : z ∈ p1 ∨ z ∈ keep ∨ z ∈ free := by simpa using hz
        rcases this with h | h | h
        · simp [h]
        · simp [g1 z (by simp [h])]
        · simp [g1 z (by simp [h])]
      · rw [List.append_assoc, List.nodup_append]
        exact ⟨hn.1, g2, fun p hp q hq e => hd p hp (by subst e; exact hq)⟩
      · simp only [frzM, cond_false, DLs]
        exact ⟨x, xs', p1, keep, rfl, rfl, DR_mono hF _ _ _ h3, g3 H hF hb⟩
theorem Rel.freezeM (hr : Rel F B st a w) {k b : Nat} {ds : List D} (m : List Bool) (hk : Eng.gt st k = .obj b ds) : ∃ H : Nat → Prop, Rel H B (st.set k (.obj b (frzM m ds))) a w := by
  have hkl : k < st.length := getD_eq hk (by simp)
  obtain ⟨own, hs⟩ := hr.slots
  obtain ⟨x, bk, h1, h2, h3, h4⟩ := hs k _ (St.get_of hkl)
  rw [hk] at h2
  simp only [DR] at h2
  obtain ⟨cs, ty, bs', rfl, h5, rfl, h6⟩ := h2
  obtain ⟨keep, free, g1, g2, g3⟩ := frzM_ok m h6 (List.nodup_cons.1 h3).2
  have hfb : ∀ z ∈ free, z ∈ b :: bs' := fun z hz => List.mem_cons_of_mem _ (g1 z (by simp [hz]))
  have hkb : ∀ z ∈ b :: keep, z ∈ b :: bs' := fun z hz => by
    rcases List.mem_cons.1 hz with rfl | hz
    · simp
    · exact List.mem_cons_of_mem _ (g1 z (by simp [hz]))
  have hkf : ∀ z ∈ b :: keep, z ∉ free := fun z hz hf => by
    rcases List.mem_cons.1 hz with rfl | hz
    · exact (List.nodup_cons.1 h3).1 (g1 _ (by simp [hf]))
    · exact (List.nodup_append.1 g2).2.2 z hz z hf rfl
  refine ⟨fun z => F z ∨ z ∈ free, hr.defers, by rw [hr.len]; simp, hr.fr, ?_, ?_, own, ?_⟩
  · rintro z (hz | hz)
    · exact hr.Flt z hz
    · exact (h4 z (hfb z hz)).2.2
  · rintro z (hz | hz)
    · exact hr.Fin z hz
    · exact .inr (h4 z (hfb z hz)).2.1.2
  · intro i d hi
    by_cases hik : i = k
    · subst hik
      rw [St.get_set_self hkl] at hi
      cases hi
      refine ⟨_, b :: keep, h1, ?_, ?_, fun z hz => ?_⟩
      · simp only [DR]
        exact ⟨cs, ty, keep, trivial, h5, rfl, g3 _ (fun z hz => .inl hz) (fun z hz => .inr hz)⟩
      · rw [List.nodup_cons]
        exact ⟨fun hm => (List.nodup_cons.1 h3).1 (g1 _ (by simp [hm])), (List.nodup_append.1 g2).1⟩
      · have := h4 z (hkb z hz)
        refine ⟨this.1, ⟨?_, this.2.1.2⟩, this.2.2⟩
        rintro (hf | hf)
        · exact this.2.1.1 hf
        · exact hkf z hz hf
    · rw [St.get_set_ne (Ne.symm hik)] at hi
      obtain ⟨y, cs', f1, f2, f3, f4⟩ := hs i d hi
      refine ⟨y, cs', f1, DR_mono (fun z hz => .inl hz) _ _ _ f2, f3, fun z hz => ⟨(f4 z hz).1, ⟨?_, (f4 z hz).2.1.2⟩, (f4 z hz).2.2⟩⟩
      rintro (hf | hf)
      · exact (f4 z hz).2.1.1 hf
      · exact hik ((f4 z hz).1.symm.trans (h4 z (hfb z hf)).1)
theorem RW.freezeM {k b : Nat} {ds ds' : List D} (m : List Bool) (hk : Eng.gt st k = .obj b ds) (hd : frzM m ds = ds') (h : RW E B all rest (st.set k (.obj b ds')) K) : RW E B all rest st K := fun F a w hr => by
  obtain ⟨H, hr'⟩ := hr.freezeM m hk
  rw [hd] at hr'
  exact h H a w hr'
theorem CW.freezeM {k b : Nat} {cd : Code} {Q : Exit → St → Prop} {ds ds' : List D} (m : List Bool) (hk : Eng.gt st k = .obj b ds) (hd : frzM m ds = ds') (h : CW E B cd (st.set k (.obj b ds')) Q) : CW E B cd st Q := fun F a w hr => by
  obtain ⟨H, hr'⟩ := hr.freezeM m hk
  rw [hd] at hr'
  exact h H a w hr'
theorem Rel.pullG (hr : Rel F B st a w) {k l j sz n : Nat} {ds : List D} {ts : List T} {X : Value} (hkl : k ≠ l) (hk : Eng.gt st k = .agg ds) (hj : ds[j]? = some (.al l none sz n X 0)) (hl : Eng.gt st l = .w (.a sz n ts) X) : Rel F B ((st.set k (.agg (ds.set j (.w (.a sz n ts) X)))).set l .u) a w := by
  obtain ⟨bk, bl, p1, p2, p3, ⟨xk, q1, q2⟩, p5, p6⟩ := hr.two k l hkl (getD_eq hk (by simp))
  obtain ⟨xl, r1, r2⟩ := p5 _ (gt_some hl (by simp))
  rw [hk] at q2
  simp only [DR] at q2 r2
  obtain ⟨cs, rfl, q2⟩ := q2
  obtain ⟨rfl, r2⟩ := r2
  obtain ⟨bs', g1, g2, g3⟩ := DLs_pull q2 hj r2
  refine p6 w _ .u a bs' [] (Stp.refl _ _) rfl rfl (fun _ _ _ => rfl) ⟨_, q1, by simp only [DR]; exact ⟨cs, rfl, g1⟩⟩ (fun _ => ⟨xl, r1, by simp [DR]⟩) ?_ ?_
  · rw [List.append_nil]
    exact g3 p3
  · intro b hb
    rw [List.append_nil] at hb
    rcases g2 b hb with h | h
    · exact ⟨.inl h, (p1 b h).2⟩
    · exact ⟨.inr (.inl h), (p2 b h).2⟩
theorem RW.pullG {k l j sz n : Nat} {ds : List D} {ts : List T} {X : Value} (hkl : k ≠ l) (hk : Eng.gt st k = .agg ds) (hj : ds[j]? = some (.al l none sz n X 0)) (hl : Eng.gt st l = .w (.a sz n ts) X) (h : RW E B all rest ((st.set k (.agg (ds.set j (.w (.a sz n ts) X)))).set l .u) K) : RW E B all rest st K :=
  fun F a w hr => h F a w (hr.pullG hkl hk hj hl)
end
section
variable {fc : Facts} {E : Env} {B : Base} {w : World} {o : Oper} {st : St} {K : St → Prop} {all : List Oper} {n i' : Nat} {ls ls' : Array Bool}
theorem RO.callT {f : FuncId} {x y : Operand} {tys : Array TypeId} {cs0 os0 cs1 : List C} {k q b : Nat} {ds : List D} {d1 : D} {res : R} (hf : Eng.Fn E.P f [.ob cs0, .agg cs1] res [.ob os0, .gone]) (hA : all[i']? = some o) (hgd : o.guard = none) (hL : ls.setIfInBounds i' true = ls') (ho : o.op = .call { callee := .value (.func f), args := #[x, y], argTypes := tys }) (hd : o.dst ≠ some k)
    (hkq : k ≠ q) (hx : ev st x = .pt k b 0) (hk : Eng.gt st k = .obj b ds) (hc : DT ds cs0) (hq : Eng.gt st q = d1) (hql : q < st.length) (hy : Tk q d1 (ev st y) cs1) (h : ∀ g, RA fc E B all n ls' (setD ((st.set q .u).set k (.obj b (cD g 0 os0))) o.dst .u) K) : RO fc E B all n ls st K i' :=
  ⟨o, hA, hgd, OK.callT hf ho hd hkq hx hk hc hq hql hy (fun g => by rw [hL]; exact h g)⟩
theorem RA.pullG {k l j sz m : Nat} {ds : List D} {ts : List T} {X : Value} (hkl : k ≠ l) (hk : Eng.gt st k = .agg ds) (hj : ds[j]? = some (.al l none sz m X 0)) (hl : Eng.gt st l = .w (.a sz m ts) X) (h : RA fc E B all n ls ((st.set k (.agg (ds.set j (.w (.a sz m ts) X)))).set l .u) K) : RA fc E B all n ls st K :=
  fun F a w hr => h F a w (hr.pullG hkl hk hj hl)
theorem RO.pullG {k l j sz m : Nat} {ds : List D} {ts : List T} {X : Value} (hkl : k ≠ l) (hk : Eng.gt st k = .agg ds) (hj : ds[j]? = some (.al l none sz m X 0)) (hl : Eng.gt st l = .w (.a sz m ts) X) (h : RO fc E B all n ls ((st.set k (.agg (ds.set j (.w (.a sz m ts) X)))).set l .u) K i') : RO fc E B all n ls st K i' := by
  obtain ⟨o, h1, h2, h3⟩ := h
  exact ⟨o, h1, h2, fun F a w hr => h3 F a w (hr.pullG hkl hk hj hl)⟩
end
end Go.Eng
