import Derived.Test.YtaneihnomaagoaaGreatDoorEng7
namespace Go.Eng
open Go Go.RowKit

def fx (w : World) (bs : List Nat) (b : Nat) : Prop := b < w.heap.size ∧ b ∉ bs
mutual
theorem OT_RT {G : Nat → Prop} {w : World} : ∀ (t : T) (y : Value) (bs : List Nat), OT w t y bs → (∀ b ∈ bs, G b) → RT G w t y
  | .v x, y, bs, h, _ => by simp only [OT] at h; simp [RT, h.1]
  | .f _ _, _, _, h, _ => by simp [OT] at h
  | .a sz n ts, y, bs, h, hg => by
    simp only [OT] at h
    simp only [RT]
    rcases h with ⟨h1, h2, h3, _⟩ | ⟨b, o, cap, cur, ty, bs', h1, h2, h3, h4, h5, h6, h7, h8⟩
    · exact .inl ⟨none, 0, h1, h2, h3⟩
    · subst h7
      refine .inr ⟨b, o, cap, h1, h2, h3, hg b (by simp), h6, OL_RL ts o bs' ?_ h8 (fun b hb => hg b (by simp [hb]))⟩
      exact ⟨ty, h4⟩
theorem OL_RL {G : Nat → Prop} {w : World} {b : Nat} {cur : Array Value} : ∀ (ts : List T) (o : Nat) (bs : List Nat), (∃ ty, w.heap[b]? = some (.cells cur ty (0, 0))) → OL w ts (cur.toList.drop o) bs → (∀ b ∈ bs, G b) → RL G w ts b o
  | [], _, _, _, _, _ => by simp [RL]
  | t :: ts, o, bs, hw, h, hg => by
    simp only [OL] at h
    obtain ⟨c, cs', b1, b2, h1, rfl, h3, h4⟩ := h
    simp only [RL]
    obtain ⟨ty, hty⟩ := hw
    have hc : cur[o]? = some c := by
      have := congrArg (·[0]?) h1
      simpa [List.getElem?_drop] using this
    have hd : cs' = cur.toList.drop (o + 1) := by
      have := congrArg List.tail h1
      simpa [List.tail_drop] using this.symm
    refine ⟨⟨c, by simp [World.cell?, hty, hc], OT_RT t c b1 h3 (fun b hb => hg b (by simp [hb]))⟩, ?_⟩
    exact OL_RL ts (o + 1) b2 ⟨ty, hty⟩ (hd ▸ h4) (fun b hb => hg b (by simp [hb]))
end

def DRd : List D → List T → Prop
  | [], ts => ts = []
  | d :: ds, ts => ∃ t ts', ts = t :: ts' ∧ (d = .r t ∨ (∃ V, d = .w t V) ∨ (d = .r (.v (.slice none 0 0)) ∧ ∃ sz, t = .a sz 0 [])) ∧ DRd ds ts'
inductive AsT (st : St) (own : Bool) (k : Option Nat) : D → T → Prop where
  | r {t : T} : AsT st own k (.r t) t
  | nil {sz : Nat} : AsT st own k (.r (.v (.slice none 0 0))) (.a sz 0 [])
  | rp {ts : List T} : AsT st own k (.rp ts) (.f none ts)
  | pt {i b : Nat} {ds : List D} {ts : List T} (ho : own = true) (h : gt st i = .obj b ds) (hd : DRd ds ts) (hk : k ≠ some i) : AsT st own k (.pt i b 0) (.f none ts)
  | al {i sz n : Nat} {ts : List T} {V : Value} (ho : own = true) (h : gt st i = .w (.a sz n ts) V) (hk : k ≠ some i) : AsT st own k (.al i none sz n V 0) (.a sz n ts)
  | alo {i j sz n b : Nat} {ds : List D} {ts : List T} {V : Value} (ho : own = true) (h : gt st i = .obj b ds) (hj : ds[j]? = some (.w (.a sz n ts) V)) (hk : k ≠ some i) : AsT st own k (.al i (some j) sz n V 0) (.a sz n ts)
  | ala {i j sz n : Nat} {ds : List D} {ts : List T} {V : Value} (ho : own = true) (h : gt st i = .agg ds) (hj : ds[j]? = some (.w (.a sz n ts) V)) (hk : k ≠ some i) : AsT st own k (.al i (some j) sz n V 0) (.a sz n ts)
  | alp {i sz n m off : Nat} {ts : List T} {V : Value} (ho : own = true) (h : gt st i = .w (.a sz n ts) V) (hm : off + m ≤ n) (hk : k ≠ some i) : AsT st own k (.al i none sz m V off) (.a sz m ((ts.drop (off * sz)).take (m * sz)))
  | alop {i j sz n m off b : Nat} {ds : List D} {ts : List T} {V : Value} (ho : own = true) (h : gt st i = .obj b ds) (hj : ds[j]? = some (.w (.a sz n ts) V)) (hm : off + m ≤ n) (hk : k ≠ some i) : AsT st own k (.al i (some j) sz m V off) (.a sz m ((ts.drop (off * sz)).take (m * sz)))
inductive AsC (st : St) (own : Bool) (k : Option Nat) : D → C → Prop where
  | r {d : D} {t : T} (h : AsT st own k d t) : AsC st own k d (.r t)
  | v {x : Value} : AsC st own k (.r (.v x)) (.w (.v x))
inductive AsCs (st : St) (own : Bool) (k : Option Nat) : List D → List C → Prop where
  | nil : AsCs st own k [] []
  | cons {d : D} {t : C} {ds : List D} {ts : List C} (h : AsC st own k d t) (hs : AsCs st own k ds ts) : AsCs st own k (d :: ds) (t :: ts)
inductive AsA (st : St) (own : Bool) (k : Option Nat) : D → A → Prop where
  | one {d : D} {c : C} (h : AsC st own k d c) : AsA st own k d (.one c)
  | agg {ds : List D} {cs : List C} (h : AsCs st own k ds cs) : AsA st own k (.agg ds) (.agg cs)
inductive AsAs (st : St) (own : Bool) (k : Option Nat) : List Operand → List A → Prop where
  | nil : AsAs st own k [] []
  | cons {x : Operand} {a : A} {xs : List Operand} {as : List A} (h : AsA st own k (ev st x) a) (hs : AsAs st own k xs as) : AsAs st own k (x :: xs) (a :: as)
theorem AsCs.map {st : St} {own : Bool} {k : Option Nat} : ∀ (ts : List T), AsCs st own k (ts.map .r) (ts.map .r)
  | [] => .nil
  | _ :: ts => .cons (.r .r) (AsCs.map ts)

section
variable {E : Env} {F : Nat → Prop} {B : Base E.P} {w : World} {o : Oper} {st : St} {K : St → Prop} {a : Act}

structure Out (F : Nat → Prop) (w : World) (st : St) (a : Act) (own : Bool) (k : Option Nat) (G : Nat → Prop) : Prop where
  fix : ∀ b, F b → G b
  slot : own = true → ∀ i d, k ≠ some i → st.get? i = some d → ∃ x bs, a.tmps[i]? = some x ∧ DR F w d x bs ∧ ∀ b ∈ bs, G b
theorem Rel.out (hr : Rel F B st a w) : Out F w st a true none (fx w []) := by
  refine ⟨fun b hb => ⟨hr.Flt b hb, by simp⟩, fun _ i d _ hi => ?_⟩
  obtain ⟨own, hs⟩ := hr.slots
  obtain ⟨x, bs, h1, h2, _, h4⟩ := hs i d hi
  exact ⟨x, bs, h1, h2, fun b hb => ⟨(h4 b hb).2.2, by simp⟩⟩
theorem Out.own (k : Option Nat) : Out F w st a false k F := ⟨fun _ h => h, fun h => by cases h⟩
theorem DLs_mem {G : Nat → Prop} : ∀ {ds : List D} {cs : List Value} {bs : List Nat} {j : Nat} {d : D}, DLs F w ds cs bs → ds[j]? = some d → (∀ b ∈ bs, G b) → ∃ c b', cs[j]? = some c ∧ DR F w d c b' ∧ ∀ b ∈ b', G b
  | [], _, _, _, _, _, hj, _ => by simp at hj
  | d :: ds, cs, bs, j, d', h, hj, hg => by
    simp only [DLs] at h
    obtain ⟨c, cs', b1, b2, rfl, rfl, h3, h4⟩ := h
    cases j with
    | zero => simp at hj; subst hj; exact ⟨c, b1, by simp, h3, fun b hb => hg b (by simp [hb])⟩
    | succ j => simpa using DLs_mem h4 (by simpa using hj) (fun b hb => hg b (by simp [hb]))
theorem DRd_RL {G : Nat → Prop} {b : Nat} {cur : Array Value} {ty : TypeId} (hw : w.heap[b]? = some (.cells cur ty (0, 0))) (hF : ∀ b, F b → G b) : ∀ (ds : List D) (ts : List T) (o : Nat) (bs : List Nat), DRd ds ts → DLs F w ds (cur.toList.drop o) bs → (∀ b ∈ bs, G b) → RL G w ts b o
  | [], ts, _, _, h, _, _ => by simp only [DRd] at h; simp [h, RL]
  | d :: ds, ts, o, bs, h, h', hg => by
    simp only [DRd] at h
    obtain ⟨t, ts', rfl, h1, h2⟩ := h
    simp only [DLs] at h'
    obtain ⟨c, cs', b1, b2, g1, rfl, g3, g4⟩ := h'
    have hc : cur[o]? = some c := by
      have := congrArg (·[0]?) g1
      simpa [List.getElem?_drop] using this
    have hd : cs' = cur.toList.drop (o + 1) := by
      have := congrArg List.tail g1
      simpa [List.tail_drop] using this.symm
    simp only [RL]
    refine ⟨⟨c, by simp [World.cell?, hw, hc], ?_⟩, DRd_RL hw hF ds ts' (o + 1) b2 h2 (hd ▸ g4) (fun b hb => hg b (by simp [hb]))⟩
    rcases h1 with rfl | ⟨V, rfl⟩ | ⟨rfl, sz, rfl⟩
    · simp only [DR] at g3; exact RT_mono hF _ _ g3.1
    · simp only [DR] at g3; rw [g3.1]; exact OT_RT _ _ _ g3.2 (fun b hb => hg b (by simp [hb]))
    · simp only [DR, RT] at g3; simp [RT, g3.1]
theorem RT_part {G : Nat → Prop} {sz n m off : Nat} {ts : List T} {V : Value} (h : RT G w (.a sz n ts) V) (hm : off + m ≤ n) : RT G w (.a sz m ((ts.drop (off * sz)).take (m * sz))) (subV sz off m V) := by
  simp only [RT] at h ⊢
  rcases h with ⟨A, C, rfl, rfl, rfl⟩ | ⟨b, o, cap, rfl, h2, h3, h4, h5, h6⟩
  · have : off = 0 ∧ m = 0 := by omega
    obtain ⟨rfl, rfl⟩ := this
    exact .inl ⟨_, _, rfl, rfl, by simp⟩
  · refine .inr ⟨b, if cap = off then o else o + off * sz, cap - off, ?_, by omega, by omega, h4, ?_, ?_⟩
    · simp only [subV]
      split <;> simp [Addr.add_mid]
    · simp only [List.length_take, List.length_drop, h5]
      rw [← Nat.sub_mul]
      exact Nat.min_eq_left (Nat.mul_le_mul_right _ (by omega))
    · by_cases hc : cap = off
      · have : m = 0 := by omega
        rw [this]
        simp [RL]
      · rw [if_neg hc]
        exact RL_take _ (RL_drop _ (by rw [h5]; exact Nat.mul_le_mul_right _ (by omega)) h6)
theorem AsT.read {own : Bool} {k : Option Nat} {G : Nat → Prop} (ho : Out F w st a own k G) {d : D} {t : T} (h : AsT st own k d t) {x : Value} (hd : DR F w d x []) : RT G w t x := by
  cases h with
  | r => simp only [DR] at hd; exact RT_mono ho.fix _ _ hd.1
  | nil => simp only [DR, RT] at hd; simp [RT, hd.1]
  | rp =>
    simp only [DR] at hd
    obtain ⟨⟨b, o, h1, h2, h3⟩, _⟩ := hd
    simp only [RT]
    exact ⟨b, o, h1, ho.fix b h2, RL_mono ho.fix _ _ _ h3⟩
  | pt hb h hds hk =>
    obtain ⟨y, bs, h1, h2, h3⟩ := ho.slot hb _ _ hk (gt_some h (by simp))
    simp only [DR] at h2 hd
    obtain ⟨cs, ty, bs', rfl, h5, rfl, h6⟩ := h2
    simp only [RT]
    exact ⟨_, 0, hd.1, h3 _ (by simp), DRd_RL h5 ho.fix _ _ 0 bs' hds (by simpa using h6) (fun b hb => h3 b (by simp [hb]))⟩
  | al hb h hk =>
    obtain ⟨y, bs, h1, h2, h3⟩ := ho.slot hb _ _ hk (gt_some h (by simp))
    simp only [DR] at h2 hd
    rw [hd.1, ← subV_whole h2.2]
    exact OT_RT _ _ _ h2.2 h3
  | alo hb h hj hk =>
    obtain ⟨y, bs, h1, h2, h3⟩ := ho.slot hb _ _ hk (gt_some h (by simp))
    simp only [DR] at h2 hd
    obtain ⟨cs, ty, bs', _, _, rfl, h4⟩ := h2
    obtain ⟨c, b', _, h5, h6⟩ := DLs_mem h4 hj (fun b hb => h3 b (by simp [hb]))
    simp only [DR] at h5
    rw [hd.1, ← subV_whole h5.2]
    exact OT_RT _ _ _ h5.2 h6
  | ala hb h hj hk =>
    obtain ⟨y, bs, h1, h2, h3⟩ := ho.slot hb _ _ hk (gt_some h (by simp))
    simp only [DR] at h2 hd
    obtain ⟨cs, _, h4⟩ := h2
    obtain ⟨c, b', _, h5, h6⟩ := DLs_mem h4 hj h3
    simp only [DR] at h5
    rw [hd.1, ← subV_whole h5.2]
    exact OT_RT _ _ _ h5.2 h6
  | alp hb h hm hk =>
    obtain ⟨y, bs, h1, h2, h3⟩ := ho.slot hb _ _ hk (gt_some h (by simp))
    simp only [DR] at h2 hd
    rw [hd.1]
    exact RT_part (OT_RT _ _ _ h2.2 h3) hm
  | alop hb h hj hm hk =>
    obtain ⟨y, bs, h1, h2, h3⟩ := ho.slot hb _ _ hk (gt_some h (by simp))
    simp only [DR] at h2 hd
    obtain ⟨cs, ty, bs', _, _, rfl, h4⟩ := h2
    obtain ⟨c, b', _, h5, h6⟩ := DLs_mem h4 hj (fun b hb => h3 b (by simp [hb]))
    simp only [DR] at h5
    rw [hd.1]
    exact RT_part (OT_RT _ _ _ h5.2 h6) hm
theorem AsC.read {own : Bool} {k : Option Nat} {G : Nat → Prop} (ho : Out F w st a own k G) {d : D} {c : C} (h : AsC st own k d c) {x : Value} (hd : DR F w d x []) : CR G w c x [] := by
  cases h with
  | r h => exact ⟨h.read ho hd, rfl⟩
  | v => simp only [DR, RT] at hd; simp [CR, OT, hd.1]
theorem AsCs.read {own : Bool} {k : Option Nat} {G : Nat → Prop} (ho : Out F w st a own k G) {ds : List D} {ts : List C} (h : AsCs st own k ds ts) : ∀ {cs : List Value}, DLs F w ds cs [] → CRs G w ts cs [] := by
  induction h with
  | nil => intro cs hd; simp only [DLs] at hd; simp [CRs, hd.1]
  | cons h hs ih =>
    intro cs hd
    simp only [DLs] at hd
    obtain ⟨c, cs', b1, b2, rfl, hb, h3, h4⟩ := hd
    obtain ⟨rfl, rfl⟩ := List.append_eq_nil_iff.1 hb.symm
    simp only [CRs]
    exact ⟨c, cs', [], [], rfl, rfl, h.read ho h3, ih h4⟩
theorem AsA.read {own : Bool} {k : Option Nat} {G : Nat → Prop} (ho : Out F w st a own k G) {d : D} {t : A} (h : AsA st own k d t) {x : Value} (hd : DR F w d x []) : AR G w t x [] := by
  cases h with
  | one h => exact h.read ho hd
  | agg h =>
    simp only [DR] at hd
    obtain ⟨cs, h1, h2⟩ := hd
    exact ⟨cs, h1, h.read ho h2⟩
theorem AsAs.read {own : Bool} {k : Option Nat} {G : Nat → Prop} (hr : Rel F B st a w) (ho : Out F w st a own k G) {xs : List Operand} {as : List A} (h : AsAs st own k xs as) : ARs G w as (xs.map a.eval) [] := by
  induction h with
  | nil => simp [ARs]
  | cons h hs ih =>
    simp only [List.map_cons, ARs]
    exact ⟨_, _, [], [], rfl, rfl, h.read ho (hr.ev _), ih⟩

theorem run_call {P : Program} {f : FuncId} (hc : Callable P f) {o : Oper} {xs : List Operand} {tys : Array TypeId} (ho : o.op = .call { callee := .value (.func f), args := xs.toArray, argTypes := tys }) (a : Act) (w : World) :
    (execOp a.eval o).run P w = .ok (.enter f (xs.map a.eval).toArray) w := by
  obtain ⟨fn, h1, h2, h3⟩ := hc
  have hn : fn.name ≠ "runtime.NumGoroutine" := by simpa using h2
  cases hb : fn.body with
  | none => simp [hb] at h3
  | some c => simp [execOp, ho, resolve, invoke, Deferred.ofValue, Act.eval, callFunc, Sem.run_bind, h1, hn, hb]

end
mutual
theorem DR_mono {F H : Nat → Prop} {w : World} (h : ∀ b, F b → H b) : ∀ (d : D) (x : Value) (bs : List Nat), DR F w d x bs → DR H w d x bs
  | .u, _, _, hd => by simpa [DR] using hd
  | .r t, x, bs, hd => by
    simp only [DR] at hd ⊢
    exact ⟨RT_mono h t x hd.1, hd.2⟩
  | .w t V, _, _, hd => by simpa [DR] using hd
  | .al _ _ _ _ _ _, _, _, hd => by simpa [DR] using hd
  | .agg ds, x, bs, hd => by
    simp only [DR] at hd ⊢
    obtain ⟨cs, h1, h2⟩ := hd
    exact ⟨cs, h1, DLs_mono h ds cs bs h2⟩
  | .tup ds, x, bs, hd => by
    simp only [DR] at hd ⊢
    obtain ⟨cs, h1, h2⟩ := hd
    exact ⟨cs, h1, DLs_mono h ds cs bs h2⟩
  | .obj b ds, x, bs, hd => by
    simp only [DR] at hd ⊢
    obtain ⟨cs, ty, bs', h1, h2, h3, h4⟩ := hd
    exact ⟨cs, ty, bs', h1, h2, h3, DLs_mono h ds cs bs' h4⟩
  | .pt _ _ _, _, _, hd => by simpa [DR] using hd
  | .rp ts, x, bs, hd => by
    simp only [DR] at hd ⊢
    obtain ⟨⟨b, o, h1, h2, h3⟩, h4⟩ := hd
    exact ⟨⟨b, o, h1, h b h2, RL_mono h ts b o h3⟩, h4⟩
  | .ep _ _ _ _ _, _, _, hd => by simpa [DR] using hd
theorem DLs_mono {F H : Nat → Prop} {w : World} (h : ∀ b, F b → H b) : ∀ (ds : List D) (cs : List Value) (bs : List Nat), DLs F w ds cs bs → DLs H w ds cs bs
  | [], _, _, hd => by simpa [DLs] using hd
  | d :: ds, cs, bs, hd => by
    simp only [DLs] at hd ⊢
    obtain ⟨c, cs', b1, b2, h1, h2, h3, h4⟩ := hd
    exact ⟨c, cs', b1, b2, h1, h2, DR_mono h d c b1 h3, DLs_mono h ds cs' b2 h4⟩
end

section
variable {E : Env} {F : Nat → Prop} {B : Base E.P} {w : World} {o : Oper} {st : St} {K : St → Prop} {a : Act}
theorem Rel.moreNew (h : Rel F B st a w) {H : Nat → Prop} {w' : World} (hst : Stp w w' []) (hs : ∀ b, F b → H b) (hl : ∀ b, H b → b < w'.heap.size) (hi : ∀ b, H b → F b ∨ w.heap.size ≤ b) : Rel H B st a w' := by
  obtain ⟨own, hsl⟩ := h.slots
  have hF : ∀ b, F b → w'.heap[b]? = w.heap[b]? := fun b hb => hst.block b (h.Flt b hb) (by simp)
  refine ⟨h.defers, h.len, h.fr.stp hst (by simp), hl, fun b hb => ?_, own, fun k d hk => ?_⟩
  · rcases hi b hb with h1 | h1
    · exact h.Fin b h1
    · exact .inr (.inr (Nat.le_trans h.fr.size h1))
  · obtain ⟨x, bs, h1, h2, h3, h4⟩ := hsl k d hk
    refine ⟨x, bs, h1, DR_mono hs _ _ _ (DR_world hF d x bs (fun b hb => hst.block b (h4 b hb).2.2 (by simp)) h2), h3, fun b hb => ⟨(h4 b hb).1, ⟨fun hH => ?_, (h4 b hb).2.1.2⟩, Nat.lt_of_lt_of_le (h4 b hb).2.2 hst.size⟩⟩
    rcases hi b hH with h5 | h5
    · exact (h4 b hb).2.1.1 h5
    · have := (h4 b hb).2.2; omega

theorem Rel.putMore (h : Rel F B st a w) (k : Option Tmp) {H : Nat → Prop} {w' : World} (hst : Stp w w' []) (hs : ∀ b, F b → H b) (hl : ∀ b, H b → b < w'.heap.size) (hi : ∀ b, H b → F b ∨ w.heap.size ≤ b)
    {d : D} {x : Value} {bs : List Nat} (hd : DR H w' d x bs) (hn : bs.Nodup) (hb : ∀ b ∈ bs, ¬ H b ∧ w.heap.size ≤ b ∧ b < w'.heap.size) : Rel H B (setD st k d) (a.put k x) w' := by
  have h1 := h.moreNew hst hs hl hi
  cases k with
  | none => exact h1
  | some k =>
    by_cases hk : k < st.length
    · obtain ⟨own, hsl⟩ := h1.slots
      obtain ⟨own0, hsl0⟩ := h.slots
      refine ⟨h1.defers, by simp [Act.put, h1.len], h1.fr, h1.Flt, h1.Fin, fun b => if b ∈ bs then k else own0 b, fun i e hi' => ?_⟩
      by_cases hik : i = k
      · subst hik
        rw [setD_some, St.get_set_self hk] at hi'
        cases hi'
        exact ⟨x, bs, get_put_eq a x (by rw [h.len]; exact hk), hd, hn, fun b hb' => ⟨by simp [hb'], ⟨(hb b hb').1, .inr (Nat.le_trans h.fr.size (hb b hb').2.1)⟩, (hb b hb').2.2⟩⟩
      · rw [setD_some, St.get_set_ne (Ne.symm hik)] at hi'
        obtain ⟨y, cs, f1, f2, f3, f4⟩ := hsl0 i e hi'
        have hF : ∀ b, F b → w'.heap[b]? = w.heap[b]? := fun b hb => hst.block b (h.Flt b hb) (by simp)
        refine ⟨y, cs, by rw [get_put_ne a x hik]; exact f1, DR_mono hs _ _ _ (DR_world hF e y cs (fun b hb => hst.block b (f4 b hb).2.2 (by simp)) f2), f3, fun b hb' => ?_⟩
        have hnb : b ∉ bs := fun hm => by have := (hb b hm).2.1; have := (f4 b hb').2.2; omega
        refine ⟨by simp [hnb, (f4 b hb').1], ⟨fun hH => ?_, (f4 b hb').2.1.2⟩, Nat.lt_of_lt_of_le (f4 b hb').2.2 hst.size⟩
        rcases hi b hH with h5 | h5
        · exact (f4 b hb').2.1.1 h5
        · have := (f4 b hb').2.2; omega
    · have h3 : a.put (some k) x = a := by
        have hs : a.tmps.setIfInBounds k x = a.tmps := by rw [Array.setIfInBounds, dif_neg (by rw [h.len]; exact hk)]
        simp [Act.put, hs]
      rw [setD_some, h3]
      exact h1.oob' (Nat.le_of_not_lt hk)

theorem OK.call {f : FuncId} {xs : List Operand} {tys : Array TypeId} {as outs : List A} {res : R} (hf : Fn E.P f as res outs) (ho : o.op = .call { callee := .value (.func f), args := xs.toArray, argTypes := tys })
    (ha : AsAs st false none xs as) (h : ∀ g, K (setD st o.dst (rD g res))) : OK E B o st K := by
  intro F a w hr next Q hn
  unfold Oper.wp
  rw [run_call hf.1 ho, Oper.upon_enter]
  refine Calls.mono (hf.2 w _ [] F (hr.tb (by simp)) (fun b hb => ⟨hr.Flt b hb, by simp⟩) (ha.read hr (Out.own none)) (by simp) (by simp)) ?_
  rintro e w' ⟨x, b1, b2, rfl, hs, h1, _, h3, h4⟩
  obtain ⟨g, hg⟩ := OR_D h1
  rw [List.nodup_append] at h3
  have h4' : ∀ b ∈ b1 ++ b2, w.heap.size ≤ b ∧ b < w'.heap.size := fun b hb => by simpa using h4 b hb
  refine hn _ _ _ _ (h g) (hr.putMore o.dst hs ?_ ?_ ?_ hg h3.1 (fun b hb => ⟨fun hH => hH.2.2 (by simp [hb]), h4' b (by simp [hb])⟩))
  · intro b hb
    exact ⟨.inl hb, Nat.lt_of_lt_of_le (hr.Flt b hb) hs.size, fun hm => by have := hr.Flt b hb; have := (h4' b hm).1; omega⟩
  · intro b hb; exact hb.2.1
  · intro b hb
    rcases hb.1 with h5 | h5 | h5
    · exact .inl h5
    · simp at h5
    · exact .inr h5

def ownC : C → Bool
  | .w _ => true
  | .r (.v _) => true
  | _ => false
def ownR1 : R1 → Bool
  | .one c => ownC c
  | .agg cs => cs.all ownC
  | .ob cs => cs.all ownC
def ownR : R → Bool
  | .one r => ownR1 r
  | .tup rs => rs.all ownR1
theorem CR_own {F H : Nat → Prop} {w : World} {c : C} {x : Value} {bs : List Nat} (ho : ownC c = true) (h : CR H w c x bs) : CR F w c x bs := by
  cases c with
  | w t => exact h
  | r t =>
    cases t with
    | v y => simpa [CR, RT] using h
    | a _ _ _ => simp [ownC] at ho
    | f _ _ => simp [ownC] at ho
theorem CRs_own {F H : Nat → Prop} {w : World} : ∀ (cs : List C) (xs : List Value) (bs : List Nat), cs.all ownC = true → CRs H w cs xs bs → CRs F w cs xs bs
  | [], _, _, _, h => by simpa [CRs] using h
  | c :: cs, xs, bs, ho, h => by
    simp only [List.all_cons, Bool.and_eq_true] at ho
    simp only [CRs] at h ⊢
    obtain ⟨x, xs', b1, b2, h1, h2, h3, h4⟩ := h
    exact ⟨x, xs', b1, b2, h1, h2, CR_own ho.1 h3, CRs_own cs xs' b2 ho.2 h4⟩
theorem OR1_own {F H : Nat → Prop} {w : World} {r : R1} {x : Value} {bs : List Nat} (ho : ownR1 r = true) (h : OR1 H w r x bs) : OR1 F w r x bs := by
  cases r with
  | one c => exact CR_own ho h
  | agg cs =>
    obtain ⟨xs, h1, h2⟩ := h
    exact ⟨xs, h1, CRs_own cs xs bs ho h2⟩
  | ob cs =>
    obtain ⟨b, xs, ty, bs', h1, h2, h3, h4⟩ := h
    exact ⟨b, xs, ty, bs', h1, h2, h3, CRs_own cs xs bs' ho h4⟩
theorem ORs_own {F H : Nat → Prop} {w : World} : ∀ (cs : List R1) (xs : List Value) (bs : List Nat), cs.all ownR1 = true → ORs H w cs xs bs → ORs F w cs xs bs
  | [], _, _, _, h => by simpa [ORs] using h
  | c :: cs, xs, bs, ho, h => by
    simp only [List.all_cons, Bool.and_eq_true] at ho
    simp only [ORs] at h ⊢
    obtain ⟨x, xs', b1, b2, h1, h2, h3, h4⟩ := h
    exact ⟨x, xs', b1, b2, h1, h2, OR1_own ho.1 h3, ORs_own cs xs' b2 ho.2 h4⟩
theorem OR_own {F H : Nat → Prop} {w : World} {r : R} {x : Value} {bs : List Nat} (ho : ownR r = true) (h : OR H w r x bs) : OR F w r x bs := by
  cases r with
  | one r => exact OR1_own ho h
  | tup rs =>
    obtain ⟨xs, h1, h2⟩ := h
    exact ⟨xs, h1, ORs_own rs xs bs ho h2⟩
theorem OK.callOwn {f : FuncId} {xs : List Operand} {tys : Array TypeId} {as outs : List A} {res : R} (hf : Fn E.P f as res outs) (ho : o.op = .call { callee := .value (.func f), args := xs.toArray, argTypes := tys })
    (ha : AsAs st true none xs as) (hres : ownR res = true) (h : ∀ g, K (setD st o.dst (rD g res))) : OK E B o st K := by
  intro F a w hr next Q hn
  unfold Oper.wp
  rw [run_call hf.1 ho, Oper.upon_enter]
  refine Calls.mono (hf.2 w _ [] (fx w []) (hr.tb (by simp)) (fun b hb => hb) (ha.read hr hr.out) (by simp) (by simp)) ?_
  rintro e w' ⟨x, b1, b2, rfl, hs, h1, _, h3, h4⟩
  obtain ⟨g, hg⟩ := OR_D (OR_own (F := F) hres h1)
  rw [List.nodup_append] at h3
  have h4' : ∀ b ∈ b1 ++ b2, w.heap.size ≤ b ∧ b < w'.heap.size := fun b hb => by simpa using h4 b hb
  exact hn _ _ _ _ (h g) (hr.putNew' o.dst hs hg h3.1 (fun b hb => h4' b (by simp [hb])))
end
end Go.Eng
