import Derived.Test.YtaneihnomaagoaaGreatDoorEng30
namespace Go.Eng
open Go Go.RowKit
section
variable {E : Env} {F : Nat → Prop} {B : Base E.P} {w : World} {o : Oper} {st : St} {K : St → Prop} {a : Act} {all rest : List Oper}
theorem Rel.twoH (h : Rel F B st a w) (k l : Nat) (hkl : k ≠ l) (hk : k < st.length) :
    ∃ bk : List Nat, (∀ b ∈ bk, ¬ F b ∧ b < w.heap.size ∧ (b ∈ B.bs ∨ B.w.heap.size ≤ b)) ∧ bk.Nodup ∧ (∃ xk, a.tmps[k]? = some xk ∧ DR F w (gt st k) xk bk) ∧
      ∀ (w' : World) (dk dl : D) (a' : Act) (ck cl : List Nat) (H : Nat → Prop), Stp w w' bk → a'.defers = a.defers → a'.tmps.size = a.tmps.size →
        (∀ i, i ≠ k → i ≠ l → a'.tmps[i]? = a.tmps[i]?) →
        (∃ xk, a'.tmps[k]? = some xk ∧ DR H w' dk xk ck) → (l < st.length → ∃ xl, a'.tmps[l]? = some xl ∧ DR H w' dl xl cl) →
        (ck ++ cl).Nodup → (∀ b ∈ ck ++ cl, (b ∈ bk ∨ w.heap.size ≤ b) ∧ b < w'.heap.size ∧ ¬ H b) →
        (∀ b, F b → H b) → (∀ b, H b → b < w'.heap.size) → (∀ b, H b → F b ∨ b ∈ bk ∨ w.heap.size ≤ b) →
        Rel H B ((st.set k dk).set l dl) a' w' := by
  obtain ⟨own, hs⟩ := h.slots
  have hgk : st.get? k = some (gt st k) := St.get_of hk
  obtain ⟨xk, bk, h1, h2, h3, h4⟩ := hs k _ hgk
  refine ⟨bk, fun b hb => ⟨(h4 b hb).2.1.1, (h4 b hb).2.2, (h4 b hb).2.1.2⟩, h3, ⟨xk, h1, h2⟩, ?_⟩
  intro w' dk dl a' ck cl H hst hdef hsz hoth hnk hnl hnd hin hsub hlt hi
  have hfr : Fr B w' := h.fr.stp hst (fun b hb => (h4 b hb).2.1.2)
  have hF : ∀ b, F b → w'.heap[b]? = w.heap[b]? := fun b hb => hst.block b (h.Flt b hb) (fun hm => (h4 b hm).2.1.1 hb)
  have hB : ∀ b, b ∈ bk ∨ w.heap.size ≤ b → b ∈ B.bs ∨ B.w.heap.size ≤ b := fun b hb => by
    rcases hb with hb | hb
    · exact (h4 b hb).2.1.2
    · exact .inr (Nat.le_trans h.fr.size hb)
  rw [List.nodup_append] at hnd
  refine ⟨hdef.trans h.defers, by rw [hsz, h.len]; simp, hfr, hlt, fun b hb => ?_, fun b => if b ∈ ck then k else if b ∈ cl then l else own b, ?_⟩
  · rcases hi b hb with h5 | h5
    · exact h.Fin b h5
    · exact .inr (hB b h5)
  · intro i d hi'
    by_cases hil : i = l
    · subst hil
      have hlt' : i < st.length := by have := St.get_lt hi'; simpa using this
      rw [St.get_set_self (by simpa using hlt')] at hi'
      cases hi'
      obtain ⟨xl, e1, e2⟩ := hnl hlt'
      refine ⟨xl, cl, e1, e2, hnd.2.1, fun b hb => ?_⟩
      have hbk : b ∉ ck := fun hb' => hnd.2.2 b hb' b hb rfl
      exact ⟨by simp [hbk, hb], ⟨(hin b (by simp [hb])).2.2, hB b (hin b (by simp [hb])).1⟩, (hin b (by simp [hb])).2.1⟩
    · rw [St.get_set_ne (Ne.symm hil)] at hi'
      by_cases hik : i = k
      · subst hik
        rw [St.get_set_self hk] at hi'
        cases hi'
        obtain ⟨xk, e1, e2⟩ := hnk
        exact ⟨xk, ck, e1, e2, hnd.1, fun b hb => ⟨by simp [hb], ⟨(hin b (by simp [hb])).2.2, hB b (hin b (by simp [hb])).1⟩, (hin b (by simp [hb])).2.1⟩⟩
      · rw [St.get_set_ne (Ne.symm hik)] at hi'
        obtain ⟨x, bs, f1, f2, f3, f4⟩ := hs i d hi'
        have hnot : ∀ b ∈ bs, b ∉ bk := fun b hb hb' => hik ((f4 b hb).1.symm.trans (h4 b hb').1)
        have hsame : ∀ b ∈ bs, w'.heap[b]? = w.heap[b]? := fun b hb => hst.block b (f4 b hb).2.2 (fun hm => hnot b hb hm)
        have hno : ∀ b ∈ bs, ¬ (b ∈ bk ∨ w.heap.size ≤ b) := fun b hb h' => by
          rcases h' with h' | h'
          · exact hnot b hb h'
          · have := (f4 b hb).2.2; omega
        refine ⟨x, bs, by rw [hoth i hik hil]; exact f1, DR_mono hsub _ _ _ (DR_world hF d x bs hsame f2), f3, fun b hb => ⟨?_, ⟨fun hH => ?_, (f4 b hb).2.1.2⟩, Nat.lt_of_lt_of_le (f4 b hb).2.2 hst.size⟩⟩
        · have h1 : b ∉ ck := fun hb' => hno b hb (hin b (by simp [hb'])).1
          have h2 : b ∉ cl := fun hb' => hno b hb (hin b (by simp [hb'])).1
          simp [h1, h2, (f4 b hb).1]
        · rcases hi b hH with h5 | h5
          · exact (f4 b hb).2.1.1 h5
          · exact hno b hb h5
inductive AsPs (st : St) (k b : Nat) (cs os : List C) : List Operand → List A → List A → Prop where
  | here {x : Operand} {xs : List Operand} {as outs : List A} (hx : ev st x = .pt k b 0) (hs : AsAs st false none xs as) : AsPs st k b cs os (x :: xs) (.ob cs :: as) (.ob os :: outs)
  | there {x : Operand} {a o : A} {xs : List Operand} {as outs : List A} (h : AsA st false none (ev st x) a) (hs : AsPs st k b cs os xs as outs) : AsPs st k b cs os (x :: xs) (a :: as) (o :: outs)
theorem AsPs.give {k b : Nat} {ds : List D} {cs os : List C} {xs : List Operand} {as outs : List A} (hr : Rel F B st a w) (h : AsPs st k b cs os xs as outs) (hd : DT ds cs) {x : Value} {bk : List Nat} (hx : DR F w (.obj b ds) x bk) :
    ARs F w as (xs.map a.eval) bk ∧ ∀ (w' : World) (H : Nat → Prop) (b2 : List Nat), ARs H w' outs (xs.map a.eval) b2 → ∃ g b3, b3.Sublist b2 ∧ DR H w' (.obj b (cD g 0 os)) x b3 := by
  induction h with
  | here hv hs =>
    simp only [DR] at hx
    obtain ⟨ys, ty, bs', rfl, h2, rfl, h3⟩ := hx
    have he := hr.ev _ |> hv.subst (motive := fun d => DR F w d _ [])
    simp only [DR] at he
    refine ⟨?_, fun w' H b2 h4 => ?_⟩
    · simp only [List.map_cons, ARs]
      exact ⟨_, _, b :: bs', [], rfl, by simp, ⟨b, ys, ty, bs', he.1, h2, rfl, DT_CRs ds cs ys bs' hd h3⟩, hs.read hr (Out.own none)⟩
    · simp only [List.map_cons, ARs] at h4
      obtain ⟨y, zs, c1, c2, hy, rfl, h5, h6⟩ := h4
      cases hy
      obtain ⟨b', xs', ty', bs2, hp, h7, rfl, h8⟩ := h5
      rw [he.1] at hp
      cases hp
      obtain ⟨g, hg⟩ := CRs_D os 0 xs' bs2 h8
      exact ⟨g, _, List.sublist_append_left _ _, by simp only [DR]; exact ⟨xs', ty', bs2, trivial, h7, rfl, hg⟩⟩
  | there h hs ih =>
    obtain ⟨h1, h2⟩ := ih
    refine ⟨?_, fun w' H b2 h4 => ?_⟩
    · simp only [List.map_cons, ARs]
      exact ⟨_, _, [], bk, rfl, by simp, h.read (Out.own (a := a) none) (hr.ev _), h1⟩
    · simp only [List.map_cons, ARs] at h4
      obtain ⟨y, ys, c1, c2, hy, rfl, h5, h6⟩ := h4
      cases hy
      obtain ⟨g, b3, hb, hg⟩ := h2 w' H c2 h6
      exact ⟨g, b3, hb.trans (List.sublist_append_right _ _), hg⟩
theorem OK.callP {f : FuncId} {xs : List Operand} {tys : Array TypeId} {as outs : List A} {res : R} {k b : Nat} {ds : List D} {cs os : List C} (hf : Fn E.P f as res outs) (ho : o.op = .call { callee := .value (.func f), args := xs.toArray, argTypes := tys })
    (hk : k < st.length) (hd : o.dst ≠ some k) (hg : gt st k = .obj b ds) (hc : DT ds cs) (ha : AsPs st k b cs os xs as outs) (h : ∀ g g', K (setD (st.set k (.obj b (cD g' 0 os))) o.dst (rD g res))) : OK E B o st K := by
  intro F a w hr next Q hn
  have hl : ∃ l, k ≠ l ∧ (o.dst = some l ∨ (o.dst = none ∧ l = st.length)) := by
    cases hdd : o.dst with
    | none => exact ⟨st.length, by omega, .inr ⟨rfl, rfl⟩⟩
    | some l => exact ⟨l, fun e => hd (by rw [hdd, e]), .inl rfl⟩
  obtain ⟨l, hkl, hl⟩ := hl
  obtain ⟨bk, p1, p2, ⟨xk, q1, q2⟩, p6⟩ := hr.twoH k l hkl hk
  rw [hg] at q2
  obtain ⟨h2, h3⟩ := ha.give hr hc q2
  unfold Oper.wp
  rw [run_call hf.1 ho, Oper.upon_enter]
  refine Calls.mono (hf.2 w _ bk F (hr.tb fun b hb => (p1 b hb).2.2) (fun b hb => ⟨hr.Flt b hb, fun hm => (p1 b hm).1 hb⟩) h2 p2 (fun b hb => (p1 b hb).2.1)) ?_
  rintro e w' ⟨x, b1, b2, rfl, hs, h4, h5, h6, h7⟩
  obtain ⟨g, hgr⟩ := OR_D h4
  obtain ⟨g', b3, hsub, hd3⟩ := h3 w' _ b2 h5
  have h6' := List.nodup_append.1 h6
  have hrel := p6 w' (.obj b (cD g' 0 os)) (rD g res) (a.put o.dst x) b3 (if o.dst = none then [] else b1) (aft F w w' bk (b1 ++ b2)) hs (by cases o.dst <;> rfl) (by cases o.dst <;> simp [Act.put])
    (fun i hik hil => by
      rcases hl with hl | hl
      · rw [hl]; exact get_put_ne a x hil
      · rw [hl.1]; rfl)
    ⟨xk, by
      rcases hl with hl | hl
      · rw [hl, get_put_ne a x hkl]; exact q1
      · rw [hl.1]; exact q1, hd3⟩
    (fun hlt => by
      rcases hl with hl | hl
      · rw [hl]
        exact ⟨x, get_put_eq a x (by rw [hr.len]; exact hlt), by rw [if_neg (by simp)]; exact hgr⟩
      · omega)
    (by
      rw [List.nodup_append]
      refine ⟨h6'.2.1.sublist hsub, ?_, fun p hp q hq e => ?_⟩
      · split
        · simp
        · exact h6'.1
      · split at hq
        · simp at hq
        · subst e
          exact h6'.2.2 p hq p (hsub.subset hp) rfl)
    (by
      intro c hc'
      have hm : c ∈ b1 ++ b2 := by
        rcases List.mem_append.1 hc' with hc' | hc'
        · exact List.mem_append.2 (.inr (hsub.subset hc'))
        · split at hc'
          · simp at hc'
          · exact List.mem_append.2 (.inl hc')
      exact ⟨(h7 c hm).1, (h7 c hm).2, fun hH => hH.2.2 hm⟩)
    (fun c hc' => ⟨.inl hc', Nat.lt_of_lt_of_le (hr.Flt c hc') hs.size, fun hm => by
      rcases (h7 c hm).1 with h' | h'
      · exact (p1 c h').1 hc'
      · have := hr.Flt c hc'; omega⟩)
    (fun c hc' => hc'.2.1)
    (fun c hc' => hc'.1)
  refine hn (aft F w w' bk (b1 ++ b2)) _ _ _ (h g g') ?_
  rcases hl with hl | hl
  · rw [hl] at hrel ⊢
    exact hrel
  · rw [hl.1] at hrel ⊢
    exact hrel.oob (by simp [hl.2])
theorem RW.callP {f : FuncId} {xs : List Operand} {tys : Array TypeId} {as outs : List A} {res : R} {k b : Nat} {ds : List D} {cs os : List C} (hf : Fn E.P f as res outs) (hgu : o.guard = none) (ho : o.op = .call { callee := .value (.func f), args := xs.toArray, argTypes := tys })
    (hk : k < st.length) (hd : o.dst ≠ some k) (hg : Eng.gt st k = .obj b ds) (hc : DT ds cs) (ha : AsPs st k b cs os xs as outs) (h : ∀ g g', RW E B all rest (setD (st.set k (.obj b (cD g' 0 os))) o.dst (rD g res)) K) : RW E B all (o :: rest) st K := RW.cons hgu (OK.callP hf ho hk hd hg hc ha h)
theorem RO.callP {fc : Facts} {n i : Nat} {ls ls' : Array Bool} {f : FuncId} {xs : List Operand} {tys : Array TypeId} {as outs : List A} {res : R} {k b : Nat} {ds : List D} {cs os : List C} (hf : Fn E.P f as res outs) (hi : all[i]? = some o) (hgu : o.guard = none) (ho : o.op = .call { callee := .value (.func f), args := xs.toArray, argTypes := tys })
    (hl : ls.setIfInBounds i true = ls') (hk : k < st.length) (hd : o.dst ≠ some k) (hg : Eng.gt st k = .obj b ds) (hc : DT ds cs) (ha : AsPs st k b cs os xs as outs) (h : ∀ g g', RA fc E B all n ls' (setD (st.set k (.obj b (cD g' 0 os))) o.dst (rD g res)) K) : RO fc E B all n ls st K i :=
  ⟨o, hi, hgu, OK.callP hf ho hk hd hg hc ha (fun g g' => by rw [hl]; exact h g g')⟩
end
end Go.Eng

namespace Go.Eng
open Go Go.RowKit
inductive Home (st : St) (k : Nat) : Option Nat → Nat → Nat → List T → Value → Prop where
  | w {sz n : Nat} {ts : List T} {X : Value} (h : gt st k = .w (.a sz n ts) X) : Home st k none sz n ts X
  | o {j sz n b : Nat} {ds : List D} {ts : List T} {X : Value} (h : gt st k = .obj b ds) (hj : ds[j]? = some (.w (.a sz n ts) X)) : Home st k (some j) sz n ts X
section
variable {E : Env} {F : Nat → Prop} {B : Base E.P} {w : World} {o : Oper} {st : St} {K : St → Prop} {a : Act} {all rest : List Oper} {Q : Exit → St → Prop} {fc : Facts} {n : Nat} {ls : Array Bool}
theorem Home.own {k sz n : Nat} {j : Option Nat} {ts : List T} {X : Value} (h : Home st k j sz n ts X) (hr : Rel F B st a w) : ∃ bs, OT w (.a sz n ts) X bs := by
  cases h with
  | w h =>
    obtain ⟨y, bs, h1, h2⟩ := hr.slot (gt_some h (by simp))
    simp only [DR] at h2
    exact ⟨bs, h2.2⟩
  | o h hj =>
    obtain ⟨y, bs, h1, h2⟩ := hr.slot (gt_some h (by simp))
    simp only [DR] at h2
    obtain ⟨cs, ty, bs', _, _, rfl, h4⟩ := h2
    obtain ⟨c, b', _, h5, _⟩ := DLs_mem (G := fun _ => True) h4 hj (fun _ _ => trivial)
    simp only [DR] at h5
    exact ⟨b', h5.2⟩
theorem Home.ev {k sz n m off : Nat} {j : Option Nat} {ts : List T} {X : Value} (h : Home st k j sz n ts X) (hr : Rel F B st a w) {x : Operand} (hx : ev st x = .al k j sz n X 0) : a.eval x = X := by
  obtain ⟨bs, h1⟩ := h.own hr
  have := hr.ev x
  rw [hx] at this
  simp only [DR] at this
  rw [this.1, ← subV_whole h1]
theorem sl_take {α : Type} {c : α → List T} {l : List α} {sz m : Nat} (hc : ∀ x, (c x).length = sz) (hm : m ≤ l.length) : T.a sz m (((l.flatMap c).drop (0 * sz)).take (m * sz)) = sl sz c (l.take m) := by
  simp only [Nat.zero_mul, List.drop_zero, flatMap_take hc, sl, List.length_take, Nat.min_eq_left hm]
theorem AsT.takeO {α : Type} {k : Option Nat} {c : α → List T} {l : List α} {i j b sz m : Nat} {ds : List D} {V : Value} (h : gt st i = .obj b ds) (hj : ds[j]? = some (.w (sl sz c l) V)) (hc : ∀ x, (c x).length = sz) (hm : m ≤ l.length) (hk : k ≠ some i) : AsT st true k (.al i (some j) sz m V 0) (sl sz c (l.take m)) := by
  rw [← sl_take hc hm]
  exact AsT.alop rfl h hj (by omega) hk
theorem V.indexWZ {pu : Bool} {α : Type} {t e : TypeId} {x y : Operand} {i ie : TyI} {k : Nat} {c : α → List T} {l : List α} {m : Nat} {X : Value} {z : Int} (ho : o.op = .indexAddr t x y) (ht : E.tabs t = some i) (he : i.td = .slice e) (hte : E.tabs e = some ie)
    (hx : Eng.ev st x = .al k none ie.sz l.length X 0) (hk : Eng.gt st k = .w (sl ie.sz c l) X) (hy : Eng.ev st y = .r (.v (.int .i64 z))) (hz : z = (m : Int)) (hm : m < l.length) : VP pu E B o st (.ep k none ie.sz X (m * ie.sz)) := by
  subst hz
  exact V.indexW ho ht he hte hx hk hy hm
theorem RQ.pullT {k l b j sz n : Nat} {ds : List D} {ts : List T} {X : Value} (k' l' j0 : Nat) (h1 : k' = k) (h2 : l' = l) (h3 : j0 = j) (hkl : k ≠ l) (hk : Eng.gt st k = .obj b ds) (hj : ds[j]? = some (.al l none sz n X 0)) (hl : Eng.gt st l = .w (.a sz n ts) X)
    (h : RQ E B all rest ((st.set k (.obj b (ds.set j (.w (.a sz n ts) X)))).set l .u) K) : RQ E B all rest st K := fun F a w hr => h F a w (hr.pullT hkl hk hj hl)
end
section
variable {E : Env} {F : Nat → Prop} {B : Base E.P} {w : World} {o oj : Oper} {st : St} {K : St → Prop} {a : Act} {all rest : List Oper} {Q : Exit → St → Prop} {fc : Facts} {n i j : Nat} {ls ls' : Array Bool} {want : Bool} {d : Tmp} {dv : D}
theorem RA.firstT (ht : Tell fc st) (hc : (Region.noSelect all.toArray && Region.free .any all.toArray ls i && (Region.ready .any all.toArray ls).contains i) = true) (hl : ls.setIfInBounds i true = ls')
    (ho : all[i]? = some o) (hg : o.guard = some (j, want)) (hj : all[j]? = some oj) (hd : oj.dst = some d) (hb : Eng.gt st d = .r (.v (.bool want))) (hv : VF fc E B o st dv) (h : RA fc E B all n ls' (setD st o.dst dv) K) : RA fc E B all (n + 1) ls st K := by
  subst hl
  simp only [Bool.and_eq_true] at hc
  intro F a w hr
  refine ⟨ht.hx hr, fun Q hQ hp => ?_⟩
  obtain ⟨x, h1, h2⟩ := hv F a w hr
  have ho' : all.toArray[i]? = some o := by simpa using ho
  have hy := yielded_of hr hj hd hb
  exact wpAnyH_take ho' hc.1.1 hc.1.2 hc.2 (fun c a w hq => absurd hq (hp _ _ _)) (.inl ⟨by simp [Region.wanted, hg, hy], fun w' h => h1 w' h.1⟩) (ht.hx hr) ((h F _ w (hr.putD o.dst h2)).2 Q hQ hp)
theorem RA.firstF (ht : Tell fc st) (hc : (Region.noSelect all.toArray && Region.free .any all.toArray ls i && (Region.ready .any all.toArray ls).contains i) = true) (hl : ls.setIfInBounds i true = ls')
    (ho : all[i]? = some o) (hg : o.guard = some (j, want)) (hj : all[j]? = some oj) (hd : oj.dst = some d) (hb : Eng.gt st d = .r (.v (.bool (!want))) ∨ Eng.gt st d = .r (.v undef)) (h : RA fc E B all n ls' (setD st o.dst (.r (.v undef))) K) : RA fc E B all (n + 1) ls st K := by
  subst hl
  simp only [Bool.and_eq_true] at hc
  intro F a w hr
  refine ⟨ht.hx hr, fun Q hQ hp => ?_⟩
  have ho' : all.toArray[i]? = some o := by simpa using ho
  have hw : Region.wanted o (yielded all.toArray a.tmps) = false := by
    rcases hb with hb | hb
    · have hy := yielded_of hr hj hd hb
      cases want <;> simp [Region.wanted, hg, hy]
    · have hy := yielded_undef hr hj hd hb
      simp [Region.wanted, hg, hy]
  exact wpAnyH_take ho' hc.1.1 hc.1.2 hc.2 (fun c a w hq => absurd hq (hp _ _ _)) (.inr ⟨hw, rfl⟩) (ht.hx hr) ((h F _ w (hr.undefD o.dst)).2 Q hQ hp)
theorem RA.bool (d : Tmp) {g : Bool} (hv : Eng.gt st d = .r (.v (.bool g))) (h1 : g = true → RA fc E B all n ls (st.set d (.r (.v (.bool true)))) K) (h2 : g = false → RA fc E B all n ls (st.set d (.r (.v (.bool false)))) K) : RA fc E B all n ls st K := by
  intro F a w hr
  cases g with
  | true => exact h1 rfl F a w (hr.same hv rfl)
  | false => exact h2 rfl F a w (hr.same hv rfl)
theorem RA.one (ht : Tell fc st) (hL : Region.ready .any all.toArray ls = [i]) (hl : ls.setIfInBounds i true = ls') (ho : all[i]? = some o) (hg : o.guard = some (j, want)) (hj : all[j]? = some oj) (hd : oj.dst = some d) (hb : Eng.gt st d = .r (.v (.bool want)))
    (h : OK E B o st (fun st' => RA fc E B all n ls' st' K)) : RA fc E B all (n + 1) ls st K := by
  subst hl
  intro F a w hr
  refine ⟨ht.hx hr, fun Q hQ hp => ⟨fun h0 => absurd (hL.symm.trans h0) (by simp), fun q hq => ?_⟩⟩
  rw [hL] at hq
  obtain rfl : q = i := by simpa using hq
  unfold wpOp
  have ho' : all.toArray[q]? = some o := by simpa using ho
  rw [ho']
  have hy := yielded_of hr hj hd hb
  have hw : Region.wanted o (yielded all.toArray a.tmps) = true := by simp [Region.wanted, hg, hy]
  simp only [hw, if_true]
  exact .inl (h F a w hr _ Q (fun F' st' a' w' hk hr' => ⟨(hk F' a' w' hr').1, (hk F' a' w' hr').2 Q hQ hp⟩))
theorem RA.oneV (ht : Tell fc st) (hL : Region.ready .any all.toArray ls = [i]) (hl : ls.setIfInBounds i true = ls') (ho : all[i]? = some o) (hg : o.guard = some (j, want)) (hj : all[j]? = some oj) (hd : oj.dst = some d) (hb : Eng.gt st d = .r (.v (.bool want)))
    (hv : V E B o st dv) (h : RA fc E B all n ls' (setD st o.dst dv) K) : RA fc E B all (n + 1) ls st K := RA.one ht hL hl ho hg hj hd hb (OK.ofV hv h)
theorem RA.oneCall {f : FuncId} {xs : List Operand} {tys : Array TypeId} {as outs : List A} {res : R} (ht : Tell fc st) (hL : Region.ready .any all.toArray ls = [i]) (hl : ls.setIfInBounds i true = ls') (ho : all[i]? = some o) (hg : o.guard = some (j, want)) (hj : all[j]? = some oj) (hd : oj.dst = some d) (hb : Eng.gt st d = .r (.v (.bool want)))
    (hf : Eng.Fn E.P f as res outs) (hop : o.op = .call { callee := .value (.func f), args := xs.toArray, argTypes := tys }) (ha : AsAs st false none xs as) (h : ∀ g, RA fc E B all n ls' (setD st o.dst (rD g res)) K) : RA fc E B all (n + 1) ls st K := RA.one ht hL hl ho hg hj hd hb (OK.call hf hop ha h)
theorem CW.anyP {α : Type} {id : Nat} {l : List Oper} {y : Code} (N : Nat) (L : α → List (Nat × D)) (P : α → Prop)
    (h : ∀ K : St → Prop, (∀ v s, P v → s.n = N → Le s (L v) → K s) → RA fc E B l l.length (Array.replicate l.length false) st K)
    (h2 : ∀ v, P v → CW E B y ⟨N, L v⟩ Q) : CW E B (.seq (.region id l.toArray true) y) st Q := by
  refine CW.seq (CW.any (h (fun s => CW E B y s Q) ?_))
  intro v s hp hs hl
  exact CW.le (L v) hs hl (h2 v hp)
end
end Go.Eng
