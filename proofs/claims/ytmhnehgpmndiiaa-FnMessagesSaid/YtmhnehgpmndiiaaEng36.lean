/- Parts of own arrays; guards in regions of every order. -/
import Derived.Test.YtmhnehgpmndiiaaEng35
namespace Go.Eng
open Go Go.RowKit
inductive Home (st : St) (k : Nat) : Option Nat → Nat → Nat → List T → Value → Prop where
  | w {sz n : Nat} {ts : List T} {X : Value} (h : gt st k = .w (.a sz n ts) X) : Home st k none sz n ts X
  | o {j sz n b : Nat} {ds : List D} {ts : List T} {X : Value} (h : gt st k = .obj b ds) (hj : ds[j]? = some (.w (.a sz n ts) X)) : Home st k (some j) sz n ts X
section
variable {E : Env} {F : Nat → Prop} {B : Base E.P} {w : World} {o : Oper} {st : St} {K : St → Prop} {a : Act} {all rest : List Oper} {Q : Exit → St → Prop} {fc : Facts} {n : Nat} {ls : Array Bool}
theorem Home.own {k sz n : Nat} {j : Option Nat} {ts : List T} {X : Value} (h : Home st k j sz n ts X) (hr : Rel F B st a w) : ∃ bs, OT w (.a sz n ts) X bs := by
  cases h with
  | w h =>
    obtain ⟨y, bs, h1, h2⟩ := hr.slot (gt_some h (by simp))
    simp only [DR] at h2
    exact ⟨bs, h2.2⟩
  | o h hj =>
    obtain ⟨y, bs, h1, h2⟩ := hr.slot (gt_some h (by simp))
    simp only [DR] at h2
    obtain ⟨cs, ty, bs', _, _, rfl, h4⟩ := h2
    obtain ⟨c, b', _, h5, _⟩ := DLs_mem (G := fun _ => True) h4 hj (fun _ _ => trivial)
    simp only [DR] at h5
    exact ⟨b', h5.2⟩
theorem Home.ev {k sz n m off : Nat} {j : Option Nat} {ts : List T} {X : Value} (h : Home st k j sz n ts X) (hr : Rel F B st a w) {x : Operand} (hx : ev st x = .al k j sz n X 0) : a.eval x = X := by
  obtain ⟨bs, h1⟩ := h.own hr
  have := hr.ev x
  rw [hx] at this
  simp only [DR] at this
  rw [this.1, ← subV_whole h1]
theorem sl_take {α : Type} {c : α → List T} {l : List α} {sz m : Nat} (hc : ∀ x, (c x).length = sz) (hm : m ≤ l.length) : T.a sz m (((l.flatMap c).drop (0 * sz)).take (m * sz)) = sl sz c (l.take m) := by
  simp only [Nat.zero_mul, List.drop_zero, flatMap_take hc, sl, List.length_take, Nat.min_eq_left hm]
theorem AsT.takeO {α : Type} {k : Option Nat} {c : α → List T} {l : List α} {i j b sz m : Nat} {ds : List D} {V : Value} (h : gt st i = .obj b ds) (hj : ds[j]? = some (.w (sl sz c l) V)) (hc : ∀ x, (c x).length = sz) (hm : m ≤ l.length) (hk : k ≠ some i) : AsT st true k (.al i (some j) sz m V 0) (sl sz c (l.take m)) := by
  rw [← sl_take hc hm]
  exact AsT.alop rfl h hj (by omega) hk
theorem RQ.pullT {k l b j sz n : Nat} {ds : List D} {ts : List T} {X : Value} (k' l' j0 : Nat) (h1 : k' = k) (h2 : l' = l) (h3 : j0 = j) (hkl : k ≠ l) (hk : Eng.gt st k = .obj b ds) (hj : ds[j]? = some (.al l none sz n X 0)) (hl : Eng.gt st l = .w (.a sz n ts) X)
    (h : RQ E B all rest ((st.set k (.obj b (ds.set j (.w (.a sz n ts) X)))).set l .u) K) : RQ E B all rest st K := fun F a w hr => h F a w (hr.pullT hkl hk hj hl)
end
section
variable {E : Env} {F : Nat → Prop} {B : Base E.P} {w : World} {o oj : Oper} {st : St} {K : St → Prop} {a : Act} {all rest : List Oper} {Q : Exit → St → Prop} {fc : Facts} {n i j : Nat} {ls ls' : Array Bool} {want : Bool} {d : Tmp} {dv : D}
theorem RA.firstT (ht : Tell fc st) (hc : (Region.noSelect all.toArray && Region.free .any all.toArray ls i && (Region.ready .any all.toArray ls).contains i) = true) (hl : ls.setIfInBounds i true = ls')
    (ho : all[i]? = some o) (hg : o.guard = some (j, want)) (hj : all[j]? = some oj) (hd : oj.dst = some d) (hb : Eng.gt st d = .r (.v (.bool want))) (hv : VF fc E B o st dv) (h : RA fc E B all n ls' (setD st o.dst dv) K) : RA fc E B all (n + 1) ls st K := by
  subst hl
  simp only [Bool.and_eq_true] at hc
  intro F a w hr
  refine ⟨ht.hx hr, fun Q hQ hp => ?_⟩
  obtain ⟨x, h1, h2⟩ := hv F a w hr
  have ho' : all.toArray[i]? = some o := by simpa using ho
  have hy := yielded_of hr hj hd hb
  exact wpAnyH_take ho' hc.1.1 hc.1.2 hc.2 (fun c a w hq => absurd hq (hp _ _ _)) (.inl ⟨by simp [Region.wanted, hg, hy], fun w' h => h1 w' h.1⟩) (ht.hx hr) ((h F _ w (hr.putD o.dst h2)).2 Q hQ hp)
theorem RA.firstF (ht : Tell fc st) (hc : (Region.noSelect all.toArray && Region.free .any all.toArray ls i && (Region.ready .any all.toArray ls).contains i) = true) (hl : ls.setIfInBounds i true = ls')
    (ho : all[i]? = some o) (hg : o.guard = some (j, want)) (hj : all[j]? = some oj) (hd : oj.dst = some d) (hb : Eng.gt st d = .r (.v (.bool (!want))) ∨ Eng.gt st d = .r (.v undef)) (h : RA fc E B all n ls' (setD st o.dst (.r (.v undef))) K) : RA fc E B all (n + 1) ls st K := by
  subst hl
  simp only [Bool.and_eq_true] at hc
  intro F a w hr
  refine ⟨ht.hx hr, fun Q hQ hp => ?_⟩
  have ho' : all.toArray[i]? = some o := by simpa using ho
  have hw : Region.wanted o (yielded all.toArray a.tmps) = false := by
    rcases hb with hb | hb
    · have hy := yielded_of hr hj hd hb
      cases want <;> simp [Region.wanted, hg, hy]
    · have hy := yielded_undef hr hj hd hb
      simp [Region.wanted, hg, hy]
  exact wpAnyH_take ho' hc.1.1 hc.1.2 hc.2 (fun c a w hq => absurd hq (hp _ _ _)) (.inr ⟨hw, rfl⟩) (ht.hx hr) ((h F _ w (hr.undefD o.dst)).2 Q hQ hp)
theorem RA.bool (d : Tmp) {g : Bool} (hv : Eng.gt st d = .r (.v (.bool g))) (h1 : g = true → RA fc E B all n ls (st.set d (.r (.v (.bool true)))) K) (h2 : g = false → RA fc E B all n ls (st.set d (.r (.v (.bool false)))) K) : RA fc E B all n ls st K := by
  intro F a w hr
  cases g with
  | true => exact h1 rfl F a w (hr.same hv rfl)
  | false => exact h2 rfl F a w (hr.same hv rfl)
theorem RA.one (ht : Tell fc st) (hL : Region.ready .any all.toArray ls = [i]) (hl : ls.setIfInBounds i true = ls') (ho : all[i]? = some o) (hg : o.guard = some (j, want)) (hj : all[j]? = some oj) (hd : oj.dst = some d) (hb : Eng.gt st d = .r (.v (.bool want)))
    (h : OK E B o st (fun st' => RA fc E B all n ls' st' K)) : RA fc E B all (n + 1) ls st K := by
  subst hl
  intro F a w hr
  refine ⟨ht.hx hr, fun Q hQ hp => ⟨fun h0 => absurd (hL.symm.trans h0) (by simp), fun q hq => ?_⟩⟩
  rw [hL] at hq
  obtain rfl : q = i := by simpa using hq
  unfold wpOp
  have ho' : all.toArray[q]? = some o := by simpa using ho
  rw [ho']
  have hy := yielded_of hr hj hd hb
  have hw : Region.wanted o (yielded all.toArray a.tmps) = true := by simp [Region.wanted, hg, hy]
  simp only [hw, if_true]
  exact .inl (h F a w hr _ Q (fun F' st' a' w' hk hr' => ⟨(hk F' a' w' hr').1, (hk F' a' w' hr').2 Q hQ hp⟩))
theorem RA.oneV (ht : Tell fc st) (hL : Region.ready .any all.toArray ls = [i]) (hl : ls.setIfInBounds i true = ls') (ho : all[i]? = some o) (hg : o.guard = some (j, want)) (hj : all[j]? = some oj) (hd : oj.dst = some d) (hb : Eng.gt st d = .r (.v (.bool want)))
    (hv : V E B o st dv) (h : RA fc E B all n ls' (setD st o.dst dv) K) : RA fc E B all (n + 1) ls st K := RA.one ht hL hl ho hg hj hd hb (OK.ofV hv h)
theorem RA.oneCall {f : FuncId} {xs : List Operand} {tys : Array TypeId} {as outs : List A} {res : R} (ht : Tell fc st) (hL : Region.ready .any all.toArray ls = [i]) (hl : ls.setIfInBounds i true = ls') (ho : all[i]? = some o) (hg : o.guard = some (j, want)) (hj : all[j]? = some oj) (hd : oj.dst = some d) (hb : Eng.gt st d = .r (.v (.bool want)))
    (hf : Eng.Fn E.P f as res outs) (hop : o.op = .call { callee := .value (.func f), args := xs.toArray, argTypes := tys }) (ha : AsAs st false none xs as) (h : ∀ g, RA fc E B all n ls' (setD st o.dst (rD g res)) K) : RA fc E B all (n + 1) ls st K := RA.one ht hL hl ho hg hj hd hb (OK.call hf hop ha h)
theorem CW.anyP {α : Type} {id : Nat} {l : List Oper} {y : Code} (N : Nat) (L : α → List (Nat × D)) (P : α → Prop)
    (h : ∀ K : St → Prop, (∀ v s, P v → s.n = N → Le s (L v) → K s) → RA fc E B l l.length (Array.replicate l.length false) st K)
    (h2 : ∀ v, P v → CW E B y ⟨N, L v⟩ Q) : CW E B (.seq (.region id l.toArray true) y) st Q := by
  refine CW.seq (CW.any (h (fun s => CW E B y s Q) ?_))
  intro v s hp hs hl
  exact CW.le (L v) hs hl (h2 v hp)
end
end Go.Eng
