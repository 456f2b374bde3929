import Derived.Test.YtmhnehgpmndiiaaGreatDoorEng24
import Derived.Lib.SliceRun
namespace Go.Eng
open Go Go.RowKit

section
variable {E : Env} {F : Nat → Prop} {B : Base E.P} {w : World} {o : Oper} {st : St} {K : St → Prop} {a : Act} {d : D} {all rest : List Oper} {Q : Exit → St → Prop}
theorem V.nilP {pu : Bool} {x : Operand} {k b off : Nat} (ho : o.op = .nilCheck x) (hx : ev st x = .pt k b off) : VP pu E B o st (.pt k b off) := fun F a w hr =>
  ⟨.pointer (some ⟨b, off, none⟩), fun w' hs => by simp [execOp, ho, ev_pt hr hx], by simp [DR]⟩
theorem V.nilR {pu : Bool} {x : Operand} {ts : List T} (ho : o.op = .nilCheck x) (hx : ev st x = .rp ts) : VP pu E B o st (.rp ts) := fun F a w hr => by
  obtain ⟨b, of, h1, h2, h3⟩ := ev_rp hr hx
  exact ⟨.pointer (some ⟨b, of, none⟩), fun w' hs => by simp [execOp, ho, h1], by simp only [DR]; exact ⟨⟨b, of, rfl, h2, h3⟩, trivial⟩⟩
theorem Rel.asRp (hr : Rel F B st a w) (k : Nat) {ts : List T} (hk : Eng.gt st k = .r (.f none ts)) : Rel F B (st.set k (.rp ts)) a w := by
  obtain ⟨own, hs⟩ := hr.slots
  refine ⟨hr.defers, by rw [hr.len]; simp, hr.fr, hr.Flt, hr.Fin, own, fun i d hi => ?_⟩
  by_cases hik : i = k
  · subst hik
    have hlt : i < st.length := by have := St.get_lt hi; simpa using this
    rw [St.get_set_self hlt] at hi
    cases hi
    obtain ⟨x, bs, h1, h2, h3, h4⟩ := hs i _ (gt_some hk (by simp))
    simp only [DR, RT] at h2
    obtain ⟨⟨b, o, g1, g2, g3⟩, rfl⟩ := h2
    exact ⟨x, [], h1, by simp only [DR]; exact ⟨⟨b, o, g1, g2, g3⟩, trivial⟩, by simp, by simp⟩
  · rw [St.get_set_ne (Ne.symm hik)] at hi
    exact hs i d hi
theorem CW.asRp {cd : Code} (k : Nat) {ts : List T} (hk : Eng.gt st k = .r (.f none ts)) (h : CW E B cd (st.set k (.rp ts)) Q) : CW E B cd st Q := fun F a w hr => h F a w (hr.asRp k hk)
theorem Rel.freezeB (hr : Rel F B st a w) {k b : Nat} {ds : List D} {ts : List T} (hk : Eng.gt st k = .obj b ds) (hd : DRd ds ts) : ∃ H : Nat → Prop, Rel H B (st.set k (.rp ts)) a w := by
  have hklt := getD_eq hk (by simp)
  obtain ⟨own, hs⟩ := hr.slots
  obtain ⟨x, bk, h1, h2, h3, h4⟩ := hs k _ (gt_some hk (by simp))
  simp only [DR] at h2
  obtain ⟨cs, ty, bs', rfl, h5, rfl, h6⟩ := h2
  refine ⟨fun c => F c ∨ c ∈ b :: bs', hr.defers, by rw [hr.len]; simp, hr.fr, ?_, ?_, own, ?_⟩
  · rintro c (hc | hc)
    · exact hr.Flt c hc
    · exact (h4 c hc).2.2
  · rintro c (hc | hc)
    · exact hr.Fin c hc
    · exact .inr (h4 c hc).2.1.2
  · intro i d hi
    by_cases hik : i = k
    · subst hik
      rw [St.get_set_self hklt] at hi
      cases hi
      refine ⟨_, [], h1, ?_, by simp, by simp⟩
      simp only [DR]
      exact ⟨⟨b, 0, rfl, .inr (by simp), DRd_RL h5 (fun c hc => .inl hc) ds ts 0 bs' hd (by simpa using h6) (fun c hc => .inr (by simp [hc]))⟩, trivial⟩
    · rw [St.get_set_ne (Ne.symm hik)] at hi
      obtain ⟨y, cs', f1, f2, f3, f4⟩ := hs i d hi
      refine ⟨y, cs', f1, DR_mono (fun c hc => .inl hc) _ _ _ f2, f3, fun c hc => ⟨(f4 c hc).1, ⟨?_, (f4 c hc).2.1.2⟩, (f4 c hc).2.2⟩⟩
      rintro (hf | hf)
      · exact (f4 c hc).2.1.1 hf
      · exact hik ((f4 c hc).1.symm.trans (h4 c hf).1)
theorem RW.freezeB (k : Nat) {b : Nat} {ds : List D} {ts : List T} (hk : Eng.gt st k = .obj b ds) (hd : DRd ds ts) (h : RW E B all rest (st.set k (.rp ts)) K) : RW E B all rest st K := fun F a w hr => by
  obtain ⟨H, hr'⟩ := hr.freezeB hk hd
  exact h H a w hr'
theorem DRd.e : DRd [] [] := rfl
theorem DRd.r {t : T} {ds : List D} {ts : List T} (h : DRd ds ts) : DRd (.r t :: ds) (t :: ts) := ⟨_, _, rfl, .inl rfl, h⟩
theorem DRd.n {sz : Nat} {ds : List D} {ts : List T} (h : DRd ds ts) : DRd (.r (.v (.slice none 0 0)) :: ds) (.a sz 0 [] :: ts) := ⟨_, _, rfl, .inr (.inr ⟨rfl, sz, rfl⟩), h⟩
theorem RW.moveMove {k l : Nat} (hg : o.guard = none) (ho : o.op = .move (.tmp l)) (hd : o.dst = some k) (hkl : k ≠ l) (hk : k < st.length) (hl : l < st.length) (h : RW E B all rest ((st.set k (Eng.gt st l)).set l .u) K) : RW E B all (o :: rest) st K :=
  RW.cons hg (OK.moveMove ho hd hkl hk hl h)
theorem RW.gcallOwn {oj : Oper} {j : Nat} {want : Bool} {c : Tmp} {f : FuncId} {xs : List Operand} {tys : Array TypeId} {as outs : List A} {res : R} (hg : o.guard = some (j, want)) (hj : all[j]? = some oj) (hd : oj.dst = some c) (hv : Eng.gt st c = .r (.v (.bool want)))
    (hf : Eng.Fn E.P f as res outs) (ho : o.op = .call { callee := .value (.func f), args := xs.toArray, argTypes := tys })
    (ha : AsAs st true none xs as) (hres : ownR res = true) (h : ∀ g, RW E B all rest (setD st o.dst (rD g res)) K) : RW E B all (o :: rest) st K := RW.guardT hg hj hd hv (OK.callOwn hf ho ha hres h)
end
end Go.Eng

namespace Go.Eng
open Go Go.RowKit

section
variable {E : Env} {F : Nat → Prop} {B : Base E.P} {w : World} {o : Oper} {st : St} {K : St → Prop} {a : Act} {d : D} {all rest : List Oper} {Q : Exit → St → Prop}
theorem RW.pullS (k l : Nat) {sz n : Nat} {ts : List T} {X : Value} (hkl : k ≠ l) (hk : Eng.gt st k = .al l none sz n X 0) (hl : Eng.gt st l = .w (.a sz n ts) X)
    (h : RW E B all rest ((st.set k (.w (.a sz n ts) X)).set l .u) K) : RW E B all rest st K := fun F a w hr => h F a w (hr.pull hkl hk hl)
end
end Go.Eng

namespace Go.Eng
open Go Go.RowKit

section
variable {fc : Facts} {E : Env} {F : Nat → Prop} {B : Base E.P} {w : World} {o : Oper} {st : St} {K : St → Prop} {a : Act} {d : D} {all rest : List Oper} {Q : Exit → St → Prop}
theorem Dw_congr {α : Type} {sz : Nat} {c : α → List T} {l l' : List α} {X : Value} (h : l = l') : D.w (sl sz c l) X = D.w (sl sz c l') X := by rw [h]
theorem RO.alloc {nn i' : Nat} {ls ls' : Array Bool} {t : TypeId} {i : TyI} {ds : List D} (hA : all[i']? = some o) (hg : o.guard = none) (hL : ls.setIfInBounds i' true = ls') (ho : o.op = .alloc t) (ht : E.tabs t = some i) (hz : (i.zero.map fun v => D.r (.v v)) = ds) (h : ∀ b, RA fc E B all nn ls' (setD st o.dst (.obj b ds)) K) : RO fc E B all nn ls st K i' :=
  ⟨o, hA, hg, by subst hL; exact (OK.alloc ho ht (fun b => by rw [hz]; exact h b))⟩
theorem RO.box {nn i' : Nat} {ls ls' : Array Bool} {t : TypeId} {x : Operand} {ds : List D} (hA : all[i']? = some o) (hg : o.guard = none) (hL : ls.setIfInBounds i' true = ls') (ho : o.op = .box t x) (hx : ev st x = .agg ds) (h : ∀ b, RA fc E B all nn ls' (setD st o.dst (.obj b ds)) K) : RO fc E B all nn ls st K i' :=
  ⟨o, hA, hg, by subst hL; exact (OK.boxAgg ho hx h)⟩
theorem RO.store {nn i' : Nat} {ls ls' : Array Bool} {t : TypeId} {x y : Operand} {i : TyI} {k b off : Nat} {ds : List D} {d : D} (hA : all[i']? = some o) (hg : o.guard = none) (hL : ls.setIfInBounds i' true = ls') (ho : o.op = .store t x y) (hdst : o.dst = none) (ht : E.tabs t = some i) (hs : i.sz = 1)
    (hx : ev st x = .pt k b off) (hk : Eng.gt st k = .obj b ds) (hl : off < ds.length) (hd : ev st y = d) (hy : one1 d = true) (h : RA fc E B all nn ls' (st.set k (.obj b (ds.set off d))) K) : RO fc E B all nn ls st K i' :=
  ⟨o, hA, hg, by subst hL; exact (OK.store ho hdst ht hs hx hk hl (by rw [hd]; exact hy) (by rw [hd]; exact h))⟩
theorem RO.storeAgg {nn i' : Nat} {ls ls' : Array Bool} {t : TypeId} {x y : Operand} {i : TyI} {k b off : Nat} {ds es : List D} (hA : all[i']? = some o) (hg : o.guard = none) (hL : ls.setIfInBounds i' true = ls') (ho : o.op = .store t x y) (hdst : o.dst = none) (ht : E.tabs t = some i)
    (hx : ev st x = .pt k b off) (hk : Eng.gt st k = .obj b ds) (hy : ev st y = .agg es) (he : es.length = i.sz) (hl : off + i.sz ≤ ds.length) (ho1 : es.all one1 = true) (h : RA fc E B all nn ls' (st.set k (.obj b (setN ds off es))) K) : RO fc E B all nn ls st K i' :=
  ⟨o, hA, hg, by subst hL; exact (OK.storeAgg ho hdst ht hx hk hy he hl ho1 h)⟩
theorem RO.assignMove {nn i' : Nat} {ls ls' : Array Bool} {k l : Nat} (hA : all[i']? = some o) (hg : o.guard = none) (hL : ls.setIfInBounds i' true = ls') (ho : o.op = .assign (.tmp l)) (hd : o.dst = some k) (hkl : k ≠ l) (hk : k < st.length) (hl : l < st.length) (h : RA fc E B all nn ls' ((st.set k (Eng.gt st l)).set l .u) K) : RO fc E B all nn ls st K i' :=
  ⟨o, hA, hg, by subst hL; exact (OK.assignMove ho hd hkl hk hl h)⟩
theorem RO.extract {nn i' : Nat} {ls ls' : Array Bool} {k l i : Nat} {ds : List D} {d : D} (hA : all[i']? = some o) (hg : o.guard = none) (hL : ls.setIfInBounds i' true = ls') (ho : o.op = .extract (.tmp l) i) (hd : o.dst = some k) (hkl : k ≠ l) (hk : k < st.length) (hl : Eng.gt st l = .tup ds) (hi : ds[i]? = some d)
    (h : RA fc E B all nn ls' ((st.set k d).set l (.tup (ds.set i .u))) K) : RO fc E B all nn ls st K i' := ⟨o, hA, hg, by subst hL; exact (OK.extract ho hd hkl hk hl hi h)⟩
theorem RO.build0 {nn i' : Nat} {ls ls' : Array Bool} {α : Type} {t e : TypeId} {i ie : TyI} (c : α → List T) (hA : all[i']? = some o) (hg : o.guard = none) (hL : ls.setIfInBounds i' true = ls') (ho : o.op = .buildSlice t 0 #[]) (ht : E.tabs t = some i) (he : i.td = .slice e) (hte : E.tabs e = some ie)
    (h : ∀ X, RA fc E B all nn ls' (setD st o.dst (.w (sl ie.sz c []) X)) K) : RO fc E B all nn ls st K i' := ⟨o, hA, hg, by subst hL; exact (OK.build0 c ho ht he hte h)⟩
theorem RO.build1c {nn i' : Nat} {ls ls' : Array Bool} {α : Type} {t e : TypeId} {x : Operand} {i ie : TyI} {c : α → List T} {v : α} {u : T} (hA : all[i']? = some o) (hg : o.guard = none) (hL : ls.setIfInBounds i' true = ls') (ho : o.op = .buildSlice t 1 #[(0, x)]) (ht : E.tabs t = some i) (he : i.td = .slice e) (hte : E.tabs e = some ie)
    (h1 : one1 (ev st x) = true) (hw : DT1 (ev st x) (.w u)) (hu : c v = [u]) (hsz : ie.sz = 1) (h : ∀ X, RA fc E B all nn ls' (setD st o.dst (.w (sl ie.sz c [v]) X)) K) : RO fc E B all nn ls st K i' := ⟨o, hA, hg, by subst hL; exact (OK.build1c ho ht he hte h1 hw hu hsz h)⟩
theorem RO.appendSR {nn i' : Nat} {ls ls' : Array Bool} {α : Type} {t e : TypeId} {x y : Operand} {i ie : TyI} {c : α → List T} {l1 l2 : List α} {X : Value} {k m : Nat} (hA : all[i']? = some o) (hg : o.guard = none) (hL : ls.setIfInBounds i' true = ls') (ho : o.op = .call { callee := .builtin .append, args := #[x, y], argTypes := #[t, t] }) (hd : o.dst = some m) (ht : E.tabs t = some i) (he : i.td = .slice e) (hte : E.tabs e = some ie)
    (hx : ev st x = .al k none ie.sz l1.length X 0) (hk : Eng.gt st k = .w (sl ie.sz c l1) X) (hy : AsT st true none (ev st y) (sl ie.sz c l2)) (hmk : m ≠ k) (hm : m < st.length)
    (hc : ∀ x, (c x).length = ie.sz) (hone : ∀ x, (c x).all tval = true) (hz0 : ie.zero.length = ie.sz) (hn : l1.length + l2.length ≤ maxLen) (hb : (l1.length + l2.length) * ie.bytes ≤ 140737488355328)
    (h : ∀ X', RA fc E B all nn ls' ((st.set m (.w (sl ie.sz c (l1 ++ l2)) X')).set k .u) K) : RO fc E B all nn ls st K i' := ⟨o, hA, hg, by subst hL; exact (OK.appendSR ho hd ht he hte hx hk hy hmk hm hc hone hz0 hn hb h)⟩
theorem RO.callW {nn i' : Nat} {ls ls' : Array Bool} {f : FuncId} {xs : List Operand} {tys : Array TypeId} {as outs : List A} {res : R} {k : Nat} {d' : (Nat → Value) → D} (hf : Fn E.P f as res outs) (hA : all[i']? = some o) (hg : o.guard = none) (hL : ls.setIfInBounds i' true = ls') (ho : o.op = .call { callee := .value (.func f), args := xs.toArray, argTypes := tys })
    (hk : k < st.length) (hd : o.dst ≠ some k) (ha : AsWs st k d' xs as outs) (hres : ownR res = true) (h : ∀ g g', RA fc E B all nn ls' (setD (st.set k (d' g')) o.dst (rD g res)) K) : RO fc E B all nn ls st K i' := ⟨o, hA, hg, by subst hL; exact (OK.callW hf ho hk hd ha hres h)⟩
theorem RO.moveMove {nn i' : Nat} {ls ls' : Array Bool} {k l : Nat} (hA : all[i']? = some o) (hg : o.guard = none) (hL : ls.setIfInBounds i' true = ls') (ho : o.op = .move (.tmp l)) (hd : o.dst = some k) (hkl : k ≠ l) (hk : k < st.length) (hl : l < st.length) (h : RA fc E B all nn ls' ((st.set k (Eng.gt st l)).set l .u) K) : RO fc E B all nn ls st K i' :=
  ⟨o, hA, hg, by subst hL; exact (OK.moveMove ho hd hkl hk hl h)⟩
end
end Go.Eng

namespace Go.Eng
open Go Go.RowKit

section
variable {fc : Facts} {E : Env} {F : Nat → Prop} {B : Base E.P} {w : World} {o : Oper} {st : St} {K : St → Prop} {a : Act} {d : D} {all rest : List Oper} {Q : Exit → St → Prop} {n : Nat} {ls : Array Bool}
theorem RA.le {m : Nat} (l : List (Nat × D)) (hm : st.n = m) (h : Le st l) (hc : RA fc E B all n ls ⟨m, l⟩ K) : RA fc E B all n ls st K := fun F a w hr => hc F a w (hr.le hm h)
theorem RA.to {l : List Oper} (h : all = l) (hr : RA fc E B all n ls st K) : RA fc E B l n ls st K := h ▸ hr
theorem RA.of {l : List Oper} (h : all = l) (hr : RA fc E B l n ls st K) : RA fc E B all n ls st K := h ▸ hr
theorem RA.start {l : List Oper} {m : Nat} {ls' : Array Bool} (h1 : l.length = m) (h2 : Array.replicate l.length false = ls') (h : RA fc E B all m ls' st K) : RA fc E B all l.length (Array.replicate l.length false) st K := by
  subst h1 h2
  exact h
theorem CW.anyJ {α : Type} {id : Nat} {l : List Oper} {y : Code} (N : Nat) (L : α → List (Nat × D))
    (h : ∀ (all : List Oper), all = l → ∀ K : St → Prop, (∀ v s, s.n = N → Le s (L v) → K s) → RA fc E B all l.length (Array.replicate l.length false) st K)
    (h2 : ∀ v, CW E B y ⟨N, L v⟩ Q) : CW E B (.seq (.region id l.toArray true) y) st Q := by
  refine CW.seq (CW.any (h l rfl _ (fun v s hs hl => ?_)))
  exact CW.le (L v) hs hl (h2 v)
end
end Go.Eng

namespace Go.Eng
open Go Go.RowKit

section
variable {fc : Facts} {E : Env} {F : Nat → Prop} {B : Base E.P} {w : World} {o : Oper} {st : St} {K : St → Prop} {a : Act} {d : D} {all rest : List Oper} {Q : Exit → St → Prop} {fu : Nat} {ls : Array Bool}
theorem RA.pullT {k l b j sz n : Nat} {ds : List D} {ts : List T} {X : Value} (k' l' j0 : Nat) (h1 : k' = k) (h2 : l' = l) (h3 : j0 = j) (hkl : k ≠ l) (hk : gt st k = .obj b ds) (hj : ds[j]? = some (.al l none sz n X 0)) (hl : gt st l = .w (.a sz n ts) X)
    (h : RA fc E B all fu ls ((st.set k (.obj b (ds.set j (.w (.a sz n ts) X)))).set l .u) K) : RA fc E B all fu ls st K := fun F a w hr => h F a w (hr.pullT hkl hk hj hl)
theorem RA.pullO {k l b b' j j' sz n : Nat} {ds es : List D} {ts : List T} {X : Value} (k' l' j0 : Nat) (h1 : k' = k) (h2 : l' = l) (h3 : j0 = j) (hkl : k ≠ l) (hk : gt st k = .obj b ds) (hj : ds[j]? = some (.al l (some j') sz n X 0)) (hl : gt st l = .obj b' es)
    (hj' : es[j']? = some (.w (.a sz n ts) X)) (h : RA fc E B all fu ls ((st.set k (.obj b (ds.set j (.w (.a sz n ts) X)))).set l (.obj b' (es.set j' .u))) K) : RA fc E B all fu ls st K := fun F a w hr => h F a w (hr.pullO hkl hk hj hl hj')
theorem RA.pullA {k l b j j' sz n : Nat} {ds es : List D} {ts : List T} {X : Value} (k' l' j0 : Nat) (h1 : k' = k) (h2 : l' = l) (h3 : j0 = j) (hkl : k ≠ l) (hk : gt st k = .obj b ds) (hj : ds[j]? = some (.al l (some j') sz n X 0)) (hl : gt st l = .agg es)
    (hj' : es[j']? = some (.w (.a sz n ts) X)) (h : RA fc E B all fu ls ((st.set k (.obj b (ds.set j (.w (.a sz n ts) X)))).set l (.agg (es.set j' .u))) K) : RA fc E B all fu ls st K := fun F a w hr => h F a w (hr.pullA hkl hk hj hl hj')

theorem RA.freezeB (k : Nat) {b : Nat} {ds : List D} {ts : List T} (hk : Eng.gt st k = .obj b ds) (hd : DRd ds ts) (h : RA fc E B all fu ls (st.set k (.rp ts)) K) : RA fc E B all fu ls st K := fun F a w hr => by
  obtain ⟨H, hr'⟩ := hr.freezeB hk hd
  exact h H a w hr'
theorem RA.pullS (k l : Nat) {sz n : Nat} {ts : List T} {X : Value} (hkl : k ≠ l) (hk : Eng.gt st k = .al l none sz n X 0) (hl : Eng.gt st l = .w (.a sz n ts) X)
    (h : RA fc E B all fu ls ((st.set k (.w (.a sz n ts) X)).set l .u) K) : RA fc E B all fu ls st K := fun F a w hr => h F a w (hr.pull hkl hk hl)
theorem RO.pullT {q : Nat} {k l b j sz n : Nat} {ds : List D} {ts : List T} {X : Value} (k' l' j0 : Nat) (h1 : k' = k) (h2 : l' = l) (h3 : j0 = j) (hkl : k ≠ l) (hk : gt st k = .obj b ds) (hj : ds[j]? = some (.al l none sz n X 0)) (hl : gt st l = .w (.a sz n ts) X)
    (h : RO fc E B all fu ls ((st.set k (.obj b (ds.set j (.w (.a sz n ts) X)))).set l .u) K q) : RO fc E B all fu ls st K q := by
  obtain ⟨o, g1, g2, g3⟩ := h
  exact ⟨o, g1, g2, fun F a w hr => g3 F a w (hr.pullT hkl hk hj hl)⟩
theorem RO.pullO {q : Nat} {k l b b' j j' sz n : Nat} {ds es : List D} {ts : List T} {X : Value} (k' l' j0 : Nat) (h1 : k' = k) (h2 : l' = l) (h3 : j0 = j) (hkl : k ≠ l) (hk : gt st k = .obj b ds) (hj : ds[j]? = some (.al l (some j') sz n X 0)) (hl : gt st l = .obj b' es)
    (hj' : es[j']? = some (.w (.a sz n ts) X)) (h : RO fc E B all fu ls ((st.set k (.obj b (ds.set j (.w (.a sz n ts) X)))).set l (.obj b' (es.set j' .u))) K q) : RO fc E B all fu ls st K q := by
  obtain ⟨o, g1, g2, g3⟩ := h
  exact ⟨o, g1, g2, fun F a w hr => g3 F a w (hr.pullO hkl hk hj hl hj')⟩
theorem RO.pullA {q : Nat} {k l b j j' sz n : Nat} {ds es : List D} {ts : List T} {X : Value} (k' l' j0 : Nat) (h1 : k' = k) (h2 : l' = l) (h3 : j0 = j) (hkl : k ≠ l) (hk : gt st k = .obj b ds) (hj : ds[j]? = some (.al l (some j') sz n X 0)) (hl : gt st l = .agg es)
    (hj' : es[j']? = some (.w (.a sz n ts) X)) (h : RO fc E B all fu ls ((st.set k (.obj b (ds.set j (.w (.a sz n ts) X)))).set l (.agg (es.set j' .u))) K q) : RO fc E B all fu ls st K q := by
  obtain ⟨o, g1, g2, g3⟩ := h
  exact ⟨o, g1, g2, fun F a w hr => g3 F a w (hr.pullA hkl hk hj hl hj')⟩
theorem RO.freezeB {q : Nat} (k : Nat) {b : Nat} {ds : List D} {ts : List T} (hk : Eng.gt st k = .obj b ds) (hd : DRd ds ts) (h : RO fc E B all fu ls (st.set k (.rp ts)) K q) : RO fc E B all fu ls st K q := by
  obtain ⟨o, h1, h2, h3⟩ := h
  exact ⟨o, h1, h2, fun F a w hr => by
    obtain ⟨H, hr'⟩ := hr.freezeB hk hd
    exact h3 H a w hr'⟩
theorem RO.pullS {q : Nat} (k l : Nat) {sz n : Nat} {ts : List T} {X : Value} (hkl : k ≠ l) (hk : Eng.gt st k = .al l none sz n X 0) (hl : Eng.gt st l = .w (.a sz n ts) X)
    (h : RO fc E B all fu ls ((st.set k (.w (.a sz n ts) X)).set l .u) K q) : RO fc E B all fu ls st K q := by
  obtain ⟨o, h1, h2, h3⟩ := h
  exact ⟨o, h1, h2, fun F a w hr => h3 F a w (hr.pull hkl hk hl)⟩
end
end Go.Eng

namespace Go.Eng
open Go Go.RowKit

section
variable {fc : Facts} {E : Env} {F : Nat → Prop} {B : Base E.P} {w : World} {o : Oper} {st : St} {K : St → Prop} {a : Act} {d : D} {all rest : List Oper} {Q : Exit → St → Prop} {fu : Nat} {ls : Array Bool}
theorem Le.of {s : St} : ∀ {l : List (Nat × D)}, l.map (fun p => Eng.gt s p.1) = l.map Prod.snd → Le s l
  | [], _ => trivial
  | (k, d) :: l, h => by
    simp only [List.map_cons, List.cons.injEq] at h
    exact ⟨h.1, Le.of h.2⟩
theorem V.minI {pu : Bool} {t u : TypeId} {x y : Operand} {p q : Int} (ho : o.op = .call { callee := .builtin .min, args := #[x, y], argTypes := #[t, u] }) (hx : ev st x = .r (.v (.int .i64 p))) (hy : ev st y = .r (.v (.int .i64 q))) : VP pu E B o st (.r (.v (.int .i64 (if q < p then q else p)))) := fun F ac w hr =>
  ⟨.int .i64 (if q < p then q else p), fun w' hs => by
    simp [execOp, ho, resolve, invoke, builtin, ev_scalar hr hx, ev_scalar hr hy, Builtin.min_, Builtin.min2], by simp [DR, RT]⟩
end
section
variable {E : Env} {st : St} {g : Nat → Nat → Value} {bo : Nat → Nat} {as outs : List A}
theorem AOs.obE {α : Type} {f : α → List C} {i : Nat} {cs : List C} {ds : List D} {e' e : α} {as outs : List A} (hk : gt st i = .obj (bo i) ds) (hd : DT ds (f e')) (h : e' = e) (hs : AOs st g bo (i + 1) as outs) : AOs st g bo i (.ob cs :: as) (.ob (f e) :: outs) := by
  subst h
  exact AOs.ob (b := 0) hk hd hs
end
end Go.Eng

namespace Go.Eng
open Go Go.RowKit
def andI (a b : Int) : Int := IntKind.i64.wrap ((BitVec.ofInt 64 a &&& BitVec.ofInt 64 b).toNat : Int)
def orI (a b : Int) : Int := IntKind.i64.wrap ((BitVec.ofInt 64 a ||| BitVec.ofInt 64 b).toNat : Int)
def xorI (a b : Int) : Int := IntKind.i64.wrap ((BitVec.ofInt 64 a ^^^ BitVec.ofInt 64 b).toNat : Int)
def shlI (a n : Int) : Int := IntKind.i64.wrap (a * 2 ^ (min n.toNat 64))
def shrI (a n : Int) : Int := a.fdiv (2 ^ (min n.toNat 64))
def bitI : BinOp → Int → Int → Option Int
  | .and, a, b => some (andI a b)
  | .or, a, b => some (orI a b)
  | .xor, a, b => some (xorI a b)
  | _, _, _ => none
section
variable {E : Env} {B : Base E.P} {st : St} {o : Oper}
theorem V.bits {pu : Bool} {op : BinOp} {t u : TypeId} {x y : Operand} {p q r : Int} (ho : o.op = .binOp op t x y u) (hx : ev st x = .r (.v (.int .i64 p))) (hy : ev st y = .r (.v (.int .i64 q)))
    (hc : bitI op p q = some r) : VP pu E B o st (.r (.v (.int .i64 r))) := fun F a w hr =>
  ⟨.int .i64 r, fun w' hs => by
    cases op <;> simp only [bitI, Option.some.injEq, reduceCtorEq] at hc <;> subst hc <;> simp [execOp, ho, ev_scalar hr hx, ev_scalar hr hy, eqGuard, binOp, Op.intBits, andI, orI, xorI] <;> rfl, by simp [DR, RT]⟩
theorem V.shl {pu : Bool} {t u : TypeId} {x y : Operand} {k : IntKind} {p q : Int} (ho : o.op = .binOp .shl t x y u) (hx : ev st x = .r (.v (.int .i64 p))) (hy : ev st y = .r (.v (.int k q)))
    (hn : 0 ≤ q) : VP pu E B o st (.r (.v (.int .i64 (shlI p q)))) := fun F a w hr =>
  ⟨.int .i64 (shlI p q), fun w' hs => by
    have h0 : ¬ q < 0 := by omega
    simp [execOp, ho, ev_scalar hr hx, ev_scalar hr hy, eqGuard, binOp, Op.shift, h0, shlI] <;> rfl, by simp [DR, RT]⟩
theorem V.shr {pu : Bool} {t u : TypeId} {x y : Operand} {k : IntKind} {p q : Int} (ho : o.op = .binOp .shr t x y u) (hx : ev st x = .r (.v (.int .i64 p))) (hy : ev st y = .r (.v (.int k q)))
    (hn : 0 ≤ q) : VP pu E B o st (.r (.v (.int .i64 (shrI p q)))) := fun F a w hr =>
  ⟨.int .i64 (shrI p q), fun w' hs => by
    have h0 : ¬ q < 0 := by omega
    simp [execOp, ho, ev_scalar hr hx, ev_scalar hr hy, eqGuard, binOp, Op.shift, h0, shrI] <;> rfl, by simp [DR, RT]⟩
theorem V.neg {pu : Bool} {t : TypeId} {x : Operand} {p : Int} (ho : o.op = .unOp .neg t x) (hx : ev st x = .r (.v (.int .i64 p))) : VP pu E B o st (.r (.v (.int .i64 (IntKind.i64.wrap (0 - p))))) := fun F a w hr =>
  ⟨.int .i64 (IntKind.i64.wrap (0 - p)), fun w' hs => by simp [execOp, ho, ev_scalar hr hx, Op.unary, Op.intArith], by simp [DR, RT]⟩
def mnI (p q : Int) : Int := if q < p then q else p
theorem V.min2I {pu : Bool} {t u : TypeId} {x y : Operand} {p q : Int} (ho : o.op = .call { callee := .builtin .min, args := #[x, y], argTypes := #[t, u] }) (hx : ev st x = .r (.v (.int .i64 p))) (hy : ev st y = .r (.v (.int .i64 q))) : VP pu E B o st (.r (.v (.int .i64 (mnI p q)))) := V.minI ho hx hy
theorem V.strSlice {pu : Bool} {t : TypeId} {x : Operand} {lo hi : Option Operand} {s : ByteArray} {l h : Int} (ho : o.op = .slice t x lo hi none) (ht : E.P.underlying t = some .string)
    (hx : ev st x = .r (.v (.string s))) (hlo : (lo = none ∧ l = 0) ∨ ∃ y k, lo = some y ∧ ev st y = .r (.v (.int k l))) (hhi : (hi = none ∧ h = s.size) ∨ ∃ y k, hi = some y ∧ ev st y = .r (.v (.int k h)))
    (hb : 0 ≤ l ∧ l ≤ h ∧ h ≤ s.size) : VP pu E B o st (.r (.v (.string (s.extract l.toNat h.toNat)))) := fun F a w hr => by
  obtain ⟨h0, h1, h2⟩ := hb
  have q1 : 0 ≤ h := by omega
  have q2 : (h.toNat : Int) = h := Int.toNat_of_nonneg q1
  refine ⟨.string (s.extract l.toNat h.toNat), fun w' hs => ?_, by simp [DR, RT]⟩
  rcases hhi with ⟨rfl, rfl⟩ | ⟨y, k, rfl, hy⟩ <;> rcases hlo with ⟨rfl, rfl⟩ | ⟨z, k', rfl, hz⟩
  · simp [execOp, ho, ev_scalar hr hx, Instr.sliceAt, run_underlying ht, Instr.slice, Sem.run_bind, Instr.sliceBounds]
  · simp [execOp, ho, ev_scalar hr hx, Instr.sliceAt, run_underlying ht, Instr.slice, Sem.run_bind, Instr.sliceBounds, ev_scalar hr hz, run_sliceBound w' k' l s.size .sliceB h0 (by omega)]
  · simp [execOp, ho, ev_scalar hr hx, Instr.sliceAt, run_underlying ht, Instr.slice, Sem.run_bind, Instr.sliceBounds, ev_scalar hr hy, run_sliceBound w' k h s.size .sliceAlen q1 (by omega)]
  · simp [execOp, ho, ev_scalar hr hx, Instr.sliceAt, run_underlying ht, Instr.slice, Sem.run_bind, Instr.sliceBounds, ev_scalar hr hy, ev_scalar hr hz, run_sliceBound w' k h s.size .sliceAlen q1 (by omega), run_sliceBound w' k' l h.toNat .sliceB h0 (by omega)]
end
section
variable {E : Env} {B : Base E.P} {st : St}
theorem RV.p {α : Type} {k b : Nat} {f : α → List C} {ds : List D} {e' e : α} (hk : gt st k = .obj b ds) (hd : DT ds (f e')) (h : e' = e) : RV E st (.tmp k) (.ob (f e)) := by
  subst h
  exact ⟨b, ds, hk, hd⟩
end
end Go.Eng
