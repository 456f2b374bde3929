import Derived.Test.YtmhnehgpmndiiaaDoorEng28
namespace Go.Eng
open Go Go.RowKit

section
variable {fc : Facts} {E : Env} {F : Nat → Prop} {B : Base E.P} {w : World} {o : Oper} {st : St} {K : St → Prop} {a : Act} {d : D} {all rest : List Oper} {Q : Exit → St → Prop}
theorem Dw_congr {α : Type} {sz : Nat} {c : α → List T} {l l' : List α} {X : Value} (h : l = l') : D.w (sl sz c l) X = D.w (sl sz c l') X := by rw [h]
theorem RO.alloc {nn i' : Nat} {ls ls' : Array Bool} {t : TypeId} {i : TyI} {ds : List D} (hA : all[i']? = some o) (hg : o.guard = none) (hL : ls.setIfInBounds i' true = ls') (ho : o.op = .alloc t) (ht : E.tabs t = some i) (hz : (i.zero.map fun v => D.r (.v v)) = ds) (h : ∀ b, RA fc E B all nn ls' (setD st o.dst (.obj b ds)) K) : RO fc E B all nn ls st K i' :=
  ⟨o, hA, hg, by subst hL; exact (OK.alloc ho ht (fun b => by rw [hz]; exact h b))⟩
theorem RO.box {nn i' : Nat} {ls ls' : Array Bool} {t : TypeId} {x : Operand} {ds : List D} (hA : all[i']? = some o) (hg : o.guard = none) (hL : ls.setIfInBounds i' true = ls') (ho : o.op = .box t x) (hx : ev st x = .agg ds) (h : ∀ b, RA fc E B all nn ls' (setD st o.dst (.obj b ds)) K) : RO fc E B all nn ls st K i' :=
  ⟨o, hA, hg, by subst hL; exact (OK.boxAgg ho hx h)⟩
theorem RO.store {nn i' : Nat} {ls ls' : Array Bool} {t : TypeId} {x y : Operand} {i : TyI} {k b off : Nat} {ds : List D} {d : D} (hA : all[i']? = some o) (hg : o.guard = none) (hL : ls.setIfInBounds i' true = ls') (ho : o.op = .store t x y) (hdst : o.dst = none) (ht : E.tabs t = some i) (hs : i.sz = 1)
    (hx : ev st x = .pt k b off) (hk : Eng.gt st k = .obj b ds) (hl : off < ds.length) (hd : ev st y = d) (hy : one1 d = true) (h : RA fc E B all nn ls' (st.set k (.obj b (ds.set off d))) K) : RO fc E B all nn ls st K i' :=
  ⟨o, hA, hg, by subst hL; exact (OK.store ho hdst ht hs hx hk hl (by rw [hd]; exact hy) (by rw [hd]; exact h))⟩
theorem RO.storeAgg {nn i' : Nat} {ls ls' : Array Bool} {t : TypeId} {x y : Operand} {i : TyI} {k b off : Nat} {ds es : List D} (hA : all[i']? = some o) (hg : o.guard = none) (hL : ls.setIfInBounds i' true = ls') (ho : o.op = .store t x y) (hdst : o.dst = none) (ht : E.tabs t = some i)
    (hx : ev st x = .pt k b off) (hk : Eng.gt st k = .obj b ds) (hy : ev st y = .agg es) (he : es.length = i.sz) (hl : off + i.sz ≤ ds.length) (ho1 : es.all one1 = true) (h : RA fc E B all nn ls' (st.set k (.obj b (setN ds off es))) K) : RO fc E B all nn ls st K i' :=
  ⟨o, hA, hg, by subst hL; exact (OK.storeAgg ho hdst ht hx hk hy he hl ho1 h)⟩
theorem RO.assignMove {nn i' : Nat} {ls ls' : Array Bool} {k l : Nat} (hA : all[i']? = some o) (hg : o.guard = none) (hL : ls.setIfInBounds i' true = ls') (ho : o.op = .assign (.tmp l)) (hd : o.dst = some k) (hkl : k ≠ l) (hk : k < st.length) (hl : l < st.length) (h : RA fc E B all nn ls' ((st.set k (Eng.gt st l)).set l .u) K) : RO fc E B all nn ls st K i' :=
  ⟨o, hA, hg, by subst hL; exact (OK.assignMove ho hd hkl hk hl h)⟩
theorem RO.extract {nn i' : Nat} {ls ls' : Array Bool} {k l i : Nat} {ds : List D} {d : D} (hA : all[i']? = some o) (hg : o.guard = none) (hL : ls.setIfInBounds i' true = ls') (ho : o.op = .extract (.tmp l) i) (hd : o.dst = some k) (hkl : k ≠ l) (hk : k < st.length) (hl : Eng.gt st l = .tup ds) (hi : ds[i]? = some d)
    (h : RA fc E B all nn ls' ((st.set k d).set l (.tup (ds.set i .u))) K) : RO fc E B all nn ls st K i' := ⟨o, hA, hg, by subst hL; exact (OK.extract ho hd hkl hk hl hi h)⟩
theorem RO.build0 {nn i' : Nat} {ls ls' : Array Bool} {α : Type} {t e : TypeId} {i ie : TyI} (c : α → List T) (hA : all[i']? = some o) (hg : o.guard = none) (hL : ls.setIfInBounds i' true = ls') (ho : o.op = .buildSlice t 0 #[]) (ht : E.tabs t = some i) (he : i.td = .slice e) (hte : E.tabs e = some ie)
    (h : ∀ X, RA fc E B all nn ls' (setD st o.dst (.w (sl ie.sz c []) X)) K) : RO fc E B all nn ls st K i' := ⟨o, hA, hg, by subst hL; exact (OK.build0 c ho ht he hte h)⟩
theorem RO.build1 {nn i' : Nat} {ls ls' : Array Bool} {α : Type} {t e : TypeId} {x : Operand} {i ie : TyI} {c : α → List T} {v : α} {es : List D} (hA : all[i']? = some o) (hg : o.guard = none) (hL : ls.setIfInBounds i' true = ls') (ho : o.op = .buildSlice t 1 #[(0, x)]) (ht : E.tabs t = some i) (he : i.td = .slice e) (hte : E.tabs e = some ie)
    (hx : ev st x = .agg es) (hw : DW es (c v)) (hc : ∀ x, (c x).length = ie.sz) (hp : ie.sz ≠ 0) (hsm : ie.sz ≤ 1000) (h : ∀ X, RA fc E B all nn ls' (setD st o.dst (.w (sl ie.sz c [v]) X)) K) : RO fc E B all nn ls st K i' :=
  ⟨o, hA, hg, by subst hL; exact (OK.build1 ho ht he hte hx hw hc hp hsm h)⟩
theorem RO.build1c {nn i' : Nat} {ls ls' : Array Bool} {α : Type} {t e : TypeId} {x : Operand} {i ie : TyI} {c : α → List T} {v : α} {u : T} (hA : all[i']? = some o) (hg : o.guard = none) (hL : ls.setIfInBounds i' true = ls') (ho : o.op = .buildSlice t 1 #[(0, x)]) (ht : E.tabs t = some i) (he : i.td = .slice e) (hte : E.tabs e = some ie)
    (h1 : one1 (ev st x) = true) (hw : DT1 (ev st x) (.w u)) (hu : c v = [u]) (hsz : ie.sz = 1) (h : ∀ X, RA fc E B all nn ls' (setD st o.dst (.w (sl ie.sz c [v]) X)) K) : RO fc E B all nn ls st K i' := ⟨o, hA, hg, by subst hL; exact (OK.build1c ho ht he hte h1 hw hu hsz h)⟩
theorem RO.appendSR {nn i' : Nat} {ls ls' : Array Bool} {α : Type} {t e : TypeId} {x y : Operand} {i ie : TyI} {c : α → List T} {l1 l2 : List α} {X : Value} {k m : Nat} (hA : all[i']? = some o) (hg : o.guard = none) (hL : ls.setIfInBounds i' true = ls') (ho : o.op = .call { callee := .builtin .append, args := #[x, y], argTypes := #[t, t] }) (hd : o.dst = some m) (ht : E.tabs t = some i) (he : i.td = .slice e) (hte : E.tabs e = some ie)
    (hx : ev st x = .al k none ie.sz l1.length X 0) (hk : Eng.gt st k = .w (sl ie.sz c l1) X) (hy : AsT st true none (ev st y) (sl ie.sz c l2)) (hmk : m ≠ k) (hm : m < st.length)
    (hc : ∀ x, (c x).length = ie.sz) (hone : ∀ x, (c x).all tval = true) (hz0 : ie.zero.length = ie.sz) (hn : l1.length + l2.length ≤ maxLen) (hb : (l1.length + l2.length) * ie.bytes ≤ 140737488355328)
    (h : ∀ X', RA fc E B all nn ls' ((st.set m (.w (sl ie.sz c (l1 ++ l2)) X')).set k .u) K) : RO fc E B all nn ls st K i' := ⟨o, hA, hg, by subst hL; exact (OK.appendSR ho hd ht he hte hx hk hy hmk hm hc hone hz0 hn hb h)⟩
theorem RO.callW {nn i' : Nat} {ls ls' : Array Bool} {f : FuncId} {xs : List Operand} {tys : Array TypeId} {as outs : List A} {res : R} {k : Nat} {d' : (Nat → Value) → D} (hf : Fn E.P f as res outs) (hA : all[i']? = some o) (hg : o.guard = none) (hL : ls.setIfInBounds i' true = ls') (ho : o.op = .call { callee := .value (.func f), args := xs.toArray, argTypes := tys })
    (hk : k < st.length) (hd : o.dst ≠ some k) (ha : AsWs st k d' xs as outs) (hres : ownR res = true) (h : ∀ g g', RA fc E B all nn ls' (setD (st.set k (d' g')) o.dst (rD g res)) K) : RO fc E B all nn ls st K i' := ⟨o, hA, hg, by subst hL; exact (OK.callW hf ho hk hd ha hres h)⟩
theorem RO.moveMove {nn i' : Nat} {ls ls' : Array Bool} {k l : Nat} (hA : all[i']? = some o) (hg : o.guard = none) (hL : ls.setIfInBounds i' true = ls') (ho : o.op = .move (.tmp l)) (hd : o.dst = some k) (hkl : k ≠ l) (hk : k < st.length) (hl : l < st.length) (h : RA fc E B all nn ls' ((st.set k (Eng.gt st l)).set l .u) K) : RO fc E B all nn ls st K i' :=
  ⟨o, hA, hg, by subst hL; exact (OK.moveMove ho hd hkl hk hl h)⟩
end
end Go.Eng
