import Derived.Test.YtmhnehgpmndiiaaDoorEng21
namespace Go.Eng
open Go Go.RowKit

section
variable {E : Env} {F : Nat → Prop} {B : Base E.P} {w : World} {o : Oper} {st : St} {K : St → Prop} {a : Act} {d : D} {all rest : List Oper}
theorem flatMap_setOne {α : Type} {sz : Nat} {c : α → List T} (hc : ∀ x, (c x).length = sz) : ∀ (l : List α) (m off : Nat) (v v' : α) (u : T), l[m]? = some v → off < sz → (c v).set off u = c v' → (l.flatMap c).set (m * sz + off) u = (l.set m v').flatMap c
  | [], _, _, _, _, _, h, _, _ => by simp at h
  | x :: l, 0, off, v, v', u, h, ho, hu => by
    simp at h
    subst h
    rw [Nat.zero_mul, Nat.zero_add, List.flatMap_cons, List.set_append_left _ _ (by rw [hc]; exact ho), hu, List.set_cons_zero, List.flatMap_cons]
  | x :: l, m + 1, off, v, v', u, h, ho, hu => by
    rw [List.flatMap_cons, List.set_append_right _ _ (by rw [hc, Nat.succ_mul]; omega), hc]
    have : (m + 1) * sz + off - sz = m * sz + off := by rw [Nat.succ_mul]; omega
    rw [this, flatMap_setOne hc l m off v v' u (by simpa using h) ho hu, List.set_cons_succ, List.flatMap_cons]
theorem OK.storeF {α : Type} {t : TypeId} {x y : Operand} {i : TyI} {k m sz off : Nat} {c : α → List T} {l : List α} {v v' : α} {u : T} {X : Value} (ho : o.op = .store t x y) (hdst : o.dst = none) (ht : E.tabs t = some i) (hs : i.sz = 1)
    (hx : ev st x = .ep k none sz X (m * sz + off)) (hk : Eng.gt st k = .w (sl sz c l) X) (hw : DT1 (ev st y) (.w u)) (hc : ∀ x, (c x).length = sz) (hv : l[m]? = some v) (hoff : off < sz) (hu : (c v).set off u = c v') (ho1 : one1 (ev st y) = true)
    (h : K (st.set k (.w (sl sz c (l.set m v')) X))) : OK E B o st K := by
  have hm : m < l.length := (List.getElem?_eq_some_iff.1 hv).1
  refine OK.storeE (u := u) ho hdst ht hs hx hk hw ?_ ho1 ?_
  · rw [flatMap_len hc]
    have : (m + 1) * sz ≤ l.length * sz := Nat.mul_le_mul_right _ hm
    rw [Nat.succ_mul] at this
    omega
  · have : T.a sz l.length ((l.flatMap c).set (m * sz + off) u) = sl sz c (l.set m v') := by
      rw [flatMap_setOne hc l m off v v' u hv hoff hu]
      simp [sl]
    rw [this]
    exact h
theorem RW.storeF {α : Type} {t : TypeId} {x y : Operand} {i : TyI} {k m sz off : Nat} {c : α → List T} {l : List α} {v v' : α} {u : T} {X : Value} (hg : o.guard = none) (ho : o.op = .store t x y) (hdst : o.dst = none) (ht : E.tabs t = some i) (hs : i.sz = 1)
    (hx : ev st x = .ep k none sz X (m * sz + off)) (hk : Eng.gt st k = .w (sl sz c l) X) (hw : DT1 (ev st y) (.w u)) (hc : ∀ x, (c x).length = sz) (hv : l[m]? = some v) (hoff : off < sz) (hu : (c v).set off u = c v') (ho1 : one1 (ev st y) = true)
    (h : RW E B all rest (st.set k (.w (sl sz c (l.set m v')) X)) K) : RW E B all (o :: rest) st K := RW.cons hg (OK.storeF ho hdst ht hs hx hk hw hc hv hoff hu ho1 h)
theorem RW.build0 {α : Type} {t e : TypeId} {i ie : TyI} (c : α → List T) (hg : o.guard = none) (ho : o.op = .buildSlice t 0 #[]) (ht : E.tabs t = some i) (he : i.td = .slice e) (hte : E.tabs e = some ie)
    (h : ∀ X, RW E B all rest (setD st o.dst (.w (sl ie.sz c []) X)) K) : RW E B all (o :: rest) st K := RW.cons hg (OK.build0 c ho ht he hte h)
theorem RW.build1 {α : Type} {t e : TypeId} {x : Operand} {i ie : TyI} {c : α → List T} {v : α} {es : List D} (hg : o.guard = none) (ho : o.op = .buildSlice t 1 #[(0, x)]) (ht : E.tabs t = some i) (he : i.td = .slice e) (hte : E.tabs e = some ie)
    (hx : ev st x = .agg es) (hw : DW es (c v)) (hc : ∀ x, (c x).length = ie.sz) (hp : ie.sz ≠ 0) (hsm : ie.sz ≤ 1000) (h : ∀ X, RW E B all rest (setD st o.dst (.w (sl ie.sz c [v]) X)) K) : RW E B all (o :: rest) st K :=
  RW.cons hg (OK.build1 ho ht he hte hx hw hc hp hsm h)
theorem RW.build1c {α : Type} {t e : TypeId} {x : Operand} {i ie : TyI} {c : α → List T} {v : α} {u : T} (hg : o.guard = none) (ho : o.op = .buildSlice t 1 #[(0, x)]) (ht : E.tabs t = some i) (he : i.td = .slice e) (hte : E.tabs e = some ie)
    (h1 : one1 (ev st x) = true) (hw : DT1 (ev st x) (.w u)) (hu : c v = [u]) (hsz : ie.sz = 1) (h : ∀ X, RW E B all rest (setD st o.dst (.w (sl ie.sz c [v]) X)) K) : RW E B all (o :: rest) st K := RW.cons hg (OK.build1c ho ht he hte h1 hw hu hsz h)
def cU (n : Int) : List T := [.v (.int .u8 n)]
theorem cU.len (n : Int) : (cU n).length = 1 := rfl
def bytesOf (l : List Int) : ByteArray := l.foldl (fun r n => r.push (UInt8.ofNat n.toNat)) ByteArray.empty
end
end Go.Eng
