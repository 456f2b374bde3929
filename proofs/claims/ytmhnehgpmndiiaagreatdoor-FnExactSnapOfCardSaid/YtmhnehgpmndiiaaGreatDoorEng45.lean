import Derived.Test.YtmhnehgpmndiiaaGreatDoorEng42
namespace Go.Eng
open Go Go.RowKit

inductive Kfr where
  | c (y : Code)
  | b (id : Nat)
def SQ (E : Env) (B : Base E.P) : List Kfr → (Exit → St → Prop) → Exit → St → Prop
  | [], Q => Q
  | .c y :: ys, Q => QN (fun s => CW E B y s (SQ E B ys Q)) (SQ E B ys Q)
  | .b id :: ys, Q => QB id (SQ E B ys Q)
inductive Ki where
  | o (m : Nat)
  | e (ks : List Nat)
  | p
  | n (k : Nat)
inductive Kmd where
  | c (y : Code)
  | r (all rest : List Oper)
class RfK (E : Env) (B : Base E.P) (K : St → Prop) (ys : outParam (List Kfr)) (Q : outParam (Exit → St → Prop)) : Prop where
  h : ∀ s, SQ E B ys Q .normal s → K s
instance (priority := 10) RfK.z {E : Env} {B : Base E.P} {K : St → Prop} : RfK E B K [] (fun _ s => K s) := ⟨fun _ h => h⟩
instance (priority := 1000) RfK.s {E : Env} {B : Base E.P} {ys : List Kfr} {Q : Exit → St → Prop} : RfK E B (SQ E B ys Q .normal) ys Q := ⟨fun _ h => h⟩
class RfQ (E : Env) (B : Base E.P) (Q0 : Exit → St → Prop) (ys : outParam (List Kfr)) (Q : outParam (Exit → St → Prop)) : Prop where
  h : ∀ e s, SQ E B ys Q e s → Q0 e s
instance (priority := 10) RfQ.z {E : Env} {B : Base E.P} {Q : Exit → St → Prop} : RfQ E B Q [] Q := ⟨fun _ _ h => h⟩
instance (priority := 1000) RfQ.s {E : Env} {B : Base E.P} {ys : List Kfr} {Q : Exit → St → Prop} : RfQ E B (SQ E B ys Q) ys Q := ⟨fun _ _ h => h⟩

def resK (E : Env) (B : Base E.P) (n : Nat) (Q : Exit → St → Prop) : Kmd → List Kfr → List (Nat × D) → Prop
  | .c y, [], l => CW E B y ⟨n, l⟩ Q
  | .c y, ys, l => CW E B y ⟨n, l⟩ (SQ E B ys Q)
  | .r all rest, ys, l => RW E B all rest ⟨n, l⟩ (SQ E B ys Q .normal)
def popK (f : Code → List Kfr → Prop) (z : Prop) : List Kfr → Prop
  | [] => z
  | .c y :: ys => f y ys
  | .b _ :: ys => popK f z ys
def goK (E : Env) (X : Kd E.P) (B : Base E.P) (n : Nat) (Q : Exit → St → Prop) : Nat → List Ki → Kmd → List Kfr → List (Nat × D) → List (Nat × Nat) → Prop
  | 0, _, _, _, _, _ => False
  | _ + 1, [], md, ys, l, q => Ob q (resK E B n Q md ys l)
  | m + 1, .e ks :: is, md, ys, l, q => keepK n l ks fun l' => goK E X B n Q m is md ys l' q
  | m + 1, .n 0 :: is, md, ys, l, q => goK E X B n Q m is md ys l q
  | m + 1, .n (k + 1) :: is, md, ys, l, q => goK E X B n Q m (.o 999 :: .p :: .n k :: is) md ys l q
  | m + 1, .o k :: is, .r all rest, ys, l, q => runK E X all n (fun rest l q => goK E X B n Q m is (.r all rest) ys l q) k rest l q
  | m + 1, .o k :: is, .c (.seq x y), ys, l, q => goK E X B n Q m (.o k :: is) (.c x) (.c y :: ys) l q
  | m + 1, .o k :: is, .c (.region _ ops false), ys, l, q => goK E X B n Q m (.o k :: is) (.r ops.toList ops.toList) ys l q
  | m + 1, .o k :: is, .c .skip, ys, l, q => popK (fun y ys => goK E X B n Q m (.o k :: is) (.c y) ys l q) False ys
  | m + 1, .o k :: is, .c (.block id c), ys, l, q => goK E X B n Q m (.o k :: is) (.c c) (.b id :: ys) l q
  | m + 1, .p :: is, .r all [], ys, l, q => popK (fun y ys => goK E X B n Q m is (.c y) ys l q) (Ob q (Q .normal ⟨n, l⟩)) ys
  | m + 1, .p :: is, .c .skip, ys, l, q => popK (fun y ys => goK E X B n Q m is (.c y) ys l q) (Ob q (Q .normal ⟨n, l⟩)) ys
  | m + 1, .p :: is, .c (.region _ ops false), ys, l, q => goK E X B n Q m is (.r ops.toList ops.toList) ys l q
  | m + 1, .p :: is, .c (.seq x y), ys, l, q => goK E X B n Q m is (.c x) (.c y :: ys) l q
  | m + 1, .p :: is, .c (.block id c), ys, l, q => goK E X B n Q m is (.c c) (.b id :: ys) l q
  | _ + 1, _ :: _, _, _, _, _ => False

theorem popK_ok {E : Env} {B : Base E.P} {n : Nat} {Q : Exit → St → Prop} {l : List (Nat × D)} {P : Prop} {f : Code → List Kfr → Prop} {z : Prop} (hf : ∀ y ys, f y ys → P ∧ CW E B y ⟨n, l⟩ (SQ E B ys Q)) (hz : z → P ∧ Q .normal ⟨n, l⟩) : ∀ ys, popK f z ys → P ∧ SQ E B ys Q .normal ⟨n, l⟩
  | [], h => hz h
  | .c y :: ys, h => hf _ _ h
  | .b id :: ys, h => popK_ok hf hz ys h
theorem resK_c {E : Env} {B : Base E.P} {n : Nat} {Q : Exit → St → Prop} {y : Code} {ys : List Kfr} {l : List (Nat × D)} (h : resK E B n Q (.c y) ys l) : CW E B y ⟨n, l⟩ (SQ E B ys Q) := by
  cases ys <;> exact h
def resW (E : Env) (B : Base E.P) (n : Nat) (Q : Exit → St → Prop) : Kmd → List Kfr → List (Nat × D) → Prop
  | .c y, ys, l => CW E B y ⟨n, l⟩ (SQ E B ys Q)
  | .r all rest, ys, l => RW E B all rest ⟨n, l⟩ (SQ E B ys Q .normal)
theorem resK_W {E : Env} {B : Base E.P} {n : Nat} {Q : Exit → St → Prop} {md : Kmd} {ys : List Kfr} {l : List (Nat × D)} (h : resK E B n Q md ys l) : resW E B n Q md ys l := by
  cases md with
  | c y => exact resK_c h
  | r all rest => cases ys <;> exact h
theorem goK_ok {E : Env} {X : Kd E.P} {B : Base E.P} {n : Nat} {Q : Exit → St → Prop} : ∀ (m : Nat) (is : List Ki) (md : Kmd) (ys : List Kfr) (l : List (Nat × D)) (q : List (Nat × Nat)), goK E X B n Q m is md ys l q → Eqs q ∧ resW E B n Q md ys l
  | 0, _, _, _, _, _, h => (h : False).elim
  | m + 1, [], md, ys, l, q, h => ⟨Ob.e h, resK_W (Ob.h h)⟩
  | m + 1, .e ks :: is, md, ys, l, q, h => by
    obtain ⟨l', h1, h2⟩ := keepK_of (show keepK n l ks fun l' => goK E X B n Q m is md ys l' q from h)
    obtain ⟨h3, h4⟩ := goK_ok m _ _ _ _ _ h2
    refine ⟨h3, ?_⟩
    cases md with
    | c y => exact CW.le l' rfl h1 h4
    | r all rest => exact RW.le l' rfl h1 h4
  | m + 1, .n 0 :: is, md, ys, l, q, h => goK_ok m is md ys l q h
  | m + 1, .n (k + 1) :: is, md, ys, l, q, h => goK_ok m (.o 999 :: .p :: .n k :: is) md ys l q h
  | m + 1, .o k :: is, .r all rest, ys, l, q, h => runK_ok (B := B) (K := SQ E B ys Q .normal) (fun rest l q h => goK_ok m _ _ _ _ _ h) _ _ _ _ (show runK E X all n (fun rest l q => goK E X B n Q m is (.r all rest) ys l q) k rest l q from h)
  | m + 1, .o k :: is, .c c, ys, l, q, h => by
    cases c with
    | seq x y =>
      obtain ⟨h1, h2⟩ := goK_ok m _ _ _ _ _ (show goK E X B n Q m (.o k :: is) (.c x) (.c y :: ys) l q from h)
      exact ⟨h1, CW.seq h2⟩
    | region id ops b =>
      cases b with
      | true => exact (h : False).elim
      | false =>
        obtain ⟨h1, h2⟩ := goK_ok m _ _ _ _ _ (show goK E X B n Q m (.o k :: is) (.r ops.toList ops.toList) ys l q from h)
        have e : ops = ops.toList.toArray := by simp
        refine ⟨h1, ?_⟩
        show CW E B (.region id ops false) ⟨n, l⟩ _
        rw [e]
        exact CW.region h2
    | skip =>
      obtain ⟨h1, h2⟩ := popK_ok (fun y ys h => goK_ok m _ _ _ _ _ h) (fun h => h.elim) ys (show popK (fun y ys => goK E X B n Q m (.o k :: is) (.c y) ys l q) False ys from h)
      exact ⟨h1, CW.skip h2⟩
    | block id c =>
      obtain ⟨h1, h2⟩ := goK_ok m _ _ _ _ _ (show goK E X B n Q m (.o k :: is) (.c c) (.b id :: ys) l q from h)
      exact ⟨h1, CW.block h2⟩
    | _ => exact (h : False).elim
  | m + 1, .p :: is, .r all [], ys, l, q, h => by
    obtain ⟨h1, h2⟩ := popK_ok (fun y ys h => goK_ok m _ _ _ _ _ h) (fun h => ⟨h.e, h.h⟩) ys (show popK (fun y ys => goK E X B n Q m is (.c y) ys l q) (Ob q (Q .normal ⟨n, l⟩)) ys from h)
    exact ⟨h1, RW.nil h2⟩
  | m + 1, .p :: is, .r all (o :: r), ys, l, q, h => (h : False).elim
  | m + 1, .p :: is, .c c, ys, l, q, h => by
    cases c with
    | seq x y =>
      obtain ⟨h1, h2⟩ := goK_ok m _ _ _ _ _ (show goK E X B n Q m is (.c x) (.c y :: ys) l q from h)
      exact ⟨h1, CW.seq h2⟩
    | region id ops b =>
      cases b with
      | true => exact (h : False).elim
      | false =>
        obtain ⟨h1, h2⟩ := goK_ok m _ _ _ _ _ (show goK E X B n Q m is (.r ops.toList ops.toList) ys l q from h)
        have e : ops = ops.toList.toArray := by simp
        refine ⟨h1, ?_⟩
        show CW E B (.region id ops false) ⟨n, l⟩ _
        rw [e]
        exact CW.region h2
    | skip =>
      obtain ⟨h1, h2⟩ := popK_ok (fun y ys h => goK_ok m _ _ _ _ _ h) (fun h => ⟨h.e, h.h⟩) ys (show popK (fun y ys => goK E X B n Q m is (.c y) ys l q) (Ob q (Q .normal ⟨n, l⟩)) ys from h)
      exact ⟨h1, CW.skip h2⟩
    | block id c =>
      obtain ⟨h1, h2⟩ := goK_ok m _ _ _ _ _ (show goK E X B n Q m is (.c c) (.b id :: ys) l q from h)
      exact ⟨h1, CW.block h2⟩
    | _ => exact (h : False).elim
theorem CW.g {E : Env} {B : Base E.P} {c : Code} {st : St} {Q0 : Exit → St → Prop} {ys : List Kfr} {Q : Exit → St → Prop} [hq : RfQ E B Q0 ys Q] (X : Kd E.P) (n : Nat) (is : List Ki) {q : List (Nat × Nat)} {R : Prop} (hn : st.n = n)
    (hev : spK st.l (fun l => goK E X B n Q 999 is (.c c) ys l []) = Ob q R) (he : q.map (·.1) = q.map (·.2)) (h : R) : CW E B c st Q0 := by
  subst hn
  rw [spK_eq] at hev
  have := goK_ok _ _ _ _ _ _ (hev ▸ (⟨he, h⟩ : Ob q R) : goK E X B st.n Q 999 is (.c c) ys st.l [])
  exact CW.mono this.2 hq.h
theorem RW.g {E : Env} {B : Base E.P} {all rest : List Oper} {st : St} {K : St → Prop} {ys : List Kfr} {Q : Exit → St → Prop} [hq : RfK E B K ys Q] (X : Kd E.P) (n : Nat) (is : List Ki) {q : List (Nat × Nat)} {R : Prop} (hn : st.n = n)
    (hev : spK st.l (fun l => goK E X B n Q 999 is (.r all rest) ys l []) = Ob q R) (he : q.map (·.1) = q.map (·.2)) (h : R) : RW E B all rest st K := by
  subst hn
  rw [spK_eq] at hev
  have := goK_ok _ _ _ _ _ _ (hev ▸ (⟨he, h⟩ : Ob q R) : goK E X B st.n Q 999 is (.r all rest) ys st.l [])
  exact fun F a w hr Q' hQ => this.2 F a w hr Q' (fun F' st' a' w' hk hr' => hQ F' st' a' w' (hq.h _ hk) hr')
theorem CW.h {E : Env} {B : Base E.P} {c : Code} {st : St} {Q0 : Exit → St → Prop} {ys : List Kfr} {Q : Exit → St → Prop} [hq : RfQ E B Q0 ys Q] (X : Kd E.P) (n : Nat) (is : List Ki) (hn : st.n = n)
    (h : spK st.l (fun l => goK E X B n Q 999 is (.c c) ys l [])) : CW E B c st Q0 := by
  subst hn
  rw [spK_eq] at h
  exact CW.mono (goK_ok _ _ _ _ _ _ h).2 hq.h
theorem RW.h {E : Env} {B : Base E.P} {all rest : List Oper} {st : St} {K : St → Prop} {ys : List Kfr} {Q : Exit → St → Prop} [hq : RfK E B K ys Q] (X : Kd E.P) (n : Nat) (is : List Ki) (hn : st.n = n)
    (h : spK st.l (fun l => goK E X B n Q 999 is (.r all rest) ys l [])) : RW E B all rest st K := by
  subst hn
  rw [spK_eq] at h
  have := goK_ok _ _ _ _ _ _ h
  exact fun F a w hr Q' hQ => this.2 F a w hr Q' (fun F' st' a' w' hk hr' => hQ F' st' a' w' (hq.h _ hk) hr')
end Go.Eng

namespace Go.Eng
open Go Go.RowKit
section
variable {E : Env} {F : Nat → Prop} {B : Base E.P} {w : World} {o : Oper} {st : St} {K : St → Prop} {a : Act} {all rest : List Oper}
end
end Go.Eng

namespace Go.Eng
open Go Go.RowKit
def isNil : Value → Bool
  | .nilIface => true
  | _ => false
section
variable {E : Env} {F : Nat → Prop} {B : Base E.P} {w : World} {o : Oper} {st : St} {K : St → Prop} {a : Act} {all rest : List Oper}
theorem iface_of {d : Option TypeDesc} (h : (match d with | some (.interface _) => true | _ => false) = true) : ∃ m, d = some (.interface m) := by
  split at h
  · exact ⟨_, rfl⟩
  · cases h
theorem run_eqNil {P : Program} {t : TypeId} {m : Array (String × TypeId)} (hu : P.underlying t = some (.interface m)) (e : Value) (he : e = .nilIface ∨ ∃ te pe, e = .iface te pe) (w : World) : (Op.equal t e .nilIface).run P w = .ok (isNil e) w := by
  rw [show Op.equal t e .nilIface = Op.equalIn (9999 + 1) t e .nilIface from rfl, Op.equalIn]
  rcases he with rfl | ⟨te, pe, rfl⟩ <;> simp [Sem.run_bind, run_underlying hu, isNil]
theorem V.neNil {pu : Bool} {t u : TypeId} {x : Operand} {e : Value} (ho : o.op = .binOp .neq t x (.const .nilIface) u) (hx : ev st x = .r (.v e)) (he : e = .nilIface ∨ ∃ te pe, e = .iface te pe) (ht : (match E.P.underlying t with | some (.interface _) => true | _ => false) = true) :
    VP pu E B o st (.r (.v (.bool (!isNil e)))) := fun F a w hr =>
  ⟨.bool (!isNil e), fun w' hs => by
    obtain ⟨m, hu⟩ := iface_of ht
    have hq := run_eqNil hu e he w'
    have hc : a.eval (.const .nilIface) = .nilIface := rfl
    have he' := ev_scalar hr hx
    rcases he with rfl | ⟨te, pe, rfl⟩ <;> simp [execOp, ho, he', hc, binOp, eqGuard, Sem.run_bind, hq], by simp [DR, RT]⟩
end
end Go.Eng
