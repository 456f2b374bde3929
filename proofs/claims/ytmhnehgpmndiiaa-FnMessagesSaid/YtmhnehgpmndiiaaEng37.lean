/- A literal of two. -/
import Derived.Test.YtmhnehgpmndiiaaEng36
namespace Go.Eng
open Go Go.RowKit
section
variable {E : Env} {F : Nat → Prop} {B : Base E.P} {w : World} {o : Oper} {st : St} {K : St → Prop} {a : Act} {all rest : List Oper}
theorem DLs_nil {F : Nat → Prop} {w : World} {sz : Nat} : ∀ {ds : List D} {cs : List Value} {bs : List Nat} {j : Nat}, DLs F w ds cs bs → ds[j]? = some (.r (.v (.slice none 0 0))) → DLs F w (ds.set j (.w (.a sz 0 []) (.slice none 0 0))) cs bs
  | [], _, _, _, _, hj => by simp at hj
  | d :: ds, cs, bs, j, h, hj => by
    simp only [DLs] at h
    obtain ⟨c, cs', b1, b2, rfl, rfl, h3, h4⟩ := h
    cases j with
    | zero =>
      simp at hj
      subst hj
      simp only [DR, RT] at h3
      simp only [List.set_cons_zero, DLs]
      refine ⟨c, cs', b1, b2, rfl, rfl, ?_, h4⟩
      simp only [DR, OT]
      exact ⟨h3.1, .inl ⟨trivial, trivial, trivial, h3.2⟩⟩
    | succ j =>
      simp only [List.set_cons_succ, DLs]
      exact ⟨c, cs', b1, b2, rfl, rfl, h3, DLs_nil h4 (by simpa using hj)⟩
theorem Rel.nilCell (hr : Rel F B st a w) {k b j sz : Nat} {ds : List D} (hk : Eng.gt st k = .obj b ds) (hj : ds[j]? = some (.r (.v (.slice none 0 0)))) : Rel F B (st.set k (.obj b (ds.set j (.w (.a sz 0 []) (.slice none 0 0))))) a w := by
  have hklt := getD_eq hk (by simp)
  obtain ⟨bk, bl, p1, p2, p3, ⟨xk, q1, q2⟩, p5, p6⟩ := hr.two k st.length (by omega) hklt
  rw [hk] at q2
  simp only [DR] at q2
  obtain ⟨cs, ty, bs', h1, h2, rfl, h3⟩ := q2
  refine (p6 w (.obj b (ds.set j (.w (.a sz 0 []) (.slice none 0 0)))) .u a (b :: bs') [] (Stp.refl _ _) rfl rfl (fun _ _ _ => rfl) ⟨xk, q1, by simp only [DR]; exact ⟨cs, ty, bs', h1, h2, rfl, DLs_nil h3 hj⟩⟩ (fun h => absurd h (by omega)) (by simpa using (List.nodup_append.1 p3).1) (fun c hc => ?_)).oob (by simp)
  have : c ∈ b :: bs' := by simpa using hc
  exact ⟨.inl this, (p1 c this).2⟩
theorem CW.nilCell {cd : Code} {Q : Exit → St → Prop} {α : Type} (k j sz : Nat) (c : α → List T) {b : Nat} {ds : List D} (hk : Eng.gt st k = .obj b ds) (hj : ds[j]? = some (.r (.v (.slice none 0 0)))) (h : CW E B cd (st.set k (.obj b (ds.set j (.w (sl sz c []) (.slice none 0 0))))) Q) : CW E B cd st Q :=
  fun F a w hr => h F a w (hr.nilCell hk hj)
end
section
variable {E : Env} {F : Nat → Prop} {B : Base E.P} {w : World} {o oj : Oper} {st : St} {K : St → Prop} {a : Act} {all rest : List Oper} {fc : Facts} {n i j : Nat} {ls ls' : Array Bool} {d : D}
def GOk (all : List Oper) (o : Oper) (st : St) : Prop := o.guard = none ∨ ∃ (j : Nat) (want : Bool) (oj : Oper) (d : Tmp), o.guard = some (j, want) ∧ all[j]? = some oj ∧ oj.dst = some d ∧ Eng.gt st d = .r (.v (.bool want))
def RG (fc : Facts) (E : Env) (B : Base E.P) (all : List Oper) (n : Nat) (ls : Array Bool) (st : St) (K : St → Prop) (i : Nat) : Prop :=
  ∃ o, all[i]? = some o ∧ GOk all o st ∧ OK E B o st (fun st' => RA fc E B all n (ls.setIfInBounds i true) st' K)
theorem RG.v (ho : all[i]? = some o) (hg : GOk all o st) (hv : V E B o st d) (hl : ls.setIfInBounds i true = ls') (h : RA fc E B all n ls' (setD st o.dst d) K) : RG fc E B all n ls st K i :=
  ⟨o, ho, hg, OK.ofV hv (by rw [hl]; exact h)⟩
theorem RG.call {f : FuncId} {xs : List Operand} {tys : Array TypeId} {as outs : List A} {res : R} (ho : all[i]? = some o) (hg : GOk all o st) (hf : Eng.Fn E.P f as res outs) (hop : o.op = .call { callee := .value (.func f), args := xs.toArray, argTypes := tys })
    (ha : AsAs st false none xs as) (hl : ls.setIfInBounds i true = ls') (h : ∀ g, RA fc E B all n ls' (setD st o.dst (rD g res)) K) : RG fc E B all n ls st K i := ⟨o, ho, hg, OK.call hf hop ha (fun g => by rw [hl]; exact h g)⟩
theorem RG.callOwn {f : FuncId} {xs : List Operand} {tys : Array TypeId} {as outs : List A} {res : R} (ho : all[i]? = some o) (hg : GOk all o st) (hf : Eng.Fn E.P f as res outs) (hop : o.op = .call { callee := .value (.func f), args := xs.toArray, argTypes := tys })
    (ha : AsAs st true none xs as) (hres : ownR res = true) (hl : ls.setIfInBounds i true = ls') (h : ∀ g, RA fc E B all n ls' (setD st o.dst (rD g res)) K) : RG fc E B all n ls st K i := ⟨o, ho, hg, OK.callOwn hf hop ha hres (fun g => by rw [hl]; exact h g)⟩
end
end Go.Eng
