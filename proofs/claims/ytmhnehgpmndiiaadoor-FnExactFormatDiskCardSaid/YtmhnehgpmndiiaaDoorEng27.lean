import Derived.Test.YtmhnehgpmndiiaaDoorEng26
namespace Go.Eng
open Go Go.RowKit

section
variable {E : Env} {F : Nat → Prop} {B : Base E.P} {w : World} {o : Oper} {st : St} {K : St → Prop} {a : Act} {d : D} {all rest : List Oper} {Q : Exit → St → Prop}
theorem V.nilP {pu : Bool} {x : Operand} {k b off : Nat} (ho : o.op = .nilCheck x) (hx : ev st x = .pt k b off) : VP pu E B o st (.pt k b off) := fun F a w hr =>
  ⟨.pointer (some ⟨b, off, none⟩), fun w' hs => by simp [execOp, ho, ev_pt hr hx], by simp [DR]⟩
theorem V.nilR {pu : Bool} {x : Operand} {ts : List T} (ho : o.op = .nilCheck x) (hx : ev st x = .rp ts) : VP pu E B o st (.rp ts) := fun F a w hr => by
  obtain ⟨b, of, h1, h2, h3⟩ := ev_rp hr hx
  exact ⟨.pointer (some ⟨b, of, none⟩), fun w' hs => by simp [execOp, ho, h1], by simp only [DR]; exact ⟨⟨b, of, rfl, h2, h3⟩, trivial⟩⟩
theorem Rel.freezeB (hr : Rel F B st a w) {k b : Nat} {ds : List D} {ts : List T} (hk : Eng.gt st k = .obj b ds) (hd : DRd ds ts) : ∃ H : Nat → Prop, Rel H B (st.set k (.rp ts)) a w := by
  have hklt := getD_eq hk (by simp)
  obtain ⟨own, hs⟩ := hr.slots
  obtain ⟨x, bk, h1, h2, h3, h4⟩ := hs k _ (gt_some hk (by simp))
  simp only [DR] at h2
  obtain ⟨cs, ty, bs', rfl, h5, rfl, h6⟩ := h2
  refine ⟨fun c => F c ∨ c ∈ b :: bs', hr.defers, by rw [hr.len]; simp, hr.fr, ?_, ?_, own, ?_⟩
  · rintro c (hc | hc)
    · exact hr.Flt c hc
    · exact (h4 c hc).2.2
  · rintro c (hc | hc)
    · exact hr.Fin c hc
    · exact .inr (h4 c hc).2.1.2
  · intro i d hi
    by_cases hik : i = k
    · subst hik
      rw [St.get_set_self hklt] at hi
      cases hi
      refine ⟨_, [], h1, ?_, by simp, by simp⟩
      simp only [DR]
      exact ⟨⟨b, 0, rfl, .inr (by simp), DRd_RL h5 (fun c hc => .inl hc) ds ts 0 bs' hd (by simpa using h6) (fun c hc => .inr (by simp [hc]))⟩, trivial⟩
    · rw [St.get_set_ne (Ne.symm hik)] at hi
      obtain ⟨y, cs', f1, f2, f3, f4⟩ := hs i d hi
      refine ⟨y, cs', f1, DR_mono (fun c hc => .inl hc) _ _ _ f2, f3, fun c hc => ⟨(f4 c hc).1, ⟨?_, (f4 c hc).2.1.2⟩, (f4 c hc).2.2⟩⟩
      rintro (hf | hf)
      · exact (f4 c hc).2.1.1 hf
      · exact hik ((f4 c hc).1.symm.trans (h4 c hf).1)
theorem RW.freezeB (k : Nat) {b : Nat} {ds : List D} {ts : List T} (hk : Eng.gt st k = .obj b ds) (hd : DRd ds ts) (h : RW E B all rest (st.set k (.rp ts)) K) : RW E B all rest st K := fun F a w hr => by
  obtain ⟨H, hr'⟩ := hr.freezeB hk hd
  exact h H a w hr'
theorem DRd.e : DRd [] [] := rfl
theorem DRd.r {t : T} {ds : List D} {ts : List T} (h : DRd ds ts) : DRd (.r t :: ds) (t :: ts) := ⟨_, _, rfl, .inl rfl, h⟩
theorem DRd.n {sz : Nat} {ds : List D} {ts : List T} (h : DRd ds ts) : DRd (.r (.v (.slice none 0 0)) :: ds) (.a sz 0 [] :: ts) := ⟨_, _, rfl, .inr (.inr ⟨rfl, sz, rfl⟩), h⟩
theorem RW.moveMove {k l : Nat} (hg : o.guard = none) (ho : o.op = .move (.tmp l)) (hd : o.dst = some k) (hkl : k ≠ l) (hk : k < st.length) (hl : l < st.length) (h : RW E B all rest ((st.set k (Eng.gt st l)).set l .u) K) : RW E B all (o :: rest) st K :=
  RW.cons hg (OK.moveMove ho hd hkl hk hl h)
theorem RW.gcallOwn {oj : Oper} {j : Nat} {want : Bool} {c : Tmp} {f : FuncId} {xs : List Operand} {tys : Array TypeId} {as outs : List A} {res : R} (hg : o.guard = some (j, want)) (hj : all[j]? = some oj) (hd : oj.dst = some c) (hv : Eng.gt st c = .r (.v (.bool want)))
    (hf : Eng.Fn E.P f as res outs) (ho : o.op = .call { callee := .value (.func f), args := xs.toArray, argTypes := tys })
    (ha : AsAs st true none xs as) (hres : ownR res = true) (h : ∀ g, RW E B all rest (setD st o.dst (rD g res)) K) : RW E B all (o :: rest) st K := RW.guardT hg hj hd hv (OK.callOwn hf ho ha hres h)
end
end Go.Eng
