import Derived.Test.YtmhnehgpmndiiaaDoorEng17
import Derived.OrdersHeld
namespace Go.Eng
open Go Go.RowKit

section
variable {P : Program} {ops : Array Oper} {Q Q' : Exit → Act → World → Prop} {md : Region.Mode}
theorem wp_monoQ {o : Oper} {a : Act} {w : World} {K : Act → World → Prop} (h : ∀ e a w, Q e a w → Q' e a w) (hh : o.wp P a w K Q) : o.wp P a w K Q' := by
  unfold Oper.wp at *
  generalize (execOp a.eval o).run P w = r at *
  cases r with
  | ok n w' =>
    cases n <;> simp only [Oper.upon] at hh ⊢ <;>
      first
        | exact hh
        | exact h _ _ _ hh
        | exact Calls.mono hh (fun e w'' he => by cases e <;> first | exact he | exact h _ _ _ he | exact he.imp fun a hw => hw.imp fun w => h _ _ _)
        | exact Rows.mono hh (fun _ _ he => he)
  | halt x w' => cases x <;> simp only [Oper.upon] at hh ⊢ <;> first | exact hh | exact h _ _ _ hh
theorem wpOp_monoQ {i : Nat} {a : Act} {w : World} {K K' : Act → World → Prop} (h : ∀ e a w, Q e a w → Q' e a w) (hk : ∀ a w, K a w → K' a w) (hl : LetsOut Q → LetsOut Q')
    (hh : wpOp P ops Q i K a w) : wpOp P ops Q' i K' a w := by
  refine wpOp_mono hk ?_
  unfold wpOp at *
  split
  · simpa [*] using hh
  · rename_i o ho
    simp only [ho] at hh
    split
    · rename_i hw; simp only [hw, if_true] at hh; exact hh.imp (wp_monoQ h) (fun ⟨x, y⟩ => ⟨x, hl y⟩)
    · rename_i hw; simp only [hw] at hh; exact hh
theorem wpAny_monoQ (h : ∀ e a w, Q e a w → Q' e a w) (hl : LetsOut Q → LetsOut Q') : ∀ (n : Nat) (ls : Array Bool) (a : Act) (w : World), wpAny P md ops Q n ls a w → wpAny P md ops Q' n ls a w
  | 0, _, _, _, hh => ⟨hh.1, h _ _ _ hh.2⟩
  | n + 1, _, _, _, hh => ⟨fun h0 => h _ _ _ (hh.1 h0), fun i hi => wpOp_monoQ h (fun a w => wpAny_monoQ h hl n _ a w) hl (hh.2 i hi)⟩
end
section
variable {E : Env} {F : Nat → Prop} {B : Base E.P} {w : World} {o : Oper} {st : St} {K : St → Prop} {a : Act} {all : List Oper} {Q : Exit → St → Prop} {n : Nat} {ls : Array Bool} {d : D}
abbrev Facts := List (Nat × Nat × List Value)
def Hd (fc : Facts) (w : World) : Prop := ∀ p ∈ fc, ∃ ty, w.heap[p.2.1]? = some (.cells p.2.2.toArray ty (0, 0))
def dval : D → Option Value
  | .r (.v x) => some x
  | .w _ V => some V
  | _ => none
def dvals : List D → Option (List Value)
  | [] => some []
  | d :: ds => match dval d, dvals ds with
    | some x, some xs => some (x :: xs)
    | _, _ => none
def Tell (fc : Facts) (st : St) : Prop := ∀ p ∈ fc, ∃ ds, gt st p.1 = .obj p.2.1 ds ∧ dvals ds = some p.2.2
theorem Tell.e : Tell [] st := fun _ h => by cases h
theorem Tell.c {k b : Nat} {xs : List Value} {ds : List D} {fc : Facts} (h1 : gt st k = .obj b ds) (h2 : dvals ds = some xs) (h : Tell fc st) : Tell ((k, b, xs) :: fc) st := fun p hp => by
  rcases List.mem_cons.1 hp with rfl | hp
  · exact ⟨ds, h1, h2⟩
  · exact h p hp
theorem dvals_eq : ∀ {ds : List D} {xs cs : List Value} {bs : List Nat}, dvals ds = some xs → DLs F w ds cs bs → cs = xs
  | [], xs, cs, bs, h, hd => by
    simp only [dvals, Option.some.injEq] at h
    simp only [DLs] at hd
    rw [hd.1, h]
  | d :: ds, xs, cs, bs, h, hd => by
    simp only [DLs] at hd
    obtain ⟨c, cs', b1, b2, rfl, rfl, h3, h4⟩ := hd
    simp only [dvals] at h
    split at h
    · rename_i x ys hx hy
      cases h
      rw [dvals_eq hy h4]
      congr 1
      cases d with
      | r t =>
        cases t with
        | v y => simp only [dval, Option.some.injEq] at hx; simp only [DR, RT] at h3; rw [h3.1, hx]
        | _ => simp [dval] at hx
      | w t V => simp only [dval, Option.some.injEq] at hx; simp only [DR] at h3; rw [h3.1, hx]
      | _ => simp [dval] at hx
    · cases h
theorem Tell.hd {fc : Facts} (h : Tell fc st) (hr : Rel F B st a w) : Hd fc w := fun p hp => by
  obtain ⟨ds, h1, h2⟩ := h p hp
  obtain ⟨cs, ty, bs, h3, h4⟩ := hr.obj h1
  exact ⟨ty, by rw [h3, dvals_eq h2 h4]⟩
def Fx {P : Program} (B : Base P) (w : World) : Prop := ∀ b, b < B.w.heap.size → b ∉ B.bs → w.heap[b]? = B.w.heap[b]?
def HX {P : Program} (fc : Facts) (B : Base P) (w : World) : Prop := Hd fc w ∧ Fx B w
theorem Tell.hx {fc : Facts} (h : Tell fc st) (hr : Rel F B st a w) : HX fc B w := ⟨h.hd hr, hr.fr.fix⟩
variable {fc : Facts}
def RA (fc : Facts) (E : Env) (B : Base E.P) (all : List Oper) (n : Nat) (ls : Array Bool) (st : St) (K : St → Prop) : Prop :=
  ∀ (F : Nat → Prop) (a : Act) (w : World), Rel F B st a w → HX fc B w ∧ ∀ (Q : Exit → Act → World → Prop), (∀ F' st' a' w', K st' → Rel F' B st' a' w' → Q .normal a' w') → (∀ c a w, ¬ Q (.panic c) a w) → wpAnyH E.P .any all.toArray Q (HX fc B) n ls a w
def RO (fc : Facts) (E : Env) (B : Base E.P) (all : List Oper) (n : Nat) (ls : Array Bool) (st : St) (K : St → Prop) (i : Nat) : Prop :=
  ∃ o, all[i]? = some o ∧ o.guard = none ∧ OK E B o st (fun st' => RA fc E B all n (ls.setIfInBounds i true) st' K)
theorem RA.stepH {L : List Nat} (ht : Tell fc st) (hL : Region.ready .any all.toArray ls = L) (hne : L ≠ []) (h : ∀ i ∈ L, RO fc E B all n ls st K i) : RA fc E B all (n + 1) ls st K := by
  intro F a w hr
  refine ⟨ht.hx hr, fun Q hQ hp => ⟨fun h0 => absurd (hL.symm.trans h0) hne, fun i hi => ?_⟩⟩
  rw [hL] at hi
  obtain ⟨o, h1, h2, h3⟩ := h i hi
  unfold wpOp
  have ho : all.toArray[i]? = some o := by simpa using h1
  rw [ho]
  have hw : Region.wanted o (yielded all.toArray a.tmps) = true := by simp [Region.wanted, h2]
  simp only [hw, if_true]
  exact .inl (h3 F a w hr _ Q (fun F' st' a' w' hk hr' => ⟨(hk F' a' w' hr').1, (hk F' a' w' hr').2 Q hQ hp⟩))
theorem RA.step {L : List Nat} (hL : Region.ready .any all.toArray ls = L) (hne : L ≠ []) (h : ∀ i ∈ L, RO [] E B all n ls st K i) : RA [] E B all (n + 1) ls st K := RA.stepH Tell.e hL hne h
theorem RA.finH (ht : Tell fc st) (hL : Region.ready .any all.toArray ls = []) (h : K st) : RA fc E B all n ls st K := by
  intro F a w hr
  exact ⟨ht.hx hr, fun Q hQ hp => wpAnyH_done hL (hQ F st a w h hr) n⟩
theorem RA.fin (hL : Region.ready .any all.toArray ls = []) (h : K st) : RA [] E B all n ls st K := RA.finH Tell.e hL h
def VF (fc : Facts) (E : Env) (B : Base E.P) (o : Oper) (st : St) (d : D) : Prop :=
  ∀ (F : Nat → Prop) (a : Act) (w : World), Rel F B st a w → ∃ x, (∀ w', Hd fc w' → (execOp a.eval o).run E.P w' = .ok (.value x) w') ∧ DR F w d x []
theorem VF.p (h : VP true E B o st d) : VF fc E B o st d := fun F a w hr => by
  obtain ⟨x, h1, h2⟩ := h F a w hr
  exact ⟨x, fun w' _ => h1 w' (by simp), h2⟩
theorem RA.first {i : Nat} {ls' : Array Bool} (ht : Tell fc st) (hc : (Region.noSelect all.toArray && Region.free .any all.toArray ls i && (Region.ready .any all.toArray ls).contains i) = true) (hl : ls.setIfInBounds i true = ls')
    (ho : all[i]? = some o) (hg : o.guard = none) (hv : VF fc E B o st d) (h : RA fc E B all n ls' (setD st o.dst d) K) : RA fc E B all (n + 1) ls st K := by
  subst hl
  simp only [Bool.and_eq_true] at hc
  intro F a w hr
  refine ⟨ht.hx hr, fun Q hQ hp => ?_⟩
  obtain ⟨x, h1, h2⟩ := hv F a w hr
  have ho' : all.toArray[i]? = some o := by simpa using ho
  exact wpAnyH_take ho' hc.1.1 hc.1.2 hc.2 (fun c a w hq => absurd hq (hp _ _ _)) (.inl ⟨by simp [Region.wanted, hg], fun w' h => h1 w' h.1⟩) (ht.hx hr) ((h F _ w (hr.putD o.dst h2)).2 Q hQ hp)
theorem CW.anyQ {id : Nat} {l : List Oper} (h : RA fc E B l l.length (Array.replicate l.length false) st (Q .normal)) : CW E B (.region id l.toArray true) st Q := by
  intro F a w hr
  refine wp_region_any E.mixed ?_
  have := (h F a { w with drawn := w.drawn + 1 } (hr.grow ⟨rfl, rfl, rfl, Nat.le_refl _, fun _ _ _ => rfl⟩)).2 (fun e a' w' => e = .normal ∧ ∃ st' F', Q e st' ∧ Rel F' B st' a' w') (fun F' st' a' w' hk hr' => ⟨rfl, st', F', hk, hr'⟩) (fun c a w hq => by cases hq.1)
  have h2 := wpAny_monoQ (Q' := fun e a' w' => ∃ st' F', Q e st' ∧ Rel F' B st' a' w') (fun e a w hq => hq.2) (fun ⟨a, w, hq⟩ => by cases hq.1) _ _ _ _ (wpAny_of_held _ _ _ _ this)
  simpa using h2
theorem CW.any {id : Nat} {l : List Oper} (h : RA fc E B l l.length (Array.replicate l.length false) st (Q .normal)) : CW E B (.region id l.toArray true) st Q := CW.anyQ h
theorem RA.each0 : ∀ i ∈ ([] : List Nat), RO fc E B all n ls st K i := fun _ h => by cases h
theorem RA.each {j : Nat} {L : List Nat} (h : RO fc E B all n ls st K j) (hs : ∀ i ∈ L, RO fc E B all n ls st K i) : ∀ i ∈ j :: L, RO fc E B all n ls st K i := fun i hi => by
  rcases List.mem_cons.1 hi with rfl | hi
  · exact h
  · exact hs i hi
theorem RO.v {i : Nat} {ls' : Array Bool} (ho : all[i]? = some o) (hg : o.guard = none) (hv : V E B o st d) (hl : ls.setIfInBounds i true = ls') (h : RA fc E B all n ls' (setD st o.dst d) K) : RO fc E B all n ls st K i :=
  ⟨o, ho, hg, OK.ofV hv (by rw [hl]; exact h)⟩
theorem RO.call {i : Nat} {ls' : Array Bool} {f : FuncId} {xs : List Operand} {tys : Array TypeId} {as outs : List A} {res : R} (ho : all[i]? = some o) (hg : o.guard = none) (hf : Eng.Fn E.P f as res outs) (hop : o.op = .call { callee := .value (.func f), args := xs.toArray, argTypes := tys })
    (ha : AsAs st false none xs as) (hl : ls.setIfInBounds i true = ls') (h : ∀ g, RA fc E B all n ls' (setD st o.dst (rD g res)) K) : RO fc E B all n ls st K i := ⟨o, ho, hg, OK.call hf hop ha (fun g => by rw [hl]; exact h g)⟩
theorem RO.callOwn {i : Nat} {ls' : Array Bool} {f : FuncId} {xs : List Operand} {tys : Array TypeId} {as outs : List A} {res : R} (ho : all[i]? = some o) (hg : o.guard = none) (hf : Eng.Fn E.P f as res outs) (hop : o.op = .call { callee := .value (.func f), args := xs.toArray, argTypes := tys })
    (ha : AsAs st true none xs as) (hres : ownR res = true) (hl : ls.setIfInBounds i true = ls') (h : ∀ g, RA fc E B all n ls' (setD st o.dst (rD g res)) K) : RO fc E B all n ls st K i := ⟨o, ho, hg, OK.callOwn hf hop ha hres (fun g => by rw [hl]; exact h g)⟩
end
end Go.Eng
