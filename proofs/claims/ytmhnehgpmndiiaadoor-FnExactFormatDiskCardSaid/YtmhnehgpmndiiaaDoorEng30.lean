import Derived.Test.YtmhnehgpmndiiaaDoorEng29
namespace Go.Eng
open Go Go.RowKit

section
variable {fc : Facts} {E : Env} {F : Nat → Prop} {B : Base E.P} {w : World} {o : Oper} {st : St} {K : St → Prop} {a : Act} {d : D} {all rest : List Oper} {Q : Exit → St → Prop} {n : Nat} {ls : Array Bool}
theorem RA.le {m : Nat} (l : List (Nat × D)) (hm : st.n = m) (h : Le st l) (hc : RA fc E B all n ls ⟨m, l⟩ K) : RA fc E B all n ls st K := fun F a w hr => hc F a w (hr.le hm h)
theorem RA.to {l : List Oper} (h : all = l) (hr : RA fc E B all n ls st K) : RA fc E B l n ls st K := h ▸ hr
theorem RA.of {l : List Oper} (h : all = l) (hr : RA fc E B l n ls st K) : RA fc E B all n ls st K := h ▸ hr
theorem RA.start {l : List Oper} {m : Nat} {ls' : Array Bool} (h1 : l.length = m) (h2 : Array.replicate l.length false = ls') (h : RA fc E B all m ls' st K) : RA fc E B all l.length (Array.replicate l.length false) st K := by
  subst h1 h2
  exact h
theorem CW.anyJ {α : Type} {id : Nat} {l : List Oper} {y : Code} (N : Nat) (L : α → List (Nat × D))
    (h : ∀ (all : List Oper), all = l → ∀ K : St → Prop, (∀ v s, s.n = N → Le s (L v) → K s) → RA fc E B all l.length (Array.replicate l.length false) st K)
    (h2 : ∀ v, CW E B y ⟨N, L v⟩ Q) : CW E B (.seq (.region id l.toArray true) y) st Q := by
  refine CW.seq (CW.any (h l rfl _ (fun v s hs hl => ?_)))
  exact CW.le (L v) hs hl (h2 v)
theorem CW.anyR {α : Type} {id : Nat} {l : List Oper} (N : Nat) (L : α → List (Nat × D))
    (h : ∀ (all : List Oper), all = l → ∀ K : St → Prop, (∀ v s, s.n = N → Le s (L v) → K s) → RA fc E B all l.length (Array.replicate l.length false) st K)
    (h2 : ∀ v, Q .normal ⟨N, L v⟩) : CW E B (.region id l.toArray true) st Q := by
  have h3 : CW E B (.region id l.toArray true) st (fun e s => ∃ v, e = .normal ∧ s.n = N ∧ Le s (L v)) :=
    CW.any (h l rfl _ (fun v s hs hl => ⟨v, rfl, hs, hl⟩))
  intro F a w hr
  refine Code.wp_mono (fun e a' w' => ?_) (h3 F a w hr)
  rintro ⟨st', F', ⟨v, rfl, hs, hl⟩, hr'⟩
  exact ⟨_, F', h2 v, hr'.le hs hl⟩
end
end Go.Eng
