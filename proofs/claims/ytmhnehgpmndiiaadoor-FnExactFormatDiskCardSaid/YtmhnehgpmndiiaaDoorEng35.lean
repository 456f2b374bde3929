/- Calls that write a struct of one's own of which parts are only looked at. -/
import Derived.Test.YtmhnehgpmndiiaaDoorEng34
namespace Go.Eng
open Go Go.RowKit
section
variable {E : Env} {F : Nat → Prop} {B : Base E.P} {w : World} {o : Oper} {st : St} {K : St → Prop} {a : Act} {all rest : List Oper}
inductive AsPs (st : St) (k b : Nat) (cs os : List C) : List Operand → List A → List A → Prop where
  | here {x : Operand} {xs : List Operand} {as outs : List A} (hx : ev st x = .pt k b 0) (hs : AsAs st false none xs as) : AsPs st k b cs os (x :: xs) (.ob cs :: as) (.ob os :: outs)
  | there {x : Operand} {a o : A} {xs : List Operand} {as outs : List A} (h : AsA st false none (ev st x) a) (hs : AsPs st k b cs os xs as outs) : AsPs st k b cs os (x :: xs) (a :: as) (o :: outs)
theorem AsPs.give {k b : Nat} {ds : List D} {cs os : List C} {xs : List Operand} {as outs : List A} (hr : Rel F B st a w) (h : AsPs st k b cs os xs as outs) (hd : DT ds cs) {x : Value} {bk : List Nat} (hx : DR F w (.obj b ds) x bk) :
    ARs F w as (xs.map a.eval) bk ∧ ∀ (w' : World) (H : Nat → Prop) (b2 : List Nat), ARs H w' outs (xs.map a.eval) b2 → ∃ g b3, b3.Sublist b2 ∧ DR H w' (.obj b (cD g 0 os)) x b3 := by
  induction h with
  | here hv hs =>
    simp only [DR] at hx
    obtain ⟨ys, ty, bs', rfl, h2, rfl, h3⟩ := hx
    have he := hr.ev _ |> hv.subst (motive := fun d => DR F w d _ [])
    simp only [DR] at he
    refine ⟨?_, fun w' H b2 h4 => ?_⟩
    · simp only [List.map_cons, ARs]
      exact ⟨_, _, b :: bs', [], rfl, by simp, ⟨b, ys, ty, bs', he.1, h2, rfl, DT_CRs ds cs ys bs' hd h3⟩, hs.read hr (Out.own none)⟩
    · simp only [List.map_cons, ARs] at h4
      obtain ⟨y, zs, c1, c2, hy, rfl, h5, h6⟩ := h4
      cases hy
      obtain ⟨b', xs', ty', bs2, hp, h7, rfl, h8⟩ := h5
      rw [he.1] at hp
      cases hp
      obtain ⟨g, hg⟩ := CRs_D os 0 xs' bs2 h8
      exact ⟨g, _, List.sublist_append_left _ _, by simp only [DR]; exact ⟨xs', ty', bs2, trivial, h7, rfl, hg⟩⟩
  | there h hs ih =>
    obtain ⟨h1, h2⟩ := ih
    refine ⟨?_, fun w' H b2 h4 => ?_⟩
    · simp only [List.map_cons, ARs]
      exact ⟨_, _, [], bk, rfl, by simp, h.read (Out.own (a := a) none) (hr.ev _), h1⟩
    · simp only [List.map_cons, ARs] at h4
      obtain ⟨y, ys, c1, c2, hy, rfl, h5, h6⟩ := h4
      cases hy
      obtain ⟨g, b3, hb, hg⟩ := h2 w' H c2 h6
      exact ⟨g, b3, hb.trans (List.sublist_append_right _ _), hg⟩
end
end Go.Eng
