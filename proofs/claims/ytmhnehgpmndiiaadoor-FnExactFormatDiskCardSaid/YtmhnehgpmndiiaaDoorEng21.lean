import Derived.Test.YtmhnehgpmndiiaaDoorEng20
namespace Go.Eng
open Go Go.RowKit

section
variable {w : World}
theorem OL_app : ∀ {ts us : List T} {cs ds r : List Value} {bs es : List Nat}, OL w ts cs bs → OL w us ds es → OL w (ts ++ us) (cs.take ts.length ++ (ds ++ r)) (bs ++ es)
  | [], us, cs, ds, r, bs, es, h, h' => by
    simp only [OL] at h
    subst h
    have : ∀ {us : List T} {ds : List Value} {es : List Nat}, OL w us ds es → OL w us (ds ++ r) es := by
      intro us
      induction us with
      | nil => intro ds es h; simpa [OL] using h
      | cons u us ih =>
        intro ds es h
        simp only [OL] at h ⊢
        obtain ⟨c, cs', b1, b2, rfl, rfl, h3, h4⟩ := h
        exact ⟨c, cs' ++ r, b1, b2, rfl, rfl, h3, ih h4⟩
    simpa using this h'
  | t :: ts, us, cs, ds, r, bs, es, h, h' => by
    simp only [OL] at h
    obtain ⟨c, cs', b1, b2, rfl, rfl, h3, h4⟩ := h
    simp only [List.length_cons, List.take_succ_cons, List.cons_append, OL]
    exact ⟨c, _, b1, b2 ++ es, rfl, by simp, h3, OL_app h4 h'⟩
end
section
variable {E : Env} {F : Nat → Prop} {B : Base E.P} {w : World} {o : Oper} {st : St} {K : St → Prop} {a : Act}
theorem append_room_list {α : Type} (cs news : List α) (of p : Nat) (h : of + p + news.length ≤ cs.length) : (setN cs (of + p) news).drop of = (cs.drop of).take p ++ (news ++ (cs.drop of).drop (p + news.length)) := by
  rw [setN_drop, setN_eq _ _ _ (by simp; omega)]
  simp
end
end Go.Eng
