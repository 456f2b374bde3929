/- An array inside an own array is taken out, and given back; a call that takes a struct over. -/
import Derived.Test.YtmhnehgpmndiiaaDoorEng38
namespace Go.Eng
open Go Go.RowKit

section
variable {w : World}
theorem OL_in : ∀ {ts : List T} {cs : List Value} {r q : List Nat} {j : Nat} {t : T} {x : Value}, OL w ts cs r → ts[j]? = some (.v x) → OT w t x q →
    ∃ bs, OL w (ts.set j t) cs bs ∧ (∀ b ∈ bs, b ∈ q ∨ b ∈ r) ∧ ((q ++ r).Nodup → bs.Nodup)
  | [], _, _, _, _, _, _, _, h, _ => by simp at h
  | t :: ts, cs, bs, q, 0, u, x, h, hj, ho => by
    simp at hj
    subst hj
    simp only [OL] at h
    obtain ⟨c, cs', b1, b2, rfl, rfl, h3, h4⟩ := h
    simp only [OT] at h3
    obtain ⟨rfl, rfl⟩ := h3
    refine ⟨q ++ b2, ?_, fun b hb => by simpa using hb, fun h => by simpa using h⟩
    simp only [List.set_cons_zero, OL]
    exact ⟨c, cs', q, b2, rfl, rfl, ho, h4⟩
  | t :: ts, cs, bs, q, j + 1, u, x, h, hj, ho => by
    simp only [OL] at h
    obtain ⟨c, cs', b1, b2, rfl, rfl, h3, h4⟩ := h
    obtain ⟨r, g1, g2, g3⟩ := OL_in h4 (by simpa using hj) ho
    refine ⟨b1 ++ r, ?_, fun b hb => ?_, fun hn => ?_⟩
    · simp only [List.set_cons_succ, OL]
      exact ⟨c, cs', b1, r, rfl, rfl, h3, g1⟩
    · rcases List.mem_append.1 hb with h | h
      · exact .inr (by simp [h])
      · rcases g2 b h with h' | h'
        · exact .inl h'
        · exact .inr (by simp [h'])
    · rw [List.nodup_append, List.nodup_append] at hn
      obtain ⟨n1, ⟨n2, n3, n4⟩, n5⟩ := hn
      rw [List.nodup_append]
      refine ⟨n2, g3 (by rw [List.nodup_append]; exact ⟨n1, n3, fun a ha b hb e => n5 a ha b (by simp [hb]) e⟩), fun a ha b hb e => ?_⟩
      rcases g2 b hb with h' | h'
      · exact n5 b h' a (by simp [ha]) e.symm
      · exact n4 a ha b h' e
end
section
variable {E : Env} {F : Nat → Prop} {B : Base E.P} {w : World} {o : Oper} {st : St} {K : St → Prop} {a : Act} {all rest : List Oper}
theorem Rel.give (hr : Rel F B st a w) {k d sz n pos sz' n' : Nat} {ts us : List T} {V X : Value} (hkd : k ≠ d) (hk : Eng.gt st k = .w (.a sz n ts) V) (hd : Eng.gt st d = .w (.a sz' n' us) X) (hp : ts[pos]? = some (.v X)) :
    Rel F B ((st.set k (.w (.a sz n (ts.set pos (.a sz' n' us))) V)).set d .u) a w := by
  obtain ⟨bk, bl, p1, p2, p3, ⟨xk, q1, q2⟩, p5, p6⟩ := hr.two k d hkd (getD_eq hk (by simp))
  obtain ⟨xl, r1, r2⟩ := p5 _ (gt_some hd (by simp))
  rw [hk] at q2
  simp only [DR] at q2 r2
  obtain ⟨rfl, q2⟩ := q2
  obtain ⟨rfl, r2⟩ := r2
  simp only [OT] at q2
  rcases q2 with ⟨_, _, rfl, _⟩ | ⟨b, of, cap, cur, ty, bs', rfl, g2, g3, g4, g5, g6, rfl, g8⟩
  · simp at hp
  · obtain ⟨bs2, f1, f2, f3⟩ := OL_in g8 hp r2
    rw [List.nodup_append] at p3
    have hnd := p3.1
    rw [List.nodup_cons] at hnd
    refine p6 w _ _ a (b :: bs2) [] (Stp.refl _ _) rfl rfl (fun _ _ _ => rfl) ⟨_, q1, ?_⟩ (fun _ => ⟨xl, r1, by simp [DR]⟩) ?_ ?_
    · simp only [DR, OT]
      exact ⟨trivial, .inr ⟨b, of, cap, cur, ty, bs2, rfl, g2, g3, g4, g5, by rw [List.length_set]; exact g6, rfl, f1⟩⟩
    · rw [List.append_nil, List.nodup_cons]
      refine ⟨fun hm => ?_, f3 (by rw [List.nodup_append]; exact ⟨p3.2.1, hnd.2, fun x hx y hy e => p3.2.2 y (by simp [hy]) x hx e.symm⟩)⟩
      rcases f2 b hm with h | h
      · exact p3.2.2 b (by simp) b h rfl
      · exact hnd.1 h
    · intro x hx
      rw [List.append_nil] at hx
      rcases List.mem_cons.1 hx with rfl | hx
      · exact ⟨.inl (by simp), (p1 x (by simp)).2⟩
      · rcases f2 x hx with h | h
        · exact ⟨.inr (.inl h), (p2 x h).2⟩
        · exact ⟨.inl (by simp [h]), (p1 x (by simp [h])).2⟩
inductive Tk (q : Nat) : D → D → List C → Prop where
  | agg {es : List D} {cs : List C} (h : ∃ ds', Hand es cs cs ds') : Tk q (.agg es) (.agg (cpyL q 0 es)) cs
  | obj {b : Nat} {es : List D} {cs : List C} (h : ∃ ds', Hand es cs cs ds') : Tk q (.obj b es) (.agg (cpyL q 0 es)) cs
theorem Tk.give {q : Nat} {d e : D} {cs : List C} (h : Tk q d e cs) {x y : Value} {bq : List Nat} (hd : DR F w d x bq) (he : DR F w e y []) : ∃ b1, (∀ b ∈ b1, b ∈ bq) ∧ (bq.Nodup → b1.Nodup) ∧ ∀ G : Nat → Prop, (∀ b, F b → G b) → AR G w (.agg cs) y b1 := by
  cases h with
  | agg h =>
    obtain ⟨_, h⟩ := h
    simp only [DR] at hd he
    obtain ⟨xs, rfl, h1⟩ := hd
    obtain ⟨ys, rfl, h2⟩ := he
    refine ⟨bq, fun b hb => hb, fun h => h, fun G hG => ?_⟩
    simp only [AR]
    exact ⟨ys, rfl, (h.give q 0 xs ys bq h1 h2).1 G hG⟩
  | obj h =>
    obtain ⟨_, h⟩ := h
    simp only [DR] at hd he
    obtain ⟨xs, ty, bs', rfl, h0, rfl, h1⟩ := hd
    obtain ⟨ys, rfl, h2⟩ := he
    refine ⟨bs', fun b hb => by simp [hb], fun h => (List.nodup_cons.1 h).2, fun G hG => ?_⟩
    simp only [AR]
    exact ⟨ys, rfl, (h.give q 0 xs ys bs' h1 h2).1 G hG⟩
end
section
variable {fc : Facts} {E : Env} {B : Base E.P} {w : World} {o : Oper} {st : St} {K : St → Prop} {all : List Oper} {n i' : Nat} {ls ls' : Array Bool}
end
end Go.Eng
