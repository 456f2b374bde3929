import Derived.Test.YtmhnehgpmndiiaaDoorEng24
namespace Go.Eng
open Go Go.RowKit

section
variable {E : Env} {st : St} {g : Nat → Nat → Value} {bo : Nat → Nat} {as outs : List A}
theorem RV.v {k : Nat} {x y : Value} (hk : gt st k = .r (.v x)) (h : x = y) : RV E st (.tmp k) (.one (.w (.v y))) := by
  simp only [RV, hk, DT1]; exact .inl (by rw [h])
theorem RV.i {k : Nat} {x y : Int} (hk : gt st k = I x) (h : x = y) : RV E st (.tmp k) (.one (.w (.v (.int .i64 y)))) := RV.v hk (by rw [h])
theorem RV.b {k : Nat} {x y : Bool} (hk : gt st k = Bo x) (h : x = y) : RV E st (.tmp k) (.one (.w (.v (.bool y)))) := RV.v hk (by rw [h])
theorem RV.s {k : Nat} {x y : ByteArray} (hk : gt st k = S x) (h : x = y) : RV E st (.tmp k) (.one (.w (.v (.string y)))) := RV.v hk (by rw [h])
theorem RV.w {α : Type} {k sz : Nat} {c : α → List T} {l l' : List α} {X : Value} (hk : gt st k = .w (sl sz c l) X) (h : l = l') : RV E st (.tmp k) (.one (.w (sl sz c l'))) := by
  simp only [RV, hk, DT1]; rw [h]
theorem RV.r {α : Type} {k sz : Nat} {c : α → List T} {l l' : List α} (hk : gt st k = .r (sl sz c l)) (h : l = l') : RV E st (.tmp k) (.one (.r (sl sz c l'))) := by
  simp only [RV, hk, DT1]; exact .inl (by rw [h])
theorem RV.n {α : Type} {k sz : Nat} {c : α → List T} {l' : List α} (hk : gt st k = .r (.v (.slice none 0 0))) (h : [] = l') : RV E st (.tmp k) (.one (.w (sl sz c l'))) := by
  subst h
  simp only [RV, hk, DT1]; exact .inr ⟨by trivial, sz, rfl⟩
theorem RV.a {α : Type} {k : Nat} {f : α → List C} {ds : List D} {e' e : α} (hk : gt st k = .agg ds) (hd : DT ds (f e')) (h : e' = e) : RV E st (.tmp k) (.agg (f e)) := by
  subst h
  exact ⟨ds, hk, hd⟩
theorem RV.c {α : Type} {k ty b : Nat} {f : α → List C} {ds : List D} {ti : TyI} {fs : List (Nat × Nat × Nat)} {e' e : α} (hk : gt st k = .obj b ds) (ht : E.tabs ty = some ti) (hf : ti.td = .agg fs) (hl : ds.length = ti.sz) (hd : DT ds (f e')) (h : e' = e) : RV E st (.cell k ty) (.agg (f e)) := by
  subst h
  exact ⟨b, ds, ti, fs, hk, ht, hf, hl, hd⟩
theorem RV.c1 {k ty b : Nat} {d : D} {ti : TyI} {t : C} (hk : gt st k = .obj b [d]) (ht : E.tabs ty = some ti) (hf : ti.td = .prim ∨ ∃ e, ti.td = .slice e) (hd : DT1 d t) : RV E st (.cell k ty) (.one t) := ⟨b, d, ti, hk, ht, hf, hd⟩
theorem RVs.e : RVs E st [] [] := rfl
theorem RVs.c {v : ResultVar} {r : R1} {vs : List ResultVar} {rs : List R1} (h : RV E st v r) (hs : RVs E st vs rs) : RVs E st (v :: vs) (r :: rs) := ⟨r, rs, rfl, h, hs⟩
theorem Post.tup {rvs : List ResultVar} {rs : List R1} (hn : rvs.length ≠ 1) (h : RVs E st rvs rs) (ho : AOs st g bo 0 as outs) : Post E rvs as (.tup rs) outs g bo st := ⟨⟨hn, h⟩, ho⟩
theorem Post.one {v : ResultVar} {r : R1} (h : RV E st v r) (ho : AOs st g bo 0 as outs) : Post E [v] as (.one r) outs g bo st := ⟨⟨v, rfl, h⟩, ho⟩
theorem DT.n {sz : Nat} {ds : List D} {cs : List C} (h : DT ds cs) : DT (.r (.v (.slice none 0 0)) :: ds) (.w (.a sz 0 []) :: cs) := ⟨_, _, rfl, .inr ⟨rfl, sz, rfl⟩, h⟩
theorem DW.n {sz : Nat} {ds : List D} {cs : List T} (h : DW ds cs) : DW (.r (.v (.slice none 0 0)) :: ds) (.a sz 0 [] :: cs) := ⟨_, _, rfl, .inr ⟨rfl, sz, rfl⟩, h⟩
theorem AOs.w {i : Nat} {sz n : Nat} {ts : List T} {t : T} {as outs : List A} (hk : gt st i = .w t (g i 0)) (h : AOs st g bo (i + 1) as outs) : AOs st g bo i (.one (.w (.a sz n ts)) :: as) (.one (.w t) :: outs) := ⟨_, _, rfl, .inr ⟨t, rfl, hk⟩, h⟩
theorem AOs.v {i : Nat} {x : Value} {as outs : List A} (h : AOs st g bo (i + 1) as outs) : AOs st g bo i (.one (.w (.v x)) :: as) (.one (.w (.v x)) :: outs) := ⟨_, _, rfl, .inr rfl, h⟩
theorem AOs.ag {i : Nat} {cs os : List C} {ds : List D} {as outs : List A} (hk : gt st i = .agg ds) (hc : AOc (g i) 0 cs ds os) (h : AOs st g bo (i + 1) as outs) : AOs st g bo i (.agg cs :: as) (.agg os :: outs) := ⟨_, _, rfl, .inr (.inr ⟨os, ds, rfl, hk, hc⟩), h⟩
theorem AOs.ob {i b : Nat} {cs os : List C} {ds : List D} {as outs : List A} (hk : gt st i = .obj (bo i) ds) (hc : DT ds os) (h : AOs st g bo (i + 1) as outs) : AOs st g bo i (.ob cs :: as) (.ob os :: outs) := ⟨_, _, rfl, .inr ⟨os, ds, rfl, hk, hc⟩, h⟩
theorem AOc.e {G : Nat → Value} {j : Nat} : AOc G j [] [] [] := ⟨rfl, rfl⟩
theorem AOc.r {G : Nat → Value} {j : Nat} {c : C} {d : D} {cs os : List C} {ds : List D} (hc : ro1 c = true) (h : AOc G (j + 1) cs ds os) : AOc G j (c :: cs) (d :: ds) (c :: os) := ⟨_, _, _, _, rfl, rfl, by rw [if_pos hc], h⟩
theorem AOc.w {G : Nat → Value} {j sz n : Nat} {ts : List T} {t : T} {d : D} {cs os : List C} {ds : List D} (hd : d = .w t (G j)) (h : AOc G (j + 1) cs ds os) : AOc G j (.w (.a sz n ts) :: cs) (d :: ds) (.w t :: os) := ⟨_, _, _, _, rfl, rfl, by rw [if_neg (by simp [ro1])]; exact ⟨t, rfl, hd⟩, h⟩
end
end Go.Eng
