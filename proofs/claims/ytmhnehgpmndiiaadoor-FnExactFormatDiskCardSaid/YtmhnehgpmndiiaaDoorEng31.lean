import Derived.Test.YtmhnehgpmndiiaaDoorEng30
namespace Go.Eng
open Go Go.RowKit

section
variable {fc : Facts} {E : Env} {F : Nat → Prop} {B : Base E.P} {w : World} {o : Oper} {st : St} {K : St → Prop} {a : Act} {d : D} {all rest : List Oper} {Q : Exit → St → Prop} {fu : Nat} {ls : Array Bool}
theorem RA.pullT {k l b j sz n : Nat} {ds : List D} {ts : List T} {X : Value} (k' l' j0 : Nat) (h1 : k' = k) (h2 : l' = l) (h3 : j0 = j) (hkl : k ≠ l) (hk : gt st k = .obj b ds) (hj : ds[j]? = some (.al l none sz n X 0)) (hl : gt st l = .w (.a sz n ts) X)
    (h : RA fc E B all fu ls ((st.set k (.obj b (ds.set j (.w (.a sz n ts) X)))).set l .u) K) : RA fc E B all fu ls st K := fun F a w hr => h F a w (hr.pullT hkl hk hj hl)
theorem RA.pullA {k l b j j' sz n : Nat} {ds es : List D} {ts : List T} {X : Value} (k' l' j0 : Nat) (h1 : k' = k) (h2 : l' = l) (h3 : j0 = j) (hkl : k ≠ l) (hk : gt st k = .obj b ds) (hj : ds[j]? = some (.al l (some j') sz n X 0)) (hl : gt st l = .agg es)
    (hj' : es[j']? = some (.w (.a sz n ts) X)) (h : RA fc E B all fu ls ((st.set k (.obj b (ds.set j (.w (.a sz n ts) X)))).set l (.agg (es.set j' .u))) K) : RA fc E B all fu ls st K := fun F a w hr => h F a w (hr.pullA hkl hk hj hl hj')

theorem RA.freezeB (k : Nat) {b : Nat} {ds : List D} {ts : List T} (hk : Eng.gt st k = .obj b ds) (hd : DRd ds ts) (h : RA fc E B all fu ls (st.set k (.rp ts)) K) : RA fc E B all fu ls st K := fun F a w hr => by
  obtain ⟨H, hr'⟩ := hr.freezeB hk hd
  exact h H a w hr'
theorem RA.pullS (k l : Nat) {sz n : Nat} {ts : List T} {X : Value} (hkl : k ≠ l) (hk : Eng.gt st k = .al l none sz n X 0) (hl : Eng.gt st l = .w (.a sz n ts) X)
    (h : RA fc E B all fu ls ((st.set k (.w (.a sz n ts) X)).set l .u) K) : RA fc E B all fu ls st K := fun F a w hr => h F a w (hr.pull hkl hk hl)
theorem RO.pullT {q : Nat} {k l b j sz n : Nat} {ds : List D} {ts : List T} {X : Value} (k' l' j0 : Nat) (h1 : k' = k) (h2 : l' = l) (h3 : j0 = j) (hkl : k ≠ l) (hk : gt st k = .obj b ds) (hj : ds[j]? = some (.al l none sz n X 0)) (hl : gt st l = .w (.a sz n ts) X)
    (h : RO fc E B all fu ls ((st.set k (.obj b (ds.set j (.w (.a sz n ts) X)))).set l .u) K q) : RO fc E B all fu ls st K q := by
  obtain ⟨o, g1, g2, g3⟩ := h
  exact ⟨o, g1, g2, fun F a w hr => g3 F a w (hr.pullT hkl hk hj hl)⟩
theorem RO.pullA {q : Nat} {k l b j j' sz n : Nat} {ds es : List D} {ts : List T} {X : Value} (k' l' j0 : Nat) (h1 : k' = k) (h2 : l' = l) (h3 : j0 = j) (hkl : k ≠ l) (hk : gt st k = .obj b ds) (hj : ds[j]? = some (.al l (some j') sz n X 0)) (hl : gt st l = .agg es)
    (hj' : es[j']? = some (.w (.a sz n ts) X)) (h : RO fc E B all fu ls ((st.set k (.obj b (ds.set j (.w (.a sz n ts) X)))).set l (.agg (es.set j' .u))) K q) : RO fc E B all fu ls st K q := by
  obtain ⟨o, g1, g2, g3⟩ := h
  exact ⟨o, g1, g2, fun F a w hr => g3 F a w (hr.pullA hkl hk hj hl hj')⟩
theorem RO.freezeB {q : Nat} (k : Nat) {b : Nat} {ds : List D} {ts : List T} (hk : Eng.gt st k = .obj b ds) (hd : DRd ds ts) (h : RO fc E B all fu ls (st.set k (.rp ts)) K q) : RO fc E B all fu ls st K q := by
  obtain ⟨o, h1, h2, h3⟩ := h
  exact ⟨o, h1, h2, fun F a w hr => by
    obtain ⟨H, hr'⟩ := hr.freezeB hk hd
    exact h3 H a w hr'⟩
theorem RO.pullS {q : Nat} (k l : Nat) {sz n : Nat} {ts : List T} {X : Value} (hkl : k ≠ l) (hk : Eng.gt st k = .al l none sz n X 0) (hl : Eng.gt st l = .w (.a sz n ts) X)
    (h : RO fc E B all fu ls ((st.set k (.w (.a sz n ts) X)).set l .u) K q) : RO fc E B all fu ls st K q := by
  obtain ⟨o, h1, h2, h3⟩ := h
  exact ⟨o, h1, h2, fun F a w hr => h3 F a w (hr.pull hkl hk hl)⟩
end
end Go.Eng
