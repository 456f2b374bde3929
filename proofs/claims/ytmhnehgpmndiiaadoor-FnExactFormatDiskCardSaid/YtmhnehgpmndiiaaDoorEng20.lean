import Derived.Test.YtmhnehgpmndiiaaDoorEng19
import Derived.Deep.AppendSrc
namespace Go.Eng
open Go Go.RowKit

section
variable {E : Env} {F : Nat → Prop} {B : Base E.P} {w : World} {o : Oper} {st : St} {K : St → Prop} {a : Act}
def Had {P : Program} (F : Nat → Prop) (B : Base P) (w : World) (own : Nat → Nat) (S : List Nat) (b : Nat) : Prop := own b ∈ S ∧ (¬ F b ∧ (b ∈ B.bs ∨ B.w.heap.size ≤ b)) ∧ b < w.heap.size
theorem Rel.gather (hr : Rel F B st a w) (S : List Nat) (m : Nat) (hm : m ∈ S) :
    ∃ own : Nat → Nat, (∀ i d, i ∈ S → st.get? i = some d → ∃ x bs, a.tmps[i]? = some x ∧ DR F w d x bs ∧ bs.Nodup ∧ ∀ b ∈ bs, own b = i ∧ Had F B w own S b) ∧
      ∀ (w' : World) (a' : Act) (st' : St) (d : D) (x : Value) (cs W : List Nat), Stp w w' W → (∀ b ∈ W, Had F B w own S b) → a'.defers = a.defers → a'.tmps.size = a.tmps.size → st'.length = st.length →
        (∀ i, i ∉ S → st'.get? i = st.get? i ∧ a'.tmps[i]? = a.tmps[i]?) → (∀ i e, i ∈ S → i ≠ m → st'.get? i = some e → e = .u) →
        (∀ e, st'.get? m = some e → e = d ∧ a'.tmps[m]? = some x) → DR F w' d x cs → cs.Nodup → (∀ b ∈ cs, (Had F B w own S b ∨ w.heap.size ≤ b) ∧ b < w'.heap.size) → Rel F B st' a' w' := by
  obtain ⟨own, hs⟩ := hr.slots
  refine ⟨own, fun i d hi hd => ?_, ?_⟩
  · obtain ⟨x, bs, h1, h2, h3, h4⟩ := hs i d hd
    exact ⟨x, bs, h1, h2, h3, fun b hb => ⟨(h4 b hb).1, by rw [(h4 b hb).1]; exact hi, (h4 b hb).2⟩⟩
  · intro w' a' st' d x cs W hst hW hdef hsz hn hoth hS hmd hd hnd hin
    have hF : ∀ b, F b → w'.heap[b]? = w.heap[b]? := fun b hb => hst.block b (hr.Flt b hb) (fun hw => (hW b hw).2.1.1 hb)
    refine ⟨hdef.trans hr.defers, by rw [hsz, hr.len, hn], hr.fr.stp hst (fun b hb => (hW b hb).2.1.2), fun b hb => Nat.lt_of_lt_of_le (hr.Flt b hb) hst.size, hr.Fin, fun b => if b ∈ cs then m else own b, fun i e hi => ?_⟩
    by_cases him : i = m
    · subst him
      obtain ⟨rfl, h1⟩ := hmd e hi
      refine ⟨x, cs, h1, hd, hnd, fun b hb => ⟨by simp [hb], ?_, (hin b hb).2⟩⟩
      rcases (hin b hb).1 with h | h
      · exact h.2.1
      · exact ⟨fun hf => by have := hr.Flt b hf; omega, .inr (Nat.le_trans hr.fr.size h)⟩
    · by_cases hiS : i ∈ S
      · have := hS i e hiS him hi
        subst this
        have hlt : i < a'.tmps.size := by rw [hsz, hr.len, ← hn]; exact St.get_lt hi
        exact ⟨a'.tmps[i], [], Array.getElem?_eq_getElem hlt, by simp [DR], by simp, by simp⟩
      · obtain ⟨h1, h2⟩ := hoth i hiS
        rw [h1] at hi
        obtain ⟨y, bs, f1, f2, f3, f4⟩ := hs i e hi
        have hnot : ∀ b ∈ bs, ¬ Had F B w own S b := fun b hb h => hiS ((f4 b hb).1 ▸ h.1)
        refine ⟨y, bs, by rw [h2]; exact f1, DR_world hF e y bs (fun b hb => hst.block b (f4 b hb).2.2 (fun hw => hnot b hb (hW b hw))) f2, f3, fun b hb => ⟨?_, (f4 b hb).2.1, Nat.lt_of_lt_of_le (f4 b hb).2.2 hst.size⟩⟩
        have : b ∉ cs := fun hc => by
          rcases (hin b hc).1 with h | h
          · exact hnot b hb h
          · have := (f4 b hb).2.2; omega
        simp [this, (f4 b hb).1]
end
end Go.Eng
