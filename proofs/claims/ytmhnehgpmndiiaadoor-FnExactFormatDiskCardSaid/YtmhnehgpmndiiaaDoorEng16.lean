import Derived.Test.YtmhnehgpmndiiaaDoorEng15
import Derived.Deep.Slices
import Derived.Deep.Fields
import Derived.ChangeSame
import Derived.ProofKit
import Derived.OpenShut
import Derived.ShutString
import Derived.ChangeOld
import Derived.SizedLaws
namespace Go.Eng
open Go Go.RowKit Go.ChangeShapes Go.WideShapes Go.Deep

section
variable {F : Nat → Prop} {w : World}
def RTs (F : Nat → Prop) (w : World) : List T → List Value → Prop
  | [], cs => cs = []
  | t :: ts, cs => ∃ c cs', cs = c :: cs' ∧ RT F w t c ∧ RTs F w ts cs'
theorem RTs_append : ∀ {ts us : List T} {cs ds : List Value}, RTs F w ts cs → RTs F w us ds → RTs F w (ts ++ us) (cs ++ ds)
  | [], _, cs, _, h, h' => by simp only [RTs] at h; subst h; exact h'
  | t :: ts, us, cs, ds, h, h' => by
    simp only [RTs] at h
    obtain ⟨c, cs', rfl, h1, h2⟩ := h
    exact ⟨c, cs' ++ ds, rfl, h1, RTs_append h2 h'⟩
theorem RTs_step {ts us : List T} {cs : List Value} {o k : Nat} (h : RTs F w ts ((cs.drop o).take k)) (h' : RTs F w us (cs.drop (o + k))) : RTs F w (ts ++ us) (cs.drop o) := by
  have := RTs_append h h'
  rwa [show cs.drop (o + k) = (cs.drop o).drop k from by rw [List.drop_drop], List.take_append_drop] at this
theorem RTs_end {cs : List Value} {n : Nat} (h : cs.length = n) : RTs F w [] (cs.drop n) := by
  rw [← h]
  simp [RTs]
theorem RTs_CRs : ∀ {ts : List T} {cs : List Value}, RTs F w ts cs → CRs F w (ts.map .r) cs []
  | [], cs, h => by simp only [RTs] at h; simp [CRs, h]
  | t :: ts, cs, h => by
    simp only [RTs] at h
    obtain ⟨c, cs', rfl, h1, h2⟩ := h
    simp only [List.map_cons, CRs]
    exact ⟨c, cs', [], [], rfl, rfl, ⟨h1, rfl⟩, RTs_CRs h2⟩
theorem RTs_RL {b : Nat} : ∀ {ts : List T} {cs : List Value} {o : Nat}, RTs F w ts cs → (∀ j v, cs[j]? = some v → w.cell? ⟨b, o + j, none⟩ = some v) → RL F w ts b o
  | [], _, _, _, _ => by simp [RL]
  | t :: ts, cs, o, h, hc => by
    simp only [RTs] at h
    obtain ⟨c, cs', rfl, h1, h2⟩ := h
    simp only [RL]
    refine ⟨⟨c, by simpa using hc 0 c rfl, h1⟩, RTs_RL h2 (fun j v hj => ?_)⟩
    have := hc (j + 1) v (by simpa using hj)
    rwa [show o + (j + 1) = o + 1 + j from by omega] at this
end

def Opens {α : Type} (P : Program) (t : TypeId) (c : α → List T) (ok : α → Prop) : Prop :=
  ∀ {H : Type} (enc : TypeId × Value → H) (w : World) (fuel : Nat) (cs : List Value) (x : DataW H × List MemPlace), DataW.trod enc P w 0 (fun _ => true) true fuel t cs = some x →
    ∃ v, ok v ∧ RTs (fun b => b < w.heap.size) w (c v) cs
def okI (n : Int) : Prop := (Lit.int .i64 n).wf = true
def okS (s : ByteArray) : Prop := s.size ≤ maxLen
def okB (_ : Bool) : Prop := True
def okL {α : Type} (ok : α → Prop) (l : List α) : Prop := l.length ≤ maxLen ∧ ∀ x ∈ l, ok x
section
variable {P : Program} {t e : TypeId}
theorem Opens.int (ht : P.underlying t = some (.int .i64)) : Opens P t cI okI := by
  intro H enc w fuel cs x h
  obtain ⟨n, rfl, _, hw⟩ := DataW.trod_int ht h
  exact ⟨n, hw, _, [], rfl, by simp [RT], rfl⟩
theorem Opens.bool (ht : P.underlying t = some .bool) : Opens P t cB okB := by
  intro H enc w fuel cs x h
  obtain ⟨n, rfl, _⟩ := DataW.trod_bool ht h
  exact ⟨n, trivial, _, [], rfl, by simp [RT], rfl⟩
theorem Opens.str (ht : P.underlying t = some .string) : Opens P t cS okS := by
  intro H enc w fuel cs x h
  obtain ⟨n, rfl, _, hw⟩ := DataW.trod_string ht h
  exact ⟨n, hw, _, [], rfl, by simp [RT], rfl⟩
def cL {α : Type} (sz : Nat) (c : α → List T) (l : List α) : List T := [sl sz c l]
theorem Opens.slice {α : Type} {c : α → List T} {ok : α → Prop} {k : Nat} (ht : P.underlying t = some (.slice e)) (hk : P.cellsOf e = k) (hp : 0 < k) (hc : ∀ x, (c x).length = k) (he : Opens P e c ok) : Opens P t (cL k c) (okL ok) := by
  intro H enc w fuel cs x h
  rcases open_slice ht h with ⟨rfl, _⟩ | ⟨a, len, cap, m, n, D, Pl, rfl, _, hl, hm, hmm, _, hi⟩
  · exact ⟨[], ⟨by simp, by simp⟩, _, [], rfl, by simp [sl, RT], rfl⟩
  · rw [hk] at hi
    rw [if_pos rfl] at hmm
    subst hmm
    have key : ∀ j, j ≤ len → ∃ l : List α, l.length = j ∧ (∀ v ∈ l, ok v) ∧ ∃ ds : List Value, RTs (fun b => b < w.heap.size) w (l.flatMap c) ds ∧ ds.length = j * k ∧ ∀ p v, ds[p]? = some v → w.cell? (a.add p) = some v := by
      intro j
      induction j with
      | zero => exact fun _ => ⟨[], rfl, by simp, [], by simp [RTs], by simp, by simp⟩
      | succ j ih =>
        intro hj
        obtain ⟨l, h1, h2, ds, h3, h4, h5⟩ := ih (by omega)
        obtain ⟨cs', q1, q2⟩ := hi j (by omega)
        obtain ⟨v, hv, hr⟩ := he enc w n cs' _ q2
        obtain ⟨_, hcl, hat⟩ := World.cells?_some q1
        refine ⟨l ++ [v], by simp [h1], ?_, ds ++ cs', ?_, by rw [List.length_append, h4, hcl, Nat.succ_mul], ?_⟩
        · intro u hu
          rcases List.mem_append.1 hu with hu | hu
          · exact h2 u hu
          · rw [List.mem_singleton.1 hu]; exact hv
        · rw [List.flatMap_append]
          refine RTs_append h3 ?_
          simpa using hr
        · intro p u hp'
          rcases Nat.lt_or_ge p ds.length with h6 | h6
          · rw [List.getElem?_append_left h6] at hp'
            exact h5 p u hp'
          · rw [List.getElem?_append_right h6] at hp'
            have h7 : p - ds.length < k := by
              have := (List.getElem?_eq_some_iff.1 hp').1
              rwa [hcl] at this
            have h8 := hat (p - ds.length) h7
            rw [hp'] at h8
            rw [← h8, Go.Deep.add_add]
            congr 2
            omega
    obtain ⟨l, h1, h2, ds, h3, h4, h5⟩ := key len (Nat.le_refl _)
    refine ⟨l, ⟨by omega, h2⟩, _, [], rfl, ?_, rfl⟩
    rcases Nat.eq_zero_or_pos len with h0 | hpos
    · subst h0
      have : l = [] := List.length_eq_zero_iff.1 h1
      subst this
      simp [sl, RT]
    · have hd0 : 0 < ds.length := by rw [h4]; exact Nat.mul_pos hpos hp
      have hc0 := h5 0 ds[0] (List.getElem?_eq_getElem hd0)
      obtain ⟨b, o, s⟩ := a
      have hs : s = none := by
        cases s with
        | none => rfl
        | some s =>
          exfalso
          unfold World.cell? at hc0
          split at hc0
          · simp [Addr.add] at hc0
          · cases hc0
      subst hs
      have hb : b < w.heap.size := by
        unfold World.cell? at hc0
        split at hc0
        · rename_i hh
          have := (Array.getElem?_eq_some_iff.1 hh).1
          simpa [Addr.add] using this
        · cases hc0
      simp only [sl, RT]
      refine .inr ⟨b, o, m, by rw [h1], by omega, hm, hb, ?_, RTs_RL h3 (fun j v hj => ?_)⟩
      · rw [flatMap_len hc]
      · have := h5 j v hj
        rwa [Addr.add_mid] at this
theorem Opens.field {α : Type} {c : α → List T} {ok : α → Prop} {H : Type} {enc : TypeId × Value → H} {w : World} {n i o k : Nat} {fs : Array Field} {f : Field} {cs : List Value} {xs : List (DataW H × List MemPlace)} (ho : Opens P t c ok) (hk : P.cellsOf t = k)
    (hxl : xs.length = fs.size) (hf : ∀ (i : Nat) (f : Field), fs[i]? = some f → DataW.trod enc P w 0 (fun _ => true) true n f.type ((cs.drop f.offset).take (P.cellsOf f.type)) = xs[i]?) (hi : fs[i]? = some f) (ht : f.type = t) (hoff : f.offset = o) :
    ∃ v, ok v ∧ RTs (fun b => b < w.heap.size) w (c v) ((cs.drop o).take k) := by
  have h := hf i f hi
  have hlt : i < xs.length := by rw [hxl]; exact (Array.getElem?_eq_some_iff.1 hi).1
  rw [List.getElem?_eq_getElem hlt, ht, hoff, hk] at h
  exact ho enc w n _ _ h
theorem Opens.one {α : Type} {c : α → List T} {ok : α → Prop} {f : α → T} {H : Type} {enc : TypeId × Value → H} {w : World} {v : Value} {d : DataW H} {p : List MemPlace} (ho : Opens P t c ok) (hc : ∀ a, c a = [f a]) (hv : v.cells = #[v]) (h : DataW.Trod enc P w 0 (fun _ => true) true t v d p) :
    ∃ a, ok a ∧ RT (fx w []) w (f a) v := by
  obtain ⟨fuel, hf⟩ := h
  obtain ⟨a, h1, h2⟩ := ho enc w fuel _ _ hf
  rw [hc, hv] at h2
  simp only [RTs] at h2
  obtain ⟨x, cs', h3, h4, rfl⟩ := h2
  simp at h3
  subst h3
  exact ⟨a, h1, RT_mono (fun b hb => ⟨hb, by simp⟩) _ _ h4⟩
theorem Opens.agg {α : Type} {c : α → List T} {ok : α → Prop} {H : Type} {enc : TypeId × Value → H} {w : World} {cs : Array Value} {d : DataW H} {p : List MemPlace} (ho : Opens P t c ok) (h : DataW.Trod enc P w 0 (fun _ => true) true t (.agg cs) d p) :
    ∃ a, ok a ∧ AR (fx w []) w (.agg ((c a).map .r)) (.agg cs) [] := by
  obtain ⟨fuel, hf⟩ := h
  obtain ⟨a, h1, h2⟩ := ho enc w fuel _ _ hf
  refine ⟨a, h1, cs.toList, rfl, CRs_mono (fun b hb => ⟨hb, by simp⟩) _ _ _ (RTs_CRs (by simpa [Value.cells] using h2))⟩
theorem Stp.below {w w' : World} (h : Stp w w' []) : Below w.heap.size w w' := ⟨h.os, h.tape, h.output, h.size, fun k hk => h.block k hk (by simp)⟩
end
end Go.Eng
