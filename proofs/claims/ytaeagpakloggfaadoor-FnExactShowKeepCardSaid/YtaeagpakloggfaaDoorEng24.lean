import Derived.Test.YtaeagpakloggfaaDoorEng23
import Derived.Laws.BytesString
import Derived.Laws.Cells
namespace Go.Eng
open Go Go.RowKit

section
variable {E : Env} {F : Nat → Prop} {B : Base E.P} {w : World} {o : Oper} {st : St} {K : St → Prop} {a : Act} {all rest : List Oper} {Q : Exit → St → Prop}
theorem Rel.take (hr : Rel F B st a w) {k l sz n : Nat} {j : Option Nat} {X : Value} {ts : List T} {d' : D} (hkl : k ≠ l) (hk : gt st k = .al l j sz n X 0)
    (hd : ∀ x bs, DR F w (gt st l) x bs → ∃ b1 b2, bs.Perm (b1 ++ b2) ∧ OT w (.a sz n ts) X b1 ∧ DR F w d' x b2) (hl : gt st l ≠ .u) : Rel F B ((st.set k (.w (.a sz n ts) X)).set l d') a w := by
  have hklt := getD_eq hk (by simp)
  obtain ⟨bk, bl, p1, p2, p3, ⟨xk, q1, q2⟩, p5, p6⟩ := hr.two k l hkl hklt
  have hll : l < st.length := by
    rcases Nat.lt_or_ge l st.length with h | h
    · exact h
    · exact absurd (gt_ge h) hl
  obtain ⟨xl, r1, r2⟩ := p5 _ (St.get_of hll)
  obtain ⟨b1, b2, hp, h1, h2⟩ := hd xl bl r2
  rw [hk] at q2
  simp only [DR] at q2
  have hx : xk = X := by rw [q2.1, ← subV_whole h1]
  subst hx
  have hbk : bk = [] := q2.2.1
  subst hbk
  have hnl : (b1 ++ b2).Nodup := hp.nodup_iff.1 (by simpa using p3)
  refine p6 w (.w (.a sz n ts) xk) d' a b1 b2 (Stp.refl _ _) rfl rfl (fun _ _ _ => rfl) ⟨xk, q1, by simp only [DR]; exact ⟨trivial, h1⟩⟩ (fun _ => ⟨xl, r1, h2⟩) hnl (fun b hb => ?_)
  have : b ∈ bl := hp.mem_iff.2 hb
  exact ⟨.inr (.inl this), (p2 b this).2⟩
theorem V.bytesStr {s t e : TypeId} {x : Operand} {i : TyI} {l : List Int} (ho : o.op = .convert s t x) (ht : E.tabs s = some i) (he : i.td = .slice e) (hue : E.P.underlying e = some (.int .u8)) (hut : E.P.underlying t = some .string)
    (hx : AsT st true none (ev st x) (sl 1 cU l)) : V E B o st (.r (.v (.string (bytesOf l)))) := fun F ac w hr => by
  refine ⟨.string (bytesOf l), fun w' hs => ?_, by simp [DR, RT]⟩
  have hx' := hx.readAll hr
  have hu := tyI_slice (E.ok _ _ ht) he
  simp only [sl, RT] at hx'
  have hmap : ∀ l : List Int, l.flatMap cU = (l.map (Value.int .u8)).map .v := by
    intro l
    induction l with
    | nil => rfl
    | cons n l ih => rw [List.flatMap_cons, ih]; rfl
  rcases hx' with ⟨A, C, h1, h2, h3⟩ | ⟨b, of, cap, h1, g2, g3, g4, g5, g6⟩
  · have hl : l = [] := List.length_eq_zero_iff.1 h2
    subst hl
    simp only [execOp, ho, Sem.run_bind, h1, run_convert_bytes_string w' s t e A 0 C hu hue hut]
    cases A with
    | none => simp [Conv.bytesToString, bytesOf]
    | some A =>
      have := run_bytesToString (P := E.P) w' A 0 C [] (by simpa using run_loadCells_list (w := w') A [] (by simp))
      simp [this, bytesOf]
  · rw [hmap] at g6
    have hcell : ∀ (vs : List Value) (o' : Nat), RL (fx w []) w (vs.map .v) b o' → ∀ j v, vs[j]? = some v → w.cell? ⟨b, o' + j, none⟩ = some v := by
      intro vs
      induction vs with
      | nil => intro _ _ j v hv; simp at hv
      | cons v0 vs ih =>
        intro o' hrl j v hv
        simp only [List.map_cons, RL, RT] at hrl
        obtain ⟨⟨c, k1, k2⟩, k3⟩ := hrl
        cases j with
        | zero => simp at hv; subst hv; subst k2; simpa using k1
        | succ j => rw [show o' + (j + 1) = o' + 1 + j from by omega]; exact ih (o' + 1) k3 j v (by simpa using hv)
    have hload := run_loadCells_list (P := E.P) (w := w') ⟨b, of, none⟩ (l.map (Value.int .u8)) (fun j v hv => by
      rw [Addr.add_mid, World.cell?_of_block (w := w) ((hs rfl).block b g4.1 (by simp))]
      exact hcell _ of g6 j v hv)
    have := run_bytesToString (P := E.P) w' ⟨b, of, none⟩ l.length cap l (by simpa using hload)
    simp only [execOp, ho, Sem.run_bind, h1, run_convert_bytes_string w' s t e _ _ _ hu hue hut, this]
    simp [bytesOf]
end
end Go.Eng
