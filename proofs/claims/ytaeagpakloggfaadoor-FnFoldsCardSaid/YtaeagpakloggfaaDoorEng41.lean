/- The end of an own array is taken over. -/
import Derived.Test.YtaeagpakloggfaaDoorEng40
namespace Go.Eng
open Go Go.RowKit
section
variable {E : Env} {F : Nat → Prop} {B : Base E.P} {w : World} {o : Oper} {st : St} {K : St → Prop} {a : Act} {all rest : List Oper}
theorem OL_dropL : ∀ {ts : List T} {cs : List Value} {bs : List Nat} (n : Nat), OL w ts cs bs → ∃ bs', OL w (ts.drop n) (cs.drop n) bs' ∧ bs'.Sublist bs
  | ts, cs, bs, 0, h => ⟨bs, by simpa using h, List.Sublist.refl _⟩
  | [], cs, bs, n + 1, h => ⟨[], by simp [OL], by simp⟩
  | t :: ts, cs, bs, n + 1, h => by
    simp only [OL] at h
    obtain ⟨c, cs', b1, b2, rfl, rfl, h3, h4⟩ := h
    obtain ⟨bs', h5, h6⟩ := OL_dropL n h4
    exact ⟨bs', by simpa using h5, h6.trans (List.sublist_append_right _ _)⟩
theorem OK.dropOwn {α : Type} {t e : TypeId} {x y : Operand} {i ie : TyI} {k d m : Nat} {c : α → List T} {l : List α} {X : Value} (ho : o.op = .slice t x (some y) none none) (hd : o.dst = some d) (ht : E.tabs t = some i) (he : i.td = .slice e) (hte : E.tabs e = some ie)
    (hx : ev st x = .al k none ie.sz l.length X 0) (hk : Eng.gt st k = .w (sl ie.sz c l) X) (hy : ev st y = .r (.v (.int .i64 (m : Int)))) (hc : ∀ x, (c x).length = ie.sz) (hm : m < l.length) (hdk : d ≠ k) (hdl : d < st.length)
    (h : ∀ Y, K ((st.set d (.w (sl ie.sz c (l.drop m)) Y)).set k .u)) : OK E B o st K := by
  intro F a w hr next Q hn
  have hxv := ev_al hr hx hk
  have hu := tyI_slice (E.ok _ _ ht) he
  have hsz := fun w => tyI_sizeOf (E.ok _ _ hte) w
  obtain ⟨bk, bl, p1, p2, p3, ⟨xk, q1, q2⟩, p5, p6⟩ := hr.two d k hdk hdl
  have hkl := getD_eq hk (by simp)
  obtain ⟨xl, r1, r2⟩ := p5 _ (gt_some hk (by simp))
  simp only [DR, sl] at r2
  obtain ⟨rfl, r2⟩ := r2
  have hlen : (l.drop m).length = l.length - m := by simp
  have key : ∀ Y : Value, (∃ bs', OT w (sl ie.sz c (l.drop m)) Y bs' ∧ bs'.Sublist bl) → (execOp a.eval o).run E.P w = .ok (.value Y) w → o.wp E.P a w next Q := by
    rintro Y ⟨bs', h1, h2⟩ hrun
    unfold Oper.wp
    rw [hrun, Oper.upon_value, hd]
    have hrel := p6 w (.w (sl ie.sz c (l.drop m)) Y) .u (a.put (some d) Y) bs' [] (Stp.refl _ _) rfl (by simp [Act.put]) (fun i h1 _ => get_put_ne a Y h1)
      ⟨Y, get_put_eq a Y (by rw [hr.len]; exact hdl), by simp only [DR]; exact ⟨trivial, h1⟩⟩ (fun _ => ⟨xl, by rw [get_put_ne a Y (Ne.symm hdk)]; exact r1, by simp [DR]⟩)
      (by simpa using ((List.nodup_append.1 p3).2.1).sublist h2) (fun b hb => by
        have : b ∈ bl := h2.subset (by simpa using hb)
        exact ⟨.inr (.inl this), (p2 b this).2⟩)
    exact hn _ _ _ _ (h Y) hrel
  simp only [OT] at r2
  rcases r2 with ⟨h1, h2, _, h4⟩ | ⟨b, of, cap, cur, ty, bs', h1, g2, g3, g4, g5, g6, g7, g8⟩
  · omega
  · obtain ⟨bs2, k1, k2⟩ := OL_dropL (m * ie.sz) g8
    rw [flatMap_dropS hc, List.drop_drop] at k1
    have hcm : cap ≠ m := by omega
    refine key (.slice (some ⟨b, of + m * ie.sz, none⟩) (l.length - m) (cap - m)) ⟨b :: bs2, ?_, by rw [g7]; exact List.Sublist.cons_cons _ k2⟩ ?_
    · simp only [sl, OT]
      have hmul : m * ie.sz + (cap - m) * ie.sz = cap * ie.sz := by rw [← Nat.add_mul]; congr 1; omega
      exact .inr ⟨b, of + m * ie.sz, cap - m, cur, ty, bs2, by rw [hlen], by omega, by omega, g4, by omega, by rw [flatMap_len hc], rfl, k1⟩
    · have hb := run_sliceBound (P := E.P) w .i64 (m : Int) l.length .sliceB (by omega) (by omega)
      simp [execOp, ho, hxv, h1, ev_scalar hr hy, Instr.sliceAt, run_underlying hu, Instr.slice, Instr.sliceBounds, Sem.run_bind, hb, hsz, hcm]
      simp [Addr.add_mid]
theorem RW.dropOwn {α : Type} {t e : TypeId} {x y : Operand} {i ie : TyI} {k d m : Nat} {c : α → List T} {l : List α} {X : Value} (hg : o.guard = none) (ho : o.op = .slice t x (some y) none none) (hd : o.dst = some d) (ht : E.tabs t = some i) (he : i.td = .slice e) (hte : E.tabs e = some ie)
    (hx : ev st x = .al k none ie.sz l.length X 0) (hk : Eng.gt st k = .w (sl ie.sz c l) X) (hy : ev st y = .r (.v (.int .i64 (m : Int)))) (hc : ∀ x, (c x).length = ie.sz) (hm : m < l.length) (hdk : d ≠ k) (hdl : d < st.length)
    (h : ∀ Y, RW E B all rest ((st.set d (.w (sl ie.sz c (l.drop m)) Y)).set k .u) K) : RW E B all (o :: rest) st K := RW.cons hg (OK.dropOwn ho hd ht he hte hx hk hy hc hm hdk hdl h)
theorem Rel.relabel (hr : Rel F B st a w) {k i i' sz n n' off : Nat} {j j' : Option Nat} {V : Value} (hn : n = n') (hk : Eng.gt st k = .al i j sz n V off) : Rel F B (st.set k (.al i' j' sz n' V off)) a w := by
  subst hn
  have hg : st.get? k = some (.al i j sz n V off) := gt_some hk (by simp)
  have hlt := St.get_lt hg
  obtain ⟨own, hs⟩ := hr.slots
  refine ⟨hr.defers, by simpa using hr.len, hr.fr, hr.Flt, hr.Fin, own, fun m d hm => ?_⟩
  by_cases h : k = m
  · subst h
    rw [St.get_set_self hlt] at hm
    obtain rfl := Option.some.inj hm
    obtain ⟨x, bs, h1, h2, h3⟩ := hs k _ hg
    simp only [DR] at h2
    exact ⟨x, bs, h1, by simp only [DR]; exact h2, h3⟩
  · rw [St.get_set_ne h] at hm
    exact hs m d hm
theorem RW.relabel (k i' : Nat) (j' : Option Nat) (n' : Nat) {i sz n off : Nat} {j : Option Nat} {V : Value} (hn : n = n') (hk : Eng.gt st k = .al i j sz n V off) (h : RW E B all rest (st.set k (.al i' j' sz n' V off)) K) : RW E B all rest st K := fun F a w hr => h F a w (hr.relabel hn hk)
theorem RW.pullN {k l b j sz n n' : Nat} {ds : List D} {ts : List T} {X : Value} (k' l' j0 : Nat) (h1 : k' = k) (h2 : l' = l) (h3 : j0 = j) (hkl : k ≠ l) (hk : Eng.gt st k = .obj b ds) (hj : ds[j]? = some (.al l none sz n X 0)) (hl : Eng.gt st l = .w (.a sz n' ts) X) (hn : n = n')
    (h : RW E B all rest ((st.set k (.obj b (ds.set j (.w (.a sz n' ts) X)))).set l .u) K) : RW E B all rest st K := by
  subst hn
  exact RW.pullT k' l' j0 h1 h2 h3 hkl hk hj hl h
end
end Go.Eng
