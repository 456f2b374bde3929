import Derived.Test.YtbiocicogminlaaEng27
import Derived.Lib.SliceRun
namespace Go.Eng
open Go Go.RowKit

section
variable {E : Env} {F : Nat → Prop} {B : Base} {w : World} {o : Oper} {st : St} {K : St → Prop} {a : Act} {d : D} {all rest : List Oper} {Q : Exit → St → Prop}
theorem run_clear1 {P : Program} (w : World) (t e ty : TypeId) (z zv : Value) (ht : P.underlying t = some (.slice e)) (hv : ∀ w, (zeroValue e).run P w = .ok z w) (hz : z.cells = #[zv]) (h1 : zv.oneCell' = true) (b o n c : Nat) (hn : 0 < n)
    (hc : ∀ j, j < n → (w.cell? ⟨b, o + j, none⟩).isSome = true) (hf : ∀ j, j < n → w.frozen? ⟨b, o + j, none⟩ = false) :
    (Builtin.clear_ #[t] ty #[.slice (some ⟨b, o, none⟩) n c]).run P w = .ok (.tuple #[]) (w.setCells b o (List.replicate n zv)) := by
  have hzc : (Builtin.zeroCells z.cells n).toList = List.replicate n zv := by
    rw [hz]
    simp [Builtin.zeroCells]
    apply List.ext_getElem
    · simp
    · intro i h1 h2
      simp [Nat.mod_one]
  have hst := run_storeCells_cells (P := P) b o (List.replicate n zv) 0 w (by simpa using hc) (by simpa using hf) (by intro v hv'; rw [List.eq_of_mem_replicate hv']; exact h1)
  simp only [Nat.add_zero] at hst
  obtain ⟨m, rfl⟩ : ∃ m, n = m + 1 := ⟨n - 1, by omega⟩
  simp [Builtin.clear_, run_underlying ht, hv, hzc, hst]
theorem V.indexZ {pu : Bool} {α : Type} {t e : TypeId} {x y : Operand} {i ie : TyI} {c : α → List T} {l : List α} {m : Nat} {z : Int} {v : α} (ho : o.op = .indexAddr t x y) (ht : E.tabs t = some i) (he : i.td = .slice e) (hte : E.tabs e = some ie)
    (hx : ev st x = .r (sl ie.sz c l)) (hy : ev st y = .r (.v (.int .i64 z))) (hz : z = (m : Int)) (hc : ∀ x, (c x).length = ie.sz) (hv : l[m]? = some v) : VP pu E B o st (.rp (c v)) := by
  subst hz
  exact V.indexS ho ht he hte hx hy hc hv
theorem V.sliceLo {pu : Bool} {t e : TypeId} {x y : Operand} {i ie : TyI} {k n m : Nat} {ts : List T} {X : Value} (ho : o.op = .slice t x (some y) none none) (ht : E.tabs t = some i) (he : i.td = .slice e) (hte : E.tabs e = some ie)
    (hx : ev st x = .al k none ie.sz n X 0) (hk : Eng.gt st k = .w (.a ie.sz n ts) X) (hy : ev st y = .r (.v (.int .i64 (m : Int)))) (hm : m ≤ n) : VP pu E B o st (.al k none ie.sz (n - m) X m) := fun F a w hr => by
  have hxv := ev_al hr hx hk
  have hu := tyI_slice (E.ok _ _ ht) he
  have hsz := fun w => tyI_sizeOf (E.ok _ _ hte) w
  rcases hr.own hk with ⟨h1, rfl, h3⟩ | ⟨b, of, cap, cs, ty, bs', h1, g2, g3, g4, g5, g6, g7⟩
  · have : m = 0 := by omega
    subst this
    refine ⟨.slice none 0 0, fun w' hs => ?_, by simp only [DR]; exact ⟨by simp [h1, subV], trivial, by rw [h1]; exact ⟨_, _, _, rfl⟩⟩⟩
    simp [execOp, ho, hxv, h1, ev_scalar hr hy, Instr.sliceAt, run_underlying hu, Instr.slice, Instr.sliceBounds, Sem.run_bind, run_sliceBound w' .i64 0 0 .sliceB (by omega) (by omega), hsz]
  · refine ⟨.slice (if cap = m then some ⟨b, of, none⟩ else some ⟨b, of + m * ie.sz, none⟩) (n - m) (cap - m), fun w' hs => ?_, ?_⟩
    · have hb := run_sliceBound (P := E.P) w' .i64 (m : Int) n .sliceB (by omega) (by omega)
      simp [execOp, ho, hxv, h1, ev_scalar hr hy, Instr.sliceAt, run_underlying hu, Instr.slice, Instr.sliceBounds, Sem.run_bind, hb, hsz]
      split <;> simp [Addr.add_mid]
    · simp only [DR]
      refine ⟨?_, trivial, by rw [h1]; exact ⟨_, _, _, rfl⟩⟩
      rw [h1]
      simp only [subV]
      split <;> simp [Addr.add_mid]
theorem OL_takeL : ∀ {ts : List T} {cs : List Value} {bs : List Nat} (n : Nat), OL w ts cs bs → ∃ bs', OL w (ts.take n) cs bs' ∧ bs'.Sublist bs
  | ts, cs, bs, 0, h => ⟨[], by simp [OL], by simp⟩
  | [], cs, bs, n + 1, h => ⟨[], by simp [OL], by simp⟩
  | t :: ts, cs, bs, n + 1, h => by
    simp only [OL] at h
    obtain ⟨c, cs', b1, b2, rfl, rfl, h3, h4⟩ := h
    obtain ⟨bs', h5, h6⟩ := OL_takeL n h4
    refine ⟨b1 ++ bs', ?_, List.Sublist.append (List.Sublist.refl _) h6⟩
    simp only [List.take_succ_cons, OL]
    exact ⟨c, cs', b1, bs', rfl, rfl, h3, h5⟩
theorem OK.takeOwn {α : Type} {t e : TypeId} {x y : Operand} {i ie : TyI} {k d m : Nat} {c : α → List T} {l : List α} {X : Value} (ho : o.op = .slice t x none (some y) none) (hd : o.dst = some d) (ht : E.tabs t = some i) (he : i.td = .slice e) (hte : E.tabs e = some ie)
    (hx : ev st x = .al k none ie.sz l.length X 0) (hk : Eng.gt st k = .w (sl ie.sz c l) X) (hy : ev st y = .r (.v (.int .i64 (m : Int)))) (hc : ∀ x, (c x).length = ie.sz) (hm : m ≤ l.length) (hdk : d ≠ k) (hdl : d < st.length)
    (h : ∀ Y, K ((st.set d (.w (sl ie.sz c (l.take m)) Y)).set k .u)) : OK E B o st K := by
  intro F a w hr next Q hn
  have hxv := ev_al hr hx hk
  have hu := tyI_slice (E.ok _ _ ht) he
  have hsz := fun w => tyI_sizeOf (E.ok _ _ hte) w
  obtain ⟨bk, bl, p1, p2, p3, ⟨xk, q1, q2⟩, p5, p6⟩ := hr.two d k hdk hdl
  have hkl := getD_eq hk (by simp)
  obtain ⟨xl, r1, r2⟩ := p5 _ (gt_some hk (by simp))
  simp only [DR, sl] at r2
  obtain ⟨rfl, r2⟩ := r2
  have hlen : (l.take m).length = m := by simp; omega
  have key : ∀ Y : Value, (∃ bs', OT w (sl ie.sz c (l.take m)) Y bs' ∧ bs'.Sublist bl) → (execOp a.eval o).run E.P w = .ok (.value Y) w → o.wp E.P a w next Q := by
    rintro Y ⟨bs', h1, h2⟩ hrun
    unfold Oper.wp
    rw [hrun, Oper.upon_value, hd]
    have hrel := p6 w (.w (sl ie.sz c (l.take m)) Y) .u (a.put (some d) Y) bs' [] (Stp.refl _ _) rfl (by simp [Act.put]) (fun i h1 _ => get_put_ne a Y h1)
      ⟨Y, get_put_eq a Y (by rw [hr.len]; exact hdl), by simp only [DR]; exact ⟨trivial, h1⟩⟩ (fun _ => ⟨xl, by rw [get_put_ne a Y (Ne.symm hdk)]; exact r1, by simp [DR]⟩)
      (by simpa using ((List.nodup_append.1 p3).2.1).sublist h2) (fun b hb => by
        have : b ∈ bl := h2.subset (by simpa using hb)
        exact ⟨.inr (.inl this), (p2 b this).2⟩)
    exact hn _ _ _ _ (h Y) hrel
  simp only [OT] at r2
  rcases r2 with ⟨h1, h2, _, h4⟩ | ⟨b, of, cap, cur, ty, bs', h1, g2, g3, g4, g5, g6, g7, g8⟩
  · have hl0 : l = [] := List.length_eq_zero_iff.1 h2
    subst hl0
    have : m = 0 := by simpa using hm
    subst this
    refine key (.slice none 0 0) ⟨[], by simp [sl, OT], by simp⟩ ?_
    have hb := run_sliceBound (P := E.P) w .i64 0 0 .sliceAcap (by omega) (by omega)
    simp [execOp, ho, hxv, h1, ev_scalar hr hy, Instr.sliceAt, run_underlying hu, Instr.slice, Instr.sliceBounds, Sem.run_bind, hb, hsz]
  · obtain ⟨bs2, k1, k2⟩ := OL_takeL (m * ie.sz) g8
    rw [flatMap_take hc] at k1
    refine key (.slice (some ⟨b, of, none⟩) m cap) ⟨b :: bs2, ?_, by rw [g7]; exact List.Sublist.cons_cons _ k2⟩ ?_
    · simp only [sl, OT]
      exact .inr ⟨b, of, cap, cur, ty, bs2, by rw [hlen], by omega, g3, g4, g5, by rw [flatMap_len hc], rfl, k1⟩
    · have hb := run_sliceBound (P := E.P) w .i64 (m : Int) cap .sliceAcap (by omega) (by omega)
      simp [execOp, ho, hxv, h1, ev_scalar hr hy, Instr.sliceAt, run_underlying hu, Instr.slice, Instr.sliceBounds, Sem.run_bind, hb, hsz]
      intro _
      rfl
theorem RW.takeOwn {α : Type} {t e : TypeId} {x y : Operand} {i ie : TyI} {k d m : Nat} {c : α → List T} {l : List α} {X : Value} (hg : o.guard = none) (ho : o.op = .slice t x none (some y) none) (hd : o.dst = some d) (ht : E.tabs t = some i) (he : i.td = .slice e) (hte : E.tabs e = some ie)
    (hx : ev st x = .al k none ie.sz l.length X 0) (hk : Eng.gt st k = .w (sl ie.sz c l) X) (hy : ev st y = .r (.v (.int .i64 (m : Int)))) (hc : ∀ x, (c x).length = ie.sz) (hm : m ≤ l.length) (hdk : d ≠ k) (hdl : d < st.length)
    (h : ∀ Y, RW E B all rest ((st.set d (.w (sl ie.sz c (l.take m)) Y)).set k .u) K) : RW E B all (o :: rest) st K := RW.cons hg (OK.takeOwn ho hd ht he hte hx hk hy hc hm hdk hdl h)
theorem setN_tail {α : Type} {c : α → List T} {zv : Value} {z : α} (hc : ∀ x, ∃ u, c x = [u]) (hz : c z = [.v zv]) (l : List α) (m : Nat) (hm : m ≤ l.length) : setN (l.flatMap c) m ((List.replicate (l.length - m) zv).map .v) = (l.take m ++ List.replicate (l.length - m) z).flatMap c := by
  have hc1 : ∀ x, (c x).length = 1 := fun x => by obtain ⟨u, hu⟩ := hc x; rw [hu]; rfl
  have hl := flatMap_len hc1 l
  rw [setN_eq _ _ _ (by rw [List.length_map, List.length_replicate, hl]; omega)]
  have h1 := flatMap_take hc1 l m
  rw [Nat.mul_one] at h1
  rw [h1, List.flatMap_append]
  have h2 : (l.flatMap c).drop (m + ((List.replicate (l.length - m) zv).map T.v).length) = [] := List.drop_eq_nil_of_le (by rw [List.length_map, List.length_replicate, hl]; omega)
  rw [h2, List.append_nil]
  congr 1
  have : ∀ n : Nat, (List.replicate n zv).map T.v = (List.replicate n z).flatMap c := by
    intro n
    induction n with
    | zero => rfl
    | succ n ih => rw [List.replicate_succ, List.map_cons, ih, List.replicate_succ, List.flatMap_cons, hz]; rfl
  exact this _
theorem OK.clearT {α : Type} {t e : TypeId} {x : Operand} {i ie : TyI} {k m : Nat} {c : α → List T} {l : List α} {X zv : Value} (z : α) (ho : o.op = .call { callee := .builtin .clear, args := #[x], argTypes := #[t] }) (hdst : o.dst = none) (ht : E.tabs t = some i) (he : i.td = .slice e) (hte : E.tabs e = some ie) (hs1 : ie.sz = 1) (hzr : ie.zero = [zv]) (hz1 : zv.oneCell' = true)
    (hx : ev st x = .al k none 1 (l.length - m) X m) (hk : Eng.gt st k = .w (sl 1 c l) X) (hc : ∀ x, ∃ u, c x = [u]) (hzc : c z = [.v zv]) (hm : m ≤ l.length) (h : K (st.set k (.w (sl 1 c (l.take m ++ List.replicate (l.length - m) z)) X))) : OK E B o st K := by
  intro F a w hr next Q hn
  have hu := tyI_slice (E.ok _ _ ht) he
  obtain ⟨j, dd, zz, t1, t2, t3, t4, t5, t6, t7⟩ := tyI_spec (E.ok _ _ hte)
  have hzz : zz.cells = #[zv] := by rw [← Array.toList_inj, t6, hzr]
  have hxv := hr.ev x
  rw [hx] at hxv
  simp only [DR] at hxv
  have hc1 : ∀ x, (c x).length = 1 := fun x => by obtain ⟨u, hu⟩ := hc x; rw [hu]; rfl
  have hfl := flatMap_len hc1 l
  by_cases hml : m = l.length
  · subst hml
    have hrun : (execOp a.eval o).run E.P w = .ok (.value (.tuple #[])) w := by
      obtain ⟨A, n', C, hX⟩ := hxv.2.2
      have : a.eval x = .slice (if C = l.length then A else A.map (·.add (l.length * 1))) 0 (C - l.length) := by rw [hxv.1, hX]; simp [subV]
      simp only [execOp, ho, resolve, Sem.run_bind, invoke, builtin]
      generalize (if C = l.length then A else A.map (·.add (l.length * 1))) = A' at this
      cases A' <;> simp [this, Builtin.clear_, run_underlying hu]
    unfold Oper.wp
    rw [hrun, Oper.upon_value, hdst]
    have e : l.take l.length ++ List.replicate (l.length - l.length) z = l := by simp
    rw [e] at h
    exact hn _ _ _ _ h (hr.congr (by simp) (fun i => by
      by_cases hik : k = i
      · subst hik
        rw [St.get_set_self (getD_eq hk (by simp)), St.get_of (getD_eq hk (by simp)), hk]
      · rw [St.get_set_ne hik]))
  · have hne : (List.replicate (l.length - m) (D.r (.v zv))) ≠ [] := by
      intro e
      have := congrArg List.length e
      simp at this
      omega
    have hDL : ∀ n : Nat, DLs F w (List.replicate n (D.r (.v zv))) (List.replicate n zv) [] := by
      intro n
      have := DLs_zero (F := F) (List.replicate n zv) w
      simpa using this
    have hDW : ∀ n : Nat, DW (List.replicate n (D.r (.v zv))) ((List.replicate n zv).map .v) := by
      intro n
      induction n with
      | zero => rfl
      | succ n ih => exact ⟨.v zv, _, rfl, .inl rfl, ih⟩
    obtain ⟨b, of, cap, cs, ty, hV, h1, h2, hr'⟩ := hr.setOwn (pos := m) hk (hDW (l.length - m)) (hDL (l.length - m)) hne (by rw [List.length_replicate, hfl]; omega)
    have hth := there_of_block (w := w) h1 (of + m) (l.length - m) (by rw [hfl] at h2; omega)
    have hcapm : cap ≠ m := by
      rcases hr.own hk with ⟨h3, _, _⟩ | ⟨b', of', cap', cs', ty', bs', h3, h4, _⟩
      · rw [hV] at h3; cases h3
      · rw [hV] at h3; cases h3; omega
    have hval : a.eval x = .slice (some ⟨b, of + m, none⟩) (l.length - m) (cap - m) := by
      rw [hxv.1, hV]
      simp [subV, hcapm, Addr.add_mid]
    have hrun : (execOp a.eval o).run E.P w = .ok (.value (.tuple #[])) (w.setCells b (of + m) (List.replicate (l.length - m) zv)) := by
      have := run_clear1 (P := E.P) w t e o.type zz zv hu (fun w => by simp [zeroValue, typeInfo, t1, t3]) hzz hz1 b (of + m) (l.length - m) (cap - m) (by omega) (fun j hj => (hth j hj).1) (fun j hj => (hth j hj).2)
      simp [execOp, ho, resolve, invoke, builtin, hval, this]
    unfold Oper.wp
    rw [hrun, Oper.upon_value, hdst]
    have e := setN_tail hc hzc l m hm
    have hT : T.a 1 l.length (setN (l.flatMap c) m ((List.replicate (l.length - m) zv).map .v)) = sl 1 c (l.take m ++ List.replicate (l.length - m) z) := by
      rw [e]
      simp [sl]
      omega
    rw [hT] at hr'
    exact hn _ _ _ _ h hr'
theorem RW.clearT {α : Type} {t e : TypeId} {x : Operand} {i ie : TyI} {k m : Nat} {c : α → List T} {l : List α} {X zv : Value} (z : α) (hg : o.guard = none) (ho : o.op = .call { callee := .builtin .clear, args := #[x], argTypes := #[t] }) (hdst : o.dst = none) (ht : E.tabs t = some i) (he : i.td = .slice e) (hte : E.tabs e = some ie) (hs1 : ie.sz = 1) (hzr : ie.zero = [zv]) (hz1 : zv.oneCell' = true)
    (hx : ev st x = .al k none 1 (l.length - m) X m) (hk : Eng.gt st k = .w (sl 1 c l) X) (hc : ∀ x, ∃ u, c x = [u]) (hzc : c z = [.v zv]) (hm : m ≤ l.length) (h : RW E B all rest (st.set k (.w (sl 1 c (l.take m ++ List.replicate (l.length - m) z)) X)) K) : RW E B all (o :: rest) st K := RW.cons hg (OK.clearT z ho hdst ht he hte hs1 hzr hz1 hx hk hc hzc hm h)
theorem RW.pullS (k l : Nat) {sz n : Nat} {ts : List T} {X : Value} (hkl : k ≠ l) (hk : Eng.gt st k = .al l none sz n X 0) (hl : Eng.gt st l = .w (.a sz n ts) X)
    (h : RW E B all rest ((st.set k (.w (.a sz n ts) X)).set l .u) K) : RW E B all rest st K := fun F a w hr => h F a w (hr.pull hkl hk hl)
end
end Go.Eng
