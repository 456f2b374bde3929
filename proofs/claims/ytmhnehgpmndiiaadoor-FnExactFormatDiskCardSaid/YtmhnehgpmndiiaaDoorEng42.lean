/- Literals of many constants; calls by a pointer under a guard. -/
import Derived.Test.YtmhnehgpmndiiaaDoorEng41
namespace Go.Eng
open Go Go.RowKit
section
variable {E : Env} {F : Nat → Prop} {B : Base E.P} {w : World} {o : Oper} {st : St} {K : St → Prop} {a : Act} {all rest : List Oper}
theorem fill_all : ∀ (vs : List Value) (k : Nat) (pre post : List Value), vs.map Value.cells = vs.map (fun v => #[v]) → pre.length = k → post.length = vs.length →
    Instr.fill (fun i => some (i * 1, 1)) (pre ++ post).toArray ((vs.zipIdx k).map fun p => (p.2, p.1)) = some (pre ++ vs).toArray
  | [], k, pre, post, _, _, hl => by
    obtain rfl : post = [] := List.eq_nil_of_length_eq_zero (by simpa using hl)
    simp [Instr.fill]
  | v :: vs, k, pre, post, hv, hk, hl => by
    obtain ⟨p, post', rfl⟩ : ∃ p q, post = p :: q := by
      cases post with
      | nil => simp at hl
      | cons p q => exact ⟨p, q, rfl⟩
    simp only [List.map_cons, List.cons.injEq] at hv
    rw [List.zipIdx_cons, List.map_cons, fill_cons (vs := [v]) (off := k) (by simpa using hv.1) (by simp) (by simp; omega)]
    have e : setN (pre ++ p :: post') k [v] = (pre ++ [v]) ++ post' := by
      simp [setN, hk.symm]
    show Instr.fill _ (setN (pre ++ p :: post') k [v]).toArray _ = _
    rw [e, fill_all vs (k + 1) (pre ++ [v]) post' hv.2 (by simp [hk]) (by simpa using hl)]
    simp
theorem OL_vals : ∀ (vs : List Value), OL w (vs.map T.v) vs []
  | [] => by simp [OL]
  | v :: vs => by
    simp only [List.map_cons, OL]
    exact ⟨v, vs, [], [], rfl, rfl, by simp [OT], OL_vals vs⟩
theorem eval_all {F : Nat → Prop} {B : Base E.P} {st : St} {a : Act} {w : World} (hr : Rel F B st a w) : ∀ (xs : List Operand) (vs : List Value), xs.map (ev st) = vs.map (fun v => D.r (T.v v)) → xs.map a.eval = vs
  | [], [], _ => rfl
  | x :: xs, v :: vs, h => by
    simp only [List.map_cons, List.cons.injEq] at h ⊢
    exact ⟨ev_scalar hr h.1, eval_all hr xs vs h.2⟩
  | [], _ :: _, h => by simp at h
  | _ :: _, [], h => by simp at h
theorem OK.buildV {α : Type} {t e : TypeId} {n : Nat} {ps : Array (Nat × Operand)} {i ie : TyI} {c : α → List T} {L : List α} {vs : List Value} (xs : List Operand) (ho : o.op = .buildSlice t n ps) (ht : E.tabs t = some i) (he : i.td = .slice e) (hte : E.tabs e = some ie)
    (hps : ps.toList = xs.zipIdx.map fun p => (p.2, p.1)) (hev : xs.map (ev st) = vs.map (fun v => D.r (T.v v))) (hn : n = vs.length) (hv : vs.map Value.cells = vs.map (fun v => #[v])) (hL : L.flatMap c = vs.map T.v) (hn0 : 0 < n) (hn1 : n ≤ 4096) (hLl : L.length = n) (hsz : ie.sz = 1)
    (h : ∀ X, K (setD st o.dst (.w (sl ie.sz c L) X))) : OK E B o st K := by
  intro F a w hr next Q hnx
  obtain ⟨j, d, z, t1, t2, t3, t4, t5, t6, t7⟩ := tyI_spec (E.ok _ _ hte)
  have hu := tyI_slice (E.ok _ _ ht) he
  have hj : j.size = 1 := by rw [t4, hsz]
  have hxv := eval_all hr xs vs hev
  have hps2 : ps.toList.map (fun p => (p.1, a.eval p.2)) = vs.zipIdx.map fun p => (p.2, p.1) := by
    rw [hps, ← hxv, List.map_map, List.zipIdx_map, List.map_map]
    rfl
  have hf : Instr.fill (fun i => some (i * j.size, j.size)) ((Array.range (n * j.size)).map (z.cells[· % z.cells.size]!)) (vs.zipIdx.map fun p => (p.2, p.1)) = some vs.toArray := by
    rw [hj, Nat.mul_one]
    have e : (Array.range n).map (z.cells[· % z.cells.size]!) = ([] ++ (List.range n).map (z.cells[· % z.cells.size]!)).toArray := by
      rw [← Array.toList_inj]; simp
    rw [e, fill_all vs 0 [] _ hv rfl (by simp [hn])]
    simp
  have hpa : (ps.map fun (x : Nat × Operand) => match x with | (i, x) => (i, a.eval x)).toList = vs.zipIdx.map fun p => (p.2, p.1) := by
    rw [Array.toList_map]; exact hps2
  have := run_buildSlice w t e n (ps.map fun (x : Nat × Operand) => match x with | (i, x) => (i, a.eval x)) vs.toArray j z hu t1 t3 (by rw [hj]; omega) (by rw [hj]; omega) (by rw [hpa]; exact hf)
  have hrun : (execOp a.eval o).run E.P w = .ok (.value (.slice (some ⟨w.heap.size, 0, none⟩) n n)) (w.alloc (.cells vs.toArray e)) := by
    simp [execOp, ho, Sem.run_bind, this]
  unfold Oper.wp
  rw [hrun, Oper.upon_value]
  refine hnx _ _ _ _ (h (.slice (some ⟨w.heap.size, 0, none⟩) n n)) (hr.putNew' o.dst (Stp.alloc w _ []) (d := .w _ _) (bs := [w.heap.size]) ?_ (by simp) (by simp))
  simp only [DR, sl, OT]
  refine ⟨trivial, .inr ⟨w.heap.size, 0, n, vs.toArray, e, [], by rw [hLl], by omega, by simp [maxLen]; omega, heap_alloc_new w _, by simp [hsz, hn], by rw [hL]; simp [hsz, hLl, hn], rfl, ?_⟩⟩
  rw [hL]
  simpa using OL_vals vs
theorem RW.buildV {α : Type} {t e : TypeId} {n : Nat} {ps : Array (Nat × Operand)} {i ie : TyI} {c : α → List T} {L : List α} {vs : List Value} (xs : List Operand) (hg : o.guard = none) (ho : o.op = .buildSlice t n ps) (ht : E.tabs t = some i) (he : i.td = .slice e) (hte : E.tabs e = some ie)
    (hps : ps.toList = xs.zipIdx.map fun p => (p.2, p.1)) (hev : xs.map (ev st) = vs.map (fun v => D.r (T.v v))) (hn : n = vs.length) (hv : vs.map Value.cells = vs.map (fun v => #[v])) (hL : L.flatMap c = vs.map T.v) (hn0 : 0 < n) (hn1 : n ≤ 4096) (hLl : L.length = n) (hsz : ie.sz = 1)
    (h : ∀ X, RW E B all rest (setD st o.dst (.w (sl ie.sz c L) X)) K) : RW E B all (o :: rest) st K := RW.cons hg (OK.buildV xs ho ht he hte hps hev hn hv hL hn0 hn1 hLl hsz h)
theorem RO.buildV {fc : Facts} {n0 q : Nat} {ls ls' : Array Bool} {α : Type} {t e : TypeId} {n : Nat} {ps : Array (Nat × Operand)} {i ie : TyI} {c : α → List T} {L : List α} {vs : List Value} (xs : List Operand) (hi : all[q]? = some o) (hgu : o.guard = none) (hl : ls.setIfInBounds q true = ls') (ho : o.op = .buildSlice t n ps) (ht : E.tabs t = some i) (he : i.td = .slice e) (hte : E.tabs e = some ie)
    (hps : ps.toList = xs.zipIdx.map fun p => (p.2, p.1)) (hev : xs.map (ev st) = vs.map (fun v => D.r (T.v v))) (hn : n = vs.length) (hv : vs.map Value.cells = vs.map (fun v => #[v])) (hL : L.flatMap c = vs.map T.v) (hn0 : 0 < n) (hn1 : n ≤ 4096) (hLl : L.length = n) (hsz : ie.sz = 1)
    (h : ∀ X, RA fc E B all n0 ls' (setD st o.dst (.w (sl ie.sz c L) X)) K) : RO fc E B all n0 ls st K q :=
  ⟨o, hi, hgu, OK.buildV xs ho ht he hte hps hev hn hv hL hn0 hn1 hLl hsz (fun X => by rw [hl]; exact h X)⟩
theorem RW.bool (d : Tmp) {g : Bool} (hv : Eng.gt st d = .r (.v (.bool g))) (h1 : g = true → RW E B all rest (st.set d (.r (.v (.bool true)))) K) (h2 : g = false → RW E B all rest (st.set d (.r (.v (.bool false)))) K) : RW E B all rest st K := by
  intro F a w hr
  cases g with
  | true => exact h1 rfl F a w (hr.same hv rfl)
  | false => exact h2 rfl F a w (hr.same hv rfl)
theorem RQ.bool (d : Tmp) {g : Bool} (hv : Eng.gt st d = .r (.v (.bool g))) (h1 : g = true → RQ E B all rest (st.set d (.r (.v (.bool true)))) K) (h2 : g = false → RQ E B all rest (st.set d (.r (.v (.bool false)))) K) : RQ E B all rest st K := by
  intro F a w hr
  cases g with
  | true => exact h1 rfl F a w (hr.same hv rfl)
  | false => exact h2 rfl F a w (hr.same hv rfl)
end
end Go.Eng
