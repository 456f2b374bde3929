/- Literals of many elements. -/
import Derived.Test.YtmhnehgpmndiiaaDoorEng42
namespace Go.Eng
open Go Go.RowKit
section
variable {E : Env} {F : Nat → Prop} {B : Base E.P} {w : World} {o : Oper} {st : St} {K : St → Prop} {a : Act} {all rest : List Oper}
theorem fill_rows {s : Nat} (hs : s ≠ 0) : ∀ (vs : List Value) (rows : List (List Value)) (k : Nat) (pre post : List Value), vs.map Value.cells = rows.map (fun r => r.toArray) → (∀ r ∈ rows, r.length = s) → pre.length = k * s → post.length = vs.length * s →
    Instr.fill (fun i => some (i * s, s)) (pre ++ post).toArray ((vs.zipIdx k).map fun p => (p.2, p.1)) = some (pre ++ rows.flatten).toArray
  | [], [], k, pre, post, _, _, _, hl => by
    obtain rfl : post = [] := List.eq_nil_of_length_eq_zero (by simpa using hl)
    simp [Instr.fill]
  | [], _ :: _, _, _, _, h, _, _, _ => by simp at h
  | _ :: _, [], _, _, _, h, _, _, _ => by simp at h
  | v :: vs, r :: rows, k, pre, post, hv, hr, hk, hl => by
    have hrs : r.length = s := hr r (by simp)
    simp only [List.length_cons, Nat.add_mul, Nat.one_mul] at hl
    obtain ⟨p, post', rfl, hp⟩ : ∃ p q, post = p ++ q ∧ p.length = s := ⟨post.take s, post.drop s, (List.take_append_drop s post).symm, by rw [List.length_take]; omega⟩
    simp only [List.map_cons, List.cons.injEq] at hv
    have hne : r ≠ [] := by rintro rfl; simp at hrs; omega
    rw [List.zipIdx_cons, List.map_cons, fill_cons (vs := r) (off := k * s) hv.1 (by simp [hrs]) (by simp [hk, hrs, hp])]
    have e : setN (pre ++ (p ++ post')) (k * s) r = (pre ++ r) ++ post' := by
      rw [setN_eq _ _ _ (by simp [hk, hrs, hp]), ← hk, List.take_left', List.drop_append]
      · simp [hrs, ← hp, ← List.append_assoc]
      · rfl
    show Instr.fill _ (setN (pre ++ (p ++ post')) (k * s) r).toArray _ = _
    rw [e, fill_rows hs vs rows (k + 1) (pre ++ r) post' hv.2 (fun r' h' => hr r' (by simp [h'])) (by simp [hk, hrs, Nat.add_mul]) (by simp [hp] at hl; omega)]
    simp
def DWs {α : Type} (c : α → List T) : List (List D) → List α → Prop
  | [], [] => True
  | es :: r, v :: s => DW es (c v) ∧ DWs c r s
  | _, _ => False
theorem OL_join : ∀ {ts us : List T} {cs ds : List Value} {bs es : List Nat}, cs.length = ts.length → OL w ts cs bs → OL w us ds es → OL w (ts ++ us) (cs ++ ds) (bs ++ es)
  | [], us, cs, ds, bs, es, hl, h1, h2 => by
    obtain rfl := List.eq_nil_of_length_eq_zero hl
    simp only [OL] at h1
    subst h1
    simpa using h2
  | t :: ts, us, cs, ds, bs, es, hl, h1, h2 => by
    simp only [OL] at h1
    obtain ⟨c, cs', b1, b2, rfl, rfl, h3, h4⟩ := h1
    simp only [List.cons_append, OL]
    exact ⟨c, cs' ++ ds, b1, b2 ++ es, rfl, by simp, h3, OL_join (by simpa using hl) h4 h2⟩
theorem eval_rows {α : Type} {c : α → List T} {s : Nat} (hc : ∀ x, (c x).length = s) (hr : Rel F B st a w) : ∀ (xs : List Operand) (ess : List (List D)) (L : List α), xs.map (ev st) = ess.map D.agg → DWs c ess L →
    ∃ rows : List (List Value), (xs.map a.eval).map Value.cells = rows.map (fun r => r.toArray) ∧ (∀ r ∈ rows, r.length = s) ∧ rows.flatten.length = L.length * s ∧ ∀ ob, OL (w.alloc ob) (L.flatMap c) rows.flatten []
  | [], [], [], _, _ => ⟨[], rfl, by simp, by simp, fun _ => by simp [OL]⟩
  | [], [], _ :: _, _, h => h.elim
  | [], _ :: _, _, h, _ => by simp at h
  | _ :: _, [], _, h, _ => by simp at h
  | _ :: _, _ :: _, [], _, h => h.elim
  | x :: xs, es :: ess, v :: L, h, hd => by
    simp only [List.map_cons, List.cons.injEq] at h
    obtain ⟨rows, h1, h2, h3, h4⟩ := eval_rows hc hr xs ess L h.2 hd.2
    have hxv := hr.ev x
    rw [h.1] at hxv
    simp only [DR] at hxv
    obtain ⟨vs, hv1, hv2⟩ := hxv
    have hl : vs.length = s := by rw [DLs_length hv2, ← DW_len hd.1, hc]
    refine ⟨vs :: rows, by simp only [List.map_cons, h1, hv1]; rfl, fun r hr' => ?_, by rw [List.flatten_cons, List.length_append, h3, hl, List.length_cons, Nat.add_mul]; omega, fun ob => ?_⟩
    · rcases List.mem_cons.1 hr' with rfl | h'
      · exact hl
      · exact h2 r h'
    · rw [List.flatMap_cons, List.flatten_cons]
      have := OL_join (by rw [hl, hc]) (DW_OL hd.1 (DLs_fix hr.Flt ob hv2)) (h4 ob)
      simpa using this
theorem OK.buildG {α : Type} {t e : TypeId} {n : Nat} {ps : Array (Nat × Operand)} {i ie : TyI} {c : α → List T} {L : List α} (xs : List Operand) (ess : List (List D)) (ho : o.op = .buildSlice t n ps) (ht : E.tabs t = some i) (he : i.td = .slice e) (hte : E.tabs e = some ie)
    (hps : ps.toList = xs.zipIdx.map fun p => (p.2, p.1)) (hev : xs.map (ev st) = ess.map D.agg) (hw : DWs c ess L) (hn : n = L.length) (hx : xs.length = L.length) (hc : ∀ x, (c x).length = ie.sz) (hn0 : 0 < n) (hp : ie.sz ≠ 0) (hsm : n * ie.sz ≤ 4096)
    (h : ∀ X, K (setD st o.dst (.w (sl ie.sz c L) X))) : OK E B o st K := by
  intro F a w hr next Q hnx
  obtain ⟨j, d, z, t1, t2, t3, t4, t5, t6, t7⟩ := tyI_spec (E.ok _ _ hte)
  have hu := tyI_slice (E.ok _ _ ht) he
  obtain ⟨rows, h1, h2, h3, h4⟩ := eval_rows hc hr xs ess L hev hw
  have hps2 : ps.toList.map (fun p => (p.1, a.eval p.2)) = (xs.map a.eval).zipIdx.map fun p => (p.2, p.1) := by
    rw [hps, List.map_map, List.zipIdx_map, List.map_map]
    rfl
  have hf : Instr.fill (fun i => some (i * j.size, j.size)) ((Array.range (n * j.size)).map (z.cells[· % z.cells.size]!)) ((xs.map a.eval).zipIdx.map fun p => (p.2, p.1)) = some rows.flatten.toArray := by
    have e : (Array.range (n * j.size)).map (z.cells[· % z.cells.size]!) = ([] ++ (List.range (n * j.size)).map (z.cells[· % z.cells.size]!)).toArray := by
      rw [← Array.toList_inj]; simp
    rw [e, fill_rows (by rw [t4]; exact hp) (xs.map a.eval) rows 0 [] _ h1 (fun r hr' => by rw [h2 r hr', t4]) (by simp) (by simp [hx, hn])]
    simp
  have hpa : (ps.map fun (x : Nat × Operand) => match x with | (i, x) => (i, a.eval x)).toList = (xs.map a.eval).zipIdx.map fun p => (p.2, p.1) := by
    rw [Array.toList_map]; exact hps2
  have hz : 0 < n * ie.sz := Nat.mul_pos hn0 (Nat.pos_of_ne_zero hp)
  have hn1 : n ≤ n * ie.sz := Nat.le_mul_of_pos_right _ (Nat.pos_of_ne_zero hp)
  have := run_buildSlice w t e n (ps.map fun (x : Nat × Operand) => match x with | (i, x) => (i, a.eval x)) rows.flatten.toArray j z hu t1 t3 (by rw [t4]; omega) (by rw [t4]; omega) (by rw [hpa]; exact hf)
  have hrun : (execOp a.eval o).run E.P w = .ok (.value (.slice (some ⟨w.heap.size, 0, none⟩) n n)) (w.alloc (.cells rows.flatten.toArray e)) := by
    simp [execOp, ho, Sem.run_bind, this]
  have hfl : (L.flatMap c).length = n * ie.sz := by rw [hn]; exact flatMap_len hc L
  have hrl : rows.flatten.length = n * ie.sz := by rw [h3, hn]
  unfold Oper.wp
  rw [hrun, Oper.upon_value]
  refine hnx _ _ _ _ (h (.slice (some ⟨w.heap.size, 0, none⟩) n n)) (hr.putNew' o.dst (Stp.alloc w _ []) (d := .w _ _) (bs := [w.heap.size]) ?_ (by simp) (by simp))
  simp only [DR, sl, OT]
  refine ⟨trivial, .inr ⟨w.heap.size, 0, n, rows.flatten.toArray, e, [], by rw [hn], by omega, by simp [maxLen]; omega, heap_alloc_new w _, by simp [hrl], by rw [hfl, ← hn], rfl, ?_⟩⟩
  simpa using h4 _
theorem RW.buildG {α : Type} {t e : TypeId} {n : Nat} {ps : Array (Nat × Operand)} {i ie : TyI} {c : α → List T} {L : List α} (xs : List Operand) (ess : List (List D)) (hg : o.guard = none) (ho : o.op = .buildSlice t n ps) (ht : E.tabs t = some i) (he : i.td = .slice e) (hte : E.tabs e = some ie)
    (hps : ps.toList = xs.zipIdx.map fun p => (p.2, p.1)) (hev : xs.map (ev st) = ess.map D.agg) (hw : DWs c ess L) (hn : n = L.length) (hx : xs.length = L.length) (hc : ∀ x, (c x).length = ie.sz) (hn0 : 0 < n) (hp : ie.sz ≠ 0) (hsm : n * ie.sz ≤ 4096)
    (h : ∀ X, RW E B all rest (setD st o.dst (.w (sl ie.sz c L) X)) K) : RW E B all (o :: rest) st K := RW.cons hg (OK.buildG xs ess ho ht he hte hps hev hw hn hx hc hn0 hp hsm h)
end
end Go.Eng
