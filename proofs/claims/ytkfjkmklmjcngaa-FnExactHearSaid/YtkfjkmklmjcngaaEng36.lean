/- Parts of own arrays; guards in regions of every order. -/
import Derived.Test.YtkfjkmklmjcngaaEng35
namespace Go.Eng
open Go Go.RowKit
theorem OT_cut {w : World} {α : Type} {c : α → List T} {l : List α} {sz q : Nat} {X : Value} {bl : List Nat} (hc : ∀ x, (c x).length = sz) (hq : q ≤ l.length) (h : OT w (sl sz c l) X bl) : ∃ bs', OT w (sl sz c (l.take q)) (subV sz 0 q X) bs' ∧ bs'.Sublist bl := by
  have hlen : (l.take q).length = q := by simp; omega
  simp only [sl, OT] at h
  rcases h with ⟨rfl, h2, _, rfl⟩ | ⟨b, of, cap, cur, ty, bs', rfl, g2, g3, g4, g5, g6, rfl, g8⟩
  · have hl0 : l = [] := List.length_eq_zero_iff.1 h2
    subst hl0
    have : q = 0 := by simpa using hq
    subst this
    exact ⟨[], by simp [sl, OT, subV], by simp⟩
  · obtain ⟨bs2, k1, k2⟩ := OL_takeL (q * sz) g8
    rw [flatMap_take hc] at k1
    refine ⟨b :: bs2, ?_, List.Sublist.cons_cons _ k2⟩
    simp only [sl, OT]
    refine .inr ⟨b, of, cap, cur, ty, bs2, ?_, by rw [hlen]; omega, g3, g4, g5, by rw [flatMap_len hc], rfl, k1⟩
    simp only [subV, hlen]
    split <;> simp [Addr.add_mid]
/-- Where an own array lies. -/
inductive Home (st : St) (k : Nat) : Option Nat → Nat → Nat → List T → Value → Prop where
  | w {sz n : Nat} {ts : List T} {X : Value} (h : gt st k = .w (.a sz n ts) X) : Home st k none sz n ts X
  | o {j sz n b : Nat} {ds : List D} {ts : List T} {X : Value} (h : gt st k = .obj b ds) (hj : ds[j]? = some (.w (.a sz n ts) X)) : Home st k (some j) sz n ts X
section
variable {E : Env} {F : Nat → Prop} {B : Base} {w : World} {o : Oper} {st : St} {K : St → Prop} {a : Act} {all rest : List Oper} {Q : Exit → St → Prop} {fc : Facts} {n : Nat} {ls : Array Bool}
theorem Home.own {k sz n : Nat} {j : Option Nat} {ts : List T} {X : Value} (h : Home st k j sz n ts X) (hr : Rel F B st a w) : ∃ bs, OT w (.a sz n ts) X bs := by
  cases h with
  | w h =>
    obtain ⟨y, bs, h1, h2⟩ := hr.slot (gt_some h (by simp))
    simp only [DR] at h2
    exact ⟨bs, h2.2⟩
  | o h hj =>
    obtain ⟨y, bs, h1, h2⟩ := hr.slot (gt_some h (by simp))
    simp only [DR] at h2
    obtain ⟨cs, ty, bs', _, _, rfl, h4⟩ := h2
    obtain ⟨c, b', _, h5, _⟩ := DLs_mem (G := fun _ => True) h4 hj (fun _ _ => trivial)
    simp only [DR] at h5
    exact ⟨b', h5.2⟩
theorem Home.ev {k sz n m off : Nat} {j : Option Nat} {ts : List T} {X : Value} (h : Home st k j sz n ts X) (hr : Rel F B st a w) {x : Operand} (hx : ev st x = .al k j sz n X 0) : a.eval x = X := by
  obtain ⟨bs, h1⟩ := h.own hr
  have := hr.ev x
  rw [hx] at this
  simp only [DR] at this
  rw [this.1, ← subV_whole h1]
/-- The beginning of an own array. -/
theorem V.cutHi {pu : Bool} {t e : TypeId} {x y : Operand} {i ie : TyI} {k n m : Nat} {j : Option Nat} {ts : List T} {X : Value} (ho : o.op = .slice t x none (some y) none) (ht : E.tabs t = some i) (he : i.td = .slice e) (hte : E.tabs e = some ie)
    (hx : Eng.ev st x = .al k j ie.sz n X 0) (hh : Home st k j ie.sz n ts X) (hy : Eng.ev st y = .r (.v (.int .i64 (m : Int)))) (hm : m ≤ n) : VP pu E B o st (.al k j ie.sz m X 0) := fun F a w hr => by
  have hxv := Home.ev (m := 0) (off := 0) hh hr hx
  have hu := tyI_slice (E.ok _ _ ht) he
  have hsz := fun w => tyI_sizeOf (E.ok _ _ hte) w
  obtain ⟨bs, hot⟩ := hh.own hr
  simp only [OT] at hot
  rcases hot with ⟨h1, rfl, h3, _⟩ | ⟨b, of, cap, cs, ty, bs', h1, g2, g3, g4, g5, g6, _, g7⟩
  · have : m = 0 := by omega
    subst this
    refine ⟨.slice none 0 0, fun w' hs => ?_, by simp only [DR]; exact ⟨by simp [h1, subV], trivial, by rw [h1]; exact ⟨_, _, _, rfl⟩⟩⟩
    have hb := run_sliceBound (P := E.P) w' .i64 0 0 .sliceAcap (by omega) (by omega)
    simp [execOp, ho, hxv, h1, ev_scalar hr hy, Instr.sliceAt, run_underlying hu, Instr.slice, Instr.sliceBounds, Sem.run_bind, hb, hsz]
  · refine ⟨.slice (some ⟨b, of, none⟩) m cap, fun w' hs => ?_, ?_⟩
    · have hb := run_sliceBound (P := E.P) w' .i64 (m : Int) cap .sliceAcap (by omega) (by omega)
      simp [execOp, ho, hxv, h1, ev_scalar hr hy, Instr.sliceAt, run_underlying hu, Instr.slice, Instr.sliceBounds, Sem.run_bind, hb, hsz]
      intro _
      rfl
    · simp only [DR]
      refine ⟨?_, trivial, by rw [h1]; exact ⟨_, _, _, rfl⟩⟩
      rw [h1]
      simp only [subV]
      split <;> simp [Addr.add_mid]
/-- The end of an own array. -/
theorem V.cutLo {pu : Bool} {t e : TypeId} {x y : Operand} {i ie : TyI} {k n m : Nat} {z : Int} {j : Option Nat} {ts : List T} {X : Value} (ho : o.op = .slice t x (some y) none none) (ht : E.tabs t = some i) (he : i.td = .slice e) (hte : E.tabs e = some ie)
    (hx : Eng.ev st x = .al k j ie.sz n X 0) (hh : Home st k j ie.sz n ts X) (hy : Eng.ev st y = .r (.v (.int .i64 z))) (hz : z = (m : Int)) (hm : m ≤ n) : VP pu E B o st (.al k j ie.sz (n - m) X m) := fun F a w hr => by
  subst hz
  have hxv := Home.ev (m := 0) (off := 0) hh hr hx
  have hu := tyI_slice (E.ok _ _ ht) he
  have hsz := fun w => tyI_sizeOf (E.ok _ _ hte) w
  obtain ⟨bs, hot⟩ := hh.own hr
  simp only [OT] at hot
  rcases hot with ⟨h1, rfl, h3, _⟩ | ⟨b, of, cap, cs, ty, bs', h1, g2, g3, g4, g5, g6, _, g7⟩
  · have : m = 0 := by omega
    subst this
    refine ⟨.slice none 0 0, fun w' hs => ?_, by simp only [DR]; exact ⟨by simp [h1, subV], trivial, by rw [h1]; exact ⟨_, _, _, rfl⟩⟩⟩
    simp [execOp, ho, hxv, h1, ev_scalar hr hy, Instr.sliceAt, run_underlying hu, Instr.slice, Instr.sliceBounds, Sem.run_bind, run_sliceBound w' .i64 0 0 .sliceB (by omega) (by omega), hsz]
  · refine ⟨.slice (if cap = m then some ⟨b, of, none⟩ else some ⟨b, of + m * ie.sz, none⟩) (n - m) (cap - m), fun w' hs => ?_, ?_⟩
    · have hb := run_sliceBound (P := E.P) w' .i64 (m : Int) n .sliceB (by omega) (by omega)
      simp [execOp, ho, hxv, h1, ev_scalar hr hy, Instr.sliceAt, run_underlying hu, Instr.slice, Instr.sliceBounds, Sem.run_bind, hb, hsz]
      split <;> simp [Addr.add_mid]
    · simp only [DR]
      refine ⟨?_, trivial, by rw [h1]; exact ⟨_, _, _, rfl⟩⟩
      rw [h1]
      simp only [subV]
      split <;> simp [Addr.add_mid]
theorem sl_take {α : Type} {c : α → List T} {l : List α} {sz m : Nat} (hc : ∀ x, (c x).length = sz) (hm : m ≤ l.length) : T.a sz m (((l.flatMap c).drop (0 * sz)).take (m * sz)) = sl sz c (l.take m) := by
  simp only [Nat.zero_mul, List.drop_zero, flatMap_take hc, sl, List.length_take, Nat.min_eq_left hm]
theorem sl_drop {α : Type} {c : α → List T} {l : List α} {sz m : Nat} (hc : ∀ x, (c x).length = sz) : T.a sz (l.length - m) (((l.flatMap c).drop (m * sz)).take ((l.length - m) * sz)) = sl sz c (l.drop m) := by
  rw [flatMap_dropS hc, List.take_of_length_le (by rw [flatMap_len hc, List.length_drop]; exact Nat.le_refl _), sl, List.length_drop]
theorem AsT.takeW {α : Type} {k : Option Nat} {c : α → List T} {l : List α} {i sz m : Nat} {V : Value} (h : gt st i = .w (sl sz c l) V) (hc : ∀ x, (c x).length = sz) (hm : m ≤ l.length) (hk : k ≠ some i) : AsT st true k (.al i none sz m V 0) (sl sz c (l.take m)) := by
  rw [← sl_take hc hm]
  exact AsT.alp rfl h (by omega) hk
theorem AsT.dropW {α : Type} {k : Option Nat} {c : α → List T} {l : List α} {i sz m : Nat} {V : Value} (h : gt st i = .w (sl sz c l) V) (hc : ∀ x, (c x).length = sz) (hm : m ≤ l.length) (hk : k ≠ some i) : AsT st true k (.al i none sz (l.length - m) V m) (sl sz c (l.drop m)) := by
  rw [← sl_drop hc]
  exact AsT.alp rfl h (by omega) hk
theorem AsT.takeO {α : Type} {k : Option Nat} {c : α → List T} {l : List α} {i j b sz m : Nat} {ds : List D} {V : Value} (h : gt st i = .obj b ds) (hj : ds[j]? = some (.w (sl sz c l) V)) (hc : ∀ x, (c x).length = sz) (hm : m ≤ l.length) (hk : k ≠ some i) : AsT st true k (.al i (some j) sz m V 0) (sl sz c (l.take m)) := by
  rw [← sl_take hc hm]
  exact AsT.alop rfl h hj (by omega) hk
theorem AsT.dropO {α : Type} {k : Option Nat} {c : α → List T} {l : List α} {i j b sz m : Nat} {ds : List D} {V : Value} (h : gt st i = .obj b ds) (hj : ds[j]? = some (.w (sl sz c l) V)) (hc : ∀ x, (c x).length = sz) (hm : m ≤ l.length) (hk : k ≠ some i) : AsT st true k (.al i (some j) sz (l.length - m) V m) (sl sz c (l.drop m)) := by
  rw [← sl_drop hc]
  exact AsT.alop rfl h hj (by omega) hk
theorem OK.appendCR {α : Type} {t e : TypeId} {x y : Operand} {i ie : TyI} {c : α → List T} {l l2 : List α} {X : Value} {k m q : Nat} (ho : o.op = .call { callee := .builtin .append, args := #[x, y], argTypes := #[t, t] }) (hd : o.dst = some m) (ht : E.tabs t = some i) (he : i.td = .slice e) (hte : E.tabs e = some ie)
    (hx : ev st x = .al k none ie.sz q X 0) (hk : Eng.gt st k = .w (sl ie.sz c l) X) (hq : q ≤ l.length) (hy : AsT st true none (ev st y) (sl ie.sz c l2)) (hmk : m ≠ k) (hm : m < st.length)
    (hc : ∀ x, (c x).length = ie.sz) (hone : ∀ x, (c x).all tval = true) (hz0 : ie.zero.length = ie.sz) (hn : q + l2.length ≤ maxLen) (hb : (q + l2.length) * ie.bytes ≤ 140737488355328)
    (h : ∀ X', K ((st.set m (.w (sl ie.sz c (l.take q ++ l2)) X')).set k .u)) : OK E B o st K := by
  intro F a w hr next Q hnx
  obtain ⟨j, d, z, t1, t2, t3, t4, t5, t6, t7⟩ := tyI_spec (E.ok _ _ hte)
  have hu := tyI_slice (E.ok _ _ ht) he
  obtain ⟨l1, hl1⟩ : ∃ l1, l1 = l.take q := ⟨_, rfl⟩
  have hq1 : l1.length = q := by rw [hl1, List.length_take]; omega
  rw [← hl1] at h
  rw [← hq1] at hn hb
  obtain ⟨xl, hyv⟩ : ∃ xl, a.eval y = xl := ⟨_, rfl⟩
  have hyr := hy.readAll hr
  rw [hyv] at hyr
  have hones : ∀ l : List α, (l.flatMap c).all tval = true := by
    intro l
    induction l with
    | nil => rfl
    | cons x l ih => rw [List.flatMap_cons, List.all_append, hone, ih]; rfl
  obtain ⟨own, hsl, hmk'⟩ := hr.gather [k, m] m (by simp)
  obtain ⟨X0, bk0, k10, k20, k30, k40⟩ := hsl k _ (by simp) (gt_some hk (by simp))
  simp only [DR] at k20
  obtain ⟨rfl, k20⟩ := k20
  obtain ⟨bk, k2, hsub⟩ := OT_cut hc hq k20
  have hxv : a.eval x = subV ie.sz 0 q X0 := by
    have := hr.ev x
    rw [hx] at this
    simp only [DR] at this
    exact this.1
  obtain ⟨xk, hxk⟩ : ∃ xk, xk = subV ie.sz 0 q X0 := ⟨_, rfl⟩
  rw [← hxk] at k2 hxv
  rw [← hl1] at k2
  have k3 := k30.sublist hsub
  have k4 := fun b (hb : b ∈ bk) => k40 b (hsub.subset hb)
  simp only [sl] at k2
  have hexec : ∀ (v : Value) (w' : World), (Builtin.append_ #[t, t] o.type #[xk, xl]).run E.P w = .ok v w' → (execOp a.eval o).run E.P w = .ok (.value v) w' := by
    intro v w' hrun
    simp [execOp, ho, resolve, invoke, builtin, hxv, hyv, hrun]
  -- what is put behind
  obtain ⟨news, hsrc, hnl, hnews⟩ : ∃ (news : List Value), Src E.P j.size t xl l2.length news w ∧ news.length = l2.length * ie.sz ∧ ∀ w', OL w' (l2.flatMap c) news [] := by
    simp only [sl, RT] at hyr
    rcases hyr with ⟨A, C, hxl, hz, _⟩ | ⟨b, of, cap, rfl, g2, g3, g4, g5, g6⟩
    · have : l2 = [] := List.length_eq_zero_iff.1 hz
      subst this
      subst hxl
      exact ⟨[], by cases A with
        | none => exact Src.ofNil w hu C
        | some A => exact Src.ofSlice w hu A 0 C [] (by simp) (by simp) (by simp), by simp, fun _ => by simp [OL]⟩
    · obtain ⟨vs, hvs, hcell, hov⟩ := RL_vals (hones l2) g6
      have hflen : (l2.flatMap c).length = l2.length * ie.sz := flatMap_len hc l2
      have hvl : vs.length = l2.length * ie.sz := by rw [← hflen, hvs, List.length_map]
      refine ⟨vs, ?_, hvl, fun w' => by rw [hvs]; exact OL_values vs vs ⟨[], by simp⟩⟩
      refine Src.ofSlice w hu ⟨b, of, none⟩ l2.length cap _ (by rw [hvl, t4]) (fun p v hv => ?_) hov
      rw [Addr.add_mid]
      exact hcell p v hv
  have fin : ∀ (X' : Value) (w' : World) (cs W : List Nat), Stp w w' W → (∀ b ∈ W, b ∈ bk) → (Builtin.append_ #[t, t] o.type #[xk, xl]).run E.P w = .ok X' w' → DR F w' (.w (sl ie.sz c (l1 ++ l2)) X') X' cs → cs.Nodup →
      (∀ b ∈ cs, (b ∈ bk ∨ w.heap.size ≤ b) ∧ b < w'.heap.size) → o.wp E.P a w next Q := by
    intro X' w' cs W hst hW hrun hdr hnd hin
    unfold Oper.wp
    rw [hexec X' w' hrun, Oper.upon_value, hd]
    refine hnx _ _ _ _ (h X') (hmk' w' (a.put (some m) X') _ (.w (sl ie.sz c (l1 ++ l2)) X') X' cs W hst (fun b hb => (k4 b (hW b hb)).2) rfl (by simp [Act.put]) (by simp) ?_ ?_ ?_ hdr hnd ?_)
    · intro i hi
      simp only [List.mem_cons, List.not_mem_nil, or_false, not_or] at hi
      obtain ⟨h1, h3⟩ := hi
      rw [St.get_set_ne (Ne.symm h1), St.get_set_ne (Ne.symm h3)]
      exact ⟨rfl, get_put_ne a X' h3⟩
    · intro i e hi him hg
      have hik : i = k := by simp only [List.mem_cons, List.not_mem_nil, or_false] at hi; rcases hi with h | h; exact h; exact absurd h him
      subst hik
      have hlt : i < st.length := by have := St.get_lt hg; simpa using this
      rw [St.get_set_self (by simpa using hlt)] at hg
      cases hg; rfl
    · intro e hg
      rw [St.get_set_ne (Ne.symm hmk), St.get_set_self hm] at hg
      cases hg
      exact ⟨rfl, get_put_eq a X' (by rw [hr.len]; exact hm)⟩
    · intro b hb
      refine ⟨?_, (hin b hb).2⟩
      rcases (hin b hb).1 with h | h
      · exact .inl (k4 b h).2
      · exact .inr h
  simp only [OT] at k2
  have grow : ∀ (base : Option Addr) (cap : Nat) (olds : List Value) (bs1 : List Nat), xk = .slice base l1.length cap → cap < l1.length + l2.length → (Builtin.firstCells j.size l1.length (.slice base l1.length cap)).run E.P w.drew = .ok olds.toArray w.drew → olds.length = l1.length * ie.sz →
      (∀ w', (∀ b ∈ bs1, w'.heap[b]? = w.heap[b]?) → OL w' (l1.flatMap c) olds bs1) → bs1.Nodup → (∀ b ∈ bs1, b ∈ bk) → o.wp E.P a w next Q := by
    intro base cap olds bs1 hX hg hold holen hol hnd1 hsub1
    have hrun := run_append_grow_src w t t o.type e j z hu t1 t3 base l1.length cap olds hold xl l2.length news hsrc hg (by simp only [maxLen] at hn; omega) (growslice_fits hg (by rw [t5]; exact hb))
    rw [← hX] at hrun
    have hbs : ∀ b ∈ bs1, b ∈ bk ∧ b < w.heap.size := fun b hb' => ⟨hsub1 b hb', (k4 b (hsub1 b hb')).2.2.2⟩
    have hsame : ∀ b ∈ bs1, ∀ ob, (w.drew.alloc ob).heap[b]? = w.heap[b]? := fun b hb' ob => Below.heap_alloc w.drew ob b (hbs b hb').2
    refine fin _ _ (w.heap.size :: bs1) [] ((Stp.drew w []).trans (Stp.alloc w.drew _ [])) (by simp) hrun ?_ ?_ ?_
    · simp only [DR, sl, OT]
      have hge := grownCap_ge w (l1.length + l2.length) cap e
      have hle := grownCap_le_maxLen w (l1.length + l2.length) cap e hn
      refine ⟨trivial, .inr ⟨w.heap.size, 0, _, _, e, bs1, by simp, by simpa using hge, hle, heap_alloc_new w.drew _, ?_, by rw [flatMap_len hc], rfl, ?_⟩⟩
      · have hzs : z.cells.size = ie.sz := by
          rw [← hz0, ← t6]; simp
        simp [Builtin.zeroCells, hzs, holen, hnl]
        rw [← Nat.add_mul, ← Nat.add_mul]
        exact Nat.mul_le_mul_right _ (by omega)
      · have h1 := hol (w.drew.alloc (.cells ((olds ++ news).toArray ++ Builtin.zeroCells z.cells (grownCap w (l1.length + l2.length) cap e - (l1.length + l2.length))) e)) (fun b hb' => hsame b hb' _)
        have h2 := hnews (w.drew.alloc (.cells ((olds ++ news).toArray ++ Builtin.zeroCells z.cells (grownCap w (l1.length + l2.length) cap e - (l1.length + l2.length))) e))
        have h3 := OL_app (r := (Builtin.zeroCells z.cells (grownCap w (l1.length + l2.length) cap e - (l1.length + l2.length))).toList) h1 h2
        rw [flatMap_len hc, ← holen, List.take_length] at h3
        simpa using h3
    · rw [List.nodup_cons]
      exact ⟨fun hm' => by have := (hbs _ hm').2; omega, hnd1⟩
    · intro b hb'
      rcases List.mem_cons.1 hb' with rfl | hb'
      · exact ⟨.inr (Nat.le_refl _), by simp⟩
      · exact ⟨.inl (hbs b hb').1, by have := (hbs b hb').2; simp; omega⟩
  rcases k2 with ⟨hX, hz, _, rfl⟩ | ⟨b, of, cap, cur, ty, bs', hX, g2, g3, g4, g5, g6, hbk, g8⟩
  · have e1 : l1 = [] := List.length_eq_zero_iff.1 hz
    by_cases h0 : l2.length = 0
    · have e2 : l2 = [] := List.length_eq_zero_iff.1 h0
      have e3 : news = [] := List.length_eq_zero_iff.1 (by rw [hnl, h0, Nat.zero_mul])
      have hsrc' := hsrc
      rw [e3, h0] at hsrc'
      have hrun := run_append_nothing w t t o.type e j hu t1 none 0 0 (Nat.le_refl _) xl hsrc'
      rw [← hX] at hrun
      refine fin xk w [] [] (Stp.refl _ _) (by simp) hrun ?_ (by simp) (by simp)
      simp [DR, sl, OT, e1, e2, hX]
    · refine grow none 0 [] [] (by rw [hX, hz]) (by omega) ?_ (by simp [e1]) (fun _ _ => by simp [e1, OL]) (by simp) (by simp)
      rw [hz]
      exact run_firstCells_none w.drew j.size 0 0 0
  · subst hbk
    rw [flatMap_len hc] at g6
    have hcl : of + cap * ie.sz ≤ cur.toList.length := by simpa using g5
    have hle1 : l1.length * ie.sz ≤ cap * ie.sz := Nat.mul_le_mul_right _ g2
    have hflen : (l1.flatMap c).length = l1.length * ie.sz := flatMap_len hc l1
    by_cases hroom : l1.length + l2.length ≤ cap
    · have hmul : l1.length * ie.sz + l2.length * ie.sz ≤ cap * ie.sz := by rw [← Nat.add_mul]; exact Nat.mul_le_mul_right _ hroom
      have hth := there_of_block (w := w) (b := b) (cs := cur.toList) (ty := ty) (by simpa using g4) (of + l1.length * ie.sz) news.length (by rw [hnl]; omega)
      have hrun := run_append_room_src w t t o.type e j hu t1 b of l1.length cap xl l2.length news hsrc hroom (fun p hp => by rw [t4]; exact (hth p hp).1) (fun p hp => by rw [t4]; exact (hth p hp).2)
      rw [← hX, t4] at hrun
      have hst : Stp w (w.setCells b (of + l1.length * ie.sz) news) [b] := Stp.setCells b news _ w
      rw [List.nodup_cons] at k3
      have hsame : ∀ p ∈ bs', (w.setCells b (of + l1.length * ie.sz) news).heap[p]? = w.heap[p]? := fun p hp => by
        refine hst.block p (k4 p (by simp [hp])).2.2.2 (fun hm' => ?_)
        have : p = b := by simpa using hm'
        subst this
        exact k3.1 hp
      refine fin _ _ (b :: bs') [b] hst (by simp) hrun ?_ ?_ ?_
      · simp only [DR, sl, OT]
        refine ⟨trivial, .inr ⟨b, of, cap, (setN cur.toList (of + l1.length * ie.sz) news).toArray, ty, bs', by simp, by simpa using hroom, g3, heap_setCells b news _ w cur.toList ty (0, 0) (by simpa using g4), by simp [setN_length]; simpa using g5, by rw [flatMap_len hc], rfl, ?_⟩⟩
        have h1 := OL_world _ _ _ hsame g8
        have h2 := hnews (w.setCells b (of + l1.length * ie.sz) news)
        have h3 := OL_app (r := (cur.toList.drop of).drop (l1.length * ie.sz + news.length)) h1 h2
        rw [hflen] at h3
        rw [List.flatMap_append]
        have e4 := append_room_list cur.toList news of (l1.length * ie.sz) (by rw [hnl]; omega)
        simp only []
        rw [e4]
        simpa using h3
      · rw [List.nodup_cons]
        exact k3
      · intro p hp
        exact ⟨.inl hp, Nat.lt_of_lt_of_le (k4 p hp).2.2.2 hst.size⟩
    · have hlen : ((cur.toList.drop of).take (l1.length * ie.sz)).length = l1.length * ie.sz := by
        rw [List.length_take, List.length_drop]
        omega
      refine grow (some ⟨b, of, none⟩) cap ((cur.toList.drop of).take (l1.length * ie.sz)) bs' hX (by omega) ?_ hlen (fun w' hw' => ?_) (List.nodup_cons.1 k3).2 (fun p hp => by simp [hp])
      · refine run_firstCells_some w.drew j.size l1.length ⟨b, of, none⟩ l1.length cap _ (by rw [hlen, t4]) (fun p v hv => ?_)
        rw [List.getElem?_take] at hv
        split at hv
        · rw [List.getElem?_drop] at hv
          rw [Addr.add_mid]
          have g4' : w.drew.heap[b]? = some (.cells cur ty (0, 0)) := g4
          simp [World.cell?, g4']
          simpa using hv
        · cases hv
      · have := OL_app (r := []) (OL_world _ _ _ hw' g8) (show OL w' [] [] [] by simp [OL])
        rw [hflen] at this
        simpa using this
theorem RW.appendCR {α : Type} {t e : TypeId} {x y : Operand} {i ie : TyI} {c : α → List T} {l l2 : List α} {X : Value} {k m q : Nat} (hg : o.guard = none) (ho : o.op = .call { callee := .builtin .append, args := #[x, y], argTypes := #[t, t] }) (hd : o.dst = some m) (ht : E.tabs t = some i) (he : i.td = .slice e) (hte : E.tabs e = some ie)
    (hx : ev st x = .al k none ie.sz q X 0) (hk : Eng.gt st k = .w (sl ie.sz c l) X) (hq : q ≤ l.length) (hy : AsT st true none (ev st y) (sl ie.sz c l2)) (hmk : m ≠ k) (hm : m < st.length)
    (hc : ∀ x, (c x).length = ie.sz) (hone : ∀ x, (c x).all tval = true) (hz0 : ie.zero.length = ie.sz) (hn : q + l2.length ≤ maxLen) (hb : (q + l2.length) * ie.bytes ≤ 140737488355328)
    (h : ∀ X', RW E B all rest ((st.set m (.w (sl ie.sz c (l.take q ++ l2)) X')).set k .u) K) : RW E B all (o :: rest) st K := RW.cons hg (OK.appendCR ho hd ht he hte hx hk hq hy hmk hm hc hone hz0 hn hb h)

theorem RO.appendCR {nn i' : Nat} {ls ls' : Array Bool} {α : Type} {t e : TypeId} {x y : Operand} {i ie : TyI} {c : α → List T} {l l2 : List α} {X : Value} {k m q : Nat} (hA : all[i']? = some o) (hg : o.guard = none) (hL : ls.setIfInBounds i' true = ls') (ho : o.op = .call { callee := .builtin .append, args := #[x, y], argTypes := #[t, t] }) (hd : o.dst = some m) (ht : E.tabs t = some i) (he : i.td = .slice e) (hte : E.tabs e = some ie)
    (hx : ev st x = .al k none ie.sz q X 0) (hk : Eng.gt st k = .w (sl ie.sz c l) X) (hq : q ≤ l.length) (hy : AsT st true none (ev st y) (sl ie.sz c l2)) (hmk : m ≠ k) (hm : m < st.length)
    (hc : ∀ x, (c x).length = ie.sz) (hone : ∀ x, (c x).all tval = true) (hz0 : ie.zero.length = ie.sz) (hn : q + l2.length ≤ maxLen) (hb : (q + l2.length) * ie.bytes ≤ 140737488355328)
    (h : ∀ X', RA fc E B all nn ls' ((st.set m (.w (sl ie.sz c (l.take q ++ l2)) X')).set k .u) K) : RO fc E B all nn ls st K i' := ⟨o, hA, hg, by subst hL; exact (OK.appendCR ho hd ht he hte hx hk hq hy hmk hm hc hone hz0 hn hb h)⟩

theorem V.indexWZ {pu : Bool} {α : Type} {t e : TypeId} {x y : Operand} {i ie : TyI} {k : Nat} {c : α → List T} {l : List α} {m : Nat} {X : Value} {z : Int} (ho : o.op = .indexAddr t x y) (ht : E.tabs t = some i) (he : i.td = .slice e) (hte : E.tabs e = some ie)
    (hx : Eng.ev st x = .al k none ie.sz l.length X 0) (hk : Eng.gt st k = .w (sl ie.sz c l) X) (hy : Eng.ev st y = .r (.v (.int .i64 z))) (hz : z = (m : Int)) (hm : m < l.length) : VP pu E B o st (.ep k none ie.sz X (m * ie.sz)) := by
  subst hz
  exact V.indexW ho ht he hte hx hk hy hm
/-- What looks at an array may be told to look at it through another slot. -/
theorem Rel.alias (hr : Rel F B st a w) {k a1 sz n off : Nat} {j1 : Option Nat} {X : Value} (a2 : Nat) (j2 : Option Nat) (hk : Eng.gt st k = .al a1 j1 sz n X off) : Rel F B (st.set k (.al a2 j2 sz n X off)) a w := by
  have hklt := getD_eq hk (by simp)
  obtain ⟨bk, bl, p1, p2, p3, ⟨xk, q1, q2⟩, p5, p6⟩ := hr.two k st.length (by omega) hklt
  rw [hk] at q2
  simp only [DR] at q2
  have hbk : bk = [] := q2.2.1
  subst hbk
  refine (p6 w (.al a2 j2 sz n X off) .u a [] [] (Stp.refl _ _) rfl rfl (fun _ _ _ => rfl) ⟨xk, q1, by simp only [DR]; exact ⟨q2.1, trivial, q2.2.2⟩⟩ (fun h => absurd h (by omega)) (by simp) (by simp)).oob (by simp)
theorem RW.alias (k a2 : Nat) (j2 : Option Nat) {a1 sz n off : Nat} {j1 : Option Nat} {X : Value} (hk : Eng.gt st k = .al a1 j1 sz n X off) (h : RW E B all rest (st.set k (.al a2 j2 sz n X off)) K) : RW E B all rest st K := fun F a w hr => h F a w (hr.alias a2 j2 hk)
theorem RO.alias {q : Nat} (k a2 : Nat) (j2 : Option Nat) {a1 sz n' off : Nat} {j1 : Option Nat} {X : Value} (hk : Eng.gt st k = .al a1 j1 sz n' X off) (h : RO fc E B all n ls (st.set k (.al a2 j2 sz n' X off)) K q) : RO fc E B all n ls st K q := by
  obtain ⟨o, h1, h2, h3⟩ := h
  exact ⟨o, h1, h2, fun F a w hr => h3 F a w (hr.alias a2 j2 hk)⟩
theorem DLs_outA : ∀ {ds : List D} {xs : List Value} {bk : List Nat} {j sz n k : Nat} {ts : List T} {V : Value}, DLs F w ds xs bk → ds[j]? = some (.w (.a sz n ts) V) → ∃ b1 b2, bk.Perm (b1 ++ b2) ∧ OT w (.a sz n ts) V b1 ∧ DLs F w (ds.set j (.al k none sz n V 0)) xs b2
  | [], _, _, _, _, _, _, _, _, _, hj => by simp at hj
  | d0 :: ds, xs, bk, j, sz, n, k, ts, V, h, hj => by
    simp only [DLs] at h
    obtain ⟨x, xs', p1, p2, rfl, rfl, h3, h4⟩ := h
    cases j with
    | zero =>
      simp at hj
      subst hj
      simp only [DR] at h3
      refine ⟨p1, p2, List.Perm.refl _, h3.2, ?_⟩
      simp only [List.set_cons_zero, DLs]
      refine ⟨x, xs', [], p2, rfl, rfl, ?_, h4⟩
      simp only [DR]
      refine ⟨h3.1.trans (subV_whole h3.2), trivial, ?_⟩
      have := h3.2
      simp only [OT] at this
      rcases this with ⟨h, _⟩ | ⟨b, o, cap, cur, ty, bs', h, _⟩
      · exact ⟨_, _, _, h⟩
      · exact ⟨_, _, _, h⟩
    | succ j =>
      obtain ⟨b1, b2, h5, h6, h7⟩ := DLs_outA (k := k) h4 (by simpa using hj)
      refine ⟨b1, p1 ++ b2, ?_, h6, ?_⟩
      · refine (List.Perm.append_left p1 h5).trans ?_
        rw [← List.append_assoc, ← List.append_assoc]
        exact List.Perm.append_right b2 List.perm_append_comm
      · simp only [List.set_cons_succ, DLs]
        exact ⟨x, xs', p1, b2, rfl, rfl, h3, h7⟩
/-- A slot takes over the array of a cell; the cell looks at it from there. -/
theorem Rel.swapO (hr : Rel F B st a w) {k l b j sz n : Nat} {ds : List D} {ts : List T} {X : Value} (hkl : k ≠ l) (hk : Eng.gt st k = .al l (some j) sz n X 0) (hl : Eng.gt st l = .obj b ds) (hj : ds[j]? = some (.w (.a sz n ts) X)) :
    Rel F B ((st.set k (.w (.a sz n ts) X)).set l (.obj b (ds.set j (.al k none sz n X 0)))) a w :=
  hr.take hkl hk (fun x bs h => by
    rw [hl] at h
    simp only [DR] at h
    obtain ⟨cs, ty, bs', h1, h2, rfl, h3⟩ := h
    obtain ⟨b1, b2, h4, h5, h6⟩ := DLs_outA (k := k) h3 hj
    refine ⟨b1, b :: b2, ?_, h5, ?_⟩
    · exact (List.Perm.cons b h4).trans List.perm_middle.symm
    · simp only [DR]
      exact ⟨cs, ty, b2, h1, h2, rfl, h6⟩) (by rw [hl]; simp)
theorem RW.swapO (k l j : Nat) {b sz n : Nat} {ds : List D} {ts : List T} {X : Value} (hkl : k ≠ l) (hk : Eng.gt st k = .al l (some j) sz n X 0) (hl : Eng.gt st l = .obj b ds) (hj : ds[j]? = some (.w (.a sz n ts) X))
    (h : RW E B all rest ((st.set k (.w (.a sz n ts) X)).set l (.obj b (ds.set j (.al k none sz n X 0)))) K) : RW E B all rest st K := fun F a w hr => h F a w (hr.swapO hkl hk hl hj)
theorem RQ.swapO (k l j : Nat) {b sz n : Nat} {ds : List D} {ts : List T} {X : Value} (hkl : k ≠ l) (hk : Eng.gt st k = .al l (some j) sz n X 0) (hl : Eng.gt st l = .obj b ds) (hj : ds[j]? = some (.w (.a sz n ts) X))
    (h : RQ E B all rest ((st.set k (.w (.a sz n ts) X)).set l (.obj b (ds.set j (.al k none sz n X 0)))) K) : RQ E B all rest st K := fun F a w hr => h F a w (hr.swapO hkl hk hl hj)
theorem RQ.pullT {k l b j sz n : Nat} {ds : List D} {ts : List T} {X : Value} (k' l' j0 : Nat) (h1 : k' = k) (h2 : l' = l) (h3 : j0 = j) (hkl : k ≠ l) (hk : Eng.gt st k = .obj b ds) (hj : ds[j]? = some (.al l none sz n X 0)) (hl : Eng.gt st l = .w (.a sz n ts) X)
    (h : RQ E B all rest ((st.set k (.obj b (ds.set j (.w (.a sz n ts) X)))).set l .u) K) : RQ E B all rest st K := fun F a w hr => h F a w (hr.pullT hkl hk hj hl)
end
section
variable {E : Env} {F : Nat → Prop} {B : Base} {w : World} {o oj : Oper} {st : St} {K : St → Prop} {a : Act} {all rest : List Oper} {Q : Exit → St → Prop} {fc : Facts} {n i j : Nat} {ls ls' : Array Bool} {want : Bool} {d : Tmp} {dv : D}
/-! ### guards in regions of every order -/
theorem RA.firstT (ht : Tell fc st) (hc : (Region.noSelect all.toArray && Region.free .any all.toArray ls i && (Region.ready .any all.toArray ls).contains i) = true) (hl : ls.setIfInBounds i true = ls')
    (ho : all[i]? = some o) (hg : o.guard = some (j, want)) (hj : all[j]? = some oj) (hd : oj.dst = some d) (hb : Eng.gt st d = .r (.v (.bool want))) (hv : VF fc E B o st dv) (h : RA fc E B all n ls' (setD st o.dst dv) K) : RA fc E B all (n + 1) ls st K := by
  subst hl
  simp only [Bool.and_eq_true] at hc
  intro F a w hr
  refine ⟨ht.hd hr, fun Q hQ hp => ?_⟩
  obtain ⟨x, h1, h2⟩ := hv F a w hr
  have ho' : all.toArray[i]? = some o := by simpa using ho
  have hy := yielded_of hr hj hd hb
  exact wpAnyH_take ho' hc.1.1 hc.1.2 hc.2 (fun c a w hq => absurd hq (hp _ _ _)) (.inl ⟨by simp [Region.wanted, hg, hy], h1⟩) (ht.hd hr) ((h F _ w (hr.putD o.dst h2)).2 Q hQ hp)
theorem RA.firstF (ht : Tell fc st) (hc : (Region.noSelect all.toArray && Region.free .any all.toArray ls i && (Region.ready .any all.toArray ls).contains i) = true) (hl : ls.setIfInBounds i true = ls')
    (ho : all[i]? = some o) (hg : o.guard = some (j, want)) (hj : all[j]? = some oj) (hd : oj.dst = some d) (hb : Eng.gt st d = .r (.v (.bool (!want))) ∨ Eng.gt st d = .r (.v undef)) (h : RA fc E B all n ls' (setD st o.dst (.r (.v undef))) K) : RA fc E B all (n + 1) ls st K := by
  subst hl
  simp only [Bool.and_eq_true] at hc
  intro F a w hr
  refine ⟨ht.hd hr, fun Q hQ hp => ?_⟩
  have ho' : all.toArray[i]? = some o := by simpa using ho
  have hw : Region.wanted o (yielded all.toArray a.tmps) = false := by
    rcases hb with hb | hb
    · have hy := yielded_of hr hj hd hb
      cases want <;> simp [Region.wanted, hg, hy]
    · have hy := yielded_undef hr hj hd hb
      simp [Region.wanted, hg, hy]
  exact wpAnyH_take ho' hc.1.1 hc.1.2 hc.2 (fun c a w hq => absurd hq (hp _ _ _)) (.inr ⟨hw, rfl⟩) (ht.hd hr) ((h F _ w (hr.undefD o.dst)).2 Q hQ hp)
theorem RA.bool (d : Tmp) {g : Bool} (hv : Eng.gt st d = .r (.v (.bool g))) (h1 : g = true → RA fc E B all n ls (st.set d (.r (.v (.bool true)))) K) (h2 : g = false → RA fc E B all n ls (st.set d (.r (.v (.bool false)))) K) : RA fc E B all n ls st K := by
  intro F a w hr
  cases g with
  | true => exact h1 rfl F a w (hr.same hv rfl)
  | false => exact h2 rfl F a w (hr.same hv rfl)
theorem RA.one (ht : Tell fc st) (hL : Region.ready .any all.toArray ls = [i]) (hl : ls.setIfInBounds i true = ls') (ho : all[i]? = some o) (hg : o.guard = some (j, want)) (hj : all[j]? = some oj) (hd : oj.dst = some d) (hb : Eng.gt st d = .r (.v (.bool want)))
    (h : OK E B o st (fun st' => RA fc E B all n ls' st' K)) : RA fc E B all (n + 1) ls st K := by
  subst hl
  intro F a w hr
  refine ⟨ht.hd hr, fun Q hQ hp => ⟨fun h0 => absurd (hL.symm.trans h0) (by simp), fun q hq => ?_⟩⟩
  rw [hL] at hq
  obtain rfl : q = i := by simpa using hq
  unfold wpOp
  have ho' : all.toArray[q]? = some o := by simpa using ho
  rw [ho']
  have hy := yielded_of hr hj hd hb
  have hw : Region.wanted o (yielded all.toArray a.tmps) = true := by simp [Region.wanted, hg, hy]
  simp only [hw, if_true]
  exact .inl (h F a w hr _ Q (fun F' st' a' w' hk hr' => ⟨(hk F' a' w' hr').1, (hk F' a' w' hr').2 Q hQ hp⟩))
theorem RA.oneV (ht : Tell fc st) (hL : Region.ready .any all.toArray ls = [i]) (hl : ls.setIfInBounds i true = ls') (ho : all[i]? = some o) (hg : o.guard = some (j, want)) (hj : all[j]? = some oj) (hd : oj.dst = some d) (hb : Eng.gt st d = .r (.v (.bool want)))
    (hv : V E B o st dv) (h : RA fc E B all n ls' (setD st o.dst dv) K) : RA fc E B all (n + 1) ls st K := RA.one ht hL hl ho hg hj hd hb (OK.ofV hv h)
theorem RA.oneCall {f : FuncId} {xs : List Operand} {tys : Array TypeId} {as outs : List A} {res : R} (ht : Tell fc st) (hL : Region.ready .any all.toArray ls = [i]) (hl : ls.setIfInBounds i true = ls') (ho : all[i]? = some o) (hg : o.guard = some (j, want)) (hj : all[j]? = some oj) (hd : oj.dst = some d) (hb : Eng.gt st d = .r (.v (.bool want)))
    (hf : Eng.Fn E.P f as res outs) (hop : o.op = .call { callee := .value (.func f), args := xs.toArray, argTypes := tys }) (ha : AsAs st false none xs as) (h : ∀ g, RA fc E B all n ls' (setD st o.dst (rD g res)) K) : RA fc E B all (n + 1) ls st K := RA.one ht hL hl ho hg hj hd hb (OK.call hf hop ha h)
theorem RA.oneCallOwn {f : FuncId} {xs : List Operand} {tys : Array TypeId} {as outs : List A} {res : R} (ht : Tell fc st) (hL : Region.ready .any all.toArray ls = [i]) (hl : ls.setIfInBounds i true = ls') (ho : all[i]? = some o) (hg : o.guard = some (j, want)) (hj : all[j]? = some oj) (hd : oj.dst = some d) (hb : Eng.gt st d = .r (.v (.bool want)))
    (hf : Eng.Fn E.P f as res outs) (hop : o.op = .call { callee := .value (.func f), args := xs.toArray, argTypes := tys }) (ha : AsAs st true none xs as) (hres : ownR res = true) (h : ∀ g, RA fc E B all n ls' (setD st o.dst (rD g res)) K) : RA fc E B all (n + 1) ls st K := RA.one ht hL hl ho hg hj hd hb (OK.callOwn hf hop ha hres h)
theorem CW.oneP {α : Type} {x : Code} (N : Nat) (L : α → List (Nat × D)) (P : α → Prop) (h : CW E B x st (fun e s => e = .normal ∧ ∃ v, P v ∧ s.n = N ∧ Le s (L v))) (h2 : ∀ v, P v → Q .normal ⟨N, L v⟩) : CW E B x st Q := by
  intro F a w hr
  refine Code.wp_mono (fun e a' w' => ?_) (h F a w hr)
  rintro ⟨st', F', ⟨rfl, v, hp, hs, hl⟩, hr'⟩
  exact ⟨_, F', h2 v hp, hr'.le hs hl⟩
theorem CW.anyP {α : Type} {id : Nat} {l : List Oper} {y : Code} (N : Nat) (L : α → List (Nat × D)) (P : α → Prop)
    (h : ∀ K : St → Prop, (∀ v s, P v → s.n = N → Le s (L v) → K s) → RA fc E B l l.length (Array.replicate l.length false) st K)
    (h2 : ∀ v, P v → CW E B y ⟨N, L v⟩ Q) : CW E B (.seq (.region id l.toArray true) y) st Q := by
  refine CW.seq (CW.any (h (fun s => CW E B y s Q) ?_))
  intro v s hp hs hl
  exact CW.le (L v) hs hl (h2 v hp)
end
end Go.Eng
