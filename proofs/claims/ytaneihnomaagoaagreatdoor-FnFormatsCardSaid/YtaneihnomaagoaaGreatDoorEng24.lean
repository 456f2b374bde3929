import Derived.Test.YtaneihnomaagoaaGreatDoorEng23
import Derived.Laws.BytesString
import Derived.Laws.Cells
namespace Go.Eng
open Go Go.RowKit

def tval : T → Bool
  | .v x => x.oneCell'
  | _ => false
theorem RL_vals {F : Nat → Prop} {w : World} : ∀ {ts : List T} {b o : Nat}, ts.all tval = true → RL F w ts b o → ∃ vs : List Value, ts = vs.map .v ∧ (∀ p v, vs[p]? = some v → w.cell? ⟨b, o + p, none⟩ = some v) ∧ ∀ v ∈ vs, v.oneCell' = true
  | [], _, _, _, _ => ⟨[], rfl, by simp, by simp⟩
  | t :: ts, b, o, ha, h => by
    simp only [List.all_cons, Bool.and_eq_true] at ha
    simp only [RL] at h
    obtain ⟨⟨c, h1, h2⟩, h3⟩ := h
    obtain ⟨vs, rfl, g2, g3⟩ := RL_vals ha.2 h3
    cases t with
    | a _ _ _ => simp [tval] at ha
    | f _ _ => simp [tval] at ha
    | v x =>
      simp only [RT] at h2
      subst h2
      refine ⟨c :: vs, rfl, fun p v hv => ?_, fun v hv => ?_⟩
      · cases p with
        | zero => simp at hv; subst hv; simpa using h1
        | succ p => rw [show o + (p + 1) = o + 1 + p from by omega]; exact g2 p v (by simpa using hv)
      · rcases List.mem_cons.1 hv with rfl | hv
        · exact ha.1
        · exact g3 v hv
section
variable {E : Env} {F : Nat → Prop} {B : Base E.P} {w : World} {o : Oper} {st : St} {K : St → Prop} {a : Act} {all rest : List Oper} {Q : Exit → St → Prop}
theorem OK.appendSR {α : Type} {t e : TypeId} {x y : Operand} {i ie : TyI} {c : α → List T} {l1 l2 : List α} {X : Value} {k m : Nat} (ho : o.op = .call { callee := .builtin .append, args := #[x, y], argTypes := #[t, t] }) (hd : o.dst = some m) (ht : E.tabs t = some i) (he : i.td = .slice e) (hte : E.tabs e = some ie)
    (hx : ev st x = .al k none ie.sz l1.length X 0) (hk : gt st k = .w (sl ie.sz c l1) X) (hy : AsT st true none (ev st y) (sl ie.sz c l2)) (hmk : m ≠ k) (hm : m < st.length)
    (hc : ∀ x, (c x).length = ie.sz) (hone : ∀ x, (c x).all tval = true) (hz0 : ie.zero.length = ie.sz) (hn : l1.length + l2.length ≤ maxLen) (hb : (l1.length + l2.length) * ie.bytes ≤ 140737488355328)
    (h : ∀ X', K ((st.set m (.w (sl ie.sz c (l1 ++ l2)) X')).set k .u)) : OK E B o st K := by
  intro F a w hr next Q hnx
  obtain ⟨j, d, z, t1, t2, t3, t4, t5, t6, t7⟩ := tyI_spec (E.ok _ _ hte)
  have hu := tyI_slice (E.ok _ _ ht) he
  have hxv := ev_al hr hx hk
  obtain ⟨xl, hyv⟩ : ∃ xl, a.eval y = xl := ⟨_, rfl⟩
  have hyr := hy.readAll hr
  rw [hyv] at hyr
  have hones : ∀ l : List α, (l.flatMap c).all tval = true := by
    intro l
    induction l with
    | nil => rfl
    | cons x l ih => rw [List.flatMap_cons, List.all_append, hone, ih]; rfl
  obtain ⟨own, hsl, hmk'⟩ := hr.gather [k, m] m (by simp)
  obtain ⟨xk, bk, k1, k2, k3, k4⟩ := hsl k _ (by simp) (gt_some hk (by simp))
  simp only [DR, sl] at k2
  obtain ⟨rfl, k2⟩ := k2
  have hexec : ∀ (v : Value) (w' : World), (Builtin.append_ #[t, t] o.type #[xk, xl]).run E.P w = .ok v w' → (execOp a.eval o).run E.P w = .ok (.value v) w' := by
    intro v w' hrun
    simp [execOp, ho, resolve, invoke, builtin, hxv, hyv, hrun]
  -- what is put behind
  obtain ⟨news, hsrc, hnl, hnews⟩ : ∃ (news : List Value), Src E.P j.size t xl l2.length news w ∧ news.length = l2.length * ie.sz ∧ ∀ w', OL w' (l2.flatMap c) news [] := by
    simp only [sl, RT] at hyr
    rcases hyr with ⟨A, C, hxl, hz, _⟩ | ⟨b, of, cap, rfl, g2, g3, g4, g5, g6⟩
    · have : l2 = [] := List.length_eq_zero_iff.1 hz
      subst this
      subst hxl
      exact ⟨[], by cases A with
        | none => exact Src.ofNil w hu C
        | some A => exact Src.ofSlice w hu A 0 C [] (by simp) (by simp) (by simp), by simp, fun _ => by simp [OL]⟩
    · obtain ⟨vs, hvs, hcell, hov⟩ := RL_vals (hones l2) g6
      have hflen : (l2.flatMap c).length = l2.length * ie.sz := flatMap_len hc l2
      have hvl : vs.length = l2.length * ie.sz := by rw [← hflen, hvs, List.length_map]
      refine ⟨vs, ?_, hvl, fun w' => by rw [hvs]; exact OL_values vs vs ⟨[], by simp⟩⟩
      refine Src.ofSlice w hu ⟨b, of, none⟩ l2.length cap _ (by rw [hvl, t4]) (fun p v hv => ?_) hov
      rw [Addr.add_mid]
      exact hcell p v hv
  have fin : ∀ (X' : Value) (w' : World) (cs W : List Nat), Stp w w' W → (∀ b ∈ W, b ∈ bk) → (Builtin.append_ #[t, t] o.type #[xk, xl]).run E.P w = .ok X' w' → DR F w' (.w (sl ie.sz c (l1 ++ l2)) X') X' cs → cs.Nodup →
      (∀ b ∈ cs, (b ∈ bk ∨ w.heap.size ≤ b) ∧ b < w'.heap.size) → o.wp E.P a w next Q := by
    intro X' w' cs W hst hW hrun hdr hnd hin
    unfold Oper.wp
    rw [hexec X' w' hrun, Oper.upon_value, hd]
    refine hnx _ _ _ _ (h X') (hmk' w' (a.put (some m) X') _ (.w (sl ie.sz c (l1 ++ l2)) X') X' cs W hst (fun b hb => (k4 b (hW b hb)).2) rfl (by simp [Act.put]) (by simp) ?_ ?_ ?_ hdr hnd ?_)
    · intro i hi
      simp only [List.mem_cons, List.not_mem_nil, or_false, not_or] at hi
      obtain ⟨h1, h3⟩ := hi
      rw [St.get_set_ne (Ne.symm h1), St.get_set_ne (Ne.symm h3)]
      exact ⟨rfl, get_put_ne a X' h3⟩
    · intro i e hi him hg
      have hik : i = k := by simp only [List.mem_cons, List.not_mem_nil, or_false] at hi; rcases hi with h | h; exact h; exact absurd h him
      subst hik
      have hlt : i < st.length := by have := St.get_lt hg; simpa using this
      rw [St.get_set_self (by simpa using hlt)] at hg
      cases hg; rfl
    · intro e hg
      rw [St.get_set_ne (Ne.symm hmk), St.get_set_self hm] at hg
      cases hg
      exact ⟨rfl, get_put_eq a X' (by rw [hr.len]; exact hm)⟩
    · intro b hb
      refine ⟨?_, (hin b hb).2⟩
      rcases (hin b hb).1 with h | h
      · exact .inl (k4 b h).2
      · exact .inr h
  simp only [OT] at k2
  have grow : ∀ (base : Option Addr) (cap : Nat) (olds : List Value) (bs1 : List Nat), xk = .slice base l1.length cap → cap < l1.length + l2.length → (Builtin.firstCells j.size l1.length (.slice base l1.length cap)).run E.P w.drew = .ok olds.toArray w.drew → olds.length = l1.length * ie.sz →
      (∀ w', (∀ b ∈ bs1, w'.heap[b]? = w.heap[b]?) → OL w' (l1.flatMap c) olds bs1) → bs1.Nodup → (∀ b ∈ bs1, b ∈ bk) → o.wp E.P a w next Q := by
    intro base cap olds bs1 hX hg hold holen hol hnd1 hsub1
    have hrun := run_append_grow_src w t t o.type e j z hu t1 t3 base l1.length cap olds hold xl l2.length news hsrc hg (by simp only [maxLen] at hn; omega) (growslice_fits hg (by rw [t5]; exact hb))
    rw [← hX] at hrun
    have hbs : ∀ b ∈ bs1, b ∈ bk ∧ b < w.heap.size := fun b hb' => ⟨hsub1 b hb', (k4 b (hsub1 b hb')).2.2.2⟩
    have hsame : ∀ b ∈ bs1, ∀ ob, (w.drew.alloc ob).heap[b]? = w.heap[b]? := fun b hb' ob => Below.heap_alloc w.drew ob b (hbs b hb').2
    refine fin _ _ (w.heap.size :: bs1) [] ((Stp.drew w []).trans (Stp.alloc w.drew _ [])) (by simp) hrun ?_ ?_ ?_
    · simp only [DR, sl, OT]
      have hge := grownCap_ge w (l1.length + l2.length) cap e
      have hle := grownCap_le_maxLen w (l1.length + l2.length) cap e hn
      refine ⟨trivial, .inr ⟨w.heap.size, 0, _, _, e, bs1, by simp, by simpa using hge, hle, heap_alloc_new w.drew _, ?_, by rw [flatMap_len hc], rfl, ?_⟩⟩
      · have hzs : z.cells.size = ie.sz := by
          rw [← hz0, ← t6]; simp
        simp [Builtin.zeroCells, hzs, holen, hnl]
        rw [← Nat.add_mul, ← Nat.add_mul]
        exact Nat.mul_le_mul_right _ (by omega)
      · have h1 := hol (w.drew.alloc (.cells ((olds ++ news).toArray ++ Builtin.zeroCells z.cells (grownCap w (l1.length + l2.length) cap e - (l1.length + l2.length))) e)) (fun b hb' => hsame b hb' _)
        have h2 := hnews (w.drew.alloc (.cells ((olds ++ news).toArray ++ Builtin.zeroCells z.cells (grownCap w (l1.length + l2.length) cap e - (l1.length + l2.length))) e))
        have h3 := OL_app (r := (Builtin.zeroCells z.cells (grownCap w (l1.length + l2.length) cap e - (l1.length + l2.length))).toList) h1 h2
        rw [flatMap_len hc, ← holen, List.take_length] at h3
        simpa using h3
    · rw [List.nodup_cons]
      exact ⟨fun hm' => by have := (hbs _ hm').2; omega, hnd1⟩
    · intro b hb'
      rcases List.mem_cons.1 hb' with rfl | hb'
      · exact ⟨.inr (Nat.le_refl _), by simp⟩
      · exact ⟨.inl (hbs b hb').1, by have := (hbs b hb').2; simp; omega⟩
  rcases k2 with ⟨hX, hz, _, rfl⟩ | ⟨b, of, cap, cur, ty, bs', hX, g2, g3, g4, g5, g6, hbk, g8⟩
  · have e1 : l1 = [] := List.length_eq_zero_iff.1 hz
    by_cases h0 : l2.length = 0
    · have e2 : l2 = [] := List.length_eq_zero_iff.1 h0
      have e3 : news = [] := List.length_eq_zero_iff.1 (by rw [hnl, h0, Nat.zero_mul])
      have hsrc' := hsrc
      rw [e3, h0] at hsrc'
      have hrun := run_append_nothing w t t o.type e j hu t1 none 0 0 (Nat.le_refl _) xl hsrc'
      rw [← hX] at hrun
      refine fin xk w [] [] (Stp.refl _ _) (by simp) hrun ?_ (by simp) (by simp)
      simp [DR, sl, OT, e1, e2, hX]
    · refine grow none 0 [] [] (by rw [hX, hz]) (by omega) ?_ (by simp [e1]) (fun _ _ => by simp [e1, OL]) (by simp) (by simp)
      rw [hz]
      exact run_firstCells_none w.drew j.size 0 0 0
  · subst hbk
    rw [flatMap_len hc] at g6
    have hcl : of + cap * ie.sz ≤ cur.toList.length := by simpa using g5
    have hle1 : l1.length * ie.sz ≤ cap * ie.sz := Nat.mul_le_mul_right _ g2
    have hflen : (l1.flatMap c).length = l1.length * ie.sz := flatMap_len hc l1
    by_cases hroom : l1.length + l2.length ≤ cap
    · have hmul : l1.length * ie.sz + l2.length * ie.sz ≤ cap * ie.sz := by rw [← Nat.add_mul]; exact Nat.mul_le_mul_right _ hroom
      have hth := there_of_block (w := w) (b := b) (cs := cur.toList) (ty := ty) (by simpa using g4) (of + l1.length * ie.sz) news.length (by rw [hnl]; omega)
      have hrun := run_append_room_src w t t o.type e j hu t1 b of l1.length cap xl l2.length news hsrc hroom (fun p hp => by rw [t4]; exact (hth p hp).1) (fun p hp => by rw [t4]; exact (hth p hp).2)
      rw [← hX, t4] at hrun
      have hst : Stp w (w.setCells b (of + l1.length * ie.sz) news) [b] := Stp.setCells b news _ w
      rw [List.nodup_cons] at k3
      have hsame : ∀ p ∈ bs', (w.setCells b (of + l1.length * ie.sz) news).heap[p]? = w.heap[p]? := fun p hp => by
        refine hst.block p (k4 p (by simp [hp])).2.2.2 (fun hm' => ?_)
        have : p = b := by simpa using hm'
        subst this
        exact k3.1 hp
      refine fin _ _ (b :: bs') [b] hst (by simp) hrun ?_ ?_ ?_
      · simp only [DR, sl, OT]
        refine ⟨trivial, .inr ⟨b, of, cap, (setN cur.toList (of + l1.length * ie.sz) news).toArray, ty, bs', by simp, by simpa using hroom, g3, heap_setCells b news _ w cur.toList ty (0, 0) (by simpa using g4), by simp [setN_length]; simpa using g5, by rw [flatMap_len hc], rfl, ?_⟩⟩
        have h1 := OL_world _ _ _ hsame g8
        have h2 := hnews (w.setCells b (of + l1.length * ie.sz) news)
        have h3 := OL_app (r := (cur.toList.drop of).drop (l1.length * ie.sz + news.length)) h1 h2
        rw [hflen] at h3
        rw [List.flatMap_append]
        have e4 := append_room_list cur.toList news of (l1.length * ie.sz) (by rw [hnl]; omega)
        simp only []
        rw [e4]
        simpa using h3
      · rw [List.nodup_cons]
        exact k3
      · intro p hp
        exact ⟨.inl hp, Nat.lt_of_lt_of_le (k4 p hp).2.2.2 hst.size⟩
    · have hlen : ((cur.toList.drop of).take (l1.length * ie.sz)).length = l1.length * ie.sz := by
        rw [List.length_take, List.length_drop]
        omega
      refine grow (some ⟨b, of, none⟩) cap ((cur.toList.drop of).take (l1.length * ie.sz)) bs' hX (by omega) ?_ hlen (fun w' hw' => ?_) (List.nodup_cons.1 k3).2 (fun p hp => by simp [hp])
      · refine run_firstCells_some w.drew j.size l1.length ⟨b, of, none⟩ l1.length cap _ (by rw [hlen, t4]) (fun p v hv => ?_)
        rw [List.getElem?_take] at hv
        split at hv
        · rw [List.getElem?_drop] at hv
          rw [Addr.add_mid]
          have g4' : w.drew.heap[b]? = some (.cells cur ty (0, 0)) := g4
          simp [World.cell?, g4']
          simpa using hv
        · cases hv
      · have := OL_app (r := []) (OL_world _ _ _ hw' g8) (show OL w' [] [] [] by simp [OL])
        rw [hflen] at this
        simpa using this
theorem RW.appendSR {α : Type} {t e : TypeId} {x y : Operand} {i ie : TyI} {c : α → List T} {l1 l2 : List α} {X : Value} {k m : Nat} (hg : o.guard = none) (ho : o.op = .call { callee := .builtin .append, args := #[x, y], argTypes := #[t, t] }) (hd : o.dst = some m) (ht : E.tabs t = some i) (he : i.td = .slice e) (hte : E.tabs e = some ie)
    (hx : ev st x = .al k none ie.sz l1.length X 0) (hk : Eng.gt st k = .w (sl ie.sz c l1) X) (hy : AsT st true none (ev st y) (sl ie.sz c l2)) (hmk : m ≠ k) (hm : m < st.length)
    (hc : ∀ x, (c x).length = ie.sz) (hone : ∀ x, (c x).all tval = true) (hz0 : ie.zero.length = ie.sz) (hn : l1.length + l2.length ≤ maxLen) (hb : (l1.length + l2.length) * ie.bytes ≤ 140737488355328)
    (h : ∀ X', RW E B all rest ((st.set m (.w (sl ie.sz c (l1 ++ l2)) X')).set k .u) K) : RW E B all (o :: rest) st K := RW.cons hg (OK.appendSR ho hd ht he hte hx hk hy hmk hm hc hone hz0 hn hb h)

theorem Rel.take (hr : Rel F B st a w) {k l sz n : Nat} {j : Option Nat} {X : Value} {ts : List T} {d' : D} (hkl : k ≠ l) (hk : gt st k = .al l j sz n X 0)
    (hd : ∀ x bs, DR F w (gt st l) x bs → ∃ b1 b2, bs.Perm (b1 ++ b2) ∧ OT w (.a sz n ts) X b1 ∧ DR F w d' x b2) (hl : gt st l ≠ .u) : Rel F B ((st.set k (.w (.a sz n ts) X)).set l d') a w := by
  have hklt := getD_eq hk (by simp)
  obtain ⟨bk, bl, p1, p2, p3, ⟨xk, q1, q2⟩, p5, p6⟩ := hr.two k l hkl hklt
  have hll : l < st.length := by
    rcases Nat.lt_or_ge l st.length with h | h
    · exact h
    · exact absurd (gt_ge h) hl
  obtain ⟨xl, r1, r2⟩ := p5 _ (St.get_of hll)
  obtain ⟨b1, b2, hp, h1, h2⟩ := hd xl bl r2
  rw [hk] at q2
  simp only [DR] at q2
  have hx : xk = X := by rw [q2.1, ← subV_whole h1]
  subst hx
  have hbk : bk = [] := q2.2.1
  subst hbk
  have hnl : (b1 ++ b2).Nodup := hp.nodup_iff.1 (by simpa using p3)
  refine p6 w (.w (.a sz n ts) xk) d' a b1 b2 (Stp.refl _ _) rfl rfl (fun _ _ _ => rfl) ⟨xk, q1, by simp only [DR]; exact ⟨trivial, h1⟩⟩ (fun _ => ⟨xl, r1, h2⟩) hnl (fun b hb => ?_)
  have : b ∈ bl := hp.mem_iff.2 hb
  exact ⟨.inr (.inl this), (p2 b this).2⟩
theorem DLs_outP : ∀ {ds : List D} {xs : List Value} {bk : List Nat} {j : Nat} {t : T} {V : Value}, DLs F w ds xs bk → ds[j]? = some (.w t V) → ∃ b1 b2, bk.Perm (b1 ++ b2) ∧ OT w t V b1 ∧ DLs F w (ds.set j .u) xs b2
  | [], _, _, _, _, _, _, hj => by simp at hj
  | d0 :: ds, xs, bk, j, t, V, h, hj => by
    simp only [DLs] at h
    obtain ⟨x, xs', p1, p2, rfl, rfl, h3, h4⟩ := h
    cases j with
    | zero =>
      simp at hj
      subst hj
      simp only [DR] at h3
      refine ⟨p1, p2, List.Perm.refl _, h3.2, ?_⟩
      simp only [List.set_cons_zero, DLs]
      exact ⟨x, xs', [], p2, rfl, rfl, by simp [DR], h4⟩
    | succ j =>
      obtain ⟨b1, b2, h5, h6, h7⟩ := DLs_outP h4 (by simpa using hj)
      refine ⟨b1, p1 ++ b2, ?_, h6, ?_⟩
      · refine (List.Perm.append_left p1 h5).trans ?_
        rw [← List.append_assoc, ← List.append_assoc]
        exact List.Perm.append_right b2 List.perm_append_comm
      · simp only [List.set_cons_succ, DLs]
        exact ⟨x, xs', p1, b2, rfl, rfl, h3, h7⟩
theorem Rel.takeO (hr : Rel F B st a w) {k l b j sz n : Nat} {ds : List D} {ts : List T} {X : Value} (hkl : k ≠ l) (hk : gt st k = .al l (some j) sz n X 0) (hl : gt st l = .obj b ds) (hj : ds[j]? = some (.w (.a sz n ts) X)) :
    Rel F B ((st.set k (.w (.a sz n ts) X)).set l (.obj b (ds.set j .u))) a w :=
  hr.take hkl hk (fun x bs h => by
    rw [hl] at h
    simp only [DR] at h
    obtain ⟨cs, ty, bs', h1, h2, rfl, h3⟩ := h
    obtain ⟨b1, b2, h4, h5, h6⟩ := DLs_outP h3 hj
    refine ⟨b1, b :: b2, ?_, h5, ?_⟩
    · exact (List.Perm.cons b h4).trans List.perm_middle.symm
    · simp only [DR]
      exact ⟨cs, ty, b2, h1, h2, rfl, h6⟩) (by rw [hl]; simp)
theorem RW.takeO (k l j : Nat) {b sz n : Nat} {ds : List D} {ts : List T} {X : Value} (hkl : k ≠ l) (hk : Eng.gt st k = .al l (some j) sz n X 0) (hl : Eng.gt st l = .obj b ds) (hj : ds[j]? = some (.w (.a sz n ts) X))
    (h : RW E B all rest ((st.set k (.w (.a sz n ts) X)).set l (.obj b (ds.set j .u))) K) : RW E B all rest st K := fun F a w hr => h F a w (hr.takeO hkl hk hl hj)
theorem CW.takeO {cd : Code} (k l j : Nat) {b sz n : Nat} {ds : List D} {ts : List T} {X : Value} (hkl : k ≠ l) (hk : Eng.gt st k = .al l (some j) sz n X 0) (hl : Eng.gt st l = .obj b ds) (hj : ds[j]? = some (.w (.a sz n ts) X))
    (h : CW E B cd ((st.set k (.w (.a sz n ts) X)).set l (.obj b (ds.set j .u))) Q) : CW E B cd st Q := fun F a w hr => h F a w (hr.takeO hkl hk hl hj)
def frz1 : D → D
  | .w t _ => .r t
  | .agg _ => .u
  | .tup _ => .u
  | .obj _ _ => .u
  | d => d
def frz : D → D
  | .agg ds => .agg (ds.map frz1)
  | .obj b ds => .obj b (ds.map frz1)
  | d => frz1 d
theorem frz1_ok {H : Nat → Prop} {d : D} {x : Value} {bs : List Nat} (h : DR F w d x bs) (hF : ∀ b, F b → H b) (hb : ∀ b ∈ bs, H b) : DR H w (frz1 d) x [] := by
  cases d with
  | w t V => simp only [frz1, DR] at h ⊢; rw [h.1]; exact ⟨OT_RT _ _ _ h.2 hb, trivial⟩
  | agg ds => simp [frz1, DR]
  | tup ds => simp [frz1, DR]
  | obj b ds => simp [frz1, DR]
  | u => simp [frz1, DR]
  | r t => simp only [frz1, DR] at h ⊢; exact ⟨RT_mono hF _ _ h.1, trivial⟩
  | al k j sz n V off => simp only [frz1, DR] at h ⊢; exact ⟨h.1, trivial, h.2.2⟩
  | pt k b off => simp only [frz1, DR] at h ⊢; exact ⟨h.1, trivial⟩
  | rp ts =>
    have h' := DR_mono hF _ _ _ h
    simp only [frz1, DR] at h' ⊢
    exact ⟨h'.1, trivial⟩
  | ep k j sz V pos => simp only [frz1, DR] at h ⊢; exact ⟨h.1, trivial⟩
theorem frzL_ok {H : Nat → Prop} (hF : ∀ b, F b → H b) : ∀ {ds : List D} {xs : List Value} {bs : List Nat}, DLs F w ds xs bs → (∀ b ∈ bs, H b) → DLs H w (ds.map frz1) xs []
  | [], _, _, h, _ => by simp only [DLs, List.map_nil] at h ⊢; exact ⟨h.1, trivial⟩
  | d :: ds, xs, bs, h, hb => by
    simp only [DLs] at h
    obtain ⟨x, xs', p1, p2, rfl, rfl, h3, h4⟩ := h
    simp only [List.map_cons, DLs]
    exact ⟨x, xs', [], [], rfl, rfl, frz1_ok h3 hF (fun b hb' => hb b (by simp [hb'])), frzL_ok hF h4 (fun b hb' => hb b (by simp [hb']))⟩
theorem Rel.freeze (hr : Rel F B st a w) (k : Nat) : ∃ H : Nat → Prop, Rel H B (st.set k (frz (gt st k))) a w := by
  rcases Nat.lt_or_ge k st.length with hk | hk
  · obtain ⟨own, hs⟩ := hr.slots
    obtain ⟨x, bk, h1, h2, h3, h4⟩ := hs k _ (St.get_of hk)
    -- what stays with the slot, what is set free
    obtain ⟨keep, free, hsub, hkn, hdr⟩ : ∃ keep free : List Nat, (∀ b ∈ keep ++ free, b ∈ bk) ∧ (keep ++ free).Nodup ∧ ∀ H : Nat → Prop, (∀ b, F b → H b) → (∀ b ∈ free, H b) → DR H w (frz (gt st k)) x keep := by
      cases hg : gt st k with
      | agg ds =>
        rw [hg] at h2
        simp only [DR] at h2
        obtain ⟨cs, rfl, h5⟩ := h2
        exact ⟨[], bk, by simp, by simpa using h3, fun H hF hb => by simp only [frz, DR]; exact ⟨cs, rfl, frzL_ok hF h5 hb⟩⟩
      | obj b ds =>
        rw [hg] at h2
        simp only [DR] at h2
        obtain ⟨cs, ty, bs', rfl, h5, rfl, h6⟩ := h2
        exact ⟨[b], bs', by simp, by simpa using h3, fun H hF hb => by simp only [frz, DR]; exact ⟨cs, ty, [], trivial, h5, rfl, frzL_ok hF h6 hb⟩⟩
      | _ =>
        rw [hg] at h2
        exact ⟨[], bk, by simp, by simpa using h3, fun H hF hb => by simpa only [frz] using frz1_ok h2 hF hb⟩
    refine ⟨fun b => F b ∨ b ∈ free, hr.defers, by rw [hr.len]; simp, hr.fr, ?_, ?_, own, ?_⟩
    · rintro b (hb | hb)
      · exact hr.Flt b hb
      · exact (h4 b (hsub b (by simp [hb]))).2.2
    · rintro b (hb | hb)
      · exact hr.Fin b hb
      · exact .inr (h4 b (hsub b (by simp [hb]))).2.1.2
    · intro i d hi
      by_cases hik : i = k
      · subst hik
        rw [St.get_set_self hk] at hi
        cases hi
        refine ⟨x, keep, h1, hdr _ (fun b hb => .inl hb) (fun b hb => .inr hb), (List.nodup_append.1 hkn).1, fun b hb => ?_⟩
        have := h4 b (hsub b (by simp [hb]))
        refine ⟨this.1, ⟨?_, this.2.1.2⟩, this.2.2⟩
        rintro (hf | hf)
        · exact this.2.1.1 hf
        · exact (List.nodup_append.1 hkn).2.2 b hb b hf rfl
      · rw [St.get_set_ne (Ne.symm hik)] at hi
        obtain ⟨y, cs, f1, f2, f3, f4⟩ := hs i d hi
        refine ⟨y, cs, f1, DR_mono (fun b hb => .inl hb) _ _ _ f2, f3, fun b hb => ⟨(f4 b hb).1, ⟨?_, (f4 b hb).2.1.2⟩, (f4 b hb).2.2⟩⟩
        rintro (hf | hf)
        · exact (f4 b hb).2.1.1 hf
        · exact hik ((f4 b hb).1.symm.trans (h4 b (hsub b (by simp [hf]))).1)
  · exact ⟨F, hr.oob' hk⟩
theorem RW.freeze (k : Nat) {d d' : D} (hk : Eng.gt st k = d) (hd : frz d = d') (h : RW E B all rest (st.set k d') K) : RW E B all rest st K := fun F a w hr => by
  obtain ⟨H, hr'⟩ := hr.freeze k
  rw [hk, hd] at hr'
  exact h H a w hr'
theorem CW.freeze {cd : Code} (k : Nat) {d d' : D} (hk : Eng.gt st k = d) (hd : frz d = d') (h : CW E B cd (st.set k d') Q) : CW E B cd st Q := fun F a w hr => by
  obtain ⟨H, hr'⟩ := hr.freeze k
  rw [hk, hd] at hr'
  exact h H a w hr'

def bat (s : ByteArray) (m : Nat) : Int := match s[m]? with | some b => (b.toNat : Int) | none => 0
theorem V.idxStr {pu : Bool} {t : TypeId} {x y : Operand} {s : ByteArray} {m : Nat} (ho : o.op = .index t x y) (ht : E.P.underlying t = some .string) (hx : ev st x = .r (.v (.string s))) (hy : ev st y = .r (.v (.int .i64 (m : Int)))) (hm : m < s.size) :
    VP pu E B o st (.r (.v (.int .u8 (bat s m)))) := fun F ac w hr => by
  refine ⟨.int .u8 (bat s m), fun w' hs => ?_, by simp [DR, RT]⟩
  have hb : s[m]? = some s[m] := by simp [hm]
  simp [execOp, ho, ev_scalar hr hx, ev_scalar hr hy, Instr.index, asIntOf, Sem.run_bind, run_underlying ht, hb, bat]
theorem V.bytesStr {s t e : TypeId} {x : Operand} {i : TyI} {l : List Int} (ho : o.op = .convert s t x) (ht : E.tabs s = some i) (he : i.td = .slice e) (hue : E.P.underlying e = some (.int .u8)) (hut : E.P.underlying t = some .string)
    (hx : AsT st true none (ev st x) (sl 1 cU l)) : V E B o st (.r (.v (.string (bytesOf l)))) := fun F ac w hr => by
  refine ⟨.string (bytesOf l), fun w' hs => ?_, by simp [DR, RT]⟩
  have hx' := hx.readAll hr
  have hu := tyI_slice (E.ok _ _ ht) he
  simp only [sl, RT] at hx'
  have hmap : ∀ l : List Int, l.flatMap cU = (l.map (Value.int .u8)).map .v := by
    intro l
    induction l with
    | nil => rfl
    | cons n l ih => rw [List.flatMap_cons, ih]; rfl
  rcases hx' with ⟨A, C, h1, h2, h3⟩ | ⟨b, of, cap, h1, g2, g3, g4, g5, g6⟩
  · have hl : l = [] := List.length_eq_zero_iff.1 h2
    subst hl
    simp only [execOp, ho, Sem.run_bind, h1, run_convert_bytes_string w' s t e A 0 C hu hue hut]
    cases A with
    | none => simp [Conv.bytesToString, bytesOf]
    | some A =>
      have := run_bytesToString (P := E.P) w' A 0 C [] (by simpa using run_loadCells_list (w := w') A [] (by simp))
      simp [this, bytesOf]
  · rw [hmap] at g6
    have hcell : ∀ (vs : List Value) (o' : Nat), RL (fx w []) w (vs.map .v) b o' → ∀ j v, vs[j]? = some v → w.cell? ⟨b, o' + j, none⟩ = some v := by
      intro vs
      induction vs with
      | nil => intro _ _ j v hv; simp at hv
      | cons v0 vs ih =>
        intro o' hrl j v hv
        simp only [List.map_cons, RL, RT] at hrl
        obtain ⟨⟨c, k1, k2⟩, k3⟩ := hrl
        cases j with
        | zero => simp at hv; subst hv; subst k2; simpa using k1
        | succ j => rw [show o' + (j + 1) = o' + 1 + j from by omega]; exact ih (o' + 1) k3 j v (by simpa using hv)
    have hload := run_loadCells_list (P := E.P) (w := w') ⟨b, of, none⟩ (l.map (Value.int .u8)) (fun j v hv => by
      rw [Addr.add_mid, World.cell?_of_block (w := w) ((hs rfl).block b g4.1 (by simp))]
      exact hcell _ of g6 j v hv)
    have := run_bytesToString (P := E.P) w' ⟨b, of, none⟩ l.length cap l (by simpa using hload)
    simp only [execOp, ho, Sem.run_bind, h1, run_convert_bytes_string w' s t e _ _ _ hu hue hut, this]
    simp [bytesOf]
end
end Go.Eng
