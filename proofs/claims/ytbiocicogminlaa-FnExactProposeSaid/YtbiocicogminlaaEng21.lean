import Derived.Test.YtbiocicogminlaaEng20
namespace Go.Eng
open Go Go.RowKit

section
variable {w : World}
def tone : T → Bool
  | .v x => x.oneCell'
  | .a _ _ _ => true
  | .f _ _ => false
theorem OL_ones : ∀ {ts : List T} {cs : List Value} {bs : List Nat}, ts.all tone = true → OL w ts cs bs → ∀ v ∈ cs.take ts.length, v.oneCell' = true
  | [], _, _, _, _, v, hv => by simp at hv
  | t :: ts, cs, bs, ha, h, v, hv => by
    simp only [List.all_cons, Bool.and_eq_true] at ha
    simp only [OL] at h
    obtain ⟨c, cs', b1, b2, rfl, rfl, h3, h4⟩ := h
    simp only [List.length_cons, List.take_succ_cons, List.mem_cons] at hv
    rcases hv with rfl | hv
    · cases t with
      | v x => simp only [OT] at h3; rw [h3.1]; exact ha.1
      | f _ _ => simp [OT] at h3
      | a sz n us =>
        simp only [OT] at h3
        rcases h3 with ⟨rfl, _⟩ | ⟨b, o, cap, cur, ty, bs', rfl, _⟩ <;> rfl
    · exact OL_ones ha.2 h4 v hv
theorem OL_app : ∀ {ts us : List T} {cs ds r : List Value} {bs es : List Nat}, OL w ts cs bs → OL w us ds es → OL w (ts ++ us) (cs.take ts.length ++ (ds ++ r)) (bs ++ es)
  | [], us, cs, ds, r, bs, es, h, h' => by
    simp only [OL] at h
    subst h
    have : ∀ {us : List T} {ds : List Value} {es : List Nat}, OL w us ds es → OL w us (ds ++ r) es := by
      intro us
      induction us with
      | nil => intro ds es h; simpa [OL] using h
      | cons u us ih =>
        intro ds es h
        simp only [OL] at h ⊢
        obtain ⟨c, cs', b1, b2, rfl, rfl, h3, h4⟩ := h
        exact ⟨c, cs' ++ r, b1, b2, rfl, rfl, h3, ih h4⟩
    simpa using this h'
  | t :: ts, us, cs, ds, r, bs, es, h, h' => by
    simp only [OL] at h
    obtain ⟨c, cs', b1, b2, rfl, rfl, h3, h4⟩ := h
    simp only [List.length_cons, List.take_succ_cons, List.cons_append, OL]
    exact ⟨c, _, b1, b2 ++ es, rfl, by simp, h3, OL_app h4 h'⟩
end
section
variable {E : Env} {F : Nat → Prop} {B : Base} {w : World} {o : Oper} {st : St} {K : St → Prop} {a : Act}
theorem append_room_list {α : Type} (cs news : List α) (of p : Nat) (h : of + p + news.length ≤ cs.length) : (setN cs (of + p) news).drop of = (cs.drop of).take p ++ (news ++ (cs.drop of).drop (p + news.length)) := by
  rw [setN_drop, setN_eq _ _ _ (by simp; omega)]
  simp
theorem OK.appendSS {α : Type} {t e : TypeId} {x y : Operand} {i ie : TyI} {c : α → List T} {l1 l2 : List α} {X Y : Value} {k l m : Nat} (ho : o.op = .call { callee := .builtin .append, args := #[x, y], argTypes := #[t, t] }) (hd : o.dst = some m) (ht : E.tabs t = some i) (he : i.td = .slice e) (hte : E.tabs e = some ie)
    (hx : ev st x = .al k none ie.sz l1.length X 0) (hk : gt st k = .w (sl ie.sz c l1) X) (hy : ev st y = .al l none ie.sz l2.length Y 0) (hl : gt st l = .w (sl ie.sz c l2) Y) (hkl : k ≠ l) (hmk : m ≠ k) (hml : m ≠ l) (hm : m < st.length)
    (hc : ∀ x, (c x).length = ie.sz) (hone : ∀ x, (c x).all tone = true) (hz0 : ie.zero.length = ie.sz) (hn : l1.length + l2.length ≤ maxLen) (hb : (l1.length + l2.length) * ie.bytes ≤ 140737488355328)
    (h : ∀ X', K (((st.set m (.w (sl ie.sz c (l1 ++ l2)) X')).set k .u).set l .u)) : OK E B o st K := by
  intro F a w hr next Q hnx
  obtain ⟨j, d, z, t1, t2, t3, t4, t5, t6, t7⟩ := tyI_spec (E.ok _ _ hte)
  have hu := tyI_slice (E.ok _ _ ht) he
  have hxv := ev_al hr hx hk
  have hyv := ev_al hr hy hl
  have hones : ∀ l : List α, (l.flatMap c).all tone = true := by
    intro l
    induction l with
    | nil => rfl
    | cons x l ih => rw [List.flatMap_cons, List.all_append, hone, ih]; rfl
  obtain ⟨own, hsl, hmk'⟩ := hr.gather [k, l, m] m (by simp)
  obtain ⟨xk, bk, k1, k2, k3, k4⟩ := hsl k _ (by simp) (gt_some hk (by simp))
  obtain ⟨xl, bl, r1, r2, r3, r4⟩ := hsl l _ (by simp) (gt_some hl (by simp))
  simp only [DR, sl] at k2 r2
  obtain ⟨rfl, k2⟩ := k2
  obtain ⟨rfl, r2⟩ := r2
  have hdis : (bk ++ bl).Nodup := by
    rw [List.nodup_append]
    refine ⟨k3, r3, fun p hp q hq epq => ?_⟩
    subst epq
    exact hkl ((k4 p hp).1.symm.trans (r4 p hq).1)
  have hexec : ∀ (v : Value) (w' : World), (Builtin.append_ #[t, t] o.type #[xk, xl]).run E.P w = .ok v w' → (execOp a.eval o).run E.P w = .ok (.value v) w' := by
    intro v w' hrun
    simp [execOp, ho, resolve, invoke, builtin, hxv, hyv, hrun]
  -- what is put behind
  obtain ⟨news, es, hsrc, hnl, hnews, hsub⟩ : ∃ (news : List Value) (es : List Nat), Src E.P j.size t xl l2.length news w ∧ news.length = l2.length * ie.sz ∧ (∀ w', (∀ b ∈ es, w'.heap[b]? = w.heap[b]?) → OL w' (l2.flatMap c) news es) ∧ (es.Nodup ∧ ∀ b ∈ es, b ∈ bl) := by
    simp only [OT] at r2
    rcases r2 with ⟨rfl, hz, _, rfl⟩ | ⟨b, of, cap, cur, ty, bs', rfl, g2, g3, g4, g5, g6, rfl, g8⟩
    · have : l2 = [] := List.length_eq_zero_iff.1 hz
      subst this
      exact ⟨[], [], Src.ofNil w hu 0, by simp, fun _ _ => by simp [OL], by simp, by simp⟩
    · rw [flatMap_len hc] at g6
      have hcl : of + l2.length * ie.sz ≤ cur.toList.length := by
        have : l2.length * ie.sz ≤ cap * ie.sz := Nat.mul_le_mul_right _ g2
        simp
        omega
      have hlen : ((cur.toList.drop of).take (l2.length * ie.sz)).length = l2.length * ie.sz := by
        rw [List.length_take, List.length_drop]
        omega
      have hflen : (l2.flatMap c).length = l2.length * ie.sz := flatMap_len hc l2
      refine ⟨(cur.toList.drop of).take (l2.length * ie.sz), bs', ?_, hlen, fun w' hw' => ?_, (List.nodup_cons.1 r3).2, fun b' hb' => by simp [hb']⟩
      · refine Src.ofSlice w hu ⟨b, of, none⟩ l2.length cap _ (by rw [hlen, t4]) (fun p v hv => ?_) (by rw [← hflen]; exact OL_ones (hones l2) g8)
        rw [List.getElem?_take] at hv
        split at hv
        · rw [List.getElem?_drop] at hv
          rw [Addr.add_mid]
          simp [World.cell?, g4]
          simpa using hv
        · cases hv
      · have := OL_app (r := []) (OL_world _ _ _ hw' g8) (show OL w' [] [] [] by simp [OL])
        rw [hflen] at this
        simpa using this
  have fin : ∀ (X' : Value) (w' : World) (cs W : List Nat), Stp w w' W → (∀ b ∈ W, b ∈ bk) → (Builtin.append_ #[t, t] o.type #[xk, xl]).run E.P w = .ok X' w' → DR F w' (.w (sl ie.sz c (l1 ++ l2)) X') X' cs → cs.Nodup →
      (∀ b ∈ cs, (b ∈ bk ∨ b ∈ bl ∨ w.heap.size ≤ b) ∧ b < w'.heap.size) → o.wp E.P a w next Q := by
    intro X' w' cs W hst hW hrun hdr hnd hin
    unfold Oper.wp
    rw [hexec X' w' hrun, Oper.upon_value, hd]
    refine hnx _ _ _ _ (h X') (hmk' w' (a.put (some m) X') _ (.w (sl ie.sz c (l1 ++ l2)) X') X' cs W hst (fun b hb => (k4 b (hW b hb)).2) rfl (by simp [Act.put]) (by simp) ?_ ?_ ?_ hdr hnd ?_)
    · intro i hi
      simp only [List.mem_cons, List.not_mem_nil, or_false, not_or] at hi
      obtain ⟨h1, h2, h3⟩ := hi
      rw [St.get_set_ne (Ne.symm h2), St.get_set_ne (Ne.symm h1), St.get_set_ne (Ne.symm h3)]
      exact ⟨rfl, get_put_ne a X' h3⟩
    · intro i e hi him hg
      by_cases hil : i = l
      · subst hil
        have hlt : i < st.length := by have := St.get_lt hg; simpa using this
        rw [St.get_set_self (by simpa using hlt)] at hg
        cases hg; rfl
      · have hik : i = k := by simp only [List.mem_cons, List.not_mem_nil, or_false] at hi; rcases hi with h | h | h; exact h; exact absurd h hil; exact absurd h him
        subst hik
        have hlt : i < st.length := by have := St.get_lt hg; simpa using this
        rw [St.get_set_ne (Ne.symm hil)] at hg
        rw [St.get_set_self (by simpa using hlt)] at hg
        cases hg; rfl
    · intro e hg
      rw [St.get_set_ne (Ne.symm hml), St.get_set_ne (Ne.symm hmk), St.get_set_self hm] at hg
      cases hg
      exact ⟨rfl, get_put_eq a X' (by rw [hr.len]; exact hm)⟩
    · intro b hb
      refine ⟨?_, (hin b hb).2⟩
      rcases (hin b hb).1 with h | h | h
      · exact .inl (k4 b h).2
      · exact .inl (r4 b h).2
      · exact .inr h
  simp only [OT] at k2
  have grow : ∀ (base : Option Addr) (cap : Nat) (olds : List Value) (bs1 : List Nat), xk = .slice base l1.length cap → cap < l1.length + l2.length → (Builtin.firstCells j.size l1.length (.slice base l1.length cap)).run E.P w.drew = .ok olds.toArray w.drew → olds.length = l1.length * ie.sz →
      (∀ w', (∀ b ∈ bs1, w'.heap[b]? = w.heap[b]?) → OL w' (l1.flatMap c) olds bs1) → bs1.Nodup → (∀ b ∈ bs1, b ∈ bk) → o.wp E.P a w next Q := by
    intro base cap olds bs1 hX hg hold holen hol hnd1 hsub1
    have hrun := run_append_grow_src w t t o.type e j z hu t1 t3 base l1.length cap olds hold xl l2.length news hsrc hg (by simp only [maxLen] at hn; omega) (growslice_fits hg (by rw [t5]; exact hb))
    rw [← hX] at hrun
    have hbs : ∀ b ∈ bs1 ++ es, (b ∈ bk ∨ b ∈ bl) ∧ b < w.heap.size := fun b hb' => by
      rcases List.mem_append.1 hb' with h | h
      · exact ⟨.inl (hsub1 b h), (k4 b (hsub1 b h)).2.2.2⟩
      · exact ⟨.inr (hsub.2 b h), (r4 b (hsub.2 b h)).2.2.2⟩
    have hsame : ∀ b ∈ bs1 ++ es, ∀ ob, (w.drew.alloc ob).heap[b]? = w.heap[b]? := fun b hb' ob => Below.heap_alloc w.drew ob b (hbs b hb').2
    refine fin _ _ (w.heap.size :: (bs1 ++ es)) [] ((Stp.drew w []).trans (Stp.alloc w.drew _ [])) (by simp) hrun ?_ ?_ ?_
    · simp only [DR, sl, OT]
      have hge := grownCap_ge w (l1.length + l2.length) cap e
      have hle := grownCap_le_maxLen w (l1.length + l2.length) cap e hn
      refine ⟨trivial, .inr ⟨w.heap.size, 0, _, _, e, bs1 ++ es, by simp, by simpa using hge, hle, heap_alloc_new w.drew _, ?_, by rw [flatMap_len hc], rfl, ?_⟩⟩
      · have hzs : z.cells.size = ie.sz := by
          rw [← hz0, ← t6]; simp
        simp [Builtin.zeroCells, hzs, holen, hnl]
        rw [← Nat.add_mul, ← Nat.add_mul]
        exact Nat.mul_le_mul_right _ (by omega)
      · have h1 := hol (w.drew.alloc (.cells ((olds ++ news).toArray ++ Builtin.zeroCells z.cells (grownCap w (l1.length + l2.length) cap e - (l1.length + l2.length))) e)) (fun b hb' => hsame b (by simp [hb']) _)
        have h2 := hnews (w.drew.alloc (.cells ((olds ++ news).toArray ++ Builtin.zeroCells z.cells (grownCap w (l1.length + l2.length) cap e - (l1.length + l2.length))) e)) (fun b hb' => hsame b (by simp [hb']) _)
        have h3 := OL_app (r := (Builtin.zeroCells z.cells (grownCap w (l1.length + l2.length) cap e - (l1.length + l2.length))).toList) h1 h2
        rw [flatMap_len hc, ← holen, List.take_length] at h3
        simpa using h3
    · rw [List.nodup_cons, List.nodup_append]
      refine ⟨fun hm' => by have := (hbs _ hm').2; omega, hnd1, hsub.1, fun p hp q hq epq => ?_⟩
      rw [List.nodup_append] at hdis
      exact hdis.2.2 p (hsub1 p hp) q (hsub.2 q hq) epq
    · intro b hb'
      rcases List.mem_cons.1 hb' with rfl | hb'
      · exact ⟨.inr (.inr (Nat.le_refl _)), by simp⟩
      · refine ⟨?_, by have := (hbs b hb').2; simp; omega⟩
        rcases (hbs b hb').1 with h | h
        · exact .inl h
        · exact .inr (.inl h)
  rcases k2 with ⟨hX, hz, _, rfl⟩ | ⟨b, of, cap, cur, ty, bs', hX, g2, g3, g4, g5, g6, hbk, g8⟩
  · have e1 : l1 = [] := List.length_eq_zero_iff.1 hz
    by_cases h0 : l2.length = 0
    · have e2 : l2 = [] := List.length_eq_zero_iff.1 h0
      have e3 : news = [] := List.length_eq_zero_iff.1 (by rw [hnl, h0, Nat.zero_mul])
      have hsrc' := hsrc
      rw [e3, h0] at hsrc'
      have hrun := run_append_nothing w t t o.type e j hu t1 none 0 0 (Nat.le_refl _) xl hsrc'
      rw [← hX] at hrun
      refine fin xk w [] [] (Stp.refl _ _) (by simp) hrun ?_ (by simp) (by simp)
      simp [DR, sl, OT, e1, e2, hX]
    · refine grow none 0 [] [] (by rw [hX, hz]) (by omega) ?_ (by simp [e1]) (fun _ _ => by simp [e1, OL]) (by simp) (by simp)
      rw [hz]
      exact run_firstCells_none w.drew j.size 0 0 0
  · subst hbk
    rw [flatMap_len hc] at g6
    have hcl : of + cap * ie.sz ≤ cur.toList.length := by simpa using g5
    have hle1 : l1.length * ie.sz ≤ cap * ie.sz := Nat.mul_le_mul_right _ g2
    have hflen : (l1.flatMap c).length = l1.length * ie.sz := flatMap_len hc l1
    by_cases hroom : l1.length + l2.length ≤ cap
    · have hmul : l1.length * ie.sz + l2.length * ie.sz ≤ cap * ie.sz := by rw [← Nat.add_mul]; exact Nat.mul_le_mul_right _ hroom
      have hth := there_of_block (w := w) (b := b) (cs := cur.toList) (ty := ty) (by simpa using g4) (of + l1.length * ie.sz) news.length (by rw [hnl]; omega)
      have hrun := run_append_room_src w t t o.type e j hu t1 b of l1.length cap xl l2.length news hsrc hroom (fun p hp => by rw [t4]; exact (hth p hp).1) (fun p hp => by rw [t4]; exact (hth p hp).2)
      rw [← hX, t4] at hrun
      have hst : Stp w (w.setCells b (of + l1.length * ie.sz) news) [b] := Stp.setCells b news _ w
      rw [List.nodup_cons] at k3
      have hbes : b ∉ es := fun hm' => by
        rw [List.nodup_append] at hdis
        exact hdis.2.2 b (by simp) b (hsub.2 b hm') rfl
      have hsame : ∀ p ∈ bs' ++ es, (w.setCells b (of + l1.length * ie.sz) news).heap[p]? = w.heap[p]? := fun p hp => by
        refine hst.block p ?_ (fun hm' => ?_)
        · rcases List.mem_append.1 hp with h | h
          · exact (k4 p (by simp [h])).2.2.2
          · exact (r4 p (hsub.2 p h)).2.2.2
        · have : p = b := by simpa using hm'
          subst this
          rcases List.mem_append.1 hp with h | h
          · exact k3.1 h
          · exact hbes h
      refine fin _ _ (b :: (bs' ++ es)) [b] hst (by simp) hrun ?_ ?_ ?_
      · simp only [DR, sl, OT]
        refine ⟨trivial, .inr ⟨b, of, cap, (setN cur.toList (of + l1.length * ie.sz) news).toArray, ty, bs' ++ es, by simp, by simpa using hroom, g3, heap_setCells b news _ w cur.toList ty (0, 0) (by simpa using g4), by simp [setN_length]; simpa using g5, by rw [flatMap_len hc], rfl, ?_⟩⟩
        have h1 := OL_world _ _ _ (fun p hp => hsame p (by simp [hp])) g8
        have h2 := hnews _ (fun p hp => hsame p (by simp [hp]))
        have h3 := OL_app (r := (cur.toList.drop of).drop (l1.length * ie.sz + news.length)) h1 h2
        rw [hflen] at h3
        rw [List.flatMap_append]
        have e4 := append_room_list cur.toList news of (l1.length * ie.sz) (by rw [hnl]; omega)
        simp only []
        rw [e4]
        exact h3
      · rw [List.nodup_cons, List.nodup_append]
        refine ⟨fun hm' => ?_, k3.2, hsub.1, fun p hp q hq epq => ?_⟩
        · rcases List.mem_append.1 hm' with h | h
          · exact k3.1 h
          · exact hbes h
        · rw [List.nodup_append] at hdis
          exact hdis.2.2 p (by simp [hp]) q (hsub.2 q hq) epq
      · intro p hp
        rcases List.mem_cons.1 hp with rfl | hp
        · exact ⟨.inl (by simp), Nat.lt_of_lt_of_le (k4 p (by simp)).2.2.2 hst.size⟩
        · rcases List.mem_append.1 hp with h | h
          · exact ⟨.inl (by simp [h]), Nat.lt_of_lt_of_le (k4 p (by simp [h])).2.2.2 hst.size⟩
          · exact ⟨.inr (.inl (hsub.2 p h)), Nat.lt_of_lt_of_le (r4 p (hsub.2 p h)).2.2.2 hst.size⟩
    · have hlen : ((cur.toList.drop of).take (l1.length * ie.sz)).length = l1.length * ie.sz := by
        rw [List.length_take, List.length_drop]
        omega
      refine grow (some ⟨b, of, none⟩) cap ((cur.toList.drop of).take (l1.length * ie.sz)) bs' hX (by omega) ?_ hlen (fun w' hw' => ?_) (List.nodup_cons.1 k3).2 (fun p hp => by simp [hp])
      · refine run_firstCells_some w.drew j.size l1.length ⟨b, of, none⟩ l1.length cap _ (by rw [hlen, t4]) (fun p v hv => ?_)
        rw [List.getElem?_take] at hv
        split at hv
        · rw [List.getElem?_drop] at hv
          rw [Addr.add_mid]
          have g4' : w.drew.heap[b]? = some (.cells cur ty (0, 0)) := g4
          simp [World.cell?, g4']
          simpa using hv
        · cases hv
      · have := OL_app (r := []) (OL_world _ _ _ hw' g8) (show OL w' [] [] [] by simp [OL])
        rw [hflen] at this
        simpa using this
end
end Go.Eng
