import Derived.Test.YtmhnehgpmndiiaaGreatDoorEng23
import Derived.Laws.BytesString
import Derived.Laws.Cells
namespace Go.Eng
open Go Go.RowKit

def tval : T → Bool
  | .v x => x.oneCell'
  | _ => false
theorem RL_vals {F : Nat → Prop} {w : World} : ∀ {ts : List T} {b o : Nat}, ts.all tval = true → RL F w ts b o → ∃ vs : List Value, ts = vs.map .v ∧ (∀ p v, vs[p]? = some v → w.cell? ⟨b, o + p, none⟩ = some v) ∧ ∀ v ∈ vs, v.oneCell' = true
  | [], _, _, _, _ => ⟨[], rfl, by simp, by simp⟩
  | t :: ts, b, o, ha, h => by
    simp only [List.all_cons, Bool.and_eq_true] at ha
    simp only [RL] at h
    obtain ⟨⟨c, h1, h2⟩, h3⟩ := h
    obtain ⟨vs, rfl, g2, g3⟩ := RL_vals ha.2 h3
    cases t with
    | a _ _ _ => simp [tval] at ha
    | f _ _ => simp [tval] at ha
    | v x =>
      simp only [RT] at h2
      subst h2
      refine ⟨c :: vs, rfl, fun p v hv => ?_, fun v hv => ?_⟩
      · cases p with
        | zero => simp at hv; subst hv; simpa using h1
        | succ p => rw [show o + (p + 1) = o + 1 + p from by omega]; exact g2 p v (by simpa using hv)
      · rcases List.mem_cons.1 hv with rfl | hv
        · exact ha.1
        · exact g3 v hv
section
variable {E : Env} {F : Nat → Prop} {B : Base E.P} {w : World} {o : Oper} {st : St} {K : St → Prop} {a : Act} {all rest : List Oper} {Q : Exit → St → Prop}
theorem OK.appendSR {α : Type} {t e : TypeId} {x y : Operand} {i ie : TyI} {c : α → List T} {l1 l2 : List α} {X : Value} {k m : Nat} (ho : o.op = .call { callee := .builtin .append, args := #[x, y], argTypes := #[t, t] }) (hd : o.dst = some m) (ht : E.tabs t = some i) (he : i.td = .slice e) (hte : E.tabs e = some ie)
    (hx : ev st x = .al k none ie.sz l1.length X 0) (hk : gt st k = .w (sl ie.sz c l1) X) (hy : AsT st true none (ev st y) (sl ie.sz c l2)) (hmk : m ≠ k) (hm : m < st.length)
    (hc : ∀ x, (c x).length = ie.sz) (hone : ∀ x, (c x).all tval = true) (hz0 : ie.zero.length = ie.sz) (hn : l1.length + l2.length ≤ maxLen) (hb : (l1.length + l2.length) * ie.bytes ≤ 140737488355328)
    (h : ∀ X', K ((st.set m (.w (sl ie.sz c (l1 ++ l2)) X')).set k .u)) : OK E B o st K := by
  intro F a w hr next Q hnx
  obtain ⟨j, d, z, t1, t2, t3, t4, t5, t6, t7⟩ := tyI_spec (E.ok _ _ hte)
  have hu := tyI_slice (E.ok _ _ ht) he
  have hxv := ev_al hr hx hk
  obtain ⟨xl, hyv⟩ : ∃ xl, a.eval y = xl := ⟨_, rfl⟩
  have hyr := hy.readAll hr
  rw [hyv] at hyr
  have hones : ∀ l : List α, (l.flatMap c).all tval = true := by
    intro l
    induction l with
    | nil => rfl
    | cons x l ih => rw [List.flatMap_cons, List.all_append, hone, ih]; rfl
  obtain ⟨own, hsl, hmk'⟩ := hr.gather [k, m] m (by simp)
  obtain ⟨xk, bk, k1, k2, k3, k4⟩ := hsl k _ (by simp) (gt_some hk (by simp))
  simp only [DR, sl] at k2
  obtain ⟨rfl, k2⟩ := k2
  have hexec : ∀ (v : Value) (w' : World), (Builtin.append_ #[t, t] o.type #[xk, xl]).run E.P w = .ok v w' → (execOp a.eval o).run E.P w = .ok (.value v) w' := by
    intro v w' hrun
    simp [execOp, ho, resolve, invoke, builtin, hxv, hyv, hrun]
  -- what is put behind
  obtain ⟨news, hsrc, hnl, hnews⟩ : ∃ (news : List Value), Src E.P j.size t xl l2.length news w ∧ news.length = l2.length * ie.sz ∧ ∀ w', OL w' (l2.flatMap c) news [] := by
    simp only [sl, RT] at hyr
    rcases hyr with ⟨A, C, hxl, hz, _⟩ | ⟨b, of, cap, rfl, g2, g3, g4, g5, g6⟩
    · have : l2 = [] := List.length_eq_zero_iff.1 hz
      subst this
      subst hxl
      exact ⟨[], by cases A with
        | none => exact Src.ofNil w hu C
        | some A => exact Src.ofSlice w hu A 0 C [] (by simp) (by simp) (by simp), by simp, fun _ => by simp [OL]⟩
    · obtain ⟨vs, hvs, hcell, hov⟩ := RL_vals (hones l2) g6
      have hflen : (l2.flatMap c).length = l2.length * ie.sz := flatMap_len hc l2
      have hvl : vs.length = l2.length * ie.sz := by rw [← hflen, hvs, List.length_map]
      refine ⟨vs, ?_, hvl, fun w' => by rw [hvs]; exact OL_values vs vs ⟨[], by simp⟩⟩
      refine Src.ofSlice w hu ⟨b, of, none⟩ l2.length cap _ (by rw [hvl, t4]) (fun p v hv => ?_) hov
      rw [Addr.add_mid]
      exact hcell p v hv
  have fin : ∀ (X' : Value) (w' : World) (cs W : List Nat), Stp w w' W → (∀ b ∈ W, b ∈ bk) → (Builtin.append_ #[t, t] o.type #[xk, xl]).run E.P w = .ok X' w' → DR F w' (.w (sl ie.sz c (l1 ++ l2)) X') X' cs → cs.Nodup →
      (∀ b ∈ cs, (b ∈ bk ∨ w.heap.size ≤ b) ∧ b < w'.heap.size) → o.wp E.P a w next Q := by
    intro X' w' cs W hst hW hrun hdr hnd hin
    unfold Oper.wp
    rw [hexec X' w' hrun, Oper.upon_value, hd]
    refine hnx _ _ _ _ (h X') (hmk' w' (a.put (some m) X') _ (.w (sl ie.sz c (l1 ++ l2)) X') X' cs W hst (fun b hb => (k4 b (hW b hb)).2) rfl (by simp [Act.put]) (by simp) ?_ ?_ ?_ hdr hnd ?_)
    · intro i hi
      simp only [List.mem_cons, List.not_mem_nil, or_false, not_or] at hi
      obtain ⟨h1, h3⟩ := hi
      rw [St.get_set_ne (Ne.symm h1), St.get_set_ne (Ne.symm h3)]
      exact ⟨rfl, get_put_ne a X' h3⟩
    · intro i e hi him hg
      have hik : i = k := by simp only [List.mem_cons, List.not_mem_nil, or_false] at hi; rcases hi with h | h; exact h; exact absurd h him
      subst hik
      have hlt : i < st.length := by have := St.get_lt hg; simpa using this
      rw [St.get_set_self (by simpa using hlt)] at hg
      cases hg; rfl
    · intro e hg
      rw [St.get_set_ne (Ne.symm hmk), St.get_set_self hm] at hg
      cases hg
      exact ⟨rfl, get_put_eq a X' (by rw [hr.len]; exact hm)⟩
    · intro b hb
      refine ⟨?_, (hin b hb).2⟩
      rcases (hin b hb).1 with h | h
      · exact .inl (k4 b h).2
      · exact .inr h
  simp only [OT] at k2
  have grow : ∀ (base : Option Addr) (cap : Nat) (olds : List Value) (bs1 : List Nat), xk = .slice base l1.length cap → cap < l1.length + l2.length → (Builtin.firstCells j.size l1.length (.slice base l1.length cap)).run E.P w.drew = .ok olds.toArray w.drew → olds.length = l1.length * ie.sz →
      (∀ w', (∀ b ∈ bs1, w'.heap[b]? = w.heap[b]?) → OL w' (l1.flatMap c) olds bs1) → bs1.Nodup → (∀ b ∈ bs1, b ∈ bk) → o.wp E.P a w next Q := by
    intro base cap olds bs1 hX hg hold holen hol hnd1 hsub1
    have hrun := run_append_grow_src w t t o.type e j z hu t1 t3 base l1.length cap olds hold xl l2.length news hsrc hg (by simp only [maxLen] at hn; omega) (growslice_fits hg (by rw [t5]; exact hb))
    rw [← hX] at hrun
    have hbs : ∀ b ∈ bs1, b ∈ bk ∧ b < w.heap.size := fun b hb' => ⟨hsub1 b hb', (k4 b (hsub1 b hb')).2.2.2⟩
    have hsame : ∀ b ∈ bs1, ∀ ob, (w.drew.alloc ob).heap[b]? = w.heap[b]? := fun b hb' ob => Below.heap_alloc w.drew ob b (hbs b hb').2
    refine fin _ _ (w.heap.size :: bs1) [] ((Stp.drew w []).trans (Stp.alloc w.drew _ [])) (by simp) hrun ?_ ?_ ?_
    · simp only [DR, sl, OT]
      have hge := grownCap_ge w (l1.length + l2.length) cap e
      have hle := grownCap_le_maxLen w (l1.length + l2.length) cap e hn
      refine ⟨trivial, .inr ⟨w.heap.size, 0, _, _, e, bs1, by simp, by simpa using hge, hle, heap_alloc_new w.drew _, ?_, by rw [flatMap_len hc], rfl, ?_⟩⟩
      · have hzs : z.cells.size = ie.sz := by
          rw [← hz0, ← t6]; simp
        simp [Builtin.zeroCells, hzs, holen, hnl]
        rw [← Nat.add_mul, ← Nat.add_mul]
        exact Nat.mul_le_mul_right _ (by omega)
      · have h1 := hol (w.drew.alloc (.cells ((olds ++ news).toArray ++ Builtin.zeroCells z.cells (grownCap w (l1.length + l2.length) cap e - (l1.length + l2.length))) e)) (fun b hb' => hsame b hb' _)
        have h2 := hnews (w.drew.alloc (.cells ((olds ++ news).toArray ++ Builtin.zeroCells z.cells (grownCap w (l1.length + l2.length) cap e - (l1.length + l2.length))) e))
        have h3 := OL_app (r := (Builtin.zeroCells z.cells (grownCap w (l1.length + l2.length) cap e - (l1.length + l2.length))).toList) h1 h2
        rw [flatMap_len hc, ← holen, List.take_length] at h3
        simpa using h3
    · rw [List.nodup_cons]
      exact ⟨fun hm' => by have := (hbs _ hm').2; omega, hnd1⟩
    · intro b hb'
      rcases List.mem_cons.1 hb' with rfl | hb'
      · exact ⟨.inr (Nat.le_refl _), by simp⟩
      · exact ⟨.inl (hbs b hb').1, by have := (hbs b hb').2; simp; omega⟩
  rcases k2 with ⟨hX, hz, _, rfl⟩ | ⟨b, of, cap, cur, ty, bs', hX, g2, g3, g4, g5, g6, hbk, g8⟩
  · have e1 : l1 = [] := List.length_eq_zero_iff.1 hz
    by_cases h0 : l2.length = 0
    · have e2 : l2 = [] := List.length_eq_zero_iff.1 h0
      have e3 : news = [] := List.length_eq_zero_iff.1 (by rw [hnl, h0, Nat.zero_mul])
      have hsrc' := hsrc
      rw [e3, h0] at hsrc'
      have hrun := run_append_nothing w t t o.type e j hu t1 none 0 0 (Nat.le_refl _) xl hsrc'
      rw [← hX] at hrun
      refine fin xk w [] [] (Stp.refl _ _) (by simp) hrun ?_ (by simp) (by simp)
      simp [DR, sl, OT, e1, e2, hX]
    · refine grow none 0 [] [] (by rw [hX, hz]) (by omega) ?_ (by simp [e1]) (fun _ _ => by simp [e1, OL]) (by simp) (by simp)
      rw [hz]
      exact run_firstCells_none w.drew j.size 0 0 0
  · subst hbk
    rw [flatMap_len hc] at g6
    have hcl : of + cap * ie.sz ≤ cur.toList.length := by simpa using g5
    have hle1 : l1.length * ie.sz ≤ cap * ie.sz := Nat.mul_le_mul_right _ g2
    have hflen : (l1.flatMap c).length = l1.length * ie.sz := flatMap_len hc l1
    by_cases hroom : l1.length + l2.length ≤ cap
    · have hmul : l1.length * ie.sz + l2.length * ie.sz ≤ cap * ie.sz := by rw [← Nat.add_mul]; exact Nat.mul_le_mul_right _ hroom
      have hth := there_of_block (w := w) (b := b) (cs := cur.toList) (ty := ty) (by simpa using g4) (of + l1.length * ie.sz) news.length (by rw [hnl]; omega)
      have hrun := run_append_room_src w t t o.type e j hu t1 b of l1.length cap xl l2.length news hsrc hroom (fun p hp => by rw [t4]; exact (hth p hp).1) (fun p hp => by rw [t4]; exact (hth p hp).2)
      rw [← hX, t4] at hrun
      have hst : Stp w (w.setCells b (of + l1.length * ie.sz) news) [b] := Stp.setCells b news _ w
      rw [List.nodup_cons] at k3
      have hsame : ∀ p ∈ bs', (w.setCells b (of + l1.length * ie.sz) news).heap[p]? = w.heap[p]? := fun p hp => by
        refine hst.block p (k4 p (by simp [hp])).2.2.2 (fun hm' => ?_)
        have : p = b := by simpa using hm'
        subst this
        exact k3.1 hp
      refine fin _ _ (b :: bs') [b] hst (by simp) hrun ?_ ?_ ?_
      · simp only [DR, sl, OT]
        refine ⟨trivial, .inr ⟨b, of, cap, (setN cur.toList (of + l1.length * ie.sz) news).toArray, ty, bs', by simp, by simpa using hroom, g3, heap_setCells b news _ w cur.toList ty (0, 0) (by simpa using g4), by simp [setN_length]; simpa using g5, by rw [flatMap_len hc], rfl, ?_⟩⟩
        have h1 := OL_world _ _ _ hsame g8
        have h2 := hnews (w.setCells b (of + l1.length * ie.sz) news)
        have h3 := OL_app (r := (cur.toList.drop of).drop (l1.length * ie.sz + news.length)) h1 h2
        rw [hflen] at h3
        rw [List.flatMap_append]
        have e4 := append_room_list cur.toList news of (l1.length * ie.sz) (by rw [hnl]; omega)
        simp only []
        rw [e4]
        simpa using h3
      · rw [List.nodup_cons]
        exact k3
      · intro p hp
        exact ⟨.inl hp, Nat.lt_of_lt_of_le (k4 p hp).2.2.2 hst.size⟩
    · have hlen : ((cur.toList.drop of).take (l1.length * ie.sz)).length = l1.length * ie.sz := by
        rw [List.length_take, List.length_drop]
        omega
      refine grow (some ⟨b, of, none⟩) cap ((cur.toList.drop of).take (l1.length * ie.sz)) bs' hX (by omega) ?_ hlen (fun w' hw' => ?_) (List.nodup_cons.1 k3).2 (fun p hp => by simp [hp])
      · refine run_firstCells_some w.drew j.size l1.length ⟨b, of, none⟩ l1.length cap _ (by rw [hlen, t4]) (fun p v hv => ?_)
        rw [List.getElem?_take] at hv
        split at hv
        · rw [List.getElem?_drop] at hv
          rw [Addr.add_mid]
          have g4' : w.drew.heap[b]? = some (.cells cur ty (0, 0)) := g4
          simp [World.cell?, g4']
          simpa using hv
        · cases hv
      · have := OL_app (r := []) (OL_world _ _ _ hw' g8) (show OL w' [] [] [] by simp [OL])
        rw [hflen] at this
        simpa using this
theorem RW.appendSR {α : Type} {t e : TypeId} {x y : Operand} {i ie : TyI} {c : α → List T} {l1 l2 : List α} {X : Value} {k m : Nat} (hg : o.guard = none) (ho : o.op = .call { callee := .builtin .append, args := #[x, y], argTypes := #[t, t] }) (hd : o.dst = some m) (ht : E.tabs t = some i) (he : i.td = .slice e) (hte : E.tabs e = some ie)
    (hx : ev st x = .al k none ie.sz l1.length X 0) (hk : Eng.gt st k = .w (sl ie.sz c l1) X) (hy : AsT st true none (ev st y) (sl ie.sz c l2)) (hmk : m ≠ k) (hm : m < st.length)
    (hc : ∀ x, (c x).length = ie.sz) (hone : ∀ x, (c x).all tval = true) (hz0 : ie.zero.length = ie.sz) (hn : l1.length + l2.length ≤ maxLen) (hb : (l1.length + l2.length) * ie.bytes ≤ 140737488355328)
    (h : ∀ X', RW E B all rest ((st.set m (.w (sl ie.sz c (l1 ++ l2)) X')).set k .u) K) : RW E B all (o :: rest) st K := RW.cons hg (OK.appendSR ho hd ht he hte hx hk hy hmk hm hc hone hz0 hn hb h)

theorem Rel.take (hr : Rel F B st a w) {k l sz n : Nat} {j : Option Nat} {X : Value} {ts : List T} {d' : D} (hkl : k ≠ l) (hk : gt st k = .al l j sz n X 0)
    (hd : ∀ x bs, DR F w (gt st l) x bs → ∃ b1 b2, bs.Perm (b1 ++ b2) ∧ OT w (.a sz n ts) X b1 ∧ DR F w d' x b2) (hl : gt st l ≠ .u) : Rel F B ((st.set k (.w (.a sz n ts) X)).set l d') a w := by
  have hklt := getD_eq hk (by simp)
  obtain ⟨bk, bl, p1, p2, p3, ⟨xk, q1, q2⟩, p5, p6⟩ := hr.two k l hkl hklt
  have hll : l < st.length := by
    rcases Nat.lt_or_ge l st.length with h | h
    · exact h
    · exact absurd (gt_ge h) hl
  obtain ⟨xl, r1, r2⟩ := p5 _ (St.get_of hll)
  obtain ⟨b1, b2, hp, h1, h2⟩ := hd xl bl r2
  rw [hk] at q2
  simp only [DR] at q2
  have hx : xk = X := by rw [q2.1, ← subV_whole h1]
  subst hx
  have hbk : bk = [] := q2.2.1
  subst hbk
  have hnl : (b1 ++ b2).Nodup := hp.nodup_iff.1 (by simpa using p3)
  refine p6 w (.w (.a sz n ts) xk) d' a b1 b2 (Stp.refl _ _) rfl rfl (fun _ _ _ => rfl) ⟨xk, q1, by simp only [DR]; exact ⟨trivial, h1⟩⟩ (fun _ => ⟨xl, r1, h2⟩) hnl (fun b hb => ?_)
  have : b ∈ bl := hp.mem_iff.2 hb
  exact ⟨.inr (.inl this), (p2 b this).2⟩
def bat (s : ByteArray) (m : Nat) : Int := match s[m]? with | some b => (b.toNat : Int) | none => 0
theorem V.idxStr {pu : Bool} {t : TypeId} {x y : Operand} {s : ByteArray} {m : Nat} (ho : o.op = .index t x y) (ht : E.P.underlying t = some .string) (hx : ev st x = .r (.v (.string s))) (hy : ev st y = .r (.v (.int .i64 (m : Int)))) (hm : m < s.size) :
    VP pu E B o st (.r (.v (.int .u8 (bat s m)))) := fun F ac w hr => by
  refine ⟨.int .u8 (bat s m), fun w' hs => ?_, by simp [DR, RT]⟩
  have hb : s[m]? = some s[m] := by simp [hm]
  simp [execOp, ho, ev_scalar hr hx, ev_scalar hr hy, Instr.index, asIntOf, Sem.run_bind, run_underlying ht, hb, bat]
theorem V.bytesStr {s t e : TypeId} {x : Operand} {i : TyI} {l : List Int} (ho : o.op = .convert s t x) (ht : E.tabs s = some i) (he : i.td = .slice e) (hue : E.P.underlying e = some (.int .u8)) (hut : E.P.underlying t = some .string)
    (hx : AsT st true none (ev st x) (sl 1 cU l)) : V E B o st (.r (.v (.string (bytesOf l)))) := fun F ac w hr => by
  refine ⟨.string (bytesOf l), fun w' hs => ?_, by simp [DR, RT]⟩
  have hx' := hx.readAll hr
  have hu := tyI_slice (E.ok _ _ ht) he
  simp only [sl, RT] at hx'
  have hmap : ∀ l : List Int, l.flatMap cU = (l.map (Value.int .u8)).map .v := by
    intro l
    induction l with
    | nil => rfl
    | cons n l ih => rw [List.flatMap_cons, ih]; rfl
  rcases hx' with ⟨A, C, h1, h2, h3⟩ | ⟨b, of, cap, h1, g2, g3, g4, g5, g6⟩
  · have hl : l = [] := List.length_eq_zero_iff.1 h2
    subst hl
    simp only [execOp, ho, Sem.run_bind, h1, run_convert_bytes_string w' s t e A 0 C hu hue hut]
    cases A with
    | none => simp [Conv.bytesToString, bytesOf]
    | some A =>
      have := run_bytesToString (P := E.P) w' A 0 C [] (by simpa using run_loadCells_list (w := w') A [] (by simp))
      simp [this, bytesOf]
  · rw [hmap] at g6
    have hcell : ∀ (vs : List Value) (o' : Nat), RL (fx w []) w (vs.map .v) b o' → ∀ j v, vs[j]? = some v → w.cell? ⟨b, o' + j, none⟩ = some v := by
      intro vs
      induction vs with
      | nil => intro _ _ j v hv; simp at hv
      | cons v0 vs ih =>
        intro o' hrl j v hv
        simp only [List.map_cons, RL, RT] at hrl
        obtain ⟨⟨c, k1, k2⟩, k3⟩ := hrl
        cases j with
        | zero => simp at hv; subst hv; subst k2; simpa using k1
        | succ j => rw [show o' + (j + 1) = o' + 1 + j from by omega]; exact ih (o' + 1) k3 j v (by simpa using hv)
    have hload := run_loadCells_list (P := E.P) (w := w') ⟨b, of, none⟩ (l.map (Value.int .u8)) (fun j v hv => by
      rw [Addr.add_mid, World.cell?_of_block (w := w) ((hs rfl).block b g4.1 (by simp))]
      exact hcell _ of g6 j v hv)
    have := run_bytesToString (P := E.P) w' ⟨b, of, none⟩ l.length cap l (by simpa using hload)
    simp only [execOp, ho, Sem.run_bind, h1, run_convert_bytes_string w' s t e _ _ _ hu hue hut, this]
    simp [bytesOf]
end
end Go.Eng

namespace Go.Eng
open Go Go.RowKit

section
variable {E : Env} {st : St} {g : Nat → Nat → Value} {bo : Nat → Nat} {as outs : List A}
theorem RV.v {k : Nat} {x y : Value} (hk : gt st k = .r (.v x)) (h : x = y) : RV E st (.tmp k) (.one (.w (.v y))) := by
  simp only [RV, hk, DT1]; exact .inl (by rw [h])
theorem RV.i {k : Nat} {x y : Int} (hk : gt st k = I x) (h : x = y) : RV E st (.tmp k) (.one (.w (.v (.int .i64 y)))) := RV.v hk (by rw [h])
theorem RV.b {k : Nat} {x y : Bool} (hk : gt st k = Bo x) (h : x = y) : RV E st (.tmp k) (.one (.w (.v (.bool y)))) := RV.v hk (by rw [h])
theorem RV.s {k : Nat} {x y : ByteArray} (hk : gt st k = S x) (h : x = y) : RV E st (.tmp k) (.one (.w (.v (.string y)))) := RV.v hk (by rw [h])
theorem RV.w {α : Type} {k sz : Nat} {c : α → List T} {l l' : List α} {X : Value} (hk : gt st k = .w (sl sz c l) X) (h : l = l') : RV E st (.tmp k) (.one (.w (sl sz c l'))) := by
  simp only [RV, hk, DT1]; rw [h]
theorem RV.r {α : Type} {k sz : Nat} {c : α → List T} {l l' : List α} (hk : gt st k = .r (sl sz c l)) (h : l = l') : RV E st (.tmp k) (.one (.r (sl sz c l'))) := by
  simp only [RV, hk, DT1]; exact .inl (by rw [h])
theorem RV.n {α : Type} {k sz : Nat} {c : α → List T} {l' : List α} (hk : gt st k = .r (.v (.slice none 0 0))) (h : [] = l') : RV E st (.tmp k) (.one (.w (sl sz c l'))) := by
  subst h
  simp only [RV, hk, DT1]; exact .inr ⟨by trivial, sz, rfl⟩
theorem RV.a {α : Type} {k : Nat} {f : α → List C} {ds : List D} {e' e : α} (hk : gt st k = .agg ds) (hd : DT ds (f e')) (h : e' = e) : RV E st (.tmp k) (.agg (f e)) := by
  subst h
  exact ⟨ds, hk, hd⟩
theorem RV.c {α : Type} {k ty b : Nat} {f : α → List C} {ds : List D} {ti : TyI} {fs : List (Nat × Nat × Nat)} {e' e : α} (hk : gt st k = .obj b ds) (ht : E.tabs ty = some ti) (hf : ti.td = .agg fs) (hl : ds.length = ti.sz) (hd : DT ds (f e')) (h : e' = e) : RV E st (.cell k ty) (.agg (f e)) := by
  subst h
  exact ⟨b, ds, ti, fs, hk, ht, hf, hl, hd⟩
theorem RV.c1 {k ty b : Nat} {d : D} {ti : TyI} {t : C} (hk : gt st k = .obj b [d]) (ht : E.tabs ty = some ti) (hf : ti.td = .prim ∨ ∃ e, ti.td = .slice e) (hd : DT1 d t) : RV E st (.cell k ty) (.one t) := ⟨b, d, ti, hk, ht, hf, hd⟩
theorem RVs.e : RVs E st [] [] := rfl
theorem RVs.c {v : ResultVar} {r : R1} {vs : List ResultVar} {rs : List R1} (h : RV E st v r) (hs : RVs E st vs rs) : RVs E st (v :: vs) (r :: rs) := ⟨r, rs, rfl, h, hs⟩
theorem Post.tup {rvs : List ResultVar} {rs : List R1} (hn : rvs.length ≠ 1) (h : RVs E st rvs rs) (ho : AOs st g bo 0 as outs) : Post E rvs as (.tup rs) outs g bo st := ⟨⟨hn, h⟩, ho⟩
theorem Post.one {v : ResultVar} {r : R1} (h : RV E st v r) (ho : AOs st g bo 0 as outs) : Post E [v] as (.one r) outs g bo st := ⟨⟨v, rfl, h⟩, ho⟩
theorem DT.n {sz : Nat} {ds : List D} {cs : List C} (h : DT ds cs) : DT (.r (.v (.slice none 0 0)) :: ds) (.w (.a sz 0 []) :: cs) := ⟨_, _, rfl, .inr ⟨rfl, sz, rfl⟩, h⟩
theorem DW.n {sz : Nat} {ds : List D} {cs : List T} (h : DW ds cs) : DW (.r (.v (.slice none 0 0)) :: ds) (.a sz 0 [] :: cs) := ⟨_, _, rfl, .inr ⟨rfl, sz, rfl⟩, h⟩
theorem AOs.w {i : Nat} {sz n : Nat} {ts : List T} {t : T} {as outs : List A} (hk : gt st i = .w t (g i 0)) (h : AOs st g bo (i + 1) as outs) : AOs st g bo i (.one (.w (.a sz n ts)) :: as) (.one (.w t) :: outs) := ⟨_, _, rfl, .inr ⟨t, rfl, hk⟩, h⟩
theorem AOs.v {i : Nat} {x : Value} {as outs : List A} (h : AOs st g bo (i + 1) as outs) : AOs st g bo i (.one (.w (.v x)) :: as) (.one (.w (.v x)) :: outs) := ⟨_, _, rfl, .inr rfl, h⟩
theorem AOs.ag {i : Nat} {cs os : List C} {ds : List D} {as outs : List A} (hk : gt st i = .agg ds) (hc : AOc (g i) 0 cs ds os) (h : AOs st g bo (i + 1) as outs) : AOs st g bo i (.agg cs :: as) (.agg os :: outs) := ⟨_, _, rfl, .inr (.inr ⟨os, ds, rfl, hk, hc⟩), h⟩
theorem AOs.ob {i b : Nat} {cs os : List C} {ds : List D} {as outs : List A} (hk : gt st i = .obj (bo i) ds) (hc : DT ds os) (h : AOs st g bo (i + 1) as outs) : AOs st g bo i (.ob cs :: as) (.ob os :: outs) := ⟨_, _, rfl, .inr ⟨os, ds, rfl, hk, hc⟩, h⟩
theorem AOc.e {G : Nat → Value} {j : Nat} : AOc G j [] [] [] := ⟨rfl, rfl⟩
theorem AOc.r {G : Nat → Value} {j : Nat} {c : C} {d : D} {cs os : List C} {ds : List D} (hc : ro1 c = true) (h : AOc G (j + 1) cs ds os) : AOc G j (c :: cs) (d :: ds) (c :: os) := ⟨_, _, _, _, rfl, rfl, by rw [if_pos hc], h⟩
theorem AOc.w {G : Nat → Value} {j sz n : Nat} {ts : List T} {t : T} {d : D} {cs os : List C} {ds : List D} (hd : d = .w t (G j)) (h : AOc G (j + 1) cs ds os) : AOc G j (.w (.a sz n ts) :: cs) (d :: ds) (.w t :: os) := ⟨_, _, _, _, rfl, rfl, by rw [if_neg (by simp [ro1])]; exact ⟨t, rfl, hd⟩, h⟩
end
end Go.Eng

namespace Go.Eng
open Go Go.RowKit

section
variable {E : Env} {F : Nat → Prop} {B : Base E.P} {w : World} {o : Oper} {st : St} {K : St → Prop} {a : Act} {d : D} {all rest : List Oper} {Q : Exit → St → Prop}
theorem V.fieldE {pu : Bool} {s : TypeId} {x : Operand} {f off ty sz : Nat} {i : TyI} {fs : List (Nat × Nat × Nat)} {k : Nat} {j : Option Nat} {s' : Nat} {X : Value} {pos : Nat} (ho : o.op = .fieldAddr s x f) (ht : E.tabs s = some i) (hf : i.td = .agg fs)
    (hn : fs[f]? = some (off, ty, sz)) (hz : sz ≠ 0) (hx : ev st x = .ep k j s' X pos) : VP pu E B o st (.ep k j s' X (pos + off)) := fun F a w hr => by
  have hx' := hr.ev x
  rw [hx] at hx'
  simp only [DR] at hx'
  obtain ⟨⟨b, of, n, c, h1, h2⟩, _⟩ := hx'
  refine ⟨.pointer (some ⟨b, of + pos + off, none⟩), fun w' hs => by simp [execOp, ho, h2, Sem.run_bind, run_fieldAt ht hf hn hz], ?_⟩
  simp only [DR]
  exact ⟨⟨b, of, n, c, h1, by rw [Nat.add_assoc]⟩, trivial⟩
end
end Go.Eng
