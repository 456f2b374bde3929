import Derived.Test.YtaneihnomaagoaaGreatDoorEng9
namespace Go.Eng
open Go Go.RowKit

section
variable {E : Env} {F : Nat → Prop} {B : Base E.P} {w : World} {o : Oper} {st : St} {K : St → Prop} {a : Act}

theorem AsT.readAll (hr : Rel F B st a w) {x : Operand} {t : T} (h : AsT st true none (ev st x) t) : RT (fx w []) w t (a.eval x) := h.read hr.out (hr.ev x)
theorem OK.lenT {t : TypeId} {x : Operand} {sz n : Nat} {ts : List T} (ho : o.op = .call { callee := .builtin .len, args := #[x], argTypes := #[t] }) {i : TyI} {e : TypeId} (ht : E.tabs t = some i) (he : i.td = .slice e)
    (hx : AsT st true none (ev st x) (.a sz n ts)) (h : K (setD st o.dst (.r (.v (.int .i64 n))))) : OK E B o st K :=
  OK.val (fun F ac w hr => ⟨.int .i64 n, by
    have hx' := hx.readAll hr
    simp only [RT] at hx'
    have hu := tyI_slice (E.ok _ _ ht) he
    rcases hx' with ⟨A, C, h1, h2, h3⟩ | ⟨b, of, cap, h1, _⟩
    · subst h2
      simp [execOp, ho, resolve, invoke, builtin, h1, Builtin.len_, run_underlying hu, goInt]
    · simp [execOp, ho, resolve, invoke, builtin, h1, Builtin.len_, run_underlying hu, goInt], by simp [DR, RT]⟩) h
theorem OK.lenStr {t : TypeId} {x : Operand} {s : ByteArray} (ho : o.op = .call { callee := .builtin .len, args := #[x], argTypes := #[t] }) (ht : E.P.underlying t = some .string)
    (hx : ev st x = .r (.v (.string s))) (h : K (setD st o.dst (.r (.v (.int .i64 s.size))))) : OK E B o st K :=
  OK.val (fun F ac w hr => ⟨.int .i64 s.size, by
    simp [execOp, ho, resolve, invoke, builtin, ev_scalar hr hx, Builtin.len_, run_underlying ht, goInt], by simp [DR, RT]⟩) h

theorem Rel.move (hr : Rel F B st a w) {k l : Nat} (hkl : k ≠ l) (hk : k < st.length) (hl : l < st.length) {x : Value} (hx : a.tmps[l]? = some x) : Rel F B ((st.set k (gt st l)).set l .u) (a.put (some k) x) w := by
  obtain ⟨bk, bl, p1, p2, p3, p4, p5, p6⟩ := hr.two k l hkl hk
  have hgl : st.get? l = some (gt st l) := St.get_of hl
  obtain ⟨xl, q1, q2⟩ := p5 _ hgl
  obtain rfl : xl = x := by rw [hx] at q1; cases q1; rfl
  refine p6 w (gt st l) .u (a.put (some k) xl) bl [] (Stp.refl _ _) rfl (by simp [Act.put]) (fun i hi _ => get_put_ne a xl hi) ⟨xl, get_put_eq a xl (by rw [hr.len]; exact hk), q2⟩ (fun _ => ⟨xl, by rw [get_put_ne a xl (Ne.symm hkl)]; exact hx, by simp [DR]⟩) ?_ ?_
  · rw [List.append_nil]
    exact (List.nodup_append.1 p3).2.1
  · intro b hb
    rw [List.append_nil] at hb
    exact ⟨.inr (.inl hb), (p2 b hb).2⟩
theorem OK.assignMove {k l : Nat} (ho : o.op = .assign (.tmp l)) (hd : o.dst = some k) (hkl : k ≠ l) (hk : k < st.length) (hl : l < st.length) (h : K ((st.set k (gt st l)).set l .u)) : OK E B o st K := by
  intro F a w hr next Q hn
  have hx : a.tmps[l]? = some (a.eval (.tmp l)) := by
    have : l < a.tmps.size := by rw [hr.len]; exact hl
    simp [Act.eval, Array.getD_eq_getD_getElem?, Array.getElem?_eq_getElem this]
  unfold Oper.wp
  have hrun : (execOp a.eval o).run E.P w = .ok (.value (a.eval (.tmp l))) w := by simp [execOp, ho]
  rw [hrun, Oper.upon_value, hd]
  exact hn _ _ _ _ h (hr.move hkl hk hl hx)
theorem OK.moveMove {k l : Nat} (ho : o.op = .move (.tmp l)) (hd : o.dst = some k) (hkl : k ≠ l) (hk : k < st.length) (hl : l < st.length) (h : K ((st.set k (gt st l)).set l .u)) : OK E B o st K := by
  intro F a w hr next Q hn
  have hx : a.tmps[l]? = some (a.eval (.tmp l)) := by
    have : l < a.tmps.size := by rw [hr.len]; exact hl
    simp [Act.eval, Array.getD_eq_getD_getElem?, Array.getElem?_eq_getElem this]
  unfold Oper.wp
  have hrun : (execOp a.eval o).run E.P w = .ok (.value (a.eval (.tmp l))) w := by simp [execOp, ho]
  rw [hrun, Oper.upon_value, hd]
  exact hn _ _ _ _ h (hr.move hkl hk hl hx)
theorem OK.extract {k l i : Nat} {ds : List D} {d : D} (ho : o.op = .extract (.tmp l) i) (hd : o.dst = some k) (hkl : k ≠ l) (hk : k < st.length) (hl : gt st l = .tup ds) (hi : ds[i]? = some d)
    (h : K ((st.set k d).set l (.tup (ds.set i .u)))) : OK E B o st K := by
  intro F a w hr next Q hn
  have hll := getD_eq hl (by simp)
  have hgl : st.get? l = some (.tup ds) := gt_some hl (by simp)
  obtain ⟨bk, bl, p1, p2, p3, p4, p5, p6⟩ := hr.two k l hkl hk
  obtain ⟨xl, q1, q2⟩ := p5 _ hgl
  simp only [DR] at q2
  obtain ⟨cs, rfl, q3⟩ := q2
  have split : ∀ (ds : List D) (cs : List Value) (bs : List Nat) (i : Nat) (d : D), DLs F w ds cs bs → ds[i]? = some d → ∃ c b1 b2, cs[i]? = some c ∧ DR F w d c b1 ∧ DLs F w (ds.set i .u) cs b2 ∧ (bs.Nodup → (b1 ++ b2).Nodup) ∧ ∀ b ∈ b1 ++ b2, b ∈ bs := by
    intro ds
    induction ds with
    | nil => intro cs bs i d _ hi; simp at hi
    | cons d0 ds ih =>
      intro cs bs i d h hi
      simp only [DLs] at h
      obtain ⟨c, cs', b1, b2, rfl, rfl, h3, h4⟩ := h
      cases i with
      | zero =>
        simp at hi
        subst hi
        refine ⟨c, b1, b2, by simp, h3, ?_, fun h => h, fun b hb => hb⟩
        simp only [List.set_cons_zero, DLs]
        exact ⟨c, cs', [], b2, rfl, rfl, by simp [DR], h4⟩
      | succ i =>
        obtain ⟨c', e1, e2, f1, f2, f3, f4, f5⟩ := ih cs' b2 i d h4 (by simpa using hi)
        refine ⟨c', e1, b1 ++ e2, by simpa using f1, f2, ?_, ?_, ?_⟩
        · simp only [List.set_cons_succ, DLs]
          exact ⟨c, cs', b1, e2, rfl, rfl, h3, f3⟩
        · intro hn
          rw [List.nodup_append] at hn
          have f6 := f4 hn.2.1
          rw [List.nodup_append] at f6
          rw [List.nodup_append]
          refine ⟨f6.1, ?_, ?_⟩
          · rw [List.nodup_append]
            exact ⟨hn.1, f6.2.1, fun a ha b hb e => hn.2.2 a ha b (f5 b (by simp [hb])) e⟩
          · intro a ha b hb e
            rcases List.mem_append.1 hb with hb | hb
            · exact hn.2.2 b hb a (f5 a (by simp [ha])) e.symm
            · exact f6.2.2 a ha b hb e
        · intro b hb
          rcases List.mem_append.1 hb with hb | hb
          · simp [f5 b (by simp [hb])]
          · rcases List.mem_append.1 hb with hb | hb
            · simp [hb]
            · simp [f5 b (by simp [hb])]
  obtain ⟨c, b1, b2, f1, f2, f3, f4, f5⟩ := split ds cs bl i d q3 hi
  have hx : a.eval (.tmp l) = .tuple cs.toArray := by simp [Act.eval, Array.getD_eq_getD_getElem?, q1]
  have hrun : (execOp a.eval o).run E.P w = .ok (.value c) w := by simp [execOp, ho, hx, Instr.extract, f1]
  unfold Oper.wp
  rw [hrun, Oper.upon_value, hd]
  refine hn _ _ _ _ h (p6 w d (.tup (ds.set i .u)) (a.put (some k) c) b1 b2 (Stp.refl _ _) rfl (by simp [Act.put]) (fun j hj _ => get_put_ne a c hj) ⟨c, get_put_eq a c (by rw [hr.len]; exact hk), f2⟩
    (fun _ => ⟨_, by rw [get_put_ne a c (Ne.symm hkl)]; exact q1, by simp only [DR]; exact ⟨cs, rfl, f3⟩⟩) (f4 (List.nodup_append.1 p3).2.1) (fun b hb => ⟨.inr (.inl (f5 b hb)), (p2 b (f5 b hb)).2⟩))

theorem OK.sliceR {t e : TypeId} {x : Operand} {lo hi : Option Operand} {i ie : TyI} {n : Nat} {ts : List T} {l h : Int} (ho : o.op = .slice t x lo hi none) (ht : E.tabs t = some i) (he : i.td = .slice e) (hte : E.tabs e = some ie)
    (hx : ev st x = .r (.a ie.sz n ts)) (hlo : (lo = none ∧ l = 0) ∨ ∃ y k, lo = some y ∧ ev st y = .r (.v (.int k l))) (hhi : (hi = none ∧ h = n) ∨ ∃ y k, hi = some y ∧ ev st y = .r (.v (.int k h)))
    (h0 : 0 ≤ l) (h1 : l ≤ h) (h2 : h ≤ n) (hK : K (setD st o.dst (.r (.a ie.sz (h.toNat - l.toNat) ((ts.drop (l.toNat * ie.sz)).take ((h.toNat - l.toNat) * ie.sz)))))) : OK E B o st K :=
  OK.val (fun F a w hr => by
    have hx' := hr.ev x
    rw [hx] at hx'
    simp only [DR] at hx'
    have hu := tyI_slice (E.ok _ _ ht) he
    have hel : E.P.elem t = e := by simp [Program.elem, hu]
    have hsz := tyI_sizeOf (E.ok _ _ hte) w
    have hb : ∀ cap : Nat, n ≤ cap → (Instr.sliceBounds true n cap (lo.map a.eval) (hi.map a.eval) none).run E.P w = .ok (l.toNat, h.toNat, cap) w := by
      intro cap hc
      have q1 : 0 ≤ h := by omega
      have q2 : (h.toNat : Int) = h := Int.toNat_of_nonneg q1
      rcases hhi with ⟨rfl, rfl⟩ | ⟨y, k, rfl, hy⟩ <;> rcases hlo with ⟨rfl, rfl⟩ | ⟨z, k', rfl, hz⟩
      · simp [Instr.sliceBounds]
      · simp [Instr.sliceBounds, ev_scalar hr hz, run_sliceBound w k' l n .sliceB h0 (by omega)]
      · simp [Instr.sliceBounds, ev_scalar hr hy, run_sliceBound w k h cap .sliceAcap q1 (by omega)]
      · simp [Instr.sliceBounds, ev_scalar hr hy, ev_scalar hr hz, run_sliceBound w k h cap .sliceAcap q1 (by omega), run_sliceBound w k' l h.toNat .sliceB h0 (by omega)]
    have hrt := hx'.1
    simp only [RT] at hrt
    rcases hrt with ⟨A, C, g1, rfl, rfl⟩ | ⟨b, of, cap, g1, g2, g3, g4, g5, g6⟩
    · have : l = 0 ∧ h = 0 := by omega
      obtain ⟨rfl, rfl⟩ := this
      refine ⟨.slice (if C = 0 then A else A.map (·.add 0)) 0 C, ?_, by simp [DR, RT]⟩
      simp [execOp, ho, g1, Instr.sliceAt, run_underlying hu, Instr.slice, Sem.run_bind, hb C (by omega), hsz]
    · have q3 : l.toNat ≤ h.toNat := by omega
      have q4 : h.toNat ≤ n := by omega
      have hlen : ((ts.drop (l.toNat * ie.sz)).take ((h.toNat - l.toNat) * ie.sz)).length = (h.toNat - l.toNat) * ie.sz := by
        simp only [List.length_take, List.length_drop, g5]
        rw [← Nat.sub_mul]
        exact Nat.min_eq_left (Nat.mul_le_mul_right _ (by omega))
      refine ⟨.slice (some ⟨b, if cap = l.toNat then of else of + l.toNat * ie.sz, none⟩) (h.toNat - l.toNat) (cap - l.toNat), ?_, ?_⟩
      · simp [execOp, ho, g1, Instr.sliceAt, run_underlying hu, Instr.slice, Sem.run_bind, hb cap g2, hsz]
        split <;> simp [Addr.add_mid]
      · simp only [DR, RT]
        refine ⟨.inr ⟨b, _, _, rfl, by omega, by omega, g4, hlen, ?_⟩, trivial⟩
        by_cases hc : cap = l.toNat
        · have : h.toNat - l.toNat = 0 := by omega
          rw [this]
          simp [RL]
        · rw [if_neg hc]
          exact RL_take _ (RL_drop _ (by rw [g5]; exact Nat.mul_le_mul_right _ (by omega)) g6)) hK

theorem OK.eqAgg {op : BinOp} {t u : TypeId} {x y : Operand} {xs ys : List Value} {r b : Bool} (ho : o.op = .binOp op t x y u) (hx : ev st x = .agg (xs.map fun v => .r (.v v))) (hy : ev st y = .agg (ys.map fun v => .r (.v v)))
    (hg : E.P.eqGuardType E.P.depth t = false) (he : ∀ w : World, (Op.equal t (.agg xs.toArray) (.agg ys.toArray)).run E.P w = .ok r w) (hop : (op = .eql ∧ b = r) ∨ (op = .neq ∧ b = !r)) (h : K (setD st o.dst (.r (.v (.bool b))))) : OK E B o st K :=
  OK.val (fun F a w hr => by
    have key : ∀ (x : Operand) (xs : List Value), ev st x = .agg (xs.map fun v => .r (.v v)) → a.eval x = .agg xs.toArray := by
      intro x xs hx
      have h := hr.ev x
      rw [hx] at h
      simp only [DR] at h
      obtain ⟨cs, h1, h2⟩ := h
      have : ∀ (xs cs : List Value), DLs F w (xs.map fun v => .r (.v v)) cs [] → cs = xs := by
        intro xs
        induction xs with
        | nil => intro cs h; simp only [List.map_nil, DLs] at h; exact h.1
        | cons v vs ih =>
          intro cs h
          simp only [List.map_cons, DLs, DR, RT] at h
          obtain ⟨c, cs', b1, b2, rfl, hb, ⟨rfl, rfl⟩, h4⟩ := h
          have : b2 = [] := by simpa using hb.symm
          subst this
          rw [ih cs' h4]
      rw [h1, this xs cs h2]
    refine ⟨.bool b, ?_, by simp [DR, RT]⟩
    rcases hop with ⟨rfl, rfl⟩ | ⟨rfl, rfl⟩ <;> simp [execOp, ho, key x xs hx, key y ys hy, eqGuard, hg, binOp, Sem.run_bind, he]) h
end
end Go.Eng

namespace Go.Eng
open Go Go.RowKit

section
variable {E : Env} {F : Nat → Prop} {B : Base E.P} {w : World} {o : Oper} {st : St} {K : St → Prop} {a : Act}

theorem Rel.own (hr : Rel F B st a w) {k sz n : Nat} {ts : List T} {V : Value} (hk : gt st k = .w (.a sz n ts) V) :
    (V = .slice none 0 0 ∧ n = 0 ∧ ts = []) ∨ ∃ (b o cap : Nat) (cs : List Value) (ty : TypeId) (bs' : List Nat), V = .slice (some ⟨b, o, none⟩) n cap ∧ n ≤ cap ∧ cap ≤ maxLen ∧ w.heap[b]? = some (.cells cs.toArray ty (0, 0)) ∧
      o + cap * sz ≤ cs.length ∧ ts.length = n * sz ∧ OL w ts (cs.drop o) bs' := by
  obtain ⟨x, bs, h1, h2⟩ := hr.slot (gt_some hk (by simp))
  simp only [DR, OT] at h2
  rcases h2.2 with ⟨h3, h4, h5, _⟩ | ⟨b, o, cap, cur, ty, bs', g1, g2, g3, g4, g5, g6, g7, g8⟩
  · exact .inl ⟨h3, h4, h5⟩
  · exact .inr ⟨b, o, cap, cur.toList, ty, bs', g1, g2, g3, by simpa using g4, by simpa using g5, g6, g8⟩
theorem ev_al (hr : Rel F B st a w) {x : Operand} {k sz n : Nat} {V : Value} {ts : List T} (hx : ev st x = .al k none sz n V 0) (hk : gt st k = .w (.a sz n ts) V) : a.eval x = V := by
  have h := hr.ev x
  rw [hx] at h
  simp only [DR] at h
  obtain ⟨y, bs, h1, h2⟩ := hr.slot (gt_some hk (by simp))
  simp only [DR] at h2
  rw [h.1, ← subV_whole h2.2]
theorem OL_cells : ∀ {ts : List T} {cs : List Value} {bs : List Nat}, OL w ts cs bs → ts.length ≤ cs.length
  | [], _, _, _ => by simp
  | t :: ts, cs, bs, h => by
    simp only [OL] at h
    obtain ⟨c, cs', b1, b2, rfl, _, _, h4⟩ := h
    have := OL_cells h4
    simp
    omega
theorem setN_drop {α : Type} : ∀ (vs : List α) (l : List α) (o p : Nat), (setN l (o + p) vs).drop o = setN (l.drop o) p vs
  | [], _, _, _ => rfl
  | v :: r, l, o, p => by
    rw [setN, setN, Nat.add_assoc, setN_drop r, List.drop_set, if_neg (by omega), Nat.add_sub_cancel_left]
theorem Rel.setOwn (hr : Rel F B st a w) {k sz n pos : Nat} {ts us : List T} {V : Value} {es : List D} {vs : List Value} (hk : gt st k = .w (.a sz n ts) V) (hw : DW es us) (he : DLs F w es vs []) (hne : es ≠ []) (hl : pos + es.length ≤ ts.length) :
    ∃ (b of cap : Nat) (cs : List Value) (ty : TypeId), V = .slice (some ⟨b, of, none⟩) n cap ∧ w.heap[b]? = some (.cells cs.toArray ty (0, 0)) ∧ of + ts.length ≤ cs.length ∧ Rel F B (st.set k (.w (.a sz n (setN ts pos us)) V)) a (w.setCells b (of + pos) vs) := by
  have hks := gt_some hk (by simp)
  have hklt := getD_eq hk (by simp)
  obtain ⟨bk, bl, p1, p2, p3, ⟨xk, q1, q2⟩, p5, p6⟩ := hr.two k st.length (by omega) hklt
  rw [hk] at q2
  simp only [DR, OT] at q2
  obtain ⟨rfl, q2⟩ := q2
  have hpos : 0 < es.length := by cases es with | nil => exact absurd rfl hne | cons _ _ => simp
  rcases q2 with ⟨_, _, rfl, _⟩ | ⟨b, of, cap, cur, ty, bs', rfl, g2, g3, g4, g5, g6, rfl, g8⟩
  · exfalso; simp only [List.length_nil] at hl; omega
  have hlen : vs.length = es.length := DLs_length he
  have hcl := OL_cells g8
  have hof : of + ts.length ≤ cur.toList.length := by
    have : n * sz ≤ cap * sz := Nat.mul_le_mul_right _ g2
    rw [g6]
    simp
    omega
  refine ⟨b, of, cap, cur.toList, ty, rfl, by simpa using g4, hof, ?_⟩
  obtain ⟨bs2, f1, f2, f3⟩ := OL_setN g8 hw he hl
  have hdrop : setN (cur.toList.drop of) pos vs = (setN cur.toList (of + pos) vs).drop of := (setN_drop vs cur.toList of pos).symm
  have hst : Stp w (w.setCells b (of + pos) vs) [b] := Stp.setCells b vs _ w
  have hnd : (b :: bs').Nodup := (List.nodup_append.1 p3).1
  rw [List.nodup_cons] at hnd
  have hbF : ¬ F b := (p1 b (by simp)).1.1
  have hsub : ∀ c ∈ bs2, c ∈ bs' := fun c hc => by rcases f2 c hc with h | h; exact h; simp at h
  have hul : us.length = es.length := by
    clear he hne hl f1 hpos hlen
    have : ∀ (es : List D) (us : List T), DW es us → us.length = es.length := by
      intro es
      induction es with
      | nil => intro us h; simp only [DW] at h; simp [h]
      | cons e es ih => intro us h; simp only [DW] at h; obtain ⟨t, ts', rfl, _, h2⟩ := h; simp [ih ts' h2]
    exact this es us hw
  have := p6 (w.setCells b (of + pos) vs) (.w (.a sz n (setN ts pos us)) (.slice (some ⟨b, of, none⟩) n cap)) .u a (b :: bs2) [] (hst.mono (by intro c hc; simp at hc; simp [hc])) rfl rfl (fun i _ _ => rfl)
    ⟨_, q1, by
      simp only [DR, OT]
      refine ⟨trivial, .inr ⟨b, of, cap, (setN cur.toList (of + pos) vs).toArray, ty, bs2, rfl, g2, g3, heap_setCells b vs _ w cur.toList ty (0, 0) (by simpa using g4), ?_, ?_, rfl, ?_⟩⟩
      · simp [setN_length]; exact g5
      · rw [setN_length]; exact g6
      · simp only []
        rw [← hdrop]
        exact OL_world _ _ _ (fun c hc => hst.block c (p1 c (by simp [hsub c hc])).2 (by simp; rintro rfl; exact hnd.1 (hsub c hc))) f1⟩
    (fun h => absurd h (by omega))
    (by
      simp only [List.append_nil, List.nodup_cons]
      exact ⟨fun hm => hnd.1 (hsub b hm), f3 (by simpa using hnd.2)⟩)
    (by
      intro c hc
      simp only [List.append_nil, List.mem_cons] at hc
      have : c ∈ b :: bs' := by
        rcases hc with rfl | hc
        · simp
        · simp [hsub c hc]
      exact ⟨.inl this, Nat.lt_of_lt_of_le (p1 c this).2 hst.size⟩)
  exact this.oob (by simp)
theorem ev_ep (hr : Rel F B st a w) {x : Operand} {k sz pos : Nat} {V : Value} {b of n c : Nat} (hx : ev st x = .ep k none sz V pos) (hV : V = .slice (some ⟨b, of, none⟩) n c) : a.eval x = .pointer (some ⟨b, of + pos, none⟩) := by
  have h := hr.ev x
  rw [hx] at h
  simp only [DR] at h
  obtain ⟨⟨b', of', n', c', h1, h2⟩, _⟩ := h
  rw [hV] at h1
  cases h1
  exact h2
theorem OK.storeE {t : TypeId} {x y : Operand} {i : TyI} {k sz n pos : Nat} {ts : List T} {u : T} {V : Value} (ho : o.op = .store t x y) (hdst : o.dst = none) (ht : E.tabs t = some i) (hs : i.sz = 1)
    (hx : ev st x = .ep k none sz V pos) (hk : gt st k = .w (.a sz n ts) V) (hw : DT1 (ev st y) (.w u)) (hl : pos < ts.length) (ho1 : one1 (ev st y) = true)
    (h : K (st.set k (.w (.a sz n (ts.set pos u)) V))) : OK E B o st K := by
  intro F a w hr next Q hn
  have hyv := hr.ev y
  have hone := one1_val ho1 hyv
  obtain ⟨b, of, cap, cs, ty, hV, h1, h2, hr'⟩ := hr.setOwn (pos := pos) (es := [ev st y]) (us := [u]) (vs := [a.eval y]) hk (by simp only [DW]; exact ⟨u, [], rfl, hw, rfl⟩) (by simp only [DLs]; exact ⟨_, [], [], [], rfl, rfl, hyv, by simp⟩) (by simp) (by simp; omega)
  unfold Oper.wp
  have hrun : (execOp a.eval o).run E.P w = .ok .skip (w.setCells b (of + pos) [a.eval y]) := by
    simp [execOp, ho, ev_ep hr hx hV, Sem.run_bind, run_store1 (E.ok _ _ ht) hs hone (there_of_block h1 (of + pos) 1 (by omega))]
  rw [hrun, Oper.upon_skip]
  rw [hdst]
  exact hn _ _ _ _ h hr'
theorem OL_values : ∀ (vs : List Value) (cs : List Value), (∃ r, cs = vs ++ r) → OL w (vs.map .v) cs []
  | [], _, _ => by simp [OL]
  | v :: vs, cs, ⟨r, hr⟩ => by
    subst hr
    simp only [List.map_cons, OL]
    exact ⟨v, vs ++ r, [], [], rfl, rfl, by simp [OT], OL_values vs _ ⟨r, rfl⟩⟩
theorem madeCells_eq (z : List Value) : ∀ n : Nat, (madeCells z.toArray (n * z.length)).toList = (List.replicate n z).flatten := by
  intro n
  rcases Nat.eq_zero_or_pos z.length with h0 | hp
  · have : z = [] := List.length_eq_zero_iff.1 h0
    subst this
    simp [madeCells]
  induction n with
  | zero => simp [madeCells]
  | succ n ih =>
    have e : List.replicate (n + 1) z = List.replicate n z ++ [z] := List.replicate_succ'
    rw [e, List.flatten_append, ← ih]
    apply List.ext_getElem?
    intro i
    have hl : (madeCells z.toArray (n * z.length)).toList.length = n * z.length := by simp [madeCells]
    rcases Nat.lt_or_ge i (n * z.length) with h | h
    · rw [List.getElem?_append_left (by rw [hl]; exact h)]
      have h2 : i < (n + 1) * z.length := by rw [Nat.succ_mul]; omega
      simp [madeCells, h, h2]
    · rw [List.getElem?_append_right (by rw [hl]; exact h), hl]
      simp only [List.flatten_cons, List.flatten_nil, List.append_nil]
      rcases Nat.lt_or_ge (i - n * z.length) z.length with h3 | h3
      · have h2 : i < (n + 1) * z.length := by rw [Nat.succ_mul]; omega
        have hm : i % z.length = i - n * z.length := by
          have : i = (i - n * z.length) + n * z.length := by omega
          rw [this, Nat.add_mul_mod_self_right, Nat.mod_eq_of_lt (by omega)]
          omega
        simp [madeCells, h2, hm, List.getElem?_eq_getElem h3, h3]
      · rw [List.getElem?_eq_none h3]
        have h2 : ¬ i < (n + 1) * z.length := by rw [Nat.succ_mul]; omega
        simp [madeCells, h2]
theorem OK.makeSlice {t e : TypeId} {x y : Operand} {i ie : TyI} {n : Nat} (ho : o.op = .makeSlice t x y) (ht : E.tabs t = some i) (he : i.td = .slice e) (hte : E.tabs e = some ie)
    (hx : ev st x = .r (.v (.int .i64 n))) (hy : ev st y = .r (.v (.int .i64 n))) (hz : ie.zero.length = ie.sz) (hb : ie.bytes * n ≤ 281474976710656) (hm : n ≤ maxLen)
    (h : ∀ V, K (setD st o.dst (.w (.a ie.sz n ((List.replicate n ie.zero).flatten.map .v)) V))) : OK E B o st K := by
  intro F a w hr next Q hn
  obtain ⟨j, d, z, t1, t2, t3, t4, t5, t6, t7⟩ := tyI_spec (E.ok _ _ hte)
  have hzc : z.cells = ie.zero.toArray := by rw [← t6]
  have hrun : (execOp a.eval o).run E.P w = .ok (.value (.slice (some ⟨w.heap.size, 0, none⟩) n n)) (w.alloc (.cells (List.replicate n ie.zero).flatten.toArray e)) := by
    have hm' : n ≤ 9223372036854775807 := by simpa [maxLen] using hm
    have hb' : (j.bytes : Int) * (n : Int) ≤ 281474976710656 := by
      rw [t5]
      have : ((ie.bytes * n : Nat) : Int) ≤ 281474976710656 := by omega
      simpa using this
    have hmk := run_make (P := E.P) w t e j z (tyI_slice (E.ok _ _ ht) he) t1 t3 .i64 .i64 n n (by omega) (Int.le_refl _) hb' (by omega)
    have hce : madeCells z.cells (n * j.size) = (List.replicate n ie.zero).flatten.toArray := by
      apply Array.ext'
      rw [hzc, t4, ← hz, madeCells_eq]
    simp only [Int.toNat_natCast, hce] at hmk
    simp [execOp, ho, ev_scalar hr hx, ev_scalar hr hy, Sem.run_bind, hmk]
  unfold Oper.wp
  rw [hrun, Oper.upon_value]
  refine hn _ _ _ _ (h (.slice (some ⟨w.heap.size, 0, none⟩) n n)) (hr.putNew' o.dst (Stp.alloc w _ []) (d := .w _ _) (bs := [w.heap.size]) ?_ (by simp) (by simp))
  simp only [DR, OT]
  have hlen : (List.replicate n ie.zero).flatten.length = n * ie.sz := by simp [hz]
  exact ⟨trivial, .inr ⟨w.heap.size, 0, n, (List.replicate n ie.zero).flatten.toArray, e, [], rfl, Nat.le_refl _, hm, heap_alloc_new w _, by simp [hz], by simpa using hlen, rfl, OL_values _ _ ⟨[], by simp⟩⟩⟩
end
end Go.Eng
