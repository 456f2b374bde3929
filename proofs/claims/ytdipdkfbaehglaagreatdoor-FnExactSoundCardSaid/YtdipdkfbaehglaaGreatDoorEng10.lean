import Derived.Test.YtdipdkfbaehglaaGreatDoorEng9
namespace Go.Eng
open Go Go.RowKit

section
variable {E : Env} {F : Nat → Prop} {B : Base E.P} {w : World} {o : Oper} {st : St} {K : St → Prop} {a : Act}

theorem AsT.readAll (hr : Rel F B st a w) {x : Operand} {t : T} (h : AsT st true none (ev st x) t) : RT (fx w []) w t (a.eval x) := h.read hr.out (hr.ev x)
theorem OK.lenT {t : TypeId} {x : Operand} {sz n : Nat} {ts : List T} (ho : o.op = .call { callee := .builtin .len, args := #[x], argTypes := #[t] }) {i : TyI} {e : TypeId} (ht : E.tabs t = some i) (he : i.td = .slice e)
    (hx : AsT st true none (ev st x) (.a sz n ts)) (h : K (setD st o.dst (.r (.v (.int .i64 n))))) : OK E B o st K :=
  OK.val (fun F ac w hr => ⟨.int .i64 n, by
    have hx' := hx.readAll hr
    simp only [RT] at hx'
    have hu := tyI_slice (E.ok _ _ ht) he
    rcases hx' with ⟨A, C, h1, h2, h3⟩ | ⟨b, of, cap, h1, _⟩
    · subst h2
      simp [execOp, ho, resolve, invoke, builtin, h1, Builtin.len_, run_underlying hu, goInt]
    · simp [execOp, ho, resolve, invoke, builtin, h1, Builtin.len_, run_underlying hu, goInt], by simp [DR, RT]⟩) h
theorem OK.lenStr {t : TypeId} {x : Operand} {s : ByteArray} (ho : o.op = .call { callee := .builtin .len, args := #[x], argTypes := #[t] }) (ht : E.P.underlying t = some .string)
    (hx : ev st x = .r (.v (.string s))) (h : K (setD st o.dst (.r (.v (.int .i64 s.size))))) : OK E B o st K :=
  OK.val (fun F ac w hr => ⟨.int .i64 s.size, by
    simp [execOp, ho, resolve, invoke, builtin, ev_scalar hr hx, Builtin.len_, run_underlying ht, goInt], by simp [DR, RT]⟩) h

theorem Rel.move (hr : Rel F B st a w) {k l : Nat} (hkl : k ≠ l) (hk : k < st.length) (hl : l < st.length) {x : Value} (hx : a.tmps[l]? = some x) : Rel F B ((st.set k (gt st l)).set l .u) (a.put (some k) x) w := by
  obtain ⟨bk, bl, p1, p2, p3, p4, p5, p6⟩ := hr.two k l hkl hk
  have hgl : st.get? l = some (gt st l) := St.get_of hl
  obtain ⟨xl, q1, q2⟩ := p5 _ hgl
  obtain rfl : xl = x := by rw [hx] at q1; cases q1; rfl
  refine p6 w (gt st l) .u (a.put (some k) xl) bl [] (Stp.refl _ _) rfl (by simp [Act.put]) (fun i hi _ => get_put_ne a xl hi) ⟨xl, get_put_eq a xl (by rw [hr.len]; exact hk), q2⟩ (fun _ => ⟨xl, by rw [get_put_ne a xl (Ne.symm hkl)]; exact hx, by simp [DR]⟩) ?_ ?_
  · rw [List.append_nil]
    exact (List.nodup_append.1 p3).2.1
  · intro b hb
    rw [List.append_nil] at hb
    exact ⟨.inr (.inl hb), (p2 b hb).2⟩
theorem OK.assignMove {k l : Nat} (ho : o.op = .assign (.tmp l)) (hd : o.dst = some k) (hkl : k ≠ l) (hk : k < st.length) (hl : l < st.length) (h : K ((st.set k (gt st l)).set l .u)) : OK E B o st K := by
  intro F a w hr next Q hn
  have hx : a.tmps[l]? = some (a.eval (.tmp l)) := by
    have : l < a.tmps.size := by rw [hr.len]; exact hl
    simp [Act.eval, Array.getD_eq_getD_getElem?, Array.getElem?_eq_getElem this]
  unfold Oper.wp
  have hrun : (execOp a.eval o).run E.P w = .ok (.value (a.eval (.tmp l))) w := by simp [execOp, ho]
  rw [hrun, Oper.upon_value, hd]
  exact hn _ _ _ _ h (hr.move hkl hk hl hx)
theorem OK.moveMove {k l : Nat} (ho : o.op = .move (.tmp l)) (hd : o.dst = some k) (hkl : k ≠ l) (hk : k < st.length) (hl : l < st.length) (h : K ((st.set k (gt st l)).set l .u)) : OK E B o st K := by
  intro F a w hr next Q hn
  have hx : a.tmps[l]? = some (a.eval (.tmp l)) := by
    have : l < a.tmps.size := by rw [hr.len]; exact hl
    simp [Act.eval, Array.getD_eq_getD_getElem?, Array.getElem?_eq_getElem this]
  unfold Oper.wp
  have hrun : (execOp a.eval o).run E.P w = .ok (.value (a.eval (.tmp l))) w := by simp [execOp, ho]
  rw [hrun, Oper.upon_value, hd]
  exact hn _ _ _ _ h (hr.move hkl hk hl hx)
theorem OK.extract {k l i : Nat} {ds : List D} {d : D} (ho : o.op = .extract (.tmp l) i) (hd : o.dst = some k) (hkl : k ≠ l) (hk : k < st.length) (hl : gt st l = .tup ds) (hi : ds[i]? = some d)
    (h : K ((st.set k d).set l (.tup (ds.set i .u)))) : OK E B o st K := by
  intro F a w hr next Q hn
  have hll := getD_eq hl (by simp)
  have hgl : st.get? l = some (.tup ds) := gt_some hl (by simp)
  obtain ⟨bk, bl, p1, p2, p3, p4, p5, p6⟩ := hr.two k l hkl hk
  obtain ⟨xl, q1, q2⟩ := p5 _ hgl
  simp only [DR] at q2
  obtain ⟨cs, rfl, q3⟩ := q2
  have split : ∀ (ds : List D) (cs : List Value) (bs : List Nat) (i : Nat) (d : D), DLs F w ds cs bs → ds[i]? = some d → ∃ c b1 b2, cs[i]? = some c ∧ DR F w d c b1 ∧ DLs F w (ds.set i .u) cs b2 ∧ (bs.Nodup → (b1 ++ b2).Nodup) ∧ ∀ b ∈ b1 ++ b2, b ∈ bs := by
    intro ds
    induction ds with
    | nil => intro cs bs i d _ hi; simp at hi
    | cons d0 ds ih =>
      intro cs bs i d h hi
      simp only [DLs] at h
      obtain ⟨c, cs', b1, b2, rfl, rfl, h3, h4⟩ := h
      cases i with
      | zero =>
        simp at hi
        subst hi
        refine ⟨c, b1, b2, by simp, h3, ?_, fun h => h, fun b hb => hb⟩
        simp only [List.set_cons_zero, DLs]
        exact ⟨c, cs', [], b2, rfl, rfl, by simp [DR], h4⟩
      | succ i =>
        obtain ⟨c', e1, e2, f1, f2, f3, f4, f5⟩ := ih cs' b2 i d h4 (by simpa using hi)
        refine ⟨c', e1, b1 ++ e2, by simpa using f1, f2, ?_, ?_, ?_⟩
        · simp only [List.set_cons_succ, DLs]
          exact ⟨c, cs', b1, e2, rfl, rfl, h3, f3⟩
        · intro hn
          rw [List.nodup_append] at hn
          have f6 := f4 hn.2.1
          rw [List.nodup_append] at f6
          rw [List.nodup_append]
          refine ⟨f6.1, ?_, ?_⟩
          · rw [List.nodup_append]
            exact ⟨hn.1, f6.2.1, fun a ha b hb e => hn.2.2 a ha b (f5 b (by simp [hb])) e⟩
          · intro a ha b hb e
            rcases List.mem_append.1 hb with hb | hb
            · exact hn.2.2 b hb a (f5 a (by simp [ha])) e.symm
            · exact f6.2.2 a ha b hb e
        · intro b hb
          rcases List.mem_append.1 hb with hb | hb
          · simp [f5 b (by simp [hb])]
          · rcases List.mem_append.1 hb with hb | hb
            · simp [hb]
            · simp [f5 b (by simp [hb])]
  obtain ⟨c, b1, b2, f1, f2, f3, f4, f5⟩ := split ds cs bl i d q3 hi
  have hx : a.eval (.tmp l) = .tuple cs.toArray := by simp [Act.eval, Array.getD_eq_getD_getElem?, q1]
  have hrun : (execOp a.eval o).run E.P w = .ok (.value c) w := by simp [execOp, ho, hx, Instr.extract, f1]
  unfold Oper.wp
  rw [hrun, Oper.upon_value, hd]
  refine hn _ _ _ _ h (p6 w d (.tup (ds.set i .u)) (a.put (some k) c) b1 b2 (Stp.refl _ _) rfl (by simp [Act.put]) (fun j hj _ => get_put_ne a c hj) ⟨c, get_put_eq a c (by rw [hr.len]; exact hk), f2⟩
    (fun _ => ⟨_, by rw [get_put_ne a c (Ne.symm hkl)]; exact q1, by simp only [DR]; exact ⟨cs, rfl, f3⟩⟩) (f4 (List.nodup_append.1 p3).2.1) (fun b hb => ⟨.inr (.inl (f5 b hb)), (p2 b (f5 b hb)).2⟩))

theorem OK.sliceR {t e : TypeId} {x : Operand} {lo hi : Option Operand} {i ie : TyI} {n : Nat} {ts : List T} {l h : Int} (ho : o.op = .slice t x lo hi none) (ht : E.tabs t = some i) (he : i.td = .slice e) (hte : E.tabs e = some ie)
    (hx : ev st x = .r (.a ie.sz n ts)) (hlo : (lo = none ∧ l = 0) ∨ ∃ y k, lo = some y ∧ ev st y = .r (.v (.int k l))) (hhi : (hi = none ∧ h = n) ∨ ∃ y k, hi = some y ∧ ev st y = .r (.v (.int k h)))
    (h0 : 0 ≤ l) (h1 : l ≤ h) (h2 : h ≤ n) (hK : K (setD st o.dst (.r (.a ie.sz (h.toNat - l.toNat) ((ts.drop (l.toNat * ie.sz)).take ((h.toNat - l.toNat) * ie.sz)))))) : OK E B o st K :=
  OK.val (fun F a w hr => by
    have hx' := hr.ev x
    rw [hx] at hx'
    simp only [DR] at hx'
    have hu := tyI_slice (E.ok _ _ ht) he
    have hel : E.P.elem t = e := by simp [Program.elem, hu]
    have hsz := tyI_sizeOf (E.ok _ _ hte) w
    have hb : ∀ cap : Nat, n ≤ cap → (Instr.sliceBounds true n cap (lo.map a.eval) (hi.map a.eval) none).run E.P w = .ok (l.toNat, h.toNat, cap) w := by
      intro cap hc
      have q1 : 0 ≤ h := by omega
      have q2 : (h.toNat : Int) = h := Int.toNat_of_nonneg q1
      rcases hhi with ⟨rfl, rfl⟩ | ⟨y, k, rfl, hy⟩ <;> rcases hlo with ⟨rfl, rfl⟩ | ⟨z, k', rfl, hz⟩
      · simp [Instr.sliceBounds]
      · simp [Instr.sliceBounds, ev_scalar hr hz, run_sliceBound w k' l n .sliceB h0 (by omega)]
      · simp [Instr.sliceBounds, ev_scalar hr hy, run_sliceBound w k h cap .sliceAcap q1 (by omega)]
      · simp [Instr.sliceBounds, ev_scalar hr hy, ev_scalar hr hz, run_sliceBound w k h cap .sliceAcap q1 (by omega), run_sliceBound w k' l h.toNat .sliceB h0 (by omega)]
    have hrt := hx'.1
    simp only [RT] at hrt
    rcases hrt with ⟨A, C, g1, rfl, rfl⟩ | ⟨b, of, cap, g1, g2, g3, g4, g5, g6⟩
    · have : l = 0 ∧ h = 0 := by omega
      obtain ⟨rfl, rfl⟩ := this
      refine ⟨.slice (if C = 0 then A else A.map (·.add 0)) 0 C, ?_, by simp [DR, RT]⟩
      simp [execOp, ho, g1, Instr.sliceAt, run_underlying hu, Instr.slice, Sem.run_bind, hb C (by omega), hsz]
    · have q3 : l.toNat ≤ h.toNat := by omega
      have q4 : h.toNat ≤ n := by omega
      have hlen : ((ts.drop (l.toNat * ie.sz)).take ((h.toNat - l.toNat) * ie.sz)).length = (h.toNat - l.toNat) * ie.sz := by
        simp only [List.length_take, List.length_drop, g5]
        rw [← Nat.sub_mul]
        exact Nat.min_eq_left (Nat.mul_le_mul_right _ (by omega))
      refine ⟨.slice (some ⟨b, if cap = l.toNat then of else of + l.toNat * ie.sz, none⟩) (h.toNat - l.toNat) (cap - l.toNat), ?_, ?_⟩
      · simp [execOp, ho, g1, Instr.sliceAt, run_underlying hu, Instr.slice, Sem.run_bind, hb cap g2, hsz]
        split <;> simp [Addr.add_mid]
      · simp only [DR, RT]
        refine ⟨.inr ⟨b, _, _, rfl, by omega, by omega, g4, hlen, ?_⟩, trivial⟩
        by_cases hc : cap = l.toNat
        · have : h.toNat - l.toNat = 0 := by omega
          rw [this]
          simp [RL]
        · rw [if_neg hc]
          exact RL_take _ (RL_drop _ (by rw [g5]; exact Nat.mul_le_mul_right _ (by omega)) g6)) hK

theorem OK.eqAgg {op : BinOp} {t u : TypeId} {x y : Operand} {xs ys : List Value} {r b : Bool} (ho : o.op = .binOp op t x y u) (hx : ev st x = .agg (xs.map fun v => .r (.v v))) (hy : ev st y = .agg (ys.map fun v => .r (.v v)))
    (hg : E.P.eqGuardType E.P.depth t = false) (he : ∀ w : World, (Op.equal t (.agg xs.toArray) (.agg ys.toArray)).run E.P w = .ok r w) (hop : (op = .eql ∧ b = r) ∨ (op = .neq ∧ b = !r)) (h : K (setD st o.dst (.r (.v (.bool b))))) : OK E B o st K :=
  OK.val (fun F a w hr => by
    have key : ∀ (x : Operand) (xs : List Value), ev st x = .agg (xs.map fun v => .r (.v v)) → a.eval x = .agg xs.toArray := by
      intro x xs hx
      have h := hr.ev x
      rw [hx] at h
      simp only [DR] at h
      obtain ⟨cs, h1, h2⟩ := h
      have : ∀ (xs cs : List Value), DLs F w (xs.map fun v => .r (.v v)) cs [] → cs = xs := by
        intro xs
        induction xs with
        | nil => intro cs h; simp only [List.map_nil, DLs] at h; exact h.1
        | cons v vs ih =>
          intro cs h
          simp only [List.map_cons, DLs, DR, RT] at h
          obtain ⟨c, cs', b1, b2, rfl, hb, ⟨rfl, rfl⟩, h4⟩ := h
          have : b2 = [] := by simpa using hb.symm
          subst this
          rw [ih cs' h4]
      rw [h1, this xs cs h2]
    refine ⟨.bool b, ?_, by simp [DR, RT]⟩
    rcases hop with ⟨rfl, rfl⟩ | ⟨rfl, rfl⟩ <;> simp [execOp, ho, key x xs hx, key y ys hy, eqGuard, hg, binOp, Sem.run_bind, he]) h
end
end Go.Eng
