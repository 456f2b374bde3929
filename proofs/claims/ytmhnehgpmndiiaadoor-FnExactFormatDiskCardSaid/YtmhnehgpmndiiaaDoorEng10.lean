import Derived.Test.YtmhnehgpmndiiaaDoorEng9
namespace Go.Eng
open Go Go.RowKit

section
variable {E : Env} {F : Nat → Prop} {B : Base E.P} {w : World} {o : Oper} {st : St} {K : St → Prop} {a : Act}

theorem AsT.readAll (hr : Rel F B st a w) {x : Operand} {t : T} (h : AsT st true none (ev st x) t) : RT (fx w []) w t (a.eval x) := h.read hr.out (hr.ev x)
theorem OK.lenT {t : TypeId} {x : Operand} {sz n : Nat} {ts : List T} (ho : o.op = .call { callee := .builtin .len, args := #[x], argTypes := #[t] }) {i : TyI} {e : TypeId} (ht : E.tabs t = some i) (he : i.td = .slice e)
    (hx : AsT st true none (ev st x) (.a sz n ts)) (h : K (setD st o.dst (.r (.v (.int .i64 n))))) : OK E B o st K :=
  OK.val (fun F ac w hr => ⟨.int .i64 n, by
    have hx' := hx.readAll hr
    simp only [RT] at hx'
    have hu := tyI_slice (E.ok _ _ ht) he
    rcases hx' with ⟨A, C, h1, h2, h3⟩ | ⟨b, of, cap, h1, _⟩
    · subst h2
      simp [execOp, ho, resolve, invoke, builtin, h1, Builtin.len_, run_underlying hu, goInt]
    · simp [execOp, ho, resolve, invoke, builtin, h1, Builtin.len_, run_underlying hu, goInt], by simp [DR, RT]⟩) h
theorem OK.lenStr {t : TypeId} {x : Operand} {s : ByteArray} (ho : o.op = .call { callee := .builtin .len, args := #[x], argTypes := #[t] }) (ht : E.P.underlying t = some .string)
    (hx : ev st x = .r (.v (.string s))) (h : K (setD st o.dst (.r (.v (.int .i64 s.size))))) : OK E B o st K :=
  OK.val (fun F ac w hr => ⟨.int .i64 s.size, by
    simp [execOp, ho, resolve, invoke, builtin, ev_scalar hr hx, Builtin.len_, run_underlying ht, goInt], by simp [DR, RT]⟩) h

theorem Rel.move (hr : Rel F B st a w) {k l : Nat} (hkl : k ≠ l) (hk : k < st.length) (hl : l < st.length) {x : Value} (hx : a.tmps[l]? = some x) : Rel F B ((st.set k (gt st l)).set l .u) (a.put (some k) x) w := by
  obtain ⟨bk, bl, p1, p2, p3, p4, p5, p6⟩ := hr.two k l hkl hk
  have hgl : st.get? l = some (gt st l) := St.get_of hl
  obtain ⟨xl, q1, q2⟩ := p5 _ hgl
  obtain rfl : xl = x := by rw [hx] at q1; cases q1; rfl
  refine p6 w (gt st l) .u (a.put (some k) xl) bl [] (Stp.refl _ _) rfl (by simp [Act.put]) (fun i hi _ => get_put_ne a xl hi) ⟨xl, get_put_eq a xl (by rw [hr.len]; exact hk), q2⟩ (fun _ => ⟨xl, by rw [get_put_ne a xl (Ne.symm hkl)]; exact hx, by simp [DR]⟩) ?_ ?_
  · rw [List.append_nil]
    exact (List.nodup_append.1 p3).2.1
  · intro b hb
    rw [List.append_nil] at hb
    exact ⟨.inr (.inl hb), (p2 b hb).2⟩
theorem OK.assignMove {k l : Nat} (ho : o.op = .assign (.tmp l)) (hd : o.dst = some k) (hkl : k ≠ l) (hk : k < st.length) (hl : l < st.length) (h : K ((st.set k (gt st l)).set l .u)) : OK E B o st K := by
  intro F a w hr next Q hn
  have hx : a.tmps[l]? = some (a.eval (.tmp l)) := by
    have : l < a.tmps.size := by rw [hr.len]; exact hl
    simp [Act.eval, Array.getD_eq_getD_getElem?, Array.getElem?_eq_getElem this]
  unfold Oper.wp
  have hrun : (execOp a.eval o).run E.P w = .ok (.value (a.eval (.tmp l))) w := by simp [execOp, ho]
  rw [hrun, Oper.upon_value, hd]
  exact hn _ _ _ _ h (hr.move hkl hk hl hx)
theorem OK.moveMove {k l : Nat} (ho : o.op = .move (.tmp l)) (hd : o.dst = some k) (hkl : k ≠ l) (hk : k < st.length) (hl : l < st.length) (h : K ((st.set k (gt st l)).set l .u)) : OK E B o st K := by
  intro F a w hr next Q hn
  have hx : a.tmps[l]? = some (a.eval (.tmp l)) := by
    have : l < a.tmps.size := by rw [hr.len]; exact hl
    simp [Act.eval, Array.getD_eq_getD_getElem?, Array.getElem?_eq_getElem this]
  unfold Oper.wp
  have hrun : (execOp a.eval o).run E.P w = .ok (.value (a.eval (.tmp l))) w := by simp [execOp, ho]
  rw [hrun, Oper.upon_value, hd]
  exact hn _ _ _ _ h (hr.move hkl hk hl hx)
theorem OK.extract {k l i : Nat} {ds : List D} {d : D} (ho : o.op = .extract (.tmp l) i) (hd : o.dst = some k) (hkl : k ≠ l) (hk : k < st.length) (hl : gt st l = .tup ds) (hi : ds[i]? = some d)
    (h : K ((st.set k d).set l (.tup (ds.set i .u)))) : OK E B o st K := by
  intro F a w hr next Q hn
  have hll := getD_eq hl (by simp)
  have hgl : st.get? l = some (.tup ds) := gt_some hl (by simp)
  obtain ⟨bk, bl, p1, p2, p3, p4, p5, p6⟩ := hr.two k l hkl hk
  obtain ⟨xl, q1, q2⟩ := p5 _ hgl
  simp only [DR] at q2
  obtain ⟨cs, rfl, q3⟩ := q2
  have split : ∀ (ds : List D) (cs : List Value) (bs : List Nat) (i : Nat) (d : D), DLs F w ds cs bs → ds[i]? = some d → ∃ c b1 b2, cs[i]? = some c ∧ DR F w d c b1 ∧ DLs F w (ds.set i .u) cs b2 ∧ (bs.Nodup → (b1 ++ b2).Nodup) ∧ ∀ b ∈ b1 ++ b2, b ∈ bs := by
    intro ds
    induction ds with
    | nil => intro cs bs i d _ hi; simp at hi
    | cons d0 ds ih =>
      intro cs bs i d h hi
      simp only [DLs] at h
      obtain ⟨c, cs', b1, b2, rfl, rfl, h3, h4⟩ := h
      cases i with
      | zero =>
        simp at hi
        subst hi
        refine ⟨c, b1, b2, by simp, h3, ?_, fun h => h, fun b hb => hb⟩
        simp only [List.set_cons_zero, DLs]
        exact ⟨c, cs', [], b2, rfl, rfl, by simp [DR], h4⟩
      | succ i =>
        obtain ⟨c', e1, e2, f1, f2, f3, f4, f5⟩ := ih cs' b2 i d h4 (by simpa using hi)
        refine ⟨c', e1, b1 ++ e2, by simpa using f1, f2, ?_, ?_, ?_⟩
        · simp only [List.set_cons_succ, DLs]
          exact ⟨c, cs', b1, e2, rfl, rfl, h3, f3⟩
        · intro hn
          rw [List.nodup_append] at hn
          have f6 := f4 hn.2.1
          rw [List.nodup_append] at f6
          rw [List.nodup_append]
          refine ⟨f6.1, ?_, ?_⟩
          · rw [List.nodup_append]
            exact ⟨hn.1, f6.2.1, fun a ha b hb e => hn.2.2 a ha b (f5 b (by simp [hb])) e⟩
          · intro a ha b hb e
            rcases List.mem_append.1 hb with hb | hb
            · exact hn.2.2 b hb a (f5 a (by simp [ha])) e.symm
            · exact f6.2.2 a ha b hb e
        · intro b hb
          rcases List.mem_append.1 hb with hb | hb
          · simp [f5 b (by simp [hb])]
          · rcases List.mem_append.1 hb with hb | hb
            · simp [hb]
            · simp [f5 b (by simp [hb])]
  obtain ⟨c, b1, b2, f1, f2, f3, f4, f5⟩ := split ds cs bl i d q3 hi
  have hx : a.eval (.tmp l) = .tuple cs.toArray := by simp [Act.eval, Array.getD_eq_getD_getElem?, q1]
  have hrun : (execOp a.eval o).run E.P w = .ok (.value c) w := by simp [execOp, ho, hx, Instr.extract, f1]
  unfold Oper.wp
  rw [hrun, Oper.upon_value, hd]
  refine hn _ _ _ _ h (p6 w d (.tup (ds.set i .u)) (a.put (some k) c) b1 b2 (Stp.refl _ _) rfl (by simp [Act.put]) (fun j hj _ => get_put_ne a c hj) ⟨c, get_put_eq a c (by rw [hr.len]; exact hk), f2⟩
    (fun _ => ⟨_, by rw [get_put_ne a c (Ne.symm hkl)]; exact q1, by simp only [DR]; exact ⟨cs, rfl, f3⟩⟩) (f4 (List.nodup_append.1 p3).2.1) (fun b hb => ⟨.inr (.inl (f5 b hb)), (p2 b (f5 b hb)).2⟩))

end
end Go.Eng
