import Derived.Test.YtaneihnomaagoaaGreatDoorEng24
import Derived.Lib.SliceRun
namespace Go.Eng
open Go Go.RowKit

section
variable {E : Env} {st : St} {g : Nat → Nat → Value} {bo : Nat → Nat} {as outs : List A}
theorem RV.v {k : Nat} {x y : Value} (hk : gt st k = .r (.v x)) (h : x = y) : RV E st (.tmp k) (.one (.w (.v y))) := by
  simp only [RV, hk, DT1]; exact .inl (by rw [h])
theorem RV.i {k : Nat} {x y : Int} (hk : gt st k = I x) (h : x = y) : RV E st (.tmp k) (.one (.w (.v (.int .i64 y)))) := RV.v hk (by rw [h])
theorem RV.b {k : Nat} {x y : Bool} (hk : gt st k = Bo x) (h : x = y) : RV E st (.tmp k) (.one (.w (.v (.bool y)))) := RV.v hk (by rw [h])
theorem RV.s {k : Nat} {x y : ByteArray} (hk : gt st k = S x) (h : x = y) : RV E st (.tmp k) (.one (.w (.v (.string y)))) := RV.v hk (by rw [h])
theorem RV.w {α : Type} {k sz : Nat} {c : α → List T} {l l' : List α} {X : Value} (hk : gt st k = .w (sl sz c l) X) (h : l = l') : RV E st (.tmp k) (.one (.w (sl sz c l'))) := by
  simp only [RV, hk, DT1]; rw [h]
theorem RV.r {α : Type} {k sz : Nat} {c : α → List T} {l l' : List α} (hk : gt st k = .r (sl sz c l)) (h : l = l') : RV E st (.tmp k) (.one (.r (sl sz c l'))) := by
  simp only [RV, hk, DT1]; exact .inl (by rw [h])
theorem RV.n {α : Type} {k sz : Nat} {c : α → List T} {l' : List α} (hk : gt st k = .r (.v (.slice none 0 0))) (h : [] = l') : RV E st (.tmp k) (.one (.w (sl sz c l'))) := by
  subst h
  simp only [RV, hk, DT1]; exact .inr ⟨by trivial, sz, rfl⟩
theorem RV.nr {α : Type} {k sz : Nat} {c : α → List T} {l' : List α} (hk : gt st k = .r (.v (.slice none 0 0))) (h : [] = l') : RV E st (.tmp k) (.one (.r (sl sz c l'))) := by
  subst h
  simp only [RV, hk, DT1]; exact .inr ⟨by trivial, sz, rfl⟩
theorem RV.a {α : Type} {k : Nat} {f : α → List C} {ds : List D} {e' e : α} (hk : gt st k = .agg ds) (hd : DT ds (f e')) (h : e' = e) : RV E st (.tmp k) (.agg (f e)) := by
  subst h
  exact ⟨ds, hk, hd⟩
theorem RV.c {α : Type} {k ty b : Nat} {f : α → List C} {ds : List D} {ti : TyI} {fs : List (Nat × Nat × Nat)} {e' e : α} (hk : gt st k = .obj b ds) (ht : E.tabs ty = some ti) (hf : ti.td = .agg fs) (hl : ds.length = ti.sz) (hd : DT ds (f e')) (h : e' = e) : RV E st (.cell k ty) (.agg (f e)) := by
  subst h
  exact ⟨b, ds, ti, fs, hk, ht, hf, hl, hd⟩
theorem RV.c1 {k ty b : Nat} {d : D} {ti : TyI} {t : C} (hk : gt st k = .obj b [d]) (ht : E.tabs ty = some ti) (hf : ti.td = .prim ∨ ∃ e, ti.td = .slice e) (hd : DT1 d t) : RV E st (.cell k ty) (.one t) := ⟨b, d, ti, hk, ht, hf, hd⟩
theorem RVs.e : RVs E st [] [] := rfl
theorem RVs.c {v : ResultVar} {r : R1} {vs : List ResultVar} {rs : List R1} (h : RV E st v r) (hs : RVs E st vs rs) : RVs E st (v :: vs) (r :: rs) := ⟨r, rs, rfl, h, hs⟩
theorem Post.tup {rvs : List ResultVar} {rs : List R1} (hn : rvs.length ≠ 1) (h : RVs E st rvs rs) (ho : AOs st g bo 0 as outs) : Post E rvs as (.tup rs) outs g bo st := ⟨⟨hn, h⟩, ho⟩
theorem Post.one {v : ResultVar} {r : R1} (h : RV E st v r) (ho : AOs st g bo 0 as outs) : Post E [v] as (.one r) outs g bo st := ⟨⟨v, rfl, h⟩, ho⟩
theorem DT.n {sz : Nat} {ds : List D} {cs : List C} (h : DT ds cs) : DT (.r (.v (.slice none 0 0)) :: ds) (.w (.a sz 0 []) :: cs) := ⟨_, _, rfl, .inr ⟨rfl, sz, rfl⟩, h⟩
theorem DT.nr {sz : Nat} {ds : List D} {cs : List C} (h : DT ds cs) : DT (.r (.v (.slice none 0 0)) :: ds) (.r (.a sz 0 []) :: cs) := ⟨_, _, rfl, .inr ⟨rfl, sz, rfl⟩, h⟩
theorem DW.n {sz : Nat} {ds : List D} {cs : List T} (h : DW ds cs) : DW (.r (.v (.slice none 0 0)) :: ds) (.a sz 0 [] :: cs) := ⟨_, _, rfl, .inr ⟨rfl, sz, rfl⟩, h⟩
theorem AOs.w {i : Nat} {sz n : Nat} {ts : List T} {t : T} {as outs : List A} (hk : gt st i = .w t (g i 0)) (h : AOs st g bo (i + 1) as outs) : AOs st g bo i (.one (.w (.a sz n ts)) :: as) (.one (.w t) :: outs) := ⟨_, _, rfl, .inr ⟨t, rfl, hk⟩, h⟩
theorem AOs.v {i : Nat} {x : Value} {as outs : List A} (h : AOs st g bo (i + 1) as outs) : AOs st g bo i (.one (.w (.v x)) :: as) (.one (.w (.v x)) :: outs) := ⟨_, _, rfl, .inr rfl, h⟩
theorem AOs.ob {i b : Nat} {cs os : List C} {ds : List D} {as outs : List A} (hk : gt st i = .obj (bo i) ds) (hc : DT ds os) (h : AOs st g bo (i + 1) as outs) : AOs st g bo i (.ob cs :: as) (.ob os :: outs) := ⟨_, _, rfl, .inr ⟨os, ds, rfl, hk, hc⟩, h⟩
theorem AOc.e {G : Nat → Value} {j : Nat} : AOc G j [] [] [] := ⟨rfl, rfl⟩
theorem AOc.r {G : Nat → Value} {j : Nat} {c : C} {d : D} {cs os : List C} {ds : List D} (hc : ro1 c = true) (h : AOc G (j + 1) cs ds os) : AOc G j (c :: cs) (d :: ds) (c :: os) := ⟨_, _, _, _, rfl, rfl, by rw [if_pos hc], h⟩
theorem AOc.w {G : Nat → Value} {j sz n : Nat} {ts : List T} {t : T} {d : D} {cs os : List C} {ds : List D} (hd : d = .w t (G j)) (h : AOc G (j + 1) cs ds os) : AOc G j (.w (.a sz n ts) :: cs) (d :: ds) (.w t :: os) := ⟨_, _, _, _, rfl, rfl, by rw [if_neg (by simp [ro1])]; exact ⟨t, rfl, hd⟩, h⟩
end
end Go.Eng

namespace Go.Eng
open Go Go.RowKit

section
variable {E : Env} {F : Nat → Prop} {B : Base E.P} {w : World} {o : Oper} {st : St} {K : St → Prop} {a : Act} {d : D} {all rest : List Oper} {Q : Exit → St → Prop}
theorem V.fieldE {pu : Bool} {s : TypeId} {x : Operand} {f off ty sz : Nat} {i : TyI} {fs : List (Nat × Nat × Nat)} {k : Nat} {j : Option Nat} {s' : Nat} {X : Value} {pos : Nat} (ho : o.op = .fieldAddr s x f) (ht : E.tabs s = some i) (hf : i.td = .agg fs)
    (hn : fs[f]? = some (off, ty, sz)) (hz : sz ≠ 0) (hx : ev st x = .ep k j s' X pos) : VP pu E B o st (.ep k j s' X (pos + off)) := fun F a w hr => by
  have hx' := hr.ev x
  rw [hx] at hx'
  simp only [DR] at hx'
  obtain ⟨⟨b, of, n, c, h1, h2⟩, _⟩ := hx'
  refine ⟨.pointer (some ⟨b, of + pos + off, none⟩), fun w' hs => by simp [execOp, ho, h2, Sem.run_bind, run_fieldAt ht hf hn hz], ?_⟩
  simp only [DR]
  exact ⟨⟨b, of, n, c, h1, by rw [Nat.add_assoc]⟩, trivial⟩
theorem Rel.nilOwn (hr : Rel F B st a w) (k sz : Nat) (hk : Eng.gt st k = .r (.v (.slice none 0 0))) : Rel F B (st.set k (.w (.a sz 0 []) (.slice none 0 0))) a w := by
  obtain ⟨own, hs⟩ := hr.slots
  refine ⟨hr.defers, by rw [hr.len]; simp, hr.fr, hr.Flt, hr.Fin, own, fun i d hi => ?_⟩
  by_cases hik : i = k
  · subst hik
    have hlt : i < st.length := by have := St.get_lt hi; simpa using this
    rw [St.get_set_self hlt] at hi
    cases hi
    obtain ⟨x, bs, h1, h2, h3, h4⟩ := hs i _ (gt_some hk (by simp))
    simp only [DR, RT] at h2
    exact ⟨x, [], h1, by simp only [DR, OT]; exact ⟨h2.1, .inl ⟨trivial, trivial, trivial, trivial⟩⟩, by simp, by simp⟩
  · rw [St.get_set_ne (Ne.symm hik)] at hi
    exact hs i d hi
theorem RW.nilOwn {α : Type} (k sz : Nat) (c : α → List T) (hk : Eng.gt st k = .r (.v (.slice none 0 0))) (h : RW E B all rest (st.set k (.w (sl sz c []) (.slice none 0 0))) K) : RW E B all rest st K := fun F a w hr => h F a w (hr.nilOwn k sz hk)
theorem CW.nilOwn {α : Type} {cd : Code} (k sz : Nat) (c : α → List T) (hk : Eng.gt st k = .r (.v (.slice none 0 0))) (h : CW E B cd (st.set k (.w (sl sz c []) (.slice none 0 0))) Q) : CW E B cd st Q := fun F a w hr => h F a w (hr.nilOwn k sz hk)
end
end Go.Eng

namespace Go.Eng
open Go Go.RowKit

section
variable {E : Env} {F : Nat → Prop} {B : Base E.P} {w : World} {o : Oper} {st : St} {K : St → Prop} {a : Act} {d : D} {all rest : List Oper} {Q : Exit → St → Prop}
theorem V.nilP {pu : Bool} {x : Operand} {k b off : Nat} (ho : o.op = .nilCheck x) (hx : ev st x = .pt k b off) : VP pu E B o st (.pt k b off) := fun F a w hr =>
  ⟨.pointer (some ⟨b, off, none⟩), fun w' hs => by simp [execOp, ho, ev_pt hr hx], by simp [DR]⟩
theorem V.nilR {pu : Bool} {x : Operand} {ts : List T} (ho : o.op = .nilCheck x) (hx : ev st x = .rp ts) : VP pu E B o st (.rp ts) := fun F a w hr => by
  obtain ⟨b, of, h1, h2, h3⟩ := ev_rp hr hx
  exact ⟨.pointer (some ⟨b, of, none⟩), fun w' hs => by simp [execOp, ho, h1], by simp only [DR]; exact ⟨⟨b, of, rfl, h2, h3⟩, trivial⟩⟩
theorem Rel.asRp (hr : Rel F B st a w) (k : Nat) {ts : List T} (hk : Eng.gt st k = .r (.f none ts)) : Rel F B (st.set k (.rp ts)) a w := by
  obtain ⟨own, hs⟩ := hr.slots
  refine ⟨hr.defers, by rw [hr.len]; simp, hr.fr, hr.Flt, hr.Fin, own, fun i d hi => ?_⟩
  by_cases hik : i = k
  · subst hik
    have hlt : i < st.length := by have := St.get_lt hi; simpa using this
    rw [St.get_set_self hlt] at hi
    cases hi
    obtain ⟨x, bs, h1, h2, h3, h4⟩ := hs i _ (gt_some hk (by simp))
    simp only [DR, RT] at h2
    obtain ⟨⟨b, o, g1, g2, g3⟩, rfl⟩ := h2
    exact ⟨x, [], h1, by simp only [DR]; exact ⟨⟨b, o, g1, g2, g3⟩, trivial⟩, by simp, by simp⟩
  · rw [St.get_set_ne (Ne.symm hik)] at hi
    exact hs i d hi
theorem CW.asRp {cd : Code} (k : Nat) {ts : List T} (hk : Eng.gt st k = .r (.f none ts)) (h : CW E B cd (st.set k (.rp ts)) Q) : CW E B cd st Q := fun F a w hr => h F a w (hr.asRp k hk)
theorem Rel.freezeB (hr : Rel F B st a w) {k b : Nat} {ds : List D} {ts : List T} (hk : Eng.gt st k = .obj b ds) (hd : DRd ds ts) : ∃ H : Nat → Prop, Rel H B (st.set k (.rp ts)) a w := by
  have hklt := getD_eq hk (by simp)
  obtain ⟨own, hs⟩ := hr.slots
  obtain ⟨x, bk, h1, h2, h3, h4⟩ := hs k _ (gt_some hk (by simp))
  simp only [DR] at h2
  obtain ⟨cs, ty, bs', rfl, h5, rfl, h6⟩ := h2
  refine ⟨fun c => F c ∨ c ∈ b :: bs', hr.defers, by rw [hr.len]; simp, hr.fr, ?_, ?_, own, ?_⟩
  · rintro c (hc | hc)
    · exact hr.Flt c hc
    · exact (h4 c hc).2.2
  · rintro c (hc | hc)
    · exact hr.Fin c hc
    · exact .inr (h4 c hc).2.1.2
  · intro i d hi
    by_cases hik : i = k
    · subst hik
      rw [St.get_set_self hklt] at hi
      cases hi
      refine ⟨_, [], h1, ?_, by simp, by simp⟩
      simp only [DR]
      exact ⟨⟨b, 0, rfl, .inr (by simp), DRd_RL h5 (fun c hc => .inl hc) ds ts 0 bs' hd (by simpa using h6) (fun c hc => .inr (by simp [hc]))⟩, trivial⟩
    · rw [St.get_set_ne (Ne.symm hik)] at hi
      obtain ⟨y, cs', f1, f2, f3, f4⟩ := hs i d hi
      refine ⟨y, cs', f1, DR_mono (fun c hc => .inl hc) _ _ _ f2, f3, fun c hc => ⟨(f4 c hc).1, ⟨?_, (f4 c hc).2.1.2⟩, (f4 c hc).2.2⟩⟩
      rintro (hf | hf)
      · exact (f4 c hc).2.1.1 hf
      · exact hik ((f4 c hc).1.symm.trans (h4 c hf).1)
theorem RW.freezeB (k : Nat) {b : Nat} {ds : List D} {ts : List T} (hk : Eng.gt st k = .obj b ds) (hd : DRd ds ts) (h : RW E B all rest (st.set k (.rp ts)) K) : RW E B all rest st K := fun F a w hr => by
  obtain ⟨H, hr'⟩ := hr.freezeB hk hd
  exact h H a w hr'
theorem DRd.e : DRd [] [] := rfl
theorem DRd.r {t : T} {ds : List D} {ts : List T} (h : DRd ds ts) : DRd (.r t :: ds) (t :: ts) := ⟨_, _, rfl, .inl rfl, h⟩
theorem DRd.n {sz : Nat} {ds : List D} {ts : List T} (h : DRd ds ts) : DRd (.r (.v (.slice none 0 0)) :: ds) (.a sz 0 [] :: ts) := ⟨_, _, rfl, .inr (.inr ⟨rfl, sz, rfl⟩), h⟩
theorem V.mkFunc {pu : Bool} {id : Nat} {x : Operand} {ts : List T} (ho : o.op = .makeFunc (.func id) #[] #[x]) (hx : ev st x = .rp ts) : VP pu E B o st (.r (.f (some id) ts)) := fun F a w hr => by
  obtain ⟨b, of, h1, h2, h3⟩ := ev_rp hr hx
  refine ⟨mkF (some id) b of, fun w' hs => by simp [execOp, ho, Instr.makeFunc, h1, mkF], ?_⟩
  simp only [DR, RT]
  exact ⟨⟨b, of, rfl, h2, h3⟩, trivial⟩
theorem run_callF {P : Program} {f : FuncId} (hc : Callable P f) {o : Oper} {x : Operand} {xs : List Operand} {tys : Array TypeId} (ho : o.op = .call { callee := .value x, args := xs.toArray, argTypes := tys }) (a : Act) (w : World) {b of : Nat} (hx : a.eval x = mkF (some f) b of) :
    (execOp a.eval o).run P w = .ok (.enter f (xs.map a.eval ++ [Value.pointer (some ⟨b, of, none⟩)]).toArray) w := by
  obtain ⟨fn, h1, h2, h3⟩ := hc
  have hn : fn.name ≠ "runtime.NumGoroutine" := by simpa using h2
  cases hb : fn.body with
  | none => simp [hb] at h3
  | some c => simp [execOp, ho, resolve, invoke, Deferred.ofValue, hx, mkF, callFunc, Sem.run_bind, h1, hn, hb]
theorem ARs_app {G : Nat → Prop} : ∀ {as bs : List A} {xs ys : List Value}, ARs G w as xs [] → ARs G w bs ys [] → ARs G w (as ++ bs) (xs ++ ys) []
  | [], bs, xs, ys, h, h' => by simp only [ARs] at h; rw [h.1]; simpa using h'
  | a :: as, bs, xs, ys, h, h' => by
    simp only [ARs] at h
    obtain ⟨x, xs', b1, b2, rfl, hb, h3, h4⟩ := h
    obtain ⟨rfl, rfl⟩ := List.append_eq_nil_iff.1 hb.symm
    simp only [List.cons_append, ARs]
    exact ⟨x, xs' ++ ys, [], [], rfl, rfl, h3, ARs_app h4 h'⟩
theorem QOK.callF {f : FuncId} {x : Operand} {xs : List Operand} {tys : Array TypeId} {as outs : List A} {y : Value} {ts : List T} (hf : Fn E.P f (as ++ [.one (.r (.f none ts))]) (.one (.one (.w (.v y)))) outs) (ho : o.op = .call { callee := .value x, args := xs.toArray, argTypes := tys })
    (hx : ev st x = .r (.f (some f) ts)) (ha : AsAs st true none xs as) (h : K (setD st o.dst (.r (.v y)))) : QOK E B o st K := by
  intro F a w hr next hn
  have hxv := hr.ev x
  rw [hx] at hxv
  simp only [DR, RT] at hxv
  obtain ⟨⟨b, of, h1, h2, h3⟩, _⟩ := hxv
  refine ⟨y, fun w' hw' => ?_, hn _ _ h (hr.putD _ (by simp [DR, RT]))⟩
  have hr' := hr.grow hw'
  unfold Oper.quietAt
  rw [run_callF hf.1 ho a w' h1]
  have hA : ARs (fx w' []) w' (as ++ [.one (.r (.f none ts))]) (xs.map a.eval ++ [Value.pointer (some ⟨b, of, none⟩)]) [] := by
    refine ARs_app (ha.read hr' hr'.out) ?_
    simp only [ARs]
    refine ⟨_, [], [], [], rfl, rfl, ?_, rfl, rfl⟩
    simp only [AR, CR, RT]
    exact ⟨⟨b, of, rfl, ⟨hr'.Flt b h2, by simp⟩, RL_mono (fun c hc => ⟨hr'.Flt c hc, by simp⟩) _ _ _ (RL_world (fun c hc => hw'.block c (hr.Flt c hc) (by simp)) _ _ _ h2 h3)⟩, trivial⟩
  refine ⟨rfl, Calls.mono (hf.2 w' _ [] (fx w' []) (hr'.tb (by simp)) (fun b hb => hb) hA (by simp) (by simp)) ?_⟩
  rintro e w'' ⟨z, b1, b2, rfl, hs, h1, _, h3, h4⟩
  simp only [OR, OR1, CR, OT] at h1
  rw [h1.1]
  exact ⟨rfl, hw'.trans hs⟩
theorem OK.callF {f : FuncId} {x : Operand} {xs : List Operand} {tys : Array TypeId} {as outs : List A} {y : Value} {ts : List T} (hf : Fn E.P f (as ++ [.one (.r (.f none ts))]) (.one (.one (.w (.v y)))) outs) (ho : o.op = .call { callee := .value x, args := xs.toArray, argTypes := tys })
    (hx : ev st x = .r (.f (some f) ts)) (ha : AsAs st true none xs as) (h : K (setD st o.dst (.r (.v y)))) : OK E B o st K := by
  intro F a w hr next Q hn
  have hxv := hr.ev x
  rw [hx] at hxv
  simp only [DR, RT] at hxv
  obtain ⟨⟨b, of, h1, h2, h3⟩, _⟩ := hxv
  unfold Oper.wp
  rw [run_callF hf.1 ho a w h1, Oper.upon_enter]
  have hA : ARs (fx w []) w (as ++ [.one (.r (.f none ts))]) (xs.map a.eval ++ [Value.pointer (some ⟨b, of, none⟩)]) [] := by
    refine ARs_app (ha.read hr hr.out) ?_
    simp only [ARs]
    refine ⟨_, [], [], [], rfl, rfl, ?_, rfl, rfl⟩
    simp only [AR, CR, RT]
    exact ⟨⟨b, of, rfl, ⟨hr.Flt b h2, by simp⟩, RL_mono (fun c hc => ⟨hr.Flt c hc, by simp⟩) _ _ _ h3⟩, trivial⟩
  refine Calls.mono (hf.2 w _ [] (fx w []) (hr.tb (by simp)) (fun b hb => hb) hA (by simp) (by simp)) ?_
  rintro e w'' ⟨z, b1, b2, rfl, hs, h1, _, h3, h4⟩
  simp only [OR, OR1, CR, OT] at h1
  rw [h1.1]
  exact hn F _ _ _ h (hr.putNew' o.dst hs (bs := []) (by simp [DR, RT]) (by simp) (by simp))
theorem RW.callF {f : FuncId} {x : Operand} {xs : List Operand} {tys : Array TypeId} {ars outs : List A} {y : Value} {ts : List T} (hg : o.guard = none) (hf : Fn E.P f (ars ++ [.one (.r (.f none ts))]) (.one (.one (.w (.v y)))) outs) (ho : o.op = .call { callee := .value x, args := xs.toArray, argTypes := tys })
    (hx : ev st x = .r (.f (some f) ts)) (ha : AsAs st true none xs ars) (h : RW E B all rest (setD st o.dst (.r (.v y))) K) : RW E B all (o :: rest) st K := RW.cons hg (OK.callF hf ho hx ha h)
theorem RQ.callF {f : FuncId} {x : Operand} {xs : List Operand} {tys : Array TypeId} {ars outs : List A} {y : Value} {ts : List T} (hg : o.guard = none) (hf : Fn E.P f (ars ++ [.one (.r (.f none ts))]) (.one (.one (.w (.v y)))) outs) (ho : o.op = .call { callee := .value x, args := xs.toArray, argTypes := tys })
    (hx : ev st x = .r (.f (some f) ts)) (ha : AsAs st true none xs ars) (h : RQ E B all rest (setD st o.dst (.r (.v y))) K) : RQ E B all (o :: rest) st K := RQ.cons hg (QOK.callF hf ho hx ha h)
theorem RW.moveMove {k l : Nat} (hg : o.guard = none) (ho : o.op = .move (.tmp l)) (hd : o.dst = some k) (hkl : k ≠ l) (hk : k < st.length) (hl : l < st.length) (h : RW E B all rest ((st.set k (Eng.gt st l)).set l .u) K) : RW E B all (o :: rest) st K :=
  RW.cons hg (OK.moveMove ho hd hkl hk hl h)
theorem RW.gcallOwn {oj : Oper} {j : Nat} {want : Bool} {c : Tmp} {f : FuncId} {xs : List Operand} {tys : Array TypeId} {as outs : List A} {res : R} (hg : o.guard = some (j, want)) (hj : all[j]? = some oj) (hd : oj.dst = some c) (hv : Eng.gt st c = .r (.v (.bool want)))
    (hf : Eng.Fn E.P f as res outs) (ho : o.op = .call { callee := .value (.func f), args := xs.toArray, argTypes := tys })
    (ha : AsAs st true none xs as) (hres : ownR res = true) (h : ∀ g, RW E B all rest (setD st o.dst (rD g res)) K) : RW E B all (o :: rest) st K := RW.guardT hg hj hd hv (OK.callOwn hf ho ha hres h)
end
end Go.Eng

namespace Go.Eng
open Go Go.RowKit

section
variable {E : Env} {F : Nat → Prop} {B : Base E.P} {w : World} {o : Oper} {st : St} {K : St → Prop} {a : Act} {d : D} {all rest : List Oper} {Q : Exit → St → Prop}
theorem V.indexZ {pu : Bool} {α : Type} {t e : TypeId} {x y : Operand} {i ie : TyI} {c : α → List T} {l : List α} {m : Nat} {z : Int} {v : α} (ho : o.op = .indexAddr t x y) (ht : E.tabs t = some i) (he : i.td = .slice e) (hte : E.tabs e = some ie)
    (hx : ev st x = .r (sl ie.sz c l)) (hy : ev st y = .r (.v (.int .i64 z))) (hz : z = (m : Int)) (hc : ∀ x, (c x).length = ie.sz) (hv : l[m]? = some v) : VP pu E B o st (.rp (c v)) := by
  subst hz
  exact V.indexS ho ht he hte hx hy hc hv
theorem RW.pullS (k l : Nat) {sz n : Nat} {ts : List T} {X : Value} (hkl : k ≠ l) (hk : Eng.gt st k = .al l none sz n X 0) (hl : Eng.gt st l = .w (.a sz n ts) X)
    (h : RW E B all rest ((st.set k (.w (.a sz n ts) X)).set l .u) K) : RW E B all rest st K := fun F a w hr => h F a w (hr.pull hkl hk hl)
end
end Go.Eng

namespace Go.Eng
open Go Go.RowKit

section
variable {fc : Facts} {E : Env} {F : Nat → Prop} {B : Base E.P} {w : World} {o : Oper} {st : St} {K : St → Prop} {a : Act} {d : D} {all rest : List Oper} {Q : Exit → St → Prop}
theorem Dw_congr {α : Type} {sz : Nat} {c : α → List T} {l l' : List α} {X : Value} (h : l = l') : D.w (sl sz c l) X = D.w (sl sz c l') X := by rw [h]
theorem RO.alloc {nn i' : Nat} {ls ls' : Array Bool} {t : TypeId} {i : TyI} {ds : List D} (hA : all[i']? = some o) (hg : o.guard = none) (hL : ls.setIfInBounds i' true = ls') (ho : o.op = .alloc t) (ht : E.tabs t = some i) (hz : (i.zero.map fun v => D.r (.v v)) = ds) (h : ∀ b, RA fc E B all nn ls' (setD st o.dst (.obj b ds)) K) : RO fc E B all nn ls st K i' :=
  ⟨o, hA, hg, by subst hL; exact (OK.alloc ho ht (fun b => by rw [hz]; exact h b))⟩
theorem RO.box {nn i' : Nat} {ls ls' : Array Bool} {t : TypeId} {x : Operand} {ds : List D} (hA : all[i']? = some o) (hg : o.guard = none) (hL : ls.setIfInBounds i' true = ls') (ho : o.op = .box t x) (hx : ev st x = .agg ds) (h : ∀ b, RA fc E B all nn ls' (setD st o.dst (.obj b ds)) K) : RO fc E B all nn ls st K i' :=
  ⟨o, hA, hg, by subst hL; exact (OK.boxAgg ho hx h)⟩
theorem RO.store {nn i' : Nat} {ls ls' : Array Bool} {t : TypeId} {x y : Operand} {i : TyI} {k b off : Nat} {ds : List D} {d : D} (hA : all[i']? = some o) (hg : o.guard = none) (hL : ls.setIfInBounds i' true = ls') (ho : o.op = .store t x y) (hdst : o.dst = none) (ht : E.tabs t = some i) (hs : i.sz = 1)
    (hx : ev st x = .pt k b off) (hk : Eng.gt st k = .obj b ds) (hl : off < ds.length) (hd : ev st y = d) (hy : one1 d = true) (h : RA fc E B all nn ls' (st.set k (.obj b (ds.set off d))) K) : RO fc E B all nn ls st K i' :=
  ⟨o, hA, hg, by subst hL; exact (OK.store ho hdst ht hs hx hk hl (by rw [hd]; exact hy) (by rw [hd]; exact h))⟩
theorem RO.storeAgg {nn i' : Nat} {ls ls' : Array Bool} {t : TypeId} {x y : Operand} {i : TyI} {k b off : Nat} {ds es : List D} (hA : all[i']? = some o) (hg : o.guard = none) (hL : ls.setIfInBounds i' true = ls') (ho : o.op = .store t x y) (hdst : o.dst = none) (ht : E.tabs t = some i)
    (hx : ev st x = .pt k b off) (hk : Eng.gt st k = .obj b ds) (hy : ev st y = .agg es) (he : es.length = i.sz) (hl : off + i.sz ≤ ds.length) (ho1 : es.all one1 = true) (h : RA fc E B all nn ls' (st.set k (.obj b (setN ds off es))) K) : RO fc E B all nn ls st K i' :=
  ⟨o, hA, hg, by subst hL; exact (OK.storeAgg ho hdst ht hx hk hy he hl ho1 h)⟩
theorem RO.assignMove {nn i' : Nat} {ls ls' : Array Bool} {k l : Nat} (hA : all[i']? = some o) (hg : o.guard = none) (hL : ls.setIfInBounds i' true = ls') (ho : o.op = .assign (.tmp l)) (hd : o.dst = some k) (hkl : k ≠ l) (hk : k < st.length) (hl : l < st.length) (h : RA fc E B all nn ls' ((st.set k (Eng.gt st l)).set l .u) K) : RO fc E B all nn ls st K i' :=
  ⟨o, hA, hg, by subst hL; exact (OK.assignMove ho hd hkl hk hl h)⟩
theorem RO.extract {nn i' : Nat} {ls ls' : Array Bool} {k l i : Nat} {ds : List D} {d : D} (hA : all[i']? = some o) (hg : o.guard = none) (hL : ls.setIfInBounds i' true = ls') (ho : o.op = .extract (.tmp l) i) (hd : o.dst = some k) (hkl : k ≠ l) (hk : k < st.length) (hl : Eng.gt st l = .tup ds) (hi : ds[i]? = some d)
    (h : RA fc E B all nn ls' ((st.set k d).set l (.tup (ds.set i .u))) K) : RO fc E B all nn ls st K i' := ⟨o, hA, hg, by subst hL; exact (OK.extract ho hd hkl hk hl hi h)⟩
theorem RO.build0 {nn i' : Nat} {ls ls' : Array Bool} {α : Type} {t e : TypeId} {i ie : TyI} (c : α → List T) (hA : all[i']? = some o) (hg : o.guard = none) (hL : ls.setIfInBounds i' true = ls') (ho : o.op = .buildSlice t 0 #[]) (ht : E.tabs t = some i) (he : i.td = .slice e) (hte : E.tabs e = some ie)
    (h : ∀ X, RA fc E B all nn ls' (setD st o.dst (.w (sl ie.sz c []) X)) K) : RO fc E B all nn ls st K i' := ⟨o, hA, hg, by subst hL; exact (OK.build0 c ho ht he hte h)⟩
theorem RO.build1 {nn i' : Nat} {ls ls' : Array Bool} {α : Type} {t e : TypeId} {x : Operand} {i ie : TyI} {c : α → List T} {v : α} {es : List D} (hA : all[i']? = some o) (hg : o.guard = none) (hL : ls.setIfInBounds i' true = ls') (ho : o.op = .buildSlice t 1 #[(0, x)]) (ht : E.tabs t = some i) (he : i.td = .slice e) (hte : E.tabs e = some ie)
    (hx : ev st x = .agg es) (hw : DW es (c v)) (hc : ∀ x, (c x).length = ie.sz) (hp : ie.sz ≠ 0) (hsm : ie.sz ≤ 1000) (h : ∀ X, RA fc E B all nn ls' (setD st o.dst (.w (sl ie.sz c [v]) X)) K) : RO fc E B all nn ls st K i' :=
  ⟨o, hA, hg, by subst hL; exact (OK.build1 ho ht he hte hx hw hc hp hsm h)⟩
theorem RO.build1c {nn i' : Nat} {ls ls' : Array Bool} {α : Type} {t e : TypeId} {x : Operand} {i ie : TyI} {c : α → List T} {v : α} {u : T} (hA : all[i']? = some o) (hg : o.guard = none) (hL : ls.setIfInBounds i' true = ls') (ho : o.op = .buildSlice t 1 #[(0, x)]) (ht : E.tabs t = some i) (he : i.td = .slice e) (hte : E.tabs e = some ie)
    (h1 : one1 (ev st x) = true) (hw : DT1 (ev st x) (.w u)) (hu : c v = [u]) (hsz : ie.sz = 1) (h : ∀ X, RA fc E B all nn ls' (setD st o.dst (.w (sl ie.sz c [v]) X)) K) : RO fc E B all nn ls st K i' := ⟨o, hA, hg, by subst hL; exact (OK.build1c ho ht he hte h1 hw hu hsz h)⟩
theorem RO.appendSR {nn i' : Nat} {ls ls' : Array Bool} {α : Type} {t e : TypeId} {x y : Operand} {i ie : TyI} {c : α → List T} {l1 l2 : List α} {X : Value} {k m : Nat} (hA : all[i']? = some o) (hg : o.guard = none) (hL : ls.setIfInBounds i' true = ls') (ho : o.op = .call { callee := .builtin .append, args := #[x, y], argTypes := #[t, t] }) (hd : o.dst = some m) (ht : E.tabs t = some i) (he : i.td = .slice e) (hte : E.tabs e = some ie)
    (hx : ev st x = .al k none ie.sz l1.length X 0) (hk : Eng.gt st k = .w (sl ie.sz c l1) X) (hy : AsT st true none (ev st y) (sl ie.sz c l2)) (hmk : m ≠ k) (hm : m < st.length)
    (hc : ∀ x, (c x).length = ie.sz) (hone : ∀ x, (c x).all tval = true) (hz0 : ie.zero.length = ie.sz) (hn : l1.length + l2.length ≤ maxLen) (hb : (l1.length + l2.length) * ie.bytes ≤ 140737488355328)
    (h : ∀ X', RA fc E B all nn ls' ((st.set m (.w (sl ie.sz c (l1 ++ l2)) X')).set k .u) K) : RO fc E B all nn ls st K i' := ⟨o, hA, hg, by subst hL; exact (OK.appendSR ho hd ht he hte hx hk hy hmk hm hc hone hz0 hn hb h)⟩
theorem RO.moveMove {nn i' : Nat} {ls ls' : Array Bool} {k l : Nat} (hA : all[i']? = some o) (hg : o.guard = none) (hL : ls.setIfInBounds i' true = ls') (ho : o.op = .move (.tmp l)) (hd : o.dst = some k) (hkl : k ≠ l) (hk : k < st.length) (hl : l < st.length) (h : RA fc E B all nn ls' ((st.set k (Eng.gt st l)).set l .u) K) : RO fc E B all nn ls st K i' :=
  ⟨o, hA, hg, by subst hL; exact (OK.moveMove ho hd hkl hk hl h)⟩
end
end Go.Eng
