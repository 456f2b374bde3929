import Derived.Test.YtdipdkfbaehglaaGreatDoorEng24
import Derived.Lib.SliceRun
namespace Go.Eng
open Go Go.RowKit

section
variable {E : Env} {st : St} {g : Nat → Nat → Value} {bo : Nat → Nat} {as outs : List A}
theorem RV.v {k : Nat} {x y : Value} (hk : gt st k = .r (.v x)) (h : x = y) : RV E st (.tmp k) (.one (.w (.v y))) := by
  simp only [RV, hk, DT1]; exact .inl (by rw [h])
theorem RV.i {k : Nat} {x y : Int} (hk : gt st k = I x) (h : x = y) : RV E st (.tmp k) (.one (.w (.v (.int .i64 y)))) := RV.v hk (by rw [h])
theorem RV.b {k : Nat} {x y : Bool} (hk : gt st k = Bo x) (h : x = y) : RV E st (.tmp k) (.one (.w (.v (.bool y)))) := RV.v hk (by rw [h])
theorem RV.s {k : Nat} {x y : ByteArray} (hk : gt st k = S x) (h : x = y) : RV E st (.tmp k) (.one (.w (.v (.string y)))) := RV.v hk (by rw [h])
theorem RV.w {α : Type} {k sz : Nat} {c : α → List T} {l l' : List α} {X : Value} (hk : gt st k = .w (sl sz c l) X) (h : l = l') : RV E st (.tmp k) (.one (.w (sl sz c l'))) := by
  simp only [RV, hk, DT1]; rw [h]
theorem RV.r {α : Type} {k sz : Nat} {c : α → List T} {l l' : List α} (hk : gt st k = .r (sl sz c l)) (h : l = l') : RV E st (.tmp k) (.one (.r (sl sz c l'))) := by
  simp only [RV, hk, DT1]; exact .inl (by rw [h])
theorem RV.n {α : Type} {k sz : Nat} {c : α → List T} {l' : List α} (hk : gt st k = .r (.v (.slice none 0 0))) (h : [] = l') : RV E st (.tmp k) (.one (.w (sl sz c l'))) := by
  subst h
  simp only [RV, hk, DT1]; exact .inr ⟨by trivial, sz, rfl⟩
theorem RV.nr {α : Type} {k sz : Nat} {c : α → List T} {l' : List α} (hk : gt st k = .r (.v (.slice none 0 0))) (h : [] = l') : RV E st (.tmp k) (.one (.r (sl sz c l'))) := by
  subst h
  simp only [RV, hk, DT1]; exact .inr ⟨by trivial, sz, rfl⟩
theorem RV.a {α : Type} {k : Nat} {f : α → List C} {ds : List D} {e' e : α} (hk : gt st k = .agg ds) (hd : DT ds (f e')) (h : e' = e) : RV E st (.tmp k) (.agg (f e)) := by
  subst h
  exact ⟨ds, hk, hd⟩
theorem RV.c {α : Type} {k ty b : Nat} {f : α → List C} {ds : List D} {ti : TyI} {fs : List (Nat × Nat × Nat)} {e' e : α} (hk : gt st k = .obj b ds) (ht : E.tabs ty = some ti) (hf : ti.td = .agg fs) (hl : ds.length = ti.sz) (hd : DT ds (f e')) (h : e' = e) : RV E st (.cell k ty) (.agg (f e)) := by
  subst h
  exact ⟨b, ds, ti, fs, hk, ht, hf, hl, hd⟩
theorem RV.c1 {k ty b : Nat} {d : D} {ti : TyI} {t : C} (hk : gt st k = .obj b [d]) (ht : E.tabs ty = some ti) (hf : ti.td = .prim ∨ ∃ e, ti.td = .slice e) (hd : DT1 d t) : RV E st (.cell k ty) (.one t) := ⟨b, d, ti, hk, ht, hf, hd⟩
theorem RVs.e : RVs E st [] [] := rfl
theorem RVs.c {v : ResultVar} {r : R1} {vs : List ResultVar} {rs : List R1} (h : RV E st v r) (hs : RVs E st vs rs) : RVs E st (v :: vs) (r :: rs) := ⟨r, rs, rfl, h, hs⟩
theorem Post.tup {rvs : List ResultVar} {rs : List R1} (hn : rvs.length ≠ 1) (h : RVs E st rvs rs) (ho : AOs st g bo 0 as outs) : Post E rvs as (.tup rs) outs g bo st := ⟨⟨hn, h⟩, ho⟩
theorem Post.one {v : ResultVar} {r : R1} (h : RV E st v r) (ho : AOs st g bo 0 as outs) : Post E [v] as (.one r) outs g bo st := ⟨⟨v, rfl, h⟩, ho⟩
theorem DT.n {sz : Nat} {ds : List D} {cs : List C} (h : DT ds cs) : DT (.r (.v (.slice none 0 0)) :: ds) (.w (.a sz 0 []) :: cs) := ⟨_, _, rfl, .inr ⟨rfl, sz, rfl⟩, h⟩
theorem DT.nr {sz : Nat} {ds : List D} {cs : List C} (h : DT ds cs) : DT (.r (.v (.slice none 0 0)) :: ds) (.r (.a sz 0 []) :: cs) := ⟨_, _, rfl, .inr ⟨rfl, sz, rfl⟩, h⟩
theorem DW.n {sz : Nat} {ds : List D} {cs : List T} (h : DW ds cs) : DW (.r (.v (.slice none 0 0)) :: ds) (.a sz 0 [] :: cs) := ⟨_, _, rfl, .inr ⟨rfl, sz, rfl⟩, h⟩
theorem AOs.w {i : Nat} {sz n : Nat} {ts : List T} {t : T} {as outs : List A} (hk : gt st i = .w t (g i 0)) (h : AOs st g bo (i + 1) as outs) : AOs st g bo i (.one (.w (.a sz n ts)) :: as) (.one (.w t) :: outs) := ⟨_, _, rfl, .inr ⟨t, rfl, hk⟩, h⟩
theorem AOs.v {i : Nat} {x : Value} {as outs : List A} (h : AOs st g bo (i + 1) as outs) : AOs st g bo i (.one (.w (.v x)) :: as) (.one (.w (.v x)) :: outs) := ⟨_, _, rfl, .inr rfl, h⟩
theorem AOs.ob {i b : Nat} {cs os : List C} {ds : List D} {as outs : List A} (hk : gt st i = .obj (bo i) ds) (hc : DT ds os) (h : AOs st g bo (i + 1) as outs) : AOs st g bo i (.ob cs :: as) (.ob os :: outs) := ⟨_, _, rfl, .inr ⟨os, ds, rfl, hk, hc⟩, h⟩
theorem AOc.e {G : Nat → Value} {j : Nat} : AOc G j [] [] [] := ⟨rfl, rfl⟩
theorem AOc.r {G : Nat → Value} {j : Nat} {c : C} {d : D} {cs os : List C} {ds : List D} (hc : ro1 c = true) (h : AOc G (j + 1) cs ds os) : AOc G j (c :: cs) (d :: ds) (c :: os) := ⟨_, _, _, _, rfl, rfl, by rw [if_pos hc], h⟩
theorem AOc.w {G : Nat → Value} {j sz n : Nat} {ts : List T} {t : T} {d : D} {cs os : List C} {ds : List D} (hd : d = .w t (G j)) (h : AOc G (j + 1) cs ds os) : AOc G j (.w (.a sz n ts) :: cs) (d :: ds) (.w t :: os) := ⟨_, _, _, _, rfl, rfl, by rw [if_neg (by simp [ro1])]; exact ⟨t, rfl, hd⟩, h⟩
end
end Go.Eng

namespace Go.Eng
open Go Go.RowKit

section
variable {E : Env} {F : Nat → Prop} {B : Base E.P} {w : World} {o : Oper} {st : St} {K : St → Prop} {a : Act} {d : D} {all rest : List Oper} {Q : Exit → St → Prop}
theorem V.fieldE {pu : Bool} {s : TypeId} {x : Operand} {f off ty sz : Nat} {i : TyI} {fs : List (Nat × Nat × Nat)} {k : Nat} {j : Option Nat} {s' : Nat} {X : Value} {pos : Nat} (ho : o.op = .fieldAddr s x f) (ht : E.tabs s = some i) (hf : i.td = .agg fs)
    (hn : fs[f]? = some (off, ty, sz)) (hz : sz ≠ 0) (hx : ev st x = .ep k j s' X pos) : VP pu E B o st (.ep k j s' X (pos + off)) := fun F a w hr => by
  have hx' := hr.ev x
  rw [hx] at hx'
  simp only [DR] at hx'
  obtain ⟨⟨b, of, n, c, h1, h2⟩, _⟩ := hx'
  refine ⟨.pointer (some ⟨b, of + pos + off, none⟩), fun w' hs => by simp [execOp, ho, h2, Sem.run_bind, run_fieldAt ht hf hn hz], ?_⟩
  simp only [DR]
  exact ⟨⟨b, of, n, c, h1, by rw [Nat.add_assoc]⟩, trivial⟩
theorem Rel.ownLt (hr : Rel F B st a w) {k sz n : Nat} {ts : List T} {X : Value} (hk : Eng.gt st k = .w (.a sz n ts) X) {b of m c : Nat} (hX : X = .slice (some ⟨b, of, none⟩) m c) : b < w.heap.size := by
  rcases hr.own hk with ⟨h, _, _⟩ | ⟨b', of', cap, cs, ty, bs', h1, h2, h3, h4, _⟩
  · rw [hX] at h; cases h
  · rw [hX] at h1
    cases h1
    exact (Array.getElem?_eq_some_iff.1 h4).1
theorem V.loadE {t : TypeId} {x : Operand} {i : TyI} {k sz n pos : Nat} {ts : List T} {X v : Value} (ho : o.op = .load t x) (ht : E.tabs t = some i) (hf : i.td = .prim ∨ ∃ e, i.td = .slice e)
    (hx : ev st x = .ep k none sz X pos) (hk : Eng.gt st k = .w (.a sz n ts) X) (hl : ts[pos]? = some (.v v)) : V E B o st (.r (.v v)) := fun F a w hr => by
  rcases hr.own hk with ⟨_, _, rfl⟩ | ⟨b, of, cap, cs, ty, bs', hV, g2, g3, g4, g5, g6, g7⟩
  · simp at hl
  · have hc := OL_get g7 hl
    rw [List.getElem?_drop] at hc
    refine ⟨v, fun w' hs => ?_, by simp [DR, RT]⟩
    have hcell : w'.cell? ⟨b, of + pos, none⟩ = some v := by
      rw [World.cell?_of_block (w := w) ((hs rfl).block b (hr.ownLt hk hV) (by simp))]
      simp [World.cell?, g4, hc]
    simp [execOp, ho, ev_ep hr hx hV, Instr.loadAt, Instr.sureAddr, loadVar, Sem.run_bind, tyI_notAgg (E.ok _ _ ht) hf, hcell]
theorem V.loadF {α : Type} {t : TypeId} {x : Operand} {i : TyI} {k m sz off : Nat} {c : α → List T} {l : List α} {v : α} {u X : Value} (ho : o.op = .load t x) (ht : E.tabs t = some i) (hf : i.td = .prim ∨ ∃ e, i.td = .slice e)
    (hx : ev st x = .ep k none sz X (m * sz + off)) (hk : Eng.gt st k = .w (sl sz c l) X) (hc : ∀ x, (c x).length = sz) (hv : l[m]? = some v) (hoff : off < sz) (hu : (c v)[off]? = some (.v u)) : V E B o st (.r (.v u)) :=
  V.loadE ho ht hf hx hk (by rw [flatMap_get hc l m off v hv hoff]; exact hu)
theorem V.loadAggE {t : TypeId} {x : Operand} {i : TyI} {fs : List (Nat × Nat × Nat)} {k sz n pos : Nat} {ts : List T} {X : Value} {vs : List Value} (ho : o.op = .load t x) (ht : E.tabs t = some i) (hf : i.td = .agg fs)
    (hx : ev st x = .ep k none sz X pos) (hk : Eng.gt st k = .w (.a sz n ts) X) (hl : (ts.drop pos).take i.sz = vs.map .v) (hn : vs.length = i.sz) (hz : vs ≠ []) : V E B o st (.agg (vs.map fun v => .r (.v v))) := fun F a w hr => by
  rcases hr.own hk with ⟨_, _, rfl⟩ | ⟨b, of, cap, cs, ty, bs', hV, g2, g3, g4, g5, g6, g7⟩
  · simp at hl; exact absurd hl hz
  · have hget : ∀ j v, vs[j]? = some v → w.cell? ⟨b, of + pos + j, none⟩ = some v := by
      intro j v hj
      have h1 : ts[pos + j]? = some (.v v) := by
        have := congrArg (·[j]?) hl
        simp only [List.getElem?_take, List.getElem?_drop, List.getElem?_map, hj, Option.map_some] at this
        split at this
        · exact this
        · cases this
      have hc := OL_get g7 h1
      rw [List.getElem?_drop] at hc
      simp [World.cell?, g4, Nat.add_assoc, hc]
    have hT := E.ok _ _ ht
    obtain ⟨j, d, z, t1, t2, t3, t4, t5, t6, t7⟩ := tyI_spec hT
    have hrow : d.isRow = true := by
      rw [hf] at t7
      cases d <;> simp [tdOf] at t7 <;> rfl
    refine ⟨.agg vs.toArray, fun w' hs => ?_, by simp only [DR]; exact ⟨vs, rfl, DLs_zero vs w⟩⟩
    have hget' : ∀ j v, vs[j]? = some v → w'.cell? ⟨b, of + pos + j, none⟩ = some v := fun j v hj => by
      rw [World.cell?_of_block (w := w) ((hs rfl).block b (hr.ownLt hk hV) (by simp))]
      exact hget j v hj
    simp [execOp, ho, ev_ep hr hx hV, Sem.run_bind, run_loadAt_mid w' b (of + pos) t vs d hget' t2 hrow (by rw [tyI_size hT, hn])]
theorem V.loadAggF {α : Type} {t : TypeId} {x : Operand} {i : TyI} {fs : List (Nat × Nat × Nat)} {k m : Nat} {c : α → List T} {l : List α} {v : α} {X : Value} {vs : List Value} (ho : o.op = .load t x) (ht : E.tabs t = some i) (hf : i.td = .agg fs)
    (hx : ev st x = .ep k none i.sz X (m * i.sz)) (hk : Eng.gt st k = .w (sl i.sz c l) X) (hc : ∀ x, (c x).length = i.sz) (hv : l[m]? = some v) (hvs : c v = vs.map .v) (hz : i.sz ≠ 0) : V E B o st (.agg (vs.map fun v => .r (.v v))) := by
  have hn : vs.length = i.sz := by rw [← hc v, hvs, List.length_map]
  refine V.loadAggE ho ht hf hx hk ?_ hn (fun e => hz (by rw [← hn, e]; rfl))
  obtain ⟨us, hu⟩ := flatMap_drop hc l m v hv
  rw [hu, ← hc v, List.take_left, hvs]

end
end Go.Eng

namespace Go.Eng
open Go Go.RowKit

section
variable {E : Env} {F : Nat → Prop} {B : Base E.P} {w : World} {o : Oper} {st : St} {K : St → Prop} {a : Act} {d : D} {all rest : List Oper} {Q : Exit → St → Prop}
theorem V.nilP {pu : Bool} {x : Operand} {k b off : Nat} (ho : o.op = .nilCheck x) (hx : ev st x = .pt k b off) : VP pu E B o st (.pt k b off) := fun F a w hr =>
  ⟨.pointer (some ⟨b, off, none⟩), fun w' hs => by simp [execOp, ho, ev_pt hr hx], by simp [DR]⟩
theorem V.nilR {pu : Bool} {x : Operand} {ts : List T} (ho : o.op = .nilCheck x) (hx : ev st x = .rp ts) : VP pu E B o st (.rp ts) := fun F a w hr => by
  obtain ⟨b, of, h1, h2, h3⟩ := ev_rp hr hx
  exact ⟨.pointer (some ⟨b, of, none⟩), fun w' hs => by simp [execOp, ho, h1], by simp only [DR]; exact ⟨⟨b, of, rfl, h2, h3⟩, trivial⟩⟩
theorem Rel.asRp (hr : Rel F B st a w) (k : Nat) {ts : List T} (hk : Eng.gt st k = .r (.f none ts)) : Rel F B (st.set k (.rp ts)) a w := by
  obtain ⟨own, hs⟩ := hr.slots
  refine ⟨hr.defers, by rw [hr.len]; simp, hr.fr, hr.Flt, hr.Fin, own, fun i d hi => ?_⟩
  by_cases hik : i = k
  · subst hik
    have hlt : i < st.length := by have := St.get_lt hi; simpa using this
    rw [St.get_set_self hlt] at hi
    cases hi
    obtain ⟨x, bs, h1, h2, h3, h4⟩ := hs i _ (gt_some hk (by simp))
    simp only [DR, RT] at h2
    obtain ⟨⟨b, o, g1, g2, g3⟩, rfl⟩ := h2
    exact ⟨x, [], h1, by simp only [DR]; exact ⟨⟨b, o, g1, g2, g3⟩, trivial⟩, by simp, by simp⟩
  · rw [St.get_set_ne (Ne.symm hik)] at hi
    exact hs i d hi
theorem CW.asRp {cd : Code} (k : Nat) {ts : List T} (hk : Eng.gt st k = .r (.f none ts)) (h : CW E B cd (st.set k (.rp ts)) Q) : CW E B cd st Q := fun F a w hr => h F a w (hr.asRp k hk)
theorem Rel.freezeB (hr : Rel F B st a w) {k b : Nat} {ds : List D} {ts : List T} (hk : Eng.gt st k = .obj b ds) (hd : DRd ds ts) : ∃ H : Nat → Prop, Rel H B (st.set k (.rp ts)) a w := by
  have hklt := getD_eq hk (by simp)
  obtain ⟨own, hs⟩ := hr.slots
  obtain ⟨x, bk, h1, h2, h3, h4⟩ := hs k _ (gt_some hk (by simp))
  simp only [DR] at h2
  obtain ⟨cs, ty, bs', rfl, h5, rfl, h6⟩ := h2
  refine ⟨fun c => F c ∨ c ∈ b :: bs', hr.defers, by rw [hr.len]; simp, hr.fr, ?_, ?_, own, ?_⟩
  · rintro c (hc | hc)
    · exact hr.Flt c hc
    · exact (h4 c hc).2.2
  · rintro c (hc | hc)
    · exact hr.Fin c hc
    · exact .inr (h4 c hc).2.1.2
  · intro i d hi
    by_cases hik : i = k
    · subst hik
      rw [St.get_set_self hklt] at hi
      cases hi
      refine ⟨_, [], h1, ?_, by simp, by simp⟩
      simp only [DR]
      exact ⟨⟨b, 0, rfl, .inr (by simp), DRd_RL h5 (fun c hc => .inl hc) ds ts 0 bs' hd (by simpa using h6) (fun c hc => .inr (by simp [hc]))⟩, trivial⟩
    · rw [St.get_set_ne (Ne.symm hik)] at hi
      obtain ⟨y, cs', f1, f2, f3, f4⟩ := hs i d hi
      refine ⟨y, cs', f1, DR_mono (fun c hc => .inl hc) _ _ _ f2, f3, fun c hc => ⟨(f4 c hc).1, ⟨?_, (f4 c hc).2.1.2⟩, (f4 c hc).2.2⟩⟩
      rintro (hf | hf)
      · exact (f4 c hc).2.1.1 hf
      · exact hik ((f4 c hc).1.symm.trans (h4 c hf).1)
theorem RW.freezeB (k : Nat) {b : Nat} {ds : List D} {ts : List T} (hk : Eng.gt st k = .obj b ds) (hd : DRd ds ts) (h : RW E B all rest (st.set k (.rp ts)) K) : RW E B all rest st K := fun F a w hr => by
  obtain ⟨H, hr'⟩ := hr.freezeB hk hd
  exact h H a w hr'
theorem DRd.e : DRd [] [] := rfl
theorem DRd.r {t : T} {ds : List D} {ts : List T} (h : DRd ds ts) : DRd (.r t :: ds) (t :: ts) := ⟨_, _, rfl, .inl rfl, h⟩
theorem DRd.n {sz : Nat} {ds : List D} {ts : List T} (h : DRd ds ts) : DRd (.r (.v (.slice none 0 0)) :: ds) (.a sz 0 [] :: ts) := ⟨_, _, rfl, .inr (.inr ⟨rfl, sz, rfl⟩), h⟩
theorem RW.moveMove {k l : Nat} (hg : o.guard = none) (ho : o.op = .move (.tmp l)) (hd : o.dst = some k) (hkl : k ≠ l) (hk : k < st.length) (hl : l < st.length) (h : RW E B all rest ((st.set k (Eng.gt st l)).set l .u) K) : RW E B all (o :: rest) st K :=
  RW.cons hg (OK.moveMove ho hd hkl hk hl h)
theorem RW.gcallOwn {oj : Oper} {j : Nat} {want : Bool} {c : Tmp} {f : FuncId} {xs : List Operand} {tys : Array TypeId} {as outs : List A} {res : R} (hg : o.guard = some (j, want)) (hj : all[j]? = some oj) (hd : oj.dst = some c) (hv : Eng.gt st c = .r (.v (.bool want)))
    (hf : Eng.Fn E.P f as res outs) (ho : o.op = .call { callee := .value (.func f), args := xs.toArray, argTypes := tys })
    (ha : AsAs st true none xs as) (hres : ownR res = true) (h : ∀ g, RW E B all rest (setD st o.dst (rD g res)) K) : RW E B all (o :: rest) st K := RW.guardT hg hj hd hv (OK.callOwn hf ho ha hres h)
end
end Go.Eng

namespace Go.Eng
open Go Go.RowKit

section
variable {E : Env} {F : Nat → Prop} {B : Base E.P} {w : World} {o : Oper} {st : St} {K : St → Prop} {a : Act} {d : D} {all rest : List Oper} {Q : Exit → St → Prop}
theorem V.indexZ {pu : Bool} {α : Type} {t e : TypeId} {x y : Operand} {i ie : TyI} {c : α → List T} {l : List α} {m : Nat} {z : Int} {v : α} (ho : o.op = .indexAddr t x y) (ht : E.tabs t = some i) (he : i.td = .slice e) (hte : E.tabs e = some ie)
    (hx : ev st x = .r (sl ie.sz c l)) (hy : ev st y = .r (.v (.int .i64 z))) (hz : z = (m : Int)) (hc : ∀ x, (c x).length = ie.sz) (hv : l[m]? = some v) : VP pu E B o st (.rp (c v)) := by
  subst hz
  exact V.indexS ho ht he hte hx hy hc hv
theorem RW.pullS (k l : Nat) {sz n : Nat} {ts : List T} {X : Value} (hkl : k ≠ l) (hk : Eng.gt st k = .al l none sz n X 0) (hl : Eng.gt st l = .w (.a sz n ts) X)
    (h : RW E B all rest ((st.set k (.w (.a sz n ts) X)).set l .u) K) : RW E B all rest st K := fun F a w hr => h F a w (hr.pull hkl hk hl)
end
end Go.Eng

namespace Go.Eng
open Go Go.RowKit

section
variable {fc : Facts} {E : Env} {F : Nat → Prop} {B : Base E.P} {w : World} {o : Oper} {st : St} {K : St → Prop} {a : Act} {d : D} {all rest : List Oper} {Q : Exit → St → Prop}
theorem Dw_congr {α : Type} {sz : Nat} {c : α → List T} {l l' : List α} {X : Value} (h : l = l') : D.w (sl sz c l) X = D.w (sl sz c l') X := by rw [h]
theorem RO.alloc {nn i' : Nat} {ls ls' : Array Bool} {t : TypeId} {i : TyI} {ds : List D} (hA : all[i']? = some o) (hg : o.guard = none) (hL : ls.setIfInBounds i' true = ls') (ho : o.op = .alloc t) (ht : E.tabs t = some i) (hz : (i.zero.map fun v => D.r (.v v)) = ds) (h : ∀ b, RA fc E B all nn ls' (setD st o.dst (.obj b ds)) K) : RO fc E B all nn ls st K i' :=
  ⟨o, hA, hg, by subst hL; exact (OK.alloc ho ht (fun b => by rw [hz]; exact h b))⟩
theorem RO.box {nn i' : Nat} {ls ls' : Array Bool} {t : TypeId} {x : Operand} {ds : List D} (hA : all[i']? = some o) (hg : o.guard = none) (hL : ls.setIfInBounds i' true = ls') (ho : o.op = .box t x) (hx : ev st x = .agg ds) (h : ∀ b, RA fc E B all nn ls' (setD st o.dst (.obj b ds)) K) : RO fc E B all nn ls st K i' :=
  ⟨o, hA, hg, by subst hL; exact (OK.boxAgg ho hx h)⟩
theorem RO.store {nn i' : Nat} {ls ls' : Array Bool} {t : TypeId} {x y : Operand} {i : TyI} {k b off : Nat} {ds : List D} {d : D} (hA : all[i']? = some o) (hg : o.guard = none) (hL : ls.setIfInBounds i' true = ls') (ho : o.op = .store t x y) (hdst : o.dst = none) (ht : E.tabs t = some i) (hs : i.sz = 1)
    (hx : ev st x = .pt k b off) (hk : Eng.gt st k = .obj b ds) (hl : off < ds.length) (hd : ev st y = d) (hy : one1 d = true) (h : RA fc E B all nn ls' (st.set k (.obj b (ds.set off d))) K) : RO fc E B all nn ls st K i' :=
  ⟨o, hA, hg, by subst hL; exact (OK.store ho hdst ht hs hx hk hl (by rw [hd]; exact hy) (by rw [hd]; exact h))⟩
theorem RO.storeAgg {nn i' : Nat} {ls ls' : Array Bool} {t : TypeId} {x y : Operand} {i : TyI} {k b off : Nat} {ds es : List D} (hA : all[i']? = some o) (hg : o.guard = none) (hL : ls.setIfInBounds i' true = ls') (ho : o.op = .store t x y) (hdst : o.dst = none) (ht : E.tabs t = some i)
    (hx : ev st x = .pt k b off) (hk : Eng.gt st k = .obj b ds) (hy : ev st y = .agg es) (he : es.length = i.sz) (hl : off + i.sz ≤ ds.length) (ho1 : es.all one1 = true) (h : RA fc E B all nn ls' (st.set k (.obj b (setN ds off es))) K) : RO fc E B all nn ls st K i' :=
  ⟨o, hA, hg, by subst hL; exact (OK.storeAgg ho hdst ht hx hk hy he hl ho1 h)⟩
theorem RO.assignMove {nn i' : Nat} {ls ls' : Array Bool} {k l : Nat} (hA : all[i']? = some o) (hg : o.guard = none) (hL : ls.setIfInBounds i' true = ls') (ho : o.op = .assign (.tmp l)) (hd : o.dst = some k) (hkl : k ≠ l) (hk : k < st.length) (hl : l < st.length) (h : RA fc E B all nn ls' ((st.set k (Eng.gt st l)).set l .u) K) : RO fc E B all nn ls st K i' :=
  ⟨o, hA, hg, by subst hL; exact (OK.assignMove ho hd hkl hk hl h)⟩
theorem RO.extract {nn i' : Nat} {ls ls' : Array Bool} {k l i : Nat} {ds : List D} {d : D} (hA : all[i']? = some o) (hg : o.guard = none) (hL : ls.setIfInBounds i' true = ls') (ho : o.op = .extract (.tmp l) i) (hd : o.dst = some k) (hkl : k ≠ l) (hk : k < st.length) (hl : Eng.gt st l = .tup ds) (hi : ds[i]? = some d)
    (h : RA fc E B all nn ls' ((st.set k d).set l (.tup (ds.set i .u))) K) : RO fc E B all nn ls st K i' := ⟨o, hA, hg, by subst hL; exact (OK.extract ho hd hkl hk hl hi h)⟩
theorem RO.build0 {nn i' : Nat} {ls ls' : Array Bool} {α : Type} {t e : TypeId} {i ie : TyI} (c : α → List T) (hA : all[i']? = some o) (hg : o.guard = none) (hL : ls.setIfInBounds i' true = ls') (ho : o.op = .buildSlice t 0 #[]) (ht : E.tabs t = some i) (he : i.td = .slice e) (hte : E.tabs e = some ie)
    (h : ∀ X, RA fc E B all nn ls' (setD st o.dst (.w (sl ie.sz c []) X)) K) : RO fc E B all nn ls st K i' := ⟨o, hA, hg, by subst hL; exact (OK.build0 c ho ht he hte h)⟩
theorem RO.build1 {nn i' : Nat} {ls ls' : Array Bool} {α : Type} {t e : TypeId} {x : Operand} {i ie : TyI} {c : α → List T} {v : α} {es : List D} (hA : all[i']? = some o) (hg : o.guard = none) (hL : ls.setIfInBounds i' true = ls') (ho : o.op = .buildSlice t 1 #[(0, x)]) (ht : E.tabs t = some i) (he : i.td = .slice e) (hte : E.tabs e = some ie)
    (hx : ev st x = .agg es) (hw : DW es (c v)) (hc : ∀ x, (c x).length = ie.sz) (hp : ie.sz ≠ 0) (hsm : ie.sz ≤ 1000) (h : ∀ X, RA fc E B all nn ls' (setD st o.dst (.w (sl ie.sz c [v]) X)) K) : RO fc E B all nn ls st K i' :=
  ⟨o, hA, hg, by subst hL; exact (OK.build1 ho ht he hte hx hw hc hp hsm h)⟩
theorem RO.build1c {nn i' : Nat} {ls ls' : Array Bool} {α : Type} {t e : TypeId} {x : Operand} {i ie : TyI} {c : α → List T} {v : α} {u : T} (hA : all[i']? = some o) (hg : o.guard = none) (hL : ls.setIfInBounds i' true = ls') (ho : o.op = .buildSlice t 1 #[(0, x)]) (ht : E.tabs t = some i) (he : i.td = .slice e) (hte : E.tabs e = some ie)
    (h1 : one1 (ev st x) = true) (hw : DT1 (ev st x) (.w u)) (hu : c v = [u]) (hsz : ie.sz = 1) (h : ∀ X, RA fc E B all nn ls' (setD st o.dst (.w (sl ie.sz c [v]) X)) K) : RO fc E B all nn ls st K i' := ⟨o, hA, hg, by subst hL; exact (OK.build1c ho ht he hte h1 hw hu hsz h)⟩
theorem RO.appendSR {nn i' : Nat} {ls ls' : Array Bool} {α : Type} {t e : TypeId} {x y : Operand} {i ie : TyI} {c : α → List T} {l1 l2 : List α} {X : Value} {k m : Nat} (hA : all[i']? = some o) (hg : o.guard = none) (hL : ls.setIfInBounds i' true = ls') (ho : o.op = .call { callee := .builtin .append, args := #[x, y], argTypes := #[t, t] }) (hd : o.dst = some m) (ht : E.tabs t = some i) (he : i.td = .slice e) (hte : E.tabs e = some ie)
    (hx : ev st x = .al k none ie.sz l1.length X 0) (hk : Eng.gt st k = .w (sl ie.sz c l1) X) (hy : AsT st true none (ev st y) (sl ie.sz c l2)) (hmk : m ≠ k) (hm : m < st.length)
    (hc : ∀ x, (c x).length = ie.sz) (hone : ∀ x, (c x).all tval = true) (hz0 : ie.zero.length = ie.sz) (hn : l1.length + l2.length ≤ maxLen) (hb : (l1.length + l2.length) * ie.bytes ≤ 140737488355328)
    (h : ∀ X', RA fc E B all nn ls' ((st.set m (.w (sl ie.sz c (l1 ++ l2)) X')).set k .u) K) : RO fc E B all nn ls st K i' := ⟨o, hA, hg, by subst hL; exact (OK.appendSR ho hd ht he hte hx hk hy hmk hm hc hone hz0 hn hb h)⟩
theorem RO.callW {nn i' : Nat} {ls ls' : Array Bool} {f : FuncId} {xs : List Operand} {tys : Array TypeId} {as outs : List A} {res : R} {k : Nat} {d' : (Nat → Value) → D} (hf : Fn E.P f as res outs) (hA : all[i']? = some o) (hg : o.guard = none) (hL : ls.setIfInBounds i' true = ls') (ho : o.op = .call { callee := .value (.func f), args := xs.toArray, argTypes := tys })
    (hk : k < st.length) (hd : o.dst ≠ some k) (ha : AsWs st k d' xs as outs) (hres : ownR res = true) (h : ∀ g g', RA fc E B all nn ls' (setD (st.set k (d' g')) o.dst (rD g res)) K) : RO fc E B all nn ls st K i' := ⟨o, hA, hg, by subst hL; exact (OK.callW hf ho hk hd ha hres h)⟩
theorem RO.moveMove {nn i' : Nat} {ls ls' : Array Bool} {k l : Nat} (hA : all[i']? = some o) (hg : o.guard = none) (hL : ls.setIfInBounds i' true = ls') (ho : o.op = .move (.tmp l)) (hd : o.dst = some k) (hkl : k ≠ l) (hk : k < st.length) (hl : l < st.length) (h : RA fc E B all nn ls' ((st.set k (Eng.gt st l)).set l .u) K) : RO fc E B all nn ls st K i' :=
  ⟨o, hA, hg, by subst hL; exact (OK.moveMove ho hd hkl hk hl h)⟩
end
end Go.Eng

namespace Go.Eng
open Go Go.RowKit

section
variable {fc : Facts} {E : Env} {F : Nat → Prop} {B : Base E.P} {w : World} {o : Oper} {st : St} {K : St → Prop} {a : Act} {d : D} {all rest : List Oper} {Q : Exit → St → Prop} {n : Nat} {ls : Array Bool}
theorem RA.le {m : Nat} (l : List (Nat × D)) (hm : st.n = m) (h : Le st l) (hc : RA fc E B all n ls ⟨m, l⟩ K) : RA fc E B all n ls st K := fun F a w hr => hc F a w (hr.le hm h)
theorem RA.to {l : List Oper} (h : all = l) (hr : RA fc E B all n ls st K) : RA fc E B l n ls st K := h ▸ hr
theorem RA.of {l : List Oper} (h : all = l) (hr : RA fc E B l n ls st K) : RA fc E B all n ls st K := h ▸ hr
theorem RA.start {l : List Oper} {m : Nat} {ls' : Array Bool} (h1 : l.length = m) (h2 : Array.replicate l.length false = ls') (h : RA fc E B all m ls' st K) : RA fc E B all l.length (Array.replicate l.length false) st K := by
  subst h1 h2
  exact h
theorem CW.anyJ {α : Type} {id : Nat} {l : List Oper} {y : Code} (N : Nat) (L : α → List (Nat × D))
    (h : ∀ (all : List Oper), all = l → ∀ K : St → Prop, (∀ v s, s.n = N → Le s (L v) → K s) → RA fc E B all l.length (Array.replicate l.length false) st K)
    (h2 : ∀ v, CW E B y ⟨N, L v⟩ Q) : CW E B (.seq (.region id l.toArray true) y) st Q := by
  refine CW.seq (CW.any (h l rfl _ (fun v s hs hl => ?_)))
  exact CW.le (L v) hs hl (h2 v)
end
end Go.Eng
