import Derived.Test.YtdipdkfbaehglaaGreatDoorEng31
namespace Go.Eng
open Go Go.RowKit
inductive Home (st : St) (k : Nat) : Option Nat → Nat → Nat → List T → Value → Prop where
  | w {sz n : Nat} {ts : List T} {X : Value} (h : gt st k = .w (.a sz n ts) X) : Home st k none sz n ts X
  | o {j sz n b : Nat} {ds : List D} {ts : List T} {X : Value} (h : gt st k = .obj b ds) (hj : ds[j]? = some (.w (.a sz n ts) X)) : Home st k (some j) sz n ts X
section
variable {E : Env} {F : Nat → Prop} {B : Base E.P} {w : World} {o : Oper} {st : St} {K : St → Prop} {a : Act} {all rest : List Oper} {Q : Exit → St → Prop} {fc : Facts} {n : Nat} {ls : Array Bool}
theorem Home.own {k sz n : Nat} {j : Option Nat} {ts : List T} {X : Value} (h : Home st k j sz n ts X) (hr : Rel F B st a w) : ∃ bs, OT w (.a sz n ts) X bs := by
  cases h with
  | w h =>
    obtain ⟨y, bs, h1, h2⟩ := hr.slot (gt_some h (by simp))
    simp only [DR] at h2
    exact ⟨bs, h2.2⟩
  | o h hj =>
    obtain ⟨y, bs, h1, h2⟩ := hr.slot (gt_some h (by simp))
    simp only [DR] at h2
    obtain ⟨cs, ty, bs', _, _, rfl, h4⟩ := h2
    obtain ⟨c, b', _, h5, _⟩ := DLs_mem (G := fun _ => True) h4 hj (fun _ _ => trivial)
    simp only [DR] at h5
    exact ⟨b', h5.2⟩
theorem Home.ev {k sz n m off : Nat} {j : Option Nat} {ts : List T} {X : Value} (h : Home st k j sz n ts X) (hr : Rel F B st a w) {x : Operand} (hx : ev st x = .al k j sz n X 0) : a.eval x = X := by
  obtain ⟨bs, h1⟩ := h.own hr
  have := hr.ev x
  rw [hx] at this
  simp only [DR] at this
  rw [this.1, ← subV_whole h1]
theorem V.cutLo {pu : Bool} {t e : TypeId} {x y : Operand} {i ie : TyI} {k n m : Nat} {z : Int} {j : Option Nat} {ts : List T} {X : Value} (ho : o.op = .slice t x (some y) none none) (ht : E.tabs t = some i) (he : i.td = .slice e) (hte : E.tabs e = some ie)
    (hx : Eng.ev st x = .al k j ie.sz n X 0) (hh : Home st k j ie.sz n ts X) (hy : Eng.ev st y = .r (.v (.int .i64 z))) (hz : z = (m : Int)) (hm : m ≤ n) : VP pu E B o st (.al k j ie.sz (n - m) X m) := fun F a w hr => by
  subst hz
  have hxv := Home.ev (m := 0) (off := 0) hh hr hx
  have hu := tyI_slice (E.ok _ _ ht) he
  have hsz := fun w => tyI_sizeOf (E.ok _ _ hte) w
  obtain ⟨bs, hot⟩ := hh.own hr
  simp only [OT] at hot
  rcases hot with ⟨h1, rfl, h3, _⟩ | ⟨b, of, cap, cs, ty, bs', h1, g2, g3, g4, g5, g6, _, g7⟩
  · have : m = 0 := by omega
    subst this
    refine ⟨.slice none 0 0, fun w' hs => ?_, by simp only [DR]; exact ⟨by simp [h1, subV], trivial, by rw [h1]; exact ⟨_, _, _, rfl⟩⟩⟩
    simp [execOp, ho, hxv, h1, ev_scalar hr hy, Instr.sliceAt, run_underlying hu, Instr.slice, Instr.sliceBounds, Sem.run_bind, run_sliceBound w' .i64 0 0 .sliceB (by omega) (by omega), hsz]
  · refine ⟨.slice (if cap = m then some ⟨b, of, none⟩ else some ⟨b, of + m * ie.sz, none⟩) (n - m) (cap - m), fun w' hs => ?_, ?_⟩
    · have hb := run_sliceBound (P := E.P) w' .i64 (m : Int) n .sliceB (by omega) (by omega)
      simp [execOp, ho, hxv, h1, ev_scalar hr hy, Instr.sliceAt, run_underlying hu, Instr.slice, Instr.sliceBounds, Sem.run_bind, hb, hsz]
      split <;> simp [Addr.add_mid]
    · simp only [DR]
      refine ⟨?_, trivial, by rw [h1]; exact ⟨_, _, _, rfl⟩⟩
      rw [h1]
      simp only [subV]
      split <;> simp [Addr.add_mid]
theorem sl_drop {α : Type} {c : α → List T} {l : List α} {sz m : Nat} (hc : ∀ x, (c x).length = sz) : T.a sz (l.length - m) (((l.flatMap c).drop (m * sz)).take ((l.length - m) * sz)) = sl sz c (l.drop m) := by
  rw [flatMap_dropS hc, List.take_of_length_le (by rw [flatMap_len hc, List.length_drop]; exact Nat.le_refl _), sl, List.length_drop]
theorem AsT.dropW {α : Type} {k : Option Nat} {c : α → List T} {l : List α} {i sz m : Nat} {V : Value} (h : gt st i = .w (sl sz c l) V) (hc : ∀ x, (c x).length = sz) (hm : m ≤ l.length) (hk : k ≠ some i) : AsT st true k (.al i none sz (l.length - m) V m) (sl sz c (l.drop m)) := by
  rw [← sl_drop hc]
  exact AsT.alp rfl h (by omega) hk
theorem V.takeSZ {pu : Bool} {α : Type} {t e : TypeId} {x y : Operand} {i ie : TyI} {c : α → List T} {l : List α} {m : Nat} {z : Int} (ho : o.op = .slice t x none (some y) none) (ht : E.tabs t = some i) (he : i.td = .slice e) (hte : E.tabs e = some ie)
    (hx : Eng.ev st x = .r (sl ie.sz c l)) (hy : Eng.ev st y = .r (.v (.int .i64 z))) (hz : z = (m : Int)) (hc : ∀ x, (c x).length = ie.sz) (hm : m ≤ l.length) : VP pu E B o st (.r (sl ie.sz c (l.take m))) := by
  subst hz
  exact V.takeS ho ht he hte hx hy hc hm
theorem DLs_outA : ∀ {ds : List D} {xs : List Value} {bk : List Nat} {j sz n k : Nat} {ts : List T} {V : Value}, DLs F w ds xs bk → ds[j]? = some (.w (.a sz n ts) V) → ∃ b1 b2, bk.Perm (b1 ++ b2) ∧ OT w (.a sz n ts) V b1 ∧ DLs F w (ds.set j (.al k none sz n V 0)) xs b2
  | [], _, _, _, _, _, _, _, _, _, hj => by simp at hj
  | d0 :: ds, xs, bk, j, sz, n, k, ts, V, h, hj => by
    simp only [DLs] at h
    obtain ⟨x, xs', p1, p2, rfl, rfl, h3, h4⟩ := h
    cases j with
    | zero =>
      simp at hj
      subst hj
      simp only [DR] at h3
      refine ⟨p1, p2, List.Perm.refl _, h3.2, ?_⟩
      simp only [List.set_cons_zero, DLs]
      refine ⟨x, xs', [], p2, rfl, rfl, ?_, h4⟩
      simp only [DR]
      refine ⟨h3.1.trans (subV_whole h3.2), trivial, ?_⟩
      have := h3.2
      simp only [OT] at this
      rcases this with ⟨h, _⟩ | ⟨b, o, cap, cur, ty, bs', h, _⟩
      · exact ⟨_, _, _, h⟩
      · exact ⟨_, _, _, h⟩
    | succ j =>
      obtain ⟨b1, b2, h5, h6, h7⟩ := DLs_outA (k := k) h4 (by simpa using hj)
      refine ⟨b1, p1 ++ b2, ?_, h6, ?_⟩
      · refine (List.Perm.append_left p1 h5).trans ?_
        rw [← List.append_assoc, ← List.append_assoc]
        exact List.Perm.append_right b2 List.perm_append_comm
      · simp only [List.set_cons_succ, DLs]
        exact ⟨x, xs', p1, b2, rfl, rfl, h3, h7⟩
theorem Rel.swapO (hr : Rel F B st a w) {k l b j sz n : Nat} {ds : List D} {ts : List T} {X : Value} (hkl : k ≠ l) (hk : Eng.gt st k = .al l (some j) sz n X 0) (hl : Eng.gt st l = .obj b ds) (hj : ds[j]? = some (.w (.a sz n ts) X)) :
    Rel F B ((st.set k (.w (.a sz n ts) X)).set l (.obj b (ds.set j (.al k none sz n X 0)))) a w :=
  hr.take hkl hk (fun x bs h => by
    rw [hl] at h
    simp only [DR] at h
    obtain ⟨cs, ty, bs', h1, h2, rfl, h3⟩ := h
    obtain ⟨b1, b2, h4, h5, h6⟩ := DLs_outA (k := k) h3 hj
    refine ⟨b1, b :: b2, ?_, h5, ?_⟩
    · exact (List.Perm.cons b h4).trans List.perm_middle.symm
    · simp only [DR]
      exact ⟨cs, ty, b2, h1, h2, rfl, h6⟩) (by rw [hl]; simp)
theorem Rel.unswapO (hr : Rel F B st a w) {k l b j sz n : Nat} {ds : List D} {ts : List T} {X : Value} (hkl : k ≠ l) (hk : Eng.gt st k = .obj b ds) (hj : ds[j]? = some (.al l none sz n X 0)) (hl : Eng.gt st l = .w (.a sz n ts) X) :
    Rel F B ((st.set k (.obj b (ds.set j (.w (.a sz n ts) X)))).set l (.al k (some j) sz n X 0)) a w :=
  hr.pullX hkl hk hj hl (by simp) (fun x bs h => by
    simp only [DR] at h
    refine ⟨bs, [], h.2, ?_, by simp, by simp⟩
    simp only [DR]
    refine ⟨h.1.trans (subV_whole h.2), trivial, ?_⟩
    have := h.2
    simp only [OT] at this
    rcases this with ⟨h, _⟩ | ⟨b, o, cap, cur, ty, bs', h, _⟩
    · exact ⟨_, _, _, h⟩
    · exact ⟨_, _, _, h⟩)
theorem RW.unswapO {k l b j sz n : Nat} {ds : List D} {ts : List T} {X : Value} (k' l' j0 : Nat) (h1 : k' = k) (h2 : l' = l) (h3 : j0 = j) (hkl : k ≠ l) (hk : Eng.gt st k = .obj b ds) (hj : ds[j]? = some (.al l none sz n X 0)) (hl : Eng.gt st l = .w (.a sz n ts) X)
    (h : RW E B all rest ((st.set k (.obj b (ds.set j (.w (.a sz n ts) X)))).set l (.al k (some j) sz n X 0)) K) : RW E B all rest st K := fun F a w hr => h F a w (hr.unswapO hkl hk hj hl)
theorem RQ.unswapO {k l b j sz n : Nat} {ds : List D} {ts : List T} {X : Value} (k' l' j0 : Nat) (h1 : k' = k) (h2 : l' = l) (h3 : j0 = j) (hkl : k ≠ l) (hk : Eng.gt st k = .obj b ds) (hj : ds[j]? = some (.al l none sz n X 0)) (hl : Eng.gt st l = .w (.a sz n ts) X)
    (h : RQ E B all rest ((st.set k (.obj b (ds.set j (.w (.a sz n ts) X)))).set l (.al k (some j) sz n X 0)) K) : RQ E B all rest st K := fun F a w hr => h F a w (hr.unswapO hkl hk hj hl)
theorem RW.swapO (k l j : Nat) {b sz n : Nat} {ds : List D} {ts : List T} {X : Value} (hkl : k ≠ l) (hk : Eng.gt st k = .al l (some j) sz n X 0) (hl : Eng.gt st l = .obj b ds) (hj : ds[j]? = some (.w (.a sz n ts) X))
    (h : RW E B all rest ((st.set k (.w (.a sz n ts) X)).set l (.obj b (ds.set j (.al k none sz n X 0)))) K) : RW E B all rest st K := fun F a w hr => h F a w (hr.swapO hkl hk hl hj)
theorem RQ.swapO (k l j : Nat) {b sz n : Nat} {ds : List D} {ts : List T} {X : Value} (hkl : k ≠ l) (hk : Eng.gt st k = .al l (some j) sz n X 0) (hl : Eng.gt st l = .obj b ds) (hj : ds[j]? = some (.w (.a sz n ts) X))
    (h : RQ E B all rest ((st.set k (.w (.a sz n ts) X)).set l (.obj b (ds.set j (.al k none sz n X 0)))) K) : RQ E B all rest st K := fun F a w hr => h F a w (hr.swapO hkl hk hl hj)
theorem RQ.pullT {k l b j sz n : Nat} {ds : List D} {ts : List T} {X : Value} (k' l' j0 : Nat) (h1 : k' = k) (h2 : l' = l) (h3 : j0 = j) (hkl : k ≠ l) (hk : Eng.gt st k = .obj b ds) (hj : ds[j]? = some (.al l none sz n X 0)) (hl : Eng.gt st l = .w (.a sz n ts) X)
    (h : RQ E B all rest ((st.set k (.obj b (ds.set j (.w (.a sz n ts) X)))).set l .u) K) : RQ E B all rest st K := fun F a w hr => h F a w (hr.pullT hkl hk hj hl)
end
section
variable {E : Env} {F : Nat → Prop} {B : Base E.P} {w : World} {o oj : Oper} {st : St} {K : St → Prop} {a : Act} {all rest : List Oper} {Q : Exit → St → Prop} {fc : Facts} {n i j : Nat} {ls ls' : Array Bool} {want : Bool} {d : Tmp} {dv : D}
theorem RA.firstT (ht : Tell fc st) (hc : (Region.noSelect all.toArray && Region.free .any all.toArray ls i && (Region.ready .any all.toArray ls).contains i) = true) (hl : ls.setIfInBounds i true = ls')
    (ho : all[i]? = some o) (hg : o.guard = some (j, want)) (hj : all[j]? = some oj) (hd : oj.dst = some d) (hb : Eng.gt st d = .r (.v (.bool want))) (hv : VF fc E B o st dv) (h : RA fc E B all n ls' (setD st o.dst dv) K) : RA fc E B all (n + 1) ls st K := by
  subst hl
  simp only [Bool.and_eq_true] at hc
  intro F a w hr
  refine ⟨ht.hx hr, fun Q hQ hp => ?_⟩
  obtain ⟨x, h1, h2⟩ := hv F a w hr
  have ho' : all.toArray[i]? = some o := by simpa using ho
  have hy := yielded_of hr hj hd hb
  exact wpAnyH_take ho' hc.1.1 hc.1.2 hc.2 (fun c a w hq => absurd hq (hp _ _ _)) (.inl ⟨by simp [Region.wanted, hg, hy], fun w' h => h1 w' h.1⟩) (ht.hx hr) ((h F _ w (hr.putD o.dst h2)).2 Q hQ hp)
theorem RA.firstF (ht : Tell fc st) (hc : (Region.noSelect all.toArray && Region.free .any all.toArray ls i && (Region.ready .any all.toArray ls).contains i) = true) (hl : ls.setIfInBounds i true = ls')
    (ho : all[i]? = some o) (hg : o.guard = some (j, want)) (hj : all[j]? = some oj) (hd : oj.dst = some d) (hb : Eng.gt st d = .r (.v (.bool (!want))) ∨ Eng.gt st d = .r (.v undef)) (h : RA fc E B all n ls' (setD st o.dst (.r (.v undef))) K) : RA fc E B all (n + 1) ls st K := by
  subst hl
  simp only [Bool.and_eq_true] at hc
  intro F a w hr
  refine ⟨ht.hx hr, fun Q hQ hp => ?_⟩
  have ho' : all.toArray[i]? = some o := by simpa using ho
  have hw : Region.wanted o (yielded all.toArray a.tmps) = false := by
    rcases hb with hb | hb
    · have hy := yielded_of hr hj hd hb
      cases want <;> simp [Region.wanted, hg, hy]
    · have hy := yielded_undef hr hj hd hb
      simp [Region.wanted, hg, hy]
  exact wpAnyH_take ho' hc.1.1 hc.1.2 hc.2 (fun c a w hq => absurd hq (hp _ _ _)) (.inr ⟨hw, rfl⟩) (ht.hx hr) ((h F _ w (hr.undefD o.dst)).2 Q hQ hp)
theorem RA.bool (d : Tmp) {g : Bool} (hv : Eng.gt st d = .r (.v (.bool g))) (h1 : g = true → RA fc E B all n ls (st.set d (.r (.v (.bool true)))) K) (h2 : g = false → RA fc E B all n ls (st.set d (.r (.v (.bool false)))) K) : RA fc E B all n ls st K := by
  intro F a w hr
  cases g with
  | true => exact h1 rfl F a w (hr.same hv rfl)
  | false => exact h2 rfl F a w (hr.same hv rfl)
theorem RA.one (ht : Tell fc st) (hL : Region.ready .any all.toArray ls = [i]) (hl : ls.setIfInBounds i true = ls') (ho : all[i]? = some o) (hg : o.guard = some (j, want)) (hj : all[j]? = some oj) (hd : oj.dst = some d) (hb : Eng.gt st d = .r (.v (.bool want)))
    (h : OK E B o st (fun st' => RA fc E B all n ls' st' K)) : RA fc E B all (n + 1) ls st K := by
  subst hl
  intro F a w hr
  refine ⟨ht.hx hr, fun Q hQ hp => ⟨fun h0 => absurd (hL.symm.trans h0) (by simp), fun q hq => ?_⟩⟩
  rw [hL] at hq
  obtain rfl : q = i := by simpa using hq
  unfold wpOp
  have ho' : all.toArray[q]? = some o := by simpa using ho
  rw [ho']
  have hy := yielded_of hr hj hd hb
  have hw : Region.wanted o (yielded all.toArray a.tmps) = true := by simp [Region.wanted, hg, hy]
  simp only [hw, if_true]
  exact .inl (h F a w hr _ Q (fun F' st' a' w' hk hr' => ⟨(hk F' a' w' hr').1, (hk F' a' w' hr').2 Q hQ hp⟩))
theorem RA.oneV (ht : Tell fc st) (hL : Region.ready .any all.toArray ls = [i]) (hl : ls.setIfInBounds i true = ls') (ho : all[i]? = some o) (hg : o.guard = some (j, want)) (hj : all[j]? = some oj) (hd : oj.dst = some d) (hb : Eng.gt st d = .r (.v (.bool want)))
    (hv : V E B o st dv) (h : RA fc E B all n ls' (setD st o.dst dv) K) : RA fc E B all (n + 1) ls st K := RA.one ht hL hl ho hg hj hd hb (OK.ofV hv h)
theorem RA.oneCall {f : FuncId} {xs : List Operand} {tys : Array TypeId} {as outs : List A} {res : R} (ht : Tell fc st) (hL : Region.ready .any all.toArray ls = [i]) (hl : ls.setIfInBounds i true = ls') (ho : all[i]? = some o) (hg : o.guard = some (j, want)) (hj : all[j]? = some oj) (hd : oj.dst = some d) (hb : Eng.gt st d = .r (.v (.bool want)))
    (hf : Eng.Fn E.P f as res outs) (hop : o.op = .call { callee := .value (.func f), args := xs.toArray, argTypes := tys }) (ha : AsAs st false none xs as) (h : ∀ g, RA fc E B all n ls' (setD st o.dst (rD g res)) K) : RA fc E B all (n + 1) ls st K := RA.one ht hL hl ho hg hj hd hb (OK.call hf hop ha h)
theorem CW.anyP {α : Type} {id : Nat} {l : List Oper} {y : Code} (N : Nat) (L : α → List (Nat × D)) (P : α → Prop)
    (h : ∀ K : St → Prop, (∀ v s, P v → s.n = N → Le s (L v) → K s) → RA fc E B l l.length (Array.replicate l.length false) st K)
    (h2 : ∀ v, P v → CW E B y ⟨N, L v⟩ Q) : CW E B (.seq (.region id l.toArray true) y) st Q := by
  refine CW.seq (CW.any (h (fun s => CW E B y s Q) ?_))
  intro v s hp hs hl
  exact CW.le (L v) hs hl (h2 v hp)
end
end Go.Eng

namespace Go.Eng
open Go Go.RowKit
section
variable {E : Env} {F : Nat → Prop} {B : Base E.P} {w : World} {o : Oper} {st : St} {K : St → Prop} {a : Act} {all rest : List Oper}
end
section
variable {E : Env} {F : Nat → Prop} {B : Base E.P} {w : World} {o oj : Oper} {st : St} {K : St → Prop} {a : Act} {all rest : List Oper} {fc : Facts} {n i j : Nat} {ls ls' : Array Bool} {d : D}
def GOk (all : List Oper) (o : Oper) (st : St) : Prop := o.guard = none ∨ ∃ (j : Nat) (want : Bool) (oj : Oper) (d : Tmp), o.guard = some (j, want) ∧ all[j]? = some oj ∧ oj.dst = some d ∧ Eng.gt st d = .r (.v (.bool want))
def RG (fc : Facts) (E : Env) (B : Base E.P) (all : List Oper) (n : Nat) (ls : Array Bool) (st : St) (K : St → Prop) (i : Nat) : Prop :=
  ∃ o, all[i]? = some o ∧ GOk all o st ∧ OK E B o st (fun st' => RA fc E B all n (ls.setIfInBounds i true) st' K)
theorem RG.v (ho : all[i]? = some o) (hg : GOk all o st) (hv : V E B o st d) (hl : ls.setIfInBounds i true = ls') (h : RA fc E B all n ls' (setD st o.dst d) K) : RG fc E B all n ls st K i :=
  ⟨o, ho, hg, OK.ofV hv (by rw [hl]; exact h)⟩
theorem RG.call {f : FuncId} {xs : List Operand} {tys : Array TypeId} {as outs : List A} {res : R} (ho : all[i]? = some o) (hg : GOk all o st) (hf : Eng.Fn E.P f as res outs) (hop : o.op = .call { callee := .value (.func f), args := xs.toArray, argTypes := tys })
    (ha : AsAs st false none xs as) (hl : ls.setIfInBounds i true = ls') (h : ∀ g, RA fc E B all n ls' (setD st o.dst (rD g res)) K) : RG fc E B all n ls st K i := ⟨o, ho, hg, OK.call hf hop ha (fun g => by rw [hl]; exact h g)⟩
theorem RG.callOwn {f : FuncId} {xs : List Operand} {tys : Array TypeId} {as outs : List A} {res : R} (ho : all[i]? = some o) (hg : GOk all o st) (hf : Eng.Fn E.P f as res outs) (hop : o.op = .call { callee := .value (.func f), args := xs.toArray, argTypes := tys })
    (ha : AsAs st true none xs as) (hres : ownR res = true) (hl : ls.setIfInBounds i true = ls') (h : ∀ g, RA fc E B all n ls' (setD st o.dst (rD g res)) K) : RG fc E B all n ls st K i := ⟨o, ho, hg, OK.callOwn hf hop ha hres (fun g => by rw [hl]; exact h g)⟩
end
end Go.Eng
