/- Parts of own arrays; guards in regions of every order. -/
import Derived.Test.YtmhnehgpmndiiaaDoorEng35
namespace Go.Eng
open Go Go.RowKit
inductive Home (st : St) (k : Nat) : Option Nat → Nat → Nat → List T → Value → Prop where
  | w {sz n : Nat} {ts : List T} {X : Value} (h : gt st k = .w (.a sz n ts) X) : Home st k none sz n ts X
  | o {j sz n b : Nat} {ds : List D} {ts : List T} {X : Value} (h : gt st k = .obj b ds) (hj : ds[j]? = some (.w (.a sz n ts) X)) : Home st k (some j) sz n ts X
section
variable {E : Env} {F : Nat → Prop} {B : Base E.P} {w : World} {o : Oper} {st : St} {K : St → Prop} {a : Act} {all rest : List Oper} {Q : Exit → St → Prop} {fc : Facts} {n : Nat} {ls : Array Bool}
theorem Home.own {k sz n : Nat} {j : Option Nat} {ts : List T} {X : Value} (h : Home st k j sz n ts X) (hr : Rel F B st a w) : ∃ bs, OT w (.a sz n ts) X bs := by
  cases h with
  | w h =>
    obtain ⟨y, bs, h1, h2⟩ := hr.slot (gt_some h (by simp))
    simp only [DR] at h2
    exact ⟨bs, h2.2⟩
  | o h hj =>
    obtain ⟨y, bs, h1, h2⟩ := hr.slot (gt_some h (by simp))
    simp only [DR] at h2
    obtain ⟨cs, ty, bs', _, _, rfl, h4⟩ := h2
    obtain ⟨c, b', _, h5, _⟩ := DLs_mem (G := fun _ => True) h4 hj (fun _ _ => trivial)
    simp only [DR] at h5
    exact ⟨b', h5.2⟩
theorem Home.ev {k sz n m off : Nat} {j : Option Nat} {ts : List T} {X : Value} (h : Home st k j sz n ts X) (hr : Rel F B st a w) {x : Operand} (hx : ev st x = .al k j sz n X 0) : a.eval x = X := by
  obtain ⟨bs, h1⟩ := h.own hr
  have := hr.ev x
  rw [hx] at this
  simp only [DR] at this
  rw [this.1, ← subV_whole h1]
theorem V.indexWZ {pu : Bool} {α : Type} {t e : TypeId} {x y : Operand} {i ie : TyI} {k : Nat} {c : α → List T} {l : List α} {m : Nat} {X : Value} {z : Int} (ho : o.op = .indexAddr t x y) (ht : E.tabs t = some i) (he : i.td = .slice e) (hte : E.tabs e = some ie)
    (hx : Eng.ev st x = .al k none ie.sz l.length X 0) (hk : Eng.gt st k = .w (sl ie.sz c l) X) (hy : Eng.ev st y = .r (.v (.int .i64 z))) (hz : z = (m : Int)) (hm : m < l.length) : VP pu E B o st (.ep k none ie.sz X (m * ie.sz)) := by
  subst hz
  exact V.indexW ho ht he hte hx hk hy hm
theorem RQ.pullT {k l b j sz n : Nat} {ds : List D} {ts : List T} {X : Value} (k' l' j0 : Nat) (h1 : k' = k) (h2 : l' = l) (h3 : j0 = j) (hkl : k ≠ l) (hk : Eng.gt st k = .obj b ds) (hj : ds[j]? = some (.al l none sz n X 0)) (hl : Eng.gt st l = .w (.a sz n ts) X)
    (h : RQ E B all rest ((st.set k (.obj b (ds.set j (.w (.a sz n ts) X)))).set l .u) K) : RQ E B all rest st K := fun F a w hr => h F a w (hr.pullT hkl hk hj hl)
end
section
variable {E : Env} {F : Nat → Prop} {B : Base E.P} {w : World} {o oj : Oper} {st : St} {K : St → Prop} {a : Act} {all rest : List Oper} {Q : Exit → St → Prop} {fc : Facts} {n i j : Nat} {ls ls' : Array Bool} {want : Bool} {d : Tmp} {dv : D}
theorem RA.bool (d : Tmp) {g : Bool} (hv : Eng.gt st d = .r (.v (.bool g))) (h1 : g = true → RA fc E B all n ls (st.set d (.r (.v (.bool true)))) K) (h2 : g = false → RA fc E B all n ls (st.set d (.r (.v (.bool false)))) K) : RA fc E B all n ls st K := by
  intro F a w hr
  cases g with
  | true => exact h1 rfl F a w (hr.same hv rfl)
  | false => exact h2 rfl F a w (hr.same hv rfl)
theorem RA.one (ht : Tell fc st) (hL : Region.ready .any all.toArray ls = [i]) (hl : ls.setIfInBounds i true = ls') (ho : all[i]? = some o) (hg : o.guard = some (j, want)) (hj : all[j]? = some oj) (hd : oj.dst = some d) (hb : Eng.gt st d = .r (.v (.bool want)))
    (h : OK E B o st (fun st' => RA fc E B all n ls' st' K)) : RA fc E B all (n + 1) ls st K := by
  subst hl
  intro F a w hr
  refine ⟨ht.hx hr, fun Q hQ hp => ⟨fun h0 => absurd (hL.symm.trans h0) (by simp), fun q hq => ?_⟩⟩
  rw [hL] at hq
  obtain rfl : q = i := by simpa using hq
  unfold wpOp
  have ho' : all.toArray[q]? = some o := by simpa using ho
  rw [ho']
  have hy := yielded_of hr hj hd hb
  have hw : Region.wanted o (yielded all.toArray a.tmps) = true := by simp [Region.wanted, hg, hy]
  simp only [hw, if_true]
  exact .inl (h F a w hr _ Q (fun F' st' a' w' hk hr' => ⟨(hk F' a' w' hr').1, (hk F' a' w' hr').2 Q hQ hp⟩))
end
end Go.Eng
