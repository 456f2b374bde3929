import Derived.Test.YtaneihnomaagoaaGreatDoorEng4
import Derived.Deep.LoopGhost
namespace Go.Eng
open Go Go.RowKit

section
variable {E : Env} {F : Nat → Prop} {B : Base E.P} {st : St} {K : St → Prop} {Q : Exit → St → Prop}

def CW (E : Env) (B : Base E.P) (c : Code) (st : St) (Q : Exit → St → Prop) : Prop :=
  ∀ (F : Nat → Prop) (a : Act) (w : World), Rel F B st a w → c.wp E.P (fun e a' w' => ∃ st' F', Q e st' ∧ Rel F' B st' a' w') a w
def RW (E : Env) (B : Base E.P) (all rest : List Oper) (st : St) (K : St → Prop) : Prop :=
  ∀ (F : Nat → Prop) (a : Act) (w : World), Rel F B st a w → ∀ (Q : Exit → Act → World → Prop), (∀ F' st' a' w', K st' → Rel F' B st' a' w' → Q .normal a' w') → wpList E.P all.toArray Q rest a w

theorem RW.nil {all : List Oper} (h : K st) : RW E B all [] st K := fun F a w hr _ hQ => wpList_nil (hQ F st a w h hr)
theorem RW.cons {all rest : List Oper} {o : Oper} (hg : o.guard = none) (h : OK E B o st (fun st' => RW E B all rest st' K)) : RW E B all (o :: rest) st K :=
  fun F a w hr Q hQ => wpList_plain hg fun K' hK => h F a w hr K' Q (fun F' st' a' w' hk hr' => hK a' w' (hk F' a' w' hr' Q hQ))

theorem yielded_of {all : List Oper} {j : Nat} {oj : Oper} {d : Tmp} {a : Act} {w : World} (hr : Rel F B st a w) (hj : all[j]? = some oj) (hd : oj.dst = some d) {g : Bool} (hv : gt st d = .r (.v (.bool g))) :
    yielded all.toArray a.tmps j = some g := by
  have hk : st.get? d = some (.r (.v (.bool g))) := gt_some hv (by simp)
  obtain ⟨x, bs, h1, h2⟩ := hr.slot hk
  simp only [DR, RT] at h2
  obtain ⟨rfl, _⟩ := h2
  simp [yielded, hj, hd, h1]
theorem yielded_undef {all : List Oper} {j : Nat} {oj : Oper} {d : Tmp} {a : Act} {w : World} (hr : Rel F B st a w) (hj : all[j]? = some oj) (hd : oj.dst = some d) (hv : gt st d = .r (.v undef)) :
    yielded all.toArray a.tmps j = none := by
  have hk : st.get? d = some (.r (.v undef)) := gt_some hv (by simp)
  obtain ⟨x, bs, h1, h2⟩ := hr.slot hk
  simp only [DR, RT] at h2
  obtain ⟨rfl, _⟩ := h2
  simp [yielded, hj, hd, h1, undef]

theorem Rel.same {a : Act} {w : World} (hr : Rel F B st a w) {d : Nat} {v v' : Value} (hv : gt st d = .r (.v v)) (he : v = v') : Rel F B (st.set d (.r (.v v'))) a w := by
  subst he
  have hk : st.get? d = some (.r (.v v)) := gt_some hv (by simp)
  refine hr.congr rfl (fun j => ?_)
  by_cases hj : d = j
  · subst hj
    rw [St.get_set_self (St.get_lt hk), hk]
  · exact St.get_set_ne hj

theorem Rel.undefD {a : Act} {w : World} (hr : Rel F B st a w) (k : Option Tmp) : Rel F B (setD st k (.r (.v undef))) (a.put k undef) w := hr.putD k (by simp [DR, RT])

theorem RW.guard {all rest : List Oper} {o oj : Oper} {j : Nat} {want g : Bool} {d : Tmp} (hg : o.guard = some (j, want)) (hj : all[j]? = some oj) (hd : oj.dst = some d) (hv : gt st d = .r (.v (.bool g)))
    (h1 : g = want → OK E B o (st.set d (.r (.v (.bool want)))) (fun st' => RW E B all rest st' K))
    (h2 : g = !want → RW E B all rest (setD (st.set d (.r (.v (.bool (!want))))) o.dst (.r (.v undef))) K) : RW E B all (o :: rest) st K := by
  intro F a w hr Q hQ
  have hy := yielded_of hr hj hd hv
  by_cases hw : g = want
  · have hw' : Region.wanted o (yielded all.toArray a.tmps) = true := by simp [Region.wanted, hg, hy, hw]
    refine wpList_step fun K' hK => ?_
    rw [if_pos hw']
    exact h1 hw F a w (hr.same hv (by rw [hw])) K' Q (fun F' st' a' w' hk hr' => hK a' w' (hk F' a' w' hr' Q hQ))
  · have hn : g = !want := by cases g <;> cases want <;> simp_all
    have hw' : Region.wanted o (yielded all.toArray a.tmps) = false := by simp [Region.wanted, hg, hy, hw]
    refine wpList_step fun K' hK => ?_
    rw [if_neg (by simp [hw'])]
    exact hK _ _ (h2 hn F _ w ((hr.same hv (by rw [hn])).undefD o.dst) Q hQ)
theorem RW.guardU {all rest : List Oper} {o oj : Oper} {j : Nat} {want : Bool} {d : Tmp} (hg : o.guard = some (j, want)) (hj : all[j]? = some oj) (hd : oj.dst = some d) (hv : gt st d = .r (.v undef))
    (h2 : RW E B all rest (setD st o.dst (.r (.v undef))) K) : RW E B all (o :: rest) st K := by
  intro F a w hr Q hQ
  have hy := yielded_undef hr hj hd hv
  have hw' : Region.wanted o (yielded all.toArray a.tmps) = false := by simp [Region.wanted, hg, hy]
  refine wpList_step fun K' hK => ?_
  rw [if_neg (by simp [hw'])]
  exact hK _ _ (h2 F _ w (hr.undefD o.dst) Q hQ)
theorem RW.guardT {all rest : List Oper} {o oj : Oper} {j : Nat} {want : Bool} {d : Tmp} (hg : o.guard = some (j, want)) (hj : all[j]? = some oj) (hd : oj.dst = some d) (hv : gt st d = .r (.v (.bool want)))
    (h1 : OK E B o st (fun st' => RW E B all rest st' K)) : RW E B all (o :: rest) st K := by
  intro F a w hr Q hQ
  have hy := yielded_of hr hj hd hv
  have hw' : Region.wanted o (yielded all.toArray a.tmps) = true := by simp [Region.wanted, hg, hy]
  refine wpList_step fun K' hK => ?_
  rw [if_pos hw']
  exact h1 F a w hr K' Q (fun F' st' a' w' hk hr' => hK a' w' (hk F' a' w' hr' Q hQ))
theorem RW.guardF {all rest : List Oper} {o oj : Oper} {j : Nat} {want : Bool} {d : Tmp} (hg : o.guard = some (j, want)) (hj : all[j]? = some oj) (hd : oj.dst = some d) (hv : gt st d = .r (.v (.bool (!want))))
    (h2 : RW E B all rest (setD st o.dst (.r (.v undef))) K) : RW E B all (o :: rest) st K := by
  intro F a w hr Q hQ
  have hy := yielded_of hr hj hd hv
  have hw' : Region.wanted o (yielded all.toArray a.tmps) = false := by cases want <;> simp [Region.wanted, hg, hy]
  refine wpList_step fun K' hK => ?_
  rw [if_neg (by simp [hw'])]
  exact hK _ _ (h2 F _ w (hr.undefD o.dst) Q hQ)

theorem CW.region {id : Nat} {l : List Oper} (h : RW E B l l st (Q .normal)) : CW E B (.region id l.toArray false) st Q :=
  fun F a w hr => wp_region_lit (h F a w hr _ (fun F' st' _ _ hk hr' => ⟨st', F', hk, hr'⟩))

def QN (next : St → Prop) (Q : Exit → St → Prop) : Exit → St → Prop
  | .normal, s => next s
  | e, s => Q e s
theorem CW.seq {x y : Code} (h : CW E B x st (QN (fun s => CW E B y s Q) Q)) : CW E B (.seq x y) st Q := by
  intro F a w hr
  refine wp_seq (Code.wp_mono ?_ (h F a w hr))
  intro e a' w' ⟨st', F', hq, hr'⟩
  cases e with
  | normal => exact hq F' a' w' hr'
  | exit id => exact ⟨st', F', hq, hr'⟩
  | goto l => exact ⟨st', F', hq, hr'⟩
  | ret => exact ⟨st', F', hq, hr'⟩
  | panic ch => exact ⟨st', F', hq, hr'⟩
  | outgrown => exact ⟨st', F', hq, hr'⟩
theorem CW.skip (h : Q .normal st) : CW E B .skip st Q := fun F _ _ hr => wp_skip ⟨st, F, h, hr⟩
theorem CW.ret (h : Q .ret st) : CW E B .ret st Q := fun F _ _ hr => wp_ret ⟨st, F, h, hr⟩
theorem CW.exit {id : Nat} (h : Q (.exit id) st) : CW E B (.exit id) st Q := fun F _ _ hr => wp_exit ⟨st, F, h, hr⟩
def QB (id : Nat) (Q : Exit → St → Prop) : Exit → St → Prop
  | .exit id', s => bif Nat.beq id' id then Q .normal s else Q (.exit id') s
  | e, s => Q e s
theorem CW.block {id : Nat} {c : Code} (h : CW E B c st (QB id Q)) : CW E B (.block id c) st Q := by
  intro F a w hr
  refine wp_block (Code.wp_mono ?_ (h F a w hr))
  intro e a' w' ⟨st', F', hq, hr'⟩
  cases e with
  | exit id' =>
    simp only [QB] at hq
    simp only [Exit.inBlock]
    by_cases hid : id' = id
    · have hb : Nat.beq id' id = true := by subst hid; exact Nat.beq_refl _
      rw [hb] at hq
      rw [if_pos hid]
      exact ⟨st', F', hq, hr'⟩
    · have hb : Nat.beq id' id = false := by
        cases hb : Nat.beq id' id with
        | false => rfl
        | true => exact absurd (Nat.eq_of_beq_eq_true hb) hid
      rw [hb] at hq
      rw [if_neg hid]
      exact ⟨st', F', hq, hr'⟩
  | normal => exact ⟨st', F', hq, hr'⟩
  | goto l => exact ⟨st', F', hq, hr'⟩
  | ret => exact ⟨st', F', hq, hr'⟩
  | panic ch => exact ⟨st', F', hq, hr'⟩
  | outgrown => exact ⟨st', F', hq, hr'⟩
theorem CW.cond {c : Operand} {x y : Code} {t : Bool} (hc : ev st c = .r (.v (.bool t))) (h1 : t = true → CW E B x st Q) (h2 : t = false → CW E B y st Q) : CW E B (.cond c x y) st Q :=
  fun F a w hr => wp_cond_split (ev_scalar hr hc) (fun h => h1 h F a w hr) (fun h => h2 h F a w hr)
def Le (s : St) : List (Nat × D) → Prop
  | [] => True
  | (k, d) :: r => gt s k = d ∧ Le s r
theorem Le.look {s : St} : ∀ {l : List (Nat × D)} (k : Nat), Le s l → look l k = .u ∨ look l k = gt s k
  | [], _, _ => .inl rfl
  | (j, d) :: r, k, h => by
    simp only [Eng.look]
    cases hb : Nat.beq j k with
    | true => exact .inr (by rw [← Nat.eq_of_beq_eq_true hb]; exact h.1.symm)
    | false => exact Le.look k h.2
theorem Rel.le {a : Act} {w : World} {l : List (Nat × D)} {m : Nat} (hr : Rel F B st a w) (hm : st.n = m) (h : Le st l) : Rel F B ⟨m, l⟩ a w := by
  subst hm
  obtain ⟨own, hs⟩ := hr.slots
  refine ⟨hr.defers, hr.len, hr.fr, hr.Flt, hr.Fin, own, fun k d hk => ?_⟩
  have hlt : k < st.length := St.get_lt (s := ⟨st.n, l⟩) hk
  have hd := St.get_gt hk
  rw [gt_lt (s := ⟨st.n, l⟩) hlt] at hd
  rcases Le.look (s := st) k h with h' | h'
  · rw [h'] at hd
    subst hd
    have hx : k < a.tmps.size := by rw [hr.len]; exact hlt
    exact ⟨a.tmps[k], [], Array.getElem?_eq_getElem hx, by simp [DR], by simp, by simp⟩
  · exact hs k d (by rw [St.get_of hlt, ← h', hd])
theorem CW.le {c : Code} {m : Nat} (l : List (Nat × D)) (hm : st.n = m) (h : Le st l) (hc : CW E B c ⟨m, l⟩ Q) : CW E B c st Q := fun F a w hr => hc F a w (hr.le hm h)
theorem RW.le {all rest : List Oper} {m : Nat} (l : List (Nat × D)) (hm : st.n = m) (h : Le st l) (hc : RW E B all rest ⟨m, l⟩ K) : RW E B all rest st K := fun F a w hr => hc F a w (hr.le hm h)

theorem CW.loop {c : Code} (I : Nat → St → Prop) (n : Nat) (h0 : I n st) (round : ∀ n s, I n s → CW E B c s (QN (fun s' => ∃ m, m < n ∧ I m s') Q)) : CW E B (.loop c) st Q := by
  intro F a w hr
  refine wp_loop_ghost (fun n a w => ∃ s F, I n s ∧ Rel F B s a w) n ⟨st, F, h0, hr⟩ ?_
  intro n a w ⟨s, F, hI, hr⟩
  refine Code.wp_mono ?_ (round n s hI F a w hr)
  intro e a' w' ⟨st', F', hq, hr'⟩
  cases e with
  | normal =>
    obtain ⟨m, hm, hI'⟩ := hq
    exact ⟨m, hm, st', F', hI', hr'⟩
  | exit id => exact ⟨st', F', hq, hr'⟩
  | goto l => exact ⟨st', F', hq, hr'⟩
  | ret => exact ⟨st', F', hq, hr'⟩
  | panic ch => exact ⟨st', F', hq, hr'⟩
  | outgrown => exact ⟨st', F', hq, hr'⟩
theorem CW.mono {c : Code} {Q' : Exit → St → Prop} (h : CW E B c st Q) (hq : ∀ e s, Q e s → Q' e s) : CW E B c st Q' :=
  fun F a w hr => Code.wp_mono (fun e a' w' ⟨st', F', h1, h2⟩ => ⟨st', F', hq _ _ h1, h2⟩) (h F a w hr)
end

inductive C where
  | w (t : T)
  | r (t : T)
inductive A where
  | one (c : C)
  | agg (cs : List C)
  | ob (cs : List C)
  | gone
inductive R1 where
  | one (c : C)
  | agg (cs : List C)
  | ob (cs : List C)
inductive R where
  | one (r : R1)
  | tup (rs : List R1)

section
variable (F : Nat → Prop) (w : World)
def CR : C → Value → List Nat → Prop
  | .w t, x, bs => OT w t x bs
  | .r t, x, bs => RT F w t x ∧ bs = []
def CRs : List C → List Value → List Nat → Prop
  | [], cs, bs => cs = [] ∧ bs = []
  | t :: ts, cs, bs => ∃ c cs' b1 b2, cs = c :: cs' ∧ bs = b1 ++ b2 ∧ CR F w t c b1 ∧ CRs ts cs' b2
def AR : A → Value → List Nat → Prop
  | .one c, x, bs => CR F w c x bs
  | .agg ts, x, bs => ∃ cs : List Value, x = .agg cs.toArray ∧ CRs F w ts cs bs
  | .ob ts, x, bs => ∃ (b : Nat) (cs : List Value) (ty : TypeId) (bs' : List Nat), x = .pointer (some ⟨b, 0, none⟩) ∧ w.heap[b]? = some (.cells cs.toArray ty (0, 0)) ∧ bs = b :: bs' ∧ CRs F w ts cs bs'
  | .gone, _, bs => bs = []
def ARs : List A → List Value → List Nat → Prop
  | [], xs, bs => xs = [] ∧ bs = []
  | a :: as, xs, bs => ∃ x xs' b1 b2, xs = x :: xs' ∧ bs = b1 ++ b2 ∧ AR F w a x b1 ∧ ARs as xs' b2
def OR1 : R1 → Value → List Nat → Prop
  | .one t, x, bs => CR F w t x bs
  | .agg ts, x, bs => ∃ cs : List Value, x = .agg cs.toArray ∧ CRs F w ts cs bs
  | .ob ts, x, bs => ∃ (b : Nat) (cs : List Value) (ty : TypeId) (bs' : List Nat), x = .pointer (some ⟨b, 0, none⟩) ∧ w.heap[b]? = some (.cells cs.toArray ty (0, 0)) ∧ bs = b :: bs' ∧ CRs F w ts cs bs'
def ORs : List R1 → List Value → List Nat → Prop
  | [], cs, bs => cs = [] ∧ bs = []
  | r :: rs, cs, bs => ∃ c cs' b1 b2, cs = c :: cs' ∧ bs = b1 ++ b2 ∧ OR1 F w r c b1 ∧ ORs rs cs' b2
def OR : R → Value → List Nat → Prop
  | .one r, x, bs => OR1 F w r x bs
  | .tup rs, x, bs => ∃ cs : List Value, x = .tuple cs.toArray ∧ ORs F w rs cs bs
end

def Callable (P : Program) (f : FuncId) : Prop := ∃ fn, P.funcs[f]? = some fn ∧ (fn.name == "runtime.NumGoroutine") = false ∧ fn.body.isNone = false
def aft (G : Nat → Prop) (w w' : World) (bs cs : List Nat) (b : Nat) : Prop := (G b ∨ b ∈ bs ∨ w.heap.size ≤ b) ∧ b < w'.heap.size ∧ b ∉ cs
def Fn (P : Program) (f : FuncId) (args : List A) (res : R) (outs : List A) : Prop :=
  Callable P f ∧ ∀ (w : World) (vs : List Value) (bs : List Nat) (G : Nat → Prop), Tb P w bs → (∀ b, G b → b < w.heap.size ∧ b ∉ bs) → ARs G w args vs bs → bs.Nodup → (∀ b ∈ bs, b < w.heap.size) →
    Calls P f vs.toArray w fun e w' => ∃ x b1 b2, e = .returned x ∧ Stp w w' bs ∧ OR (aft G w w' bs (b1 ++ b2)) w' res x b1 ∧ ARs (aft G w w' bs (b1 ++ b2)) w' outs vs b2 ∧ (b1 ++ b2).Nodup ∧
      ∀ b ∈ b1 ++ b2, (b ∈ bs ∨ w.heap.size ≤ b) ∧ b < w'.heap.size
end Go.Eng
