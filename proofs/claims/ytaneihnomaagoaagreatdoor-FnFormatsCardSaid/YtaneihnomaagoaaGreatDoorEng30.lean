import Derived.Test.YtaneihnomaagoaaGreatDoorEng25
namespace Go.Eng
open Go Go.RowKit

section
variable {fc : Facts} {E : Env} {F : Nat → Prop} {B : Base E.P} {w : World} {o : Oper} {st : St} {K : St → Prop} {a : Act} {d : D} {all rest : List Oper} {Q : Exit → St → Prop} {n : Nat} {ls : Array Bool}
theorem RA.le {m : Nat} (l : List (Nat × D)) (hm : st.n = m) (h : Le st l) (hc : RA fc E B all n ls ⟨m, l⟩ K) : RA fc E B all n ls st K := fun F a w hr => hc F a w (hr.le hm h)
theorem RA.to {l : List Oper} (h : all = l) (hr : RA fc E B all n ls st K) : RA fc E B l n ls st K := h ▸ hr
theorem RA.of {l : List Oper} (h : all = l) (hr : RA fc E B l n ls st K) : RA fc E B all n ls st K := h ▸ hr
theorem RA.start {l : List Oper} {m : Nat} {ls' : Array Bool} (h1 : l.length = m) (h2 : Array.replicate l.length false = ls') (h : RA fc E B all m ls' st K) : RA fc E B all l.length (Array.replicate l.length false) st K := by
  subst h1 h2
  exact h
theorem CW.anyJ {α : Type} {id : Nat} {l : List Oper} {y : Code} (N : Nat) (L : α → List (Nat × D))
    (h : ∀ (all : List Oper), all = l → ∀ K : St → Prop, (∀ v s, s.n = N → Le s (L v) → K s) → RA fc E B all l.length (Array.replicate l.length false) st K)
    (h2 : ∀ v, CW E B y ⟨N, L v⟩ Q) : CW E B (.seq (.region id l.toArray true) y) st Q := by
  refine CW.seq (CW.any (h l rfl _ (fun v s hs hl => ?_)))
  exact CW.le (L v) hs hl (h2 v)
theorem CW.anyR {α : Type} {id : Nat} {l : List Oper} (N : Nat) (L : α → List (Nat × D))
    (h : ∀ (all : List Oper), all = l → ∀ K : St → Prop, (∀ v s, s.n = N → Le s (L v) → K s) → RA fc E B all l.length (Array.replicate l.length false) st K)
    (h2 : ∀ v, Q .normal ⟨N, L v⟩) : CW E B (.region id l.toArray true) st Q := by
  have h3 : CW E B (.region id l.toArray true) st (fun e s => ∃ v, e = .normal ∧ s.n = N ∧ Le s (L v)) :=
    CW.any (h l rfl _ (fun v s hs hl => ⟨v, rfl, hs, hl⟩))
  intro F a w hr
  refine Code.wp_mono (fun e a' w' => ?_) (h3 F a w hr)
  rintro ⟨st', F', ⟨v, rfl, hs, hl⟩, hr'⟩
  exact ⟨_, F', h2 v, hr'.le hs hl⟩
theorem V.dropS {pu : Bool} {α : Type} {t e : TypeId} {x y : Operand} {i ie : TyI} {c : α → List T} {l : List α} {m : Nat} {z : Int} (ho : o.op = .slice t x (some y) none none) (ht : E.tabs t = some i) (he : i.td = .slice e) (hte : E.tabs e = some ie)
    (hx : ev st x = .r (sl ie.sz c l)) (hy : ev st y = .r (.v (.int .i64 z))) (hz : z = (m : Int)) (hc : ∀ x, (c x).length = ie.sz) (hm : m ≤ l.length) : VP pu E B o st (.r (sl ie.sz c (l.drop m))) := by
  subst hz
  have h := V.sliceR (pu := pu) (B := B) (n := l.length) (l := (m : Int)) (h := (l.length : Int)) ho ht he hte hx (.inr ⟨y, .i64, rfl, hy⟩) (.inl ⟨rfl, rfl⟩) (by omega) (by omega) (by omega)
  have e1 : (l.length : Int).toNat - (m : Int).toNat = (l.drop m).length := by simp
  have e2 : ((l.flatMap c).drop ((m : Int).toNat * ie.sz)).take (((l.length : Int).toNat - (m : Int).toNat) * ie.sz) = (l.drop m).flatMap c := by
    rw [e1]
    simp only [Int.toNat_natCast]
    rw [flatMap_dropS hc, List.take_of_length_le (by rw [flatMap_len hc]; exact Nat.le_refl _)]
  rw [e2, e1] at h
  exact h
end
end Go.Eng

namespace Go.Eng
open Go Go.RowKit

section
variable {fc : Facts} {E : Env} {F : Nat → Prop} {B : Base E.P} {w : World} {o : Oper} {st : St} {K : St → Prop} {a : Act} {d : D} {all rest : List Oper} {Q : Exit → St → Prop} {fu : Nat} {ls : Array Bool}
theorem RA.pullT {k l b j sz n : Nat} {ds : List D} {ts : List T} {X : Value} (k' l' j0 : Nat) (h1 : k' = k) (h2 : l' = l) (h3 : j0 = j) (hkl : k ≠ l) (hk : gt st k = .obj b ds) (hj : ds[j]? = some (.al l none sz n X 0)) (hl : gt st l = .w (.a sz n ts) X)
    (h : RA fc E B all fu ls ((st.set k (.obj b (ds.set j (.w (.a sz n ts) X)))).set l .u) K) : RA fc E B all fu ls st K := fun F a w hr => h F a w (hr.pullT hkl hk hj hl)
theorem RA.pullO {k l b b' j j' sz n : Nat} {ds es : List D} {ts : List T} {X : Value} (k' l' j0 : Nat) (h1 : k' = k) (h2 : l' = l) (h3 : j0 = j) (hkl : k ≠ l) (hk : gt st k = .obj b ds) (hj : ds[j]? = some (.al l (some j') sz n X 0)) (hl : gt st l = .obj b' es)
    (hj' : es[j']? = some (.w (.a sz n ts) X)) (h : RA fc E B all fu ls ((st.set k (.obj b (ds.set j (.w (.a sz n ts) X)))).set l (.obj b' (es.set j' .u))) K) : RA fc E B all fu ls st K := fun F a w hr => h F a w (hr.pullO hkl hk hj hl hj')
theorem RA.pullA {k l b j j' sz n : Nat} {ds es : List D} {ts : List T} {X : Value} (k' l' j0 : Nat) (h1 : k' = k) (h2 : l' = l) (h3 : j0 = j) (hkl : k ≠ l) (hk : gt st k = .obj b ds) (hj : ds[j]? = some (.al l (some j') sz n X 0)) (hl : gt st l = .agg es)
    (hj' : es[j']? = some (.w (.a sz n ts) X)) (h : RA fc E B all fu ls ((st.set k (.obj b (ds.set j (.w (.a sz n ts) X)))).set l (.agg (es.set j' .u))) K) : RA fc E B all fu ls st K := fun F a w hr => h F a w (hr.pullA hkl hk hj hl hj')

theorem RA.takeO (k l j : Nat) {b sz n : Nat} {ds : List D} {ts : List T} {X : Value} (hkl : k ≠ l) (hk : Eng.gt st k = .al l (some j) sz n X 0) (hl : Eng.gt st l = .obj b ds) (hj : ds[j]? = some (.w (.a sz n ts) X))
    (h : RA fc E B all fu ls ((st.set k (.w (.a sz n ts) X)).set l (.obj b (ds.set j .u))) K) : RA fc E B all fu ls st K := fun F a w hr => h F a w (hr.takeO hkl hk hl hj)
theorem RA.nilOwn {α : Type} (k sz : Nat) (c : α → List T) (hk : Eng.gt st k = .r (.v (.slice none 0 0))) (h : RA fc E B all fu ls (st.set k (.w (sl sz c []) (.slice none 0 0))) K) : RA fc E B all fu ls st K := fun F a w hr => h F a w (hr.nilOwn k sz hk)
theorem RA.freezeB (k : Nat) {b : Nat} {ds : List D} {ts : List T} (hk : Eng.gt st k = .obj b ds) (hd : DRd ds ts) (h : RA fc E B all fu ls (st.set k (.rp ts)) K) : RA fc E B all fu ls st K := fun F a w hr => by
  obtain ⟨H, hr'⟩ := hr.freezeB hk hd
  exact h H a w hr'
theorem RA.freeze (k : Nat) {d d' : D} (hk : Eng.gt st k = d) (hd : frz d = d') (h : RA fc E B all fu ls (st.set k d') K) : RA fc E B all fu ls st K := fun F a w hr => by
  obtain ⟨H, hr'⟩ := hr.freeze k
  rw [hk, hd] at hr'
  exact h H a w hr'
theorem RA.pullS (k l : Nat) {sz n : Nat} {ts : List T} {X : Value} (hkl : k ≠ l) (hk : Eng.gt st k = .al l none sz n X 0) (hl : Eng.gt st l = .w (.a sz n ts) X)
    (h : RA fc E B all fu ls ((st.set k (.w (.a sz n ts) X)).set l .u) K) : RA fc E B all fu ls st K := fun F a w hr => h F a w (hr.pull hkl hk hl)
theorem RO.pullT {q : Nat} {k l b j sz n : Nat} {ds : List D} {ts : List T} {X : Value} (k' l' j0 : Nat) (h1 : k' = k) (h2 : l' = l) (h3 : j0 = j) (hkl : k ≠ l) (hk : gt st k = .obj b ds) (hj : ds[j]? = some (.al l none sz n X 0)) (hl : gt st l = .w (.a sz n ts) X)
    (h : RO fc E B all fu ls ((st.set k (.obj b (ds.set j (.w (.a sz n ts) X)))).set l .u) K q) : RO fc E B all fu ls st K q := by
  obtain ⟨o, g1, g2, g3⟩ := h
  exact ⟨o, g1, g2, fun F a w hr => g3 F a w (hr.pullT hkl hk hj hl)⟩
theorem RO.pullO {q : Nat} {k l b b' j j' sz n : Nat} {ds es : List D} {ts : List T} {X : Value} (k' l' j0 : Nat) (h1 : k' = k) (h2 : l' = l) (h3 : j0 = j) (hkl : k ≠ l) (hk : gt st k = .obj b ds) (hj : ds[j]? = some (.al l (some j') sz n X 0)) (hl : gt st l = .obj b' es)
    (hj' : es[j']? = some (.w (.a sz n ts) X)) (h : RO fc E B all fu ls ((st.set k (.obj b (ds.set j (.w (.a sz n ts) X)))).set l (.obj b' (es.set j' .u))) K q) : RO fc E B all fu ls st K q := by
  obtain ⟨o, g1, g2, g3⟩ := h
  exact ⟨o, g1, g2, fun F a w hr => g3 F a w (hr.pullO hkl hk hj hl hj')⟩
theorem RO.pullA {q : Nat} {k l b j j' sz n : Nat} {ds es : List D} {ts : List T} {X : Value} (k' l' j0 : Nat) (h1 : k' = k) (h2 : l' = l) (h3 : j0 = j) (hkl : k ≠ l) (hk : gt st k = .obj b ds) (hj : ds[j]? = some (.al l (some j') sz n X 0)) (hl : gt st l = .agg es)
    (hj' : es[j']? = some (.w (.a sz n ts) X)) (h : RO fc E B all fu ls ((st.set k (.obj b (ds.set j (.w (.a sz n ts) X)))).set l (.agg (es.set j' .u))) K q) : RO fc E B all fu ls st K q := by
  obtain ⟨o, g1, g2, g3⟩ := h
  exact ⟨o, g1, g2, fun F a w hr => g3 F a w (hr.pullA hkl hk hj hl hj')⟩
theorem RO.takeO {q : Nat} (k l j : Nat) {b sz n : Nat} {ds : List D} {ts : List T} {X : Value} (hkl : k ≠ l) (hk : Eng.gt st k = .al l (some j) sz n X 0) (hl : Eng.gt st l = .obj b ds) (hj : ds[j]? = some (.w (.a sz n ts) X))
    (h : RO fc E B all fu ls ((st.set k (.w (.a sz n ts) X)).set l (.obj b (ds.set j .u))) K q) : RO fc E B all fu ls st K q := by
  obtain ⟨o, h1, h2, h3⟩ := h
  exact ⟨o, h1, h2, fun F a w hr => h3 F a w (hr.takeO hkl hk hl hj)⟩
theorem RO.nilOwn {q : Nat} {α : Type} (k sz : Nat) (c : α → List T) (hk : Eng.gt st k = .r (.v (.slice none 0 0))) (h : RO fc E B all fu ls (st.set k (.w (sl sz c []) (.slice none 0 0))) K q) : RO fc E B all fu ls st K q := by
  obtain ⟨o, h1, h2, h3⟩ := h
  exact ⟨o, h1, h2, fun F a w hr => h3 F a w (hr.nilOwn k sz hk)⟩
theorem RO.freezeB {q : Nat} (k : Nat) {b : Nat} {ds : List D} {ts : List T} (hk : Eng.gt st k = .obj b ds) (hd : DRd ds ts) (h : RO fc E B all fu ls (st.set k (.rp ts)) K q) : RO fc E B all fu ls st K q := by
  obtain ⟨o, h1, h2, h3⟩ := h
  exact ⟨o, h1, h2, fun F a w hr => by
    obtain ⟨H, hr'⟩ := hr.freezeB hk hd
    exact h3 H a w hr'⟩
theorem RO.freeze {q : Nat} (k : Nat) {d d' : D} (hk : Eng.gt st k = d) (hd : frz d = d') (h : RO fc E B all fu ls (st.set k d') K q) : RO fc E B all fu ls st K q := by
  obtain ⟨o, h1, h2, h3⟩ := h
  exact ⟨o, h1, h2, fun F a w hr => by
    obtain ⟨H, hr'⟩ := hr.freeze k
    rw [hk, hd] at hr'
    exact h3 H a w hr'⟩
theorem RO.pullS {q : Nat} (k l : Nat) {sz n : Nat} {ts : List T} {X : Value} (hkl : k ≠ l) (hk : Eng.gt st k = .al l none sz n X 0) (hl : Eng.gt st l = .w (.a sz n ts) X)
    (h : RO fc E B all fu ls ((st.set k (.w (.a sz n ts) X)).set l .u) K q) : RO fc E B all fu ls st K q := by
  obtain ⟨o, h1, h2, h3⟩ := h
  exact ⟨o, h1, h2, fun F a w hr => h3 F a w (hr.pull hkl hk hl)⟩
end
end Go.Eng

namespace Go.Eng
open Go Go.RowKit

section
variable {fc : Facts} {E : Env} {F : Nat → Prop} {B : Base E.P} {w : World} {o : Oper} {st : St} {K : St → Prop} {a : Act} {d : D} {all rest : List Oper} {Q : Exit → St → Prop} {fu : Nat} {ls : Array Bool}
theorem Le.of {s : St} : ∀ {l : List (Nat × D)}, l.map (fun p => Eng.gt s p.1) = l.map Prod.snd → Le s l
  | [], _ => trivial
  | (k, d) :: l, h => by
    simp only [List.map_cons, List.cons.injEq] at h
    exact ⟨h.1, Le.of h.2⟩
theorem V.minI {pu : Bool} {t u : TypeId} {x y : Operand} {p q : Int} (ho : o.op = .call { callee := .builtin .min, args := #[x, y], argTypes := #[t, u] }) (hx : ev st x = .r (.v (.int .i64 p))) (hy : ev st y = .r (.v (.int .i64 q))) : VP pu E B o st (.r (.v (.int .i64 (if q < p then q else p)))) := fun F ac w hr =>
  ⟨.int .i64 (if q < p then q else p), fun w' hs => by
    simp [execOp, ho, resolve, invoke, builtin, ev_scalar hr hx, ev_scalar hr hy, Builtin.min_, Builtin.min2], by simp [DR, RT]⟩
end
section
variable {E : Env} {st : St} {g : Nat → Nat → Value} {bo : Nat → Nat} {as outs : List A}
theorem AOs.obE {α : Type} {f : α → List C} {i : Nat} {cs : List C} {ds : List D} {e' e : α} {as outs : List A} (hk : gt st i = .obj (bo i) ds) (hd : DT ds (f e')) (h : e' = e) (hs : AOs st g bo (i + 1) as outs) : AOs st g bo i (.ob cs :: as) (.ob (f e) :: outs) := by
  subst h
  exact AOs.ob (b := 0) hk hd hs
end
end Go.Eng

namespace Go.Eng
open Go Go.RowKit
def andI (a b : Int) : Int := IntKind.i64.wrap ((BitVec.ofInt 64 a &&& BitVec.ofInt 64 b).toNat : Int)
def orI (a b : Int) : Int := IntKind.i64.wrap ((BitVec.ofInt 64 a ||| BitVec.ofInt 64 b).toNat : Int)
def xorI (a b : Int) : Int := IntKind.i64.wrap ((BitVec.ofInt 64 a ^^^ BitVec.ofInt 64 b).toNat : Int)
def shlI (a n : Int) : Int := IntKind.i64.wrap (a * 2 ^ (min n.toNat 64))
def shrI (a n : Int) : Int := a.fdiv (2 ^ (min n.toNat 64))
def bitI : BinOp → Int → Int → Option Int
  | .and, a, b => some (andI a b)
  | .or, a, b => some (orI a b)
  | .xor, a, b => some (xorI a b)
  | _, _, _ => none
section
variable {E : Env} {B : Base E.P} {st : St} {o : Oper}
theorem V.bits {pu : Bool} {op : BinOp} {t u : TypeId} {x y : Operand} {p q r : Int} (ho : o.op = .binOp op t x y u) (hx : ev st x = .r (.v (.int .i64 p))) (hy : ev st y = .r (.v (.int .i64 q)))
    (hc : bitI op p q = some r) : VP pu E B o st (.r (.v (.int .i64 r))) := fun F a w hr =>
  ⟨.int .i64 r, fun w' hs => by
    cases op <;> simp only [bitI, Option.some.injEq, reduceCtorEq] at hc <;> subst hc <;> simp [execOp, ho, ev_scalar hr hx, ev_scalar hr hy, eqGuard, binOp, Op.intBits, andI, orI, xorI] <;> rfl, by simp [DR, RT]⟩
theorem V.shl {pu : Bool} {t u : TypeId} {x y : Operand} {k : IntKind} {p q : Int} (ho : o.op = .binOp .shl t x y u) (hx : ev st x = .r (.v (.int .i64 p))) (hy : ev st y = .r (.v (.int k q)))
    (hn : 0 ≤ q) : VP pu E B o st (.r (.v (.int .i64 (shlI p q)))) := fun F a w hr =>
  ⟨.int .i64 (shlI p q), fun w' hs => by
    have h0 : ¬ q < 0 := by omega
    simp [execOp, ho, ev_scalar hr hx, ev_scalar hr hy, eqGuard, binOp, Op.shift, h0, shlI] <;> rfl, by simp [DR, RT]⟩
theorem V.shr {pu : Bool} {t u : TypeId} {x y : Operand} {k : IntKind} {p q : Int} (ho : o.op = .binOp .shr t x y u) (hx : ev st x = .r (.v (.int .i64 p))) (hy : ev st y = .r (.v (.int k q)))
    (hn : 0 ≤ q) : VP pu E B o st (.r (.v (.int .i64 (shrI p q)))) := fun F a w hr =>
  ⟨.int .i64 (shrI p q), fun w' hs => by
    have h0 : ¬ q < 0 := by omega
    simp [execOp, ho, ev_scalar hr hx, ev_scalar hr hy, eqGuard, binOp, Op.shift, h0, shrI] <;> rfl, by simp [DR, RT]⟩
theorem V.neg {pu : Bool} {t : TypeId} {x : Operand} {p : Int} (ho : o.op = .unOp .neg t x) (hx : ev st x = .r (.v (.int .i64 p))) : VP pu E B o st (.r (.v (.int .i64 (IntKind.i64.wrap (0 - p))))) := fun F a w hr =>
  ⟨.int .i64 (IntKind.i64.wrap (0 - p)), fun w' hs => by simp [execOp, ho, ev_scalar hr hx, Op.unary, Op.intArith], by simp [DR, RT]⟩
def mnI (p q : Int) : Int := if q < p then q else p
theorem V.min2I {pu : Bool} {t u : TypeId} {x y : Operand} {p q : Int} (ho : o.op = .call { callee := .builtin .min, args := #[x, y], argTypes := #[t, u] }) (hx : ev st x = .r (.v (.int .i64 p))) (hy : ev st y = .r (.v (.int .i64 q))) : VP pu E B o st (.r (.v (.int .i64 (mnI p q)))) := V.minI ho hx hy
theorem V.strSlice {pu : Bool} {t : TypeId} {x : Operand} {lo hi : Option Operand} {s : ByteArray} {l h : Int} (ho : o.op = .slice t x lo hi none) (ht : E.P.underlying t = some .string)
    (hx : ev st x = .r (.v (.string s))) (hlo : (lo = none ∧ l = 0) ∨ ∃ y k, lo = some y ∧ ev st y = .r (.v (.int k l))) (hhi : (hi = none ∧ h = s.size) ∨ ∃ y k, hi = some y ∧ ev st y = .r (.v (.int k h)))
    (hb : 0 ≤ l ∧ l ≤ h ∧ h ≤ s.size) : VP pu E B o st (.r (.v (.string (s.extract l.toNat h.toNat)))) := fun F a w hr => by
  obtain ⟨h0, h1, h2⟩ := hb
  have q1 : 0 ≤ h := by omega
  have q2 : (h.toNat : Int) = h := Int.toNat_of_nonneg q1
  refine ⟨.string (s.extract l.toNat h.toNat), fun w' hs => ?_, by simp [DR, RT]⟩
  rcases hhi with ⟨rfl, rfl⟩ | ⟨y, k, rfl, hy⟩ <;> rcases hlo with ⟨rfl, rfl⟩ | ⟨z, k', rfl, hz⟩
  · simp [execOp, ho, ev_scalar hr hx, Instr.sliceAt, run_underlying ht, Instr.slice, Sem.run_bind, Instr.sliceBounds]
  · simp [execOp, ho, ev_scalar hr hx, Instr.sliceAt, run_underlying ht, Instr.slice, Sem.run_bind, Instr.sliceBounds, ev_scalar hr hz, run_sliceBound w' k' l s.size .sliceB h0 (by omega)]
  · simp [execOp, ho, ev_scalar hr hx, Instr.sliceAt, run_underlying ht, Instr.slice, Sem.run_bind, Instr.sliceBounds, ev_scalar hr hy, run_sliceBound w' k h s.size .sliceAlen q1 (by omega)]
  · simp [execOp, ho, ev_scalar hr hx, Instr.sliceAt, run_underlying ht, Instr.slice, Sem.run_bind, Instr.sliceBounds, ev_scalar hr hy, ev_scalar hr hz, run_sliceBound w' k h s.size .sliceAlen q1 (by omega), run_sliceBound w' k' l h.toNat .sliceB h0 (by omega)]
end
section
variable {E : Env} {B : Base E.P} {st : St}
theorem Rel.pullP {F : Nat → Prop} {a : Act} {w : World} (hr : Rel F B st a w) {k l b : Nat} {ds : List D} (hkl : k ≠ l) (hk : Eng.gt st k = .pt l b 0) (hl : Eng.gt st l = .obj b ds) : Rel F B ((st.set k (.obj b ds)).set l .u) a w := by
  obtain ⟨bk, bl, p1, p2, p3, ⟨xk, q1, q2⟩, p5, p6⟩ := hr.two k l hkl (getD_eq hk (by simp))
  obtain ⟨xl, r1, r2⟩ := p5 _ (gt_some hl (by simp))
  rw [hk] at q2
  simp only [DR] at q2
  have hx : xk = xl := by
    simp only [DR] at r2
    obtain ⟨_, _, _, e, _⟩ := r2
    exact q2.1.trans e.symm
  refine p6 w (.obj b ds) .u a bl [] (Stp.refl _ _) rfl rfl (fun _ _ _ => rfl) ⟨xk, q1, by rw [hx]; exact r2⟩ (fun _ => ⟨xl, r1, by simp [DR]⟩) ?_ ?_
  · rw [List.append_nil]
    exact (List.nodup_append.1 p3).2.1
  · intro b hb
    rw [List.append_nil] at hb
    exact ⟨.inr (.inl hb), (p2 b hb).2⟩
theorem CW.pullP {c : Code} {Q : Exit → St → Prop} (k l : Nat) {b : Nat} {ds : List D} (hkl : k ≠ l) (hk : Eng.gt st k = .pt l b 0) (hl : Eng.gt st l = .obj b ds) (h : CW E B c ((st.set k (.obj b ds)).set l .u) Q) : CW E B c st Q :=
  fun F a w hr => h F a w (Rel.pullP hr hkl hk hl)
theorem RV.p {α : Type} {k b : Nat} {f : α → List C} {ds : List D} {e' e : α} (hk : gt st k = .obj b ds) (hd : DT ds (f e')) (h : e' = e) : RV E st (.tmp k) (.ob (f e)) := by
  subst h
  exact ⟨b, ds, hk, hd⟩
end
end Go.Eng

namespace Go.Eng
open Go Go.RowKit
section
variable {fc : Facts} {E : Env} {B : Base E.P} {o : Oper} {st : St}
theorem VF.loadPrim {m : Nat} {t : TypeId} {x : Operand} {i : TyI} {k b off : Nat} {ds : List D} {d : D} {xs : List Value} (hm : fc[m]? = some (k, b, xs)) (ho : o.op = .load t x) (ht : E.tabs t = some i) (hf : i.td = .prim ∨ ∃ e, i.td = .slice e)
    (hx : ev st x = .pt k b off) (hk : gt st k = .obj b ds) (hd : dvals ds = some xs) (hl : (cpyL k 0 ds)[off]? = some d) : VF fc E B o st d := fun F a w hr => by
  obtain ⟨cs, ty, bs, h1, h2⟩ := hr.obj hk
  obtain ⟨c, hc, hdr⟩ := DLs_get (DLs_cpyL k ds 0 cs bs h2) hl
  refine ⟨c, fun w' hs => ?_, hdr⟩
  obtain ⟨ty', h3⟩ := hs _ (List.mem_of_getElem? hm)
  have h1' : w'.heap[b]? = some (.cells cs.toArray ty' (0, 0)) := by rw [h3, dvals_eq hd h2]
  have hcell : w'.cell? ⟨b, off, none⟩ = some c := by
    simp only [World.cell?, h1', Option.isSome_none, Bool.false_eq_true, if_false]
    simpa using hc
  simp [execOp, ho, ev_pt hr hx, Instr.loadAt, Instr.sureAddr, loadVar, Sem.run_bind, tyI_notAgg (E.ok _ _ ht) hf, hcell]
theorem VF.loadAgg {m : Nat} {t : TypeId} {x : Operand} {i : TyI} {fs : List (Nat × Nat × Nat)} {k b off : Nat} {ds : List D} {xs : List Value} (hm : fc[m]? = some (k, b, xs)) (ho : o.op = .load t x) (ht : E.tabs t = some i) (hf : i.td = .agg fs)
    (hx : ev st x = .pt k b off) (hk : gt st k = .obj b ds) (hdv : dvals ds = some xs) (hl : off + i.sz ≤ ds.length) : VF fc E B o st (.agg (((cpyL k 0 ds).drop off).take i.sz)) := fun F a w hr => by
  obtain ⟨cs, ty, bs, h1, h2⟩ := hr.obj hk
  have hlen := DLs_length h2
  have hd := DLs_take i.sz (DLs_drop off (DLs_cpyL k ds 0 cs bs h2))
  have hT := E.ok _ _ ht
  obtain ⟨j, d, z, t1, t2, t3, t4, t5, t6, t7⟩ := tyI_spec hT
  have hrow : d.isRow = true := by
    rw [hf] at t7
    cases d <;> simp [tdOf] at t7 <;> rfl
  have hsz : (E.P.info? t).map (·.size) = some ((cs.drop off).take i.sz).length := by
    rw [tyI_size hT]
    simp only [List.length_take, List.length_drop]
    congr 1
    omega
  refine ⟨.agg ((cs.drop off).take i.sz).toArray, fun w' hs => ?_, ?_⟩
  · obtain ⟨ty', h3⟩ := hs _ (List.mem_of_getElem? hm)
    have h1' : w'.heap[b]? = some (.cells cs.toArray ty' (0, 0)) := by rw [h3, dvals_eq hdv h2]
    simp [execOp, ho, ev_pt hr hx, Sem.run_bind, run_loadAt_mid w' b off t _ d (rangeAt_take (rangeAt_of_block h1' off) i.sz) t2 hrow hsz]
  · simp only [DR]
    exact ⟨_, rfl, hd⟩
end
end Go.Eng
