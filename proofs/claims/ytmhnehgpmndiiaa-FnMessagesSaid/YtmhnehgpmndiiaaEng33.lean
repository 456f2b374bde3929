/- Bits, shifts, the least of three; pointers that are handed back. -/
import Derived.Test.YtmhnehgpmndiiaaEng32
namespace Go.Eng
open Go Go.RowKit
def andI (a b : Int) : Int := IntKind.i64.wrap ((BitVec.ofInt 64 a &&& BitVec.ofInt 64 b).toNat : Int)
def orI (a b : Int) : Int := IntKind.i64.wrap ((BitVec.ofInt 64 a ||| BitVec.ofInt 64 b).toNat : Int)
def xorI (a b : Int) : Int := IntKind.i64.wrap ((BitVec.ofInt 64 a ^^^ BitVec.ofInt 64 b).toNat : Int)
def shlI (a n : Int) : Int := IntKind.i64.wrap (a * 2 ^ (min n.toNat 64))
def shrI (a n : Int) : Int := a.fdiv (2 ^ (min n.toNat 64))
def bitI : BinOp → Int → Int → Option Int
  | .and, a, b => some (andI a b)
  | .or, a, b => some (orI a b)
  | .xor, a, b => some (xorI a b)
  | _, _, _ => none
section
variable {E : Env} {B : Base E.P} {st : St} {o : Oper}
theorem V.bits {pu : Bool} {op : BinOp} {t u : TypeId} {x y : Operand} {p q r : Int} (ho : o.op = .binOp op t x y u) (hx : ev st x = .r (.v (.int .i64 p))) (hy : ev st y = .r (.v (.int .i64 q)))
    (hc : bitI op p q = some r) : VP pu E B o st (.r (.v (.int .i64 r))) := fun F a w hr =>
  ⟨.int .i64 r, fun w' hs => by
    cases op <;> simp only [bitI, Option.some.injEq, reduceCtorEq] at hc <;> subst hc <;> simp [execOp, ho, ev_scalar hr hx, ev_scalar hr hy, eqGuard, binOp, Op.intBits, andI, orI, xorI] <;> rfl, by simp [DR, RT]⟩
theorem V.shl {pu : Bool} {t u : TypeId} {x y : Operand} {k : IntKind} {p q : Int} (ho : o.op = .binOp .shl t x y u) (hx : ev st x = .r (.v (.int .i64 p))) (hy : ev st y = .r (.v (.int k q)))
    (hn : 0 ≤ q) : VP pu E B o st (.r (.v (.int .i64 (shlI p q)))) := fun F a w hr =>
  ⟨.int .i64 (shlI p q), fun w' hs => by
    have h0 : ¬ q < 0 := by omega
    simp [execOp, ho, ev_scalar hr hx, ev_scalar hr hy, eqGuard, binOp, Op.shift, h0, shlI] <;> rfl, by simp [DR, RT]⟩
theorem V.shr {pu : Bool} {t u : TypeId} {x y : Operand} {k : IntKind} {p q : Int} (ho : o.op = .binOp .shr t x y u) (hx : ev st x = .r (.v (.int .i64 p))) (hy : ev st y = .r (.v (.int k q)))
    (hn : 0 ≤ q) : VP pu E B o st (.r (.v (.int .i64 (shrI p q)))) := fun F a w hr =>
  ⟨.int .i64 (shrI p q), fun w' hs => by
    have h0 : ¬ q < 0 := by omega
    simp [execOp, ho, ev_scalar hr hx, ev_scalar hr hy, eqGuard, binOp, Op.shift, h0, shrI] <;> rfl, by simp [DR, RT]⟩
theorem V.neg {pu : Bool} {t : TypeId} {x : Operand} {p : Int} (ho : o.op = .unOp .neg t x) (hx : ev st x = .r (.v (.int .i64 p))) : VP pu E B o st (.r (.v (.int .i64 (IntKind.i64.wrap (0 - p))))) := fun F a w hr =>
  ⟨.int .i64 (IntKind.i64.wrap (0 - p)), fun w' hs => by simp [execOp, ho, ev_scalar hr hx, Op.unary, Op.intArith], by simp [DR, RT]⟩
def mnI (p q : Int) : Int := if q < p then q else p
theorem V.min2I {pu : Bool} {t u : TypeId} {x y : Operand} {p q : Int} (ho : o.op = .call { callee := .builtin .min, args := #[x, y], argTypes := #[t, u] }) (hx : ev st x = .r (.v (.int .i64 p))) (hy : ev st y = .r (.v (.int .i64 q))) : VP pu E B o st (.r (.v (.int .i64 (mnI p q)))) := V.minI ho hx hy
theorem V.strSlice {pu : Bool} {t : TypeId} {x : Operand} {lo hi : Option Operand} {s : ByteArray} {l h : Int} (ho : o.op = .slice t x lo hi none) (ht : E.P.underlying t = some .string)
    (hx : ev st x = .r (.v (.string s))) (hlo : (lo = none ∧ l = 0) ∨ ∃ y k, lo = some y ∧ ev st y = .r (.v (.int k l))) (hhi : (hi = none ∧ h = s.size) ∨ ∃ y k, hi = some y ∧ ev st y = .r (.v (.int k h)))
    (hb : 0 ≤ l ∧ l ≤ h ∧ h ≤ s.size) : VP pu E B o st (.r (.v (.string (s.extract l.toNat h.toNat)))) := fun F a w hr => by
  obtain ⟨h0, h1, h2⟩ := hb
  have q1 : 0 ≤ h := by omega
  have q2 : (h.toNat : Int) = h := Int.toNat_of_nonneg q1
  refine ⟨.string (s.extract l.toNat h.toNat), fun w' hs => ?_, by simp [DR, RT]⟩
  rcases hhi with ⟨rfl, rfl⟩ | ⟨y, k, rfl, hy⟩ <;> rcases hlo with ⟨rfl, rfl⟩ | ⟨z, k', rfl, hz⟩
  · simp [execOp, ho, ev_scalar hr hx, Instr.sliceAt, run_underlying ht, Instr.slice, Sem.run_bind, Instr.sliceBounds]
  · simp [execOp, ho, ev_scalar hr hx, Instr.sliceAt, run_underlying ht, Instr.slice, Sem.run_bind, Instr.sliceBounds, ev_scalar hr hz, run_sliceBound w' k' l s.size .sliceB h0 (by omega)]
  · simp [execOp, ho, ev_scalar hr hx, Instr.sliceAt, run_underlying ht, Instr.slice, Sem.run_bind, Instr.sliceBounds, ev_scalar hr hy, run_sliceBound w' k h s.size .sliceAlen q1 (by omega)]
  · simp [execOp, ho, ev_scalar hr hx, Instr.sliceAt, run_underlying ht, Instr.slice, Sem.run_bind, Instr.sliceBounds, ev_scalar hr hy, ev_scalar hr hz, run_sliceBound w' k h s.size .sliceAlen q1 (by omega), run_sliceBound w' k' l h.toNat .sliceB h0 (by omega)]
end
section
variable {E : Env} {B : Base E.P} {st : St}
theorem Rel.pullP {F : Nat → Prop} {a : Act} {w : World} (hr : Rel F B st a w) {k l b : Nat} {ds : List D} (hkl : k ≠ l) (hk : Eng.gt st k = .pt l b 0) (hl : Eng.gt st l = .obj b ds) : Rel F B ((st.set k (.obj b ds)).set l .u) a w := by
  obtain ⟨bk, bl, p1, p2, p3, ⟨xk, q1, q2⟩, p5, p6⟩ := hr.two k l hkl (getD_eq hk (by simp))
  obtain ⟨xl, r1, r2⟩ := p5 _ (gt_some hl (by simp))
  rw [hk] at q2
  simp only [DR] at q2
  have hx : xk = xl := by
    simp only [DR] at r2
    obtain ⟨_, _, _, e, _⟩ := r2
    exact q2.1.trans e.symm
  refine p6 w (.obj b ds) .u a bl [] (Stp.refl _ _) rfl rfl (fun _ _ _ => rfl) ⟨xk, q1, by rw [hx]; exact r2⟩ (fun _ => ⟨xl, r1, by simp [DR]⟩) ?_ ?_
  · rw [List.append_nil]
    exact (List.nodup_append.1 p3).2.1
  · intro b hb
    rw [List.append_nil] at hb
    exact ⟨.inr (.inl hb), (p2 b hb).2⟩
theorem CW.pullP {c : Code} {Q : Exit → St → Prop} (k l : Nat) {b : Nat} {ds : List D} (hkl : k ≠ l) (hk : Eng.gt st k = .pt l b 0) (hl : Eng.gt st l = .obj b ds) (h : CW E B c ((st.set k (.obj b ds)).set l .u) Q) : CW E B c st Q :=
  fun F a w hr => h F a w (Rel.pullP hr hkl hk hl)
theorem RV.p {α : Type} {k b : Nat} {f : α → List C} {ds : List D} {e' e : α} (hk : gt st k = .obj b ds) (hd : DT ds (f e')) (h : e' = e) : RV E st (.tmp k) (.ob (f e)) := by
  subst h
  exact ⟨b, ds, hk, hd⟩
end
end Go.Eng
