import Derived.Test.YtaeagpakloggfaaDoorEng13
import Derived.Laws.StructEq
namespace Go.Eng
open Go Go.RowKit

def cI (n : Int) : List T := [.v (.int .i64 n)]
theorem cI.len (n : Int) : (cI n).length = 1 := rfl
def cB (n : Bool) : List T := [.v (.bool n)]
theorem cB.len (n : Bool) : (cB n).length = 1 := rfl
def cS (n : ByteArray) : List T := [.v (.string n)]
theorem cS.len (n : ByteArray) : (cS n).length = 1 := rfl

section
variable {E : Env} {F : Nat → Prop} {B : Base E.P} {w : World} {o : Oper} {st : St} {K : St → Prop} {a : Act} {d : D} {Q : Exit → St → Prop} {all rest : List Oper}
theorem V.sliceR {pu : Bool} {t e : TypeId} {x : Operand} {lo hi : Option Operand} {i ie : TyI} {n : Nat} {ts : List T} {l h : Int} (ho : o.op = .slice t x lo hi none) (ht : E.tabs t = some i) (he : i.td = .slice e) (hte : E.tabs e = some ie)
    (hx : ev st x = .r (.a ie.sz n ts)) (hlo : (lo = none ∧ l = 0) ∨ ∃ y k, lo = some y ∧ ev st y = .r (.v (.int k l))) (hhi : (hi = none ∧ h = n) ∨ ∃ y k, hi = some y ∧ ev st y = .r (.v (.int k h)))
    (h0 : 0 ≤ l) (h1 : l ≤ h) (h2 : h ≤ n) : VP pu E B o st (.r (.a ie.sz (h.toNat - l.toNat) ((ts.drop (l.toNat * ie.sz)).take ((h.toNat - l.toNat) * ie.sz)))) := fun F a w hr => by
    have hx' := hr.ev x
    rw [hx] at hx'
    simp only [DR] at hx'
    have hu := tyI_slice (E.ok _ _ ht) he
    have hel : E.P.elem t = e := by simp [Program.elem, hu]
    have hsz := fun w => tyI_sizeOf (E.ok _ _ hte) w
    have hb : ∀ (cap : Nat) (w : World), n ≤ cap → (Instr.sliceBounds true n cap (lo.map a.eval) (hi.map a.eval) none).run E.P w = .ok (l.toNat, h.toNat, cap) w := by
      intro cap w hc
      have q1 : 0 ≤ h := by omega
      have q2 : (h.toNat : Int) = h := Int.toNat_of_nonneg q1
      rcases hhi with ⟨rfl, rfl⟩ | ⟨y, k, rfl, hy⟩ <;> rcases hlo with ⟨rfl, rfl⟩ | ⟨z, k', rfl, hz⟩
      · simp [Instr.sliceBounds]
      · simp [Instr.sliceBounds, ev_scalar hr hz, run_sliceBound w k' l n .sliceB h0 (by omega)]
      · simp [Instr.sliceBounds, ev_scalar hr hy, run_sliceBound w k h cap .sliceAcap q1 (by omega)]
      · simp [Instr.sliceBounds, ev_scalar hr hy, ev_scalar hr hz, run_sliceBound w k h cap .sliceAcap q1 (by omega), run_sliceBound w k' l h.toNat .sliceB h0 (by omega)]
    have hrt := hx'.1
    simp only [RT] at hrt
    rcases hrt with ⟨A, C, g1, rfl, rfl⟩ | ⟨b, of, cap, g1, g2, g3, g4, g5, g6⟩
    · have : l = 0 ∧ h = 0 := by omega
      obtain ⟨rfl, rfl⟩ := this
      refine ⟨.slice (if C = 0 then A else A.map (·.add 0)) 0 C, fun w' hs => ?_, by simp [DR, RT]⟩
      simp [execOp, ho, g1, Instr.sliceAt, run_underlying hu, Instr.slice, Sem.run_bind, hb C w' (by omega), hsz]
    · have q3 : l.toNat ≤ h.toNat := by omega
      have q4 : h.toNat ≤ n := by omega
      have hlen : ((ts.drop (l.toNat * ie.sz)).take ((h.toNat - l.toNat) * ie.sz)).length = (h.toNat - l.toNat) * ie.sz := by
        simp only [List.length_take, List.length_drop, g5]
        rw [← Nat.sub_mul]
        exact Nat.min_eq_left (Nat.mul_le_mul_right _ (by omega))
      refine ⟨.slice (some ⟨b, if cap = l.toNat then of else of + l.toNat * ie.sz, none⟩) (h.toNat - l.toNat) (cap - l.toNat), fun w' hs => ?_, ?_⟩
      · simp [execOp, ho, g1, Instr.sliceAt, run_underlying hu, Instr.slice, Sem.run_bind, hb cap w' g2, hsz]
        split <;> simp [Addr.add_mid]
      · simp only [DR, RT]
        refine ⟨.inr ⟨b, _, _, rfl, by omega, by omega, g4, hlen, ?_⟩, trivial⟩
        by_cases hc : cap = l.toNat
        · have : h.toNat - l.toNat = 0 := by omega
          rw [this]
          simp [RL]
        · rw [if_neg hc]
          exact RL_take _ (RL_drop _ (by rw [g5]; exact Nat.mul_le_mul_right _ (by omega)) g6)
theorem V.takeS {pu : Bool} {α : Type} {t e : TypeId} {x y : Operand} {i ie : TyI} {c : α → List T} {l : List α} {m : Nat} (ho : o.op = .slice t x none (some y) none) (ht : E.tabs t = some i) (he : i.td = .slice e) (hte : E.tabs e = some ie)
    (hx : ev st x = .r (sl ie.sz c l)) (hy : ev st y = .r (.v (.int .i64 (m : Int)))) (hc : ∀ x, (c x).length = ie.sz) (hm : m ≤ l.length) : VP pu E B o st (.r (sl ie.sz c (l.take m))) := by
  have h := V.sliceR (pu := pu) (B := B) (l := 0) (h := (m : Int)) ho ht he hte hx (.inl ⟨rfl, rfl⟩) (.inr ⟨_, _, rfl, hy⟩) (Int.le_refl _) (by omega) (by omega)
  have e1 : T.a ie.sz ((m : Int).toNat - (0 : Int).toNat) (((l.flatMap c).drop ((0 : Int).toNat * ie.sz)).take (((m : Int).toNat - (0 : Int).toNat) * ie.sz)) = sl ie.sz c (l.take m) := by
    simp only [Int.toNat_natCast, Int.toNat_zero, Nat.zero_mul, List.drop_zero, Nat.sub_zero, flatMap_take hc, sl, List.length_take, Nat.min_eq_left hm]
  rw [e1] at h
  exact h

variable {P : Program} {n : Nat} {xs ys : Array Value} {f : Field} {fs : List Field} {p q : Value} {r s : Bool}
theorem eqF_last (hn : (f.name == "_") = false) (ha : (part f.type xs f.offset).run P w = .ok p w) (hb : (part f.type ys f.offset).run P w = .ok q w) (he : (Op.equalIn n f.type p q).run P w = .ok r w) : (Op.eqFields n xs ys [f]).run P w = .ok r w := by
  have hn' : f.name ≠ "_" := by simpa using hn
  simp only [Op.eqFields, if_pos hn', Sem.run_bind, ha, hb, he, Result.andThen_ok]
  cases r <;> simp
theorem eqF_cons (hn : (f.name == "_") = false) (ha : (part f.type xs f.offset).run P w = .ok p w) (hb : (part f.type ys f.offset).run P w = .ok q w) (he : (Op.equalIn n f.type p q).run P w = .ok r w) (hr : (Op.eqFields n xs ys fs).run P w = .ok s w) : (Op.eqFields n xs ys (f :: fs)).run P w = .ok (r && s) w := by
  have hn' : f.name ≠ "_" := by simpa using hn
  rw [Op.eqFields]
  simp only [if_pos hn', Sem.run_bind, ha, hb, he, Result.andThen_ok]
  cases r
  · simp
  · simpa using hr
theorem eqA_of {t : TypeId} {fs : Array Field} (hu : P.underlying t = some (.struct fs)) (hp : P.stoodInHeld t = false) (h : (Op.eqFields n xs ys fs.toList).run P w = .ok r w) : (Op.equalIn (n + 1) t (.agg xs) (.agg ys)).run P w = .ok r w := by
  have hf : P.fieldsOf t = fs := by simp [Program.fieldsOf, hu]
  rw [run_equalIn_struct (P := P) w n t xs ys (by rw [hf]; exact hu) hp, hf]
  exact h
end
end Go.Eng
