import Derived.Test.YtaneihnomaagoaaGreatDoorEng12
import Derived.Laws.StructEq
namespace Go.Eng
open Go Go.RowKit

abbrev I (n : Int) : D := .r (.v (.int .i64 n))
abbrev Bo (b : Bool) : D := .r (.v (.bool b))
abbrev S (s : ByteArray) : D := .r (.v (.string s))
def sl {α : Type} (sz : Nat) (c : α → List T) (l : List α) : T := .a sz l.length (l.flatMap c)
abbrev wI (n : Int) : R := .one (.one (.w (.v (.int .i64 n))))
abbrev wB (b : Bool) : R := .one (.one (.w (.v (.bool b))))

def lk {α : Type} : List (Nat × α) → Nat → Option α
  | [], _ => none
  | (a, b) :: l, t => bif Nat.beq a t then some b else lk l t
theorem lk_mem {α : Type} : ∀ (l : List (Nat × α)) (t : Nat) (i : α), lk l t = some i → (t, i) ∈ l
  | [], t, i, h => by simp [lk] at h
  | (a, b) :: l, t, i, h => by
    simp only [lk] at h
    cases hb : Nat.beq a t with
    | true =>
      rw [hb] at h
      simp at h
      have := Nat.eq_of_beq_eq_true hb
      subst this
      simp [h]
    | false =>
      rw [hb] at h
      exact List.mem_cons_of_mem _ (lk_mem l t i h)

section
variable {E : Env} {F : Nat → Prop} {B : Base E.P} {w : World} {o : Oper} {st : St} {K : St → Prop} {a : Act} {d : D} {Q : Exit → St → Prop} {all rest : List Oper}
theorem Le.e {s : St} : Le s [] := trivial
theorem Le.c {s : St} {k : Nat} {d : D} {r : List (Nat × D)} (h : gt s k = d) (hr : Le s r) : Le s ((k, d) :: r) := ⟨h, hr⟩
theorem RW.v (hg : o.guard = none) (hv : V E B o st d) (h : RW E B all rest (setD st o.dst d) K) : RW E B all (o :: rest) st K := RW.cons hg (OK.ofV hv h)
theorem RQ.v (hg : o.guard = none) (hv : V E B o st d) (h : RQ E B all rest (setD st o.dst d) K) : RQ E B all (o :: rest) st K := RQ.cons hg (QOK.val hv h)
theorem V.mv {pu : Bool} {x : Operand} (ho : o.op = .move x) (hx : ev st x = d) : VP pu E B o st d := hx ▸ V.move ho
theorem V.as {pu : Bool} {x : Operand} (ho : o.op = .assign x) (hx : ev st x = d) : VP pu E B o st d := hx ▸ V.assign ho
theorem V.lenStr {pu : Bool} {t : TypeId} {x : Operand} {s : ByteArray} (ho : o.op = .call { callee := .builtin .len, args := #[x], argTypes := #[t] }) (ht : E.P.underlying t = some .string)
    (hx : ev st x = .r (.v (.string s))) : VP pu E B o st (.r (.v (.int .i64 s.size))) := fun F ac w hr =>
  ⟨.int .i64 s.size, fun w' hs => by
    simp [execOp, ho, resolve, invoke, builtin, ev_scalar hr hx, Builtin.len_, run_underlying ht, goInt], by simp [DR, RT]⟩
theorem RL_prefix {F : Nat → Prop} {w : World} : ∀ {ts us : List T} {b o : Nat}, RL F w (ts ++ us) b o → RL F w ts b o
  | [], _, _, _, _ => by simp [RL]
  | t :: ts, us, b, o, h => by
    simp only [List.cons_append, RL] at h ⊢
    exact ⟨h.1, RL_prefix h.2⟩
theorem flatMap_drop {α : Type} {sz : Nat} {c : α → List T} (hc : ∀ x, (c x).length = sz) : ∀ (l : List α) (i : Nat) (e : α), l[i]? = some e → ∃ us, (l.flatMap c).drop (i * sz) = c e ++ us
  | [], _, _, h => by simp at h
  | x :: l, 0, e, h => by simp at h; subst h; exact ⟨l.flatMap c, by simp⟩
  | x :: l, i + 1, e, h => by
    obtain ⟨us, hu⟩ := flatMap_drop hc l i e (by simpa using h)
    refine ⟨us, ?_⟩
    have h1 : ((c x).drop ((i + 1) * sz)) = [] := List.drop_eq_nil_of_le (by rw [hc x, Nat.succ_mul]; omega)
    rw [List.flatMap_cons, List.drop_append, h1, List.nil_append, hc x, Nat.succ_mul, Nat.add_sub_cancel, hu]
theorem flatMap_len {α : Type} {sz : Nat} {c : α → List T} (hc : ∀ x, (c x).length = sz) : ∀ (l : List α), (l.flatMap c).length = l.length * sz
  | [] => by simp
  | x :: l => by rw [List.flatMap_cons, List.length_append, hc, flatMap_len hc l, List.length_cons, Nat.succ_mul]; omega
theorem flatMap_take {α : Type} {sz : Nat} {c : α → List T} (hc : ∀ x, (c x).length = sz) : ∀ (l : List α) (i : Nat), (l.flatMap c).take (i * sz) = (l.take i).flatMap c
  | _, 0 => by simp
  | [], _ => by simp
  | x :: l, i + 1 => by
    rw [List.flatMap_cons, List.take_succ_cons, List.flatMap_cons, Nat.succ_mul, ← flatMap_take hc l i, Nat.add_comm (i * sz) sz, ← hc x, List.take_length_add_append]
theorem flatMap_dropS {α : Type} {sz : Nat} {c : α → List T} (hc : ∀ x, (c x).length = sz) : ∀ (l : List α) (i : Nat), (l.flatMap c).drop (i * sz) = (l.drop i).flatMap c
  | _, 0 => by simp
  | [], _ => by simp
  | x :: l, i + 1 => by
    rw [List.flatMap_cons, List.drop_succ_cons, Nat.succ_mul, ← flatMap_dropS hc l i, Nat.add_comm (i * sz) sz, ← hc x, List.drop_length_add_append]
theorem V.indexS {pu : Bool} {α : Type} {t e : TypeId} {x y : Operand} {i ie : TyI} {c : α → List T} {l : List α} {m : Nat} {v : α} (ho : o.op = .indexAddr t x y) (ht : E.tabs t = some i) (he : i.td = .slice e) (hte : E.tabs e = some ie)
    (hx : ev st x = .r (sl ie.sz c l)) (hy : ev st y = .r (.v (.int .i64 (m : Int)))) (hc : ∀ x, (c x).length = ie.sz) (hv : l[m]? = some v) : VP pu E B o st (.rp (c v)) := by
  have hm : m < l.length := (List.getElem?_eq_some_iff.1 hv).1
  intro F a w hr
  obtain ⟨p, h1, h2⟩ := V.indexR (B := B) ho ht he hte hx hy (by omega) (by omega) F a w hr
  refine ⟨p, h1, ?_⟩
  obtain ⟨us, hu⟩ := flatMap_drop hc l m v hv
  simp only [Int.toNat_natCast, hu, DR] at h2 ⊢
  obtain ⟨⟨b, of, g1, g2, g3⟩, g4⟩ := h2
  exact ⟨⟨b, of, g1, g2, RL_prefix g3⟩, g4⟩
theorem CW.bound {c : Code} {x : Operand} {sz n : Nat} {ts : List T} (hx : AsT st true none (ev st x) (.a sz n ts)) (h : n ≤ maxLen → CW E B c st Q) : CW E B c st Q := by
  intro F a w hr
  refine h ?_ F a w hr
  have hx' := hx.readAll hr
  simp only [RT] at hx'
  rcases hx' with ⟨_, _, _, h2, _⟩ | ⟨b, o, cap, _, h2, h3, _⟩
  · omega
  · omega
theorem CW.loopI {α : Type} {c : Code} (N : Nat) (L : α → List (Nat × D)) (P : α → Prop) (μ : α → Nat) (x0 : α) (hN : st.n = N) (hL : Le st (L x0)) (h0 : P x0)
    (round : ∀ x, P x → CW E B c ⟨N, L x⟩ (QN (fun s' => ∃ y, μ y < μ x ∧ P y ∧ s'.n = N ∧ Le s' (L y)) Q)) : CW E B (.loop c) st Q := by
  refine CW.loop (fun n s => ∃ x, n = μ x ∧ P x ∧ s.n = N ∧ Le s (L x)) (μ x0) ⟨x0, rfl, h0, hN, hL⟩ ?_
  rintro n s ⟨x, rfl, hP, hn, hl⟩
  refine CW.le (L x) hn hl (CW.mono (round x hP) ?_)
  intro e s' hq
  cases e with
  | normal =>
    obtain ⟨y, h1, h2, h3, h4⟩ := hq
    exact ⟨μ y, h1, y, rfl, h2, h3, h4⟩
  | exit id => exact hq
  | goto l => exact hq
  | ret => exact hq
  | panic ch => exact hq
  | outgrown => exact hq
theorem CW.seqJ {α : Type} {x y : Code} (N : Nat) (L : α → List (Nat × D)) (P : α → Prop) (h : CW E B x st (QN (fun s => ∃ v, P v ∧ s.n = N ∧ Le s (L v)) Q)) (h2 : ∀ v, P v → CW E B y ⟨N, L v⟩ Q) : CW E B (.seq x y) st Q := by
  refine CW.seq (CW.mono h ?_)
  intro e s hq
  cases e with
  | normal =>
    obtain ⟨v, h3, h4, h5⟩ := hq
    exact CW.le (L v) h4 h5 (h2 v h3)
  | exit id => exact hq
  | goto l => exact hq
  | ret => exact hq
  | panic ch => exact hq
  | outgrown => exact hq
theorem wrap_nat {n : Nat} (h : n ≤ maxLen) : IntKind.i64.wrap (n : Int) = n := by
  rw [IntKind.wrap_i64]
  simp only [maxLen] at h
  omega
theorem V.dec {pu : Bool} {t u : TypeId} {x y : Operand} {m : Nat} (ho : o.op = .binOp .sub t x y u) (hx : ev st x = .r (.v (.int .i64 (m : Int)))) (hy : ev st y = .r (.v (.int .i64 1))) (hm : 0 < m) (hn : m ≤ maxLen) :
    VP pu E B o st (.r (.v (.int .i64 ((m - 1 : Nat) : Int)))) := V.arInt ho hx hy (by
  have := wrap_nat (n := m - 1) (by omega)
  simp only [Eng.arInt]
  rw [show (m : Int) - 1 = ((m - 1 : Nat) : Int) from by omega, this])
theorem getD_some {α : Type} {l : List α} {j : Nat} {z : α} (h : j < l.length) : l[j]? = some (l.getD j z) := by
  simp [List.getElem?_eq_getElem h, List.getD_eq_getElem?_getD]
theorem V.inc {pu : Bool} {t u : TypeId} {x y : Operand} {m n : Nat} (ho : o.op = .binOp .add t x y u) (hx : ev st x = .r (.v (.int .i64 (m : Int)))) (hy : ev st y = .r (.v (.int .i64 1))) (hm : m < n) (hn : n ≤ maxLen) :
    VP pu E B o st (.r (.v (.int .i64 ((m + 1 : Nat) : Int)))) := V.arInt ho hx hy (by
  have := wrap_nat (n := m + 1) (by omega)
  simp only [Eng.arInt]
  rw [show (m : Int) + 1 = ((m + 1 : Nat) : Int) from by omega, this])
theorem drop_get {α : Type} {l : List α} {i : Nat} {e : α} (h : l[i]? = some e) : l.drop i = e :: l.drop (i + 1) := by
  obtain ⟨h1, h2⟩ := List.getElem?_eq_some_iff.1 h
  rw [List.drop_eq_getElem_cons h1, h2]
theorem V.pickT {pu : Bool} {c x y : Operand} (ho : o.op = .pick c x y) (hc : ev st c = Bo true) (hx : ev st x = d) : VP pu E B o st d := by
  have := V.pickD (pu := pu) (E := E) (B := B) ho hc
  rw [if_pos rfl, hx] at this
  exact this
theorem V.pickF {pu : Bool} {c x y : Operand} (ho : o.op = .pick c x y) (hc : ev st c = Bo false) (hy : ev st y = d) : VP pu E B o st d := by
  have := V.pickD (pu := pu) (E := E) (B := B) ho hc
  rw [if_neg (by simp), hy] at this
  exact this
theorem V.indexW {pu : Bool} {α : Type} {t e : TypeId} {x y : Operand} {i ie : TyI} {k : Nat} {c : α → List T} {l : List α} {m : Nat} {X : Value} (ho : o.op = .indexAddr t x y) (ht : E.tabs t = some i) (he : i.td = .slice e) (hte : E.tabs e = some ie)
    (hx : ev st x = .al k none ie.sz l.length X 0) (hk : gt st k = .w (sl ie.sz c l) X) (hy : ev st y = .r (.v (.int .i64 (m : Int)))) (hm : m < l.length) : VP pu E B o st (.ep k none ie.sz X (m * ie.sz)) := fun F a w hr => by
    have hxv := ev_al hr hx hk
    rcases hr.own hk with ⟨_, h, _⟩ | ⟨b, of, cap, cs, ty, bs', rfl, g2, g3, g4, g5, g6, g7⟩
    · omega
    · refine ⟨.pointer (some ⟨b, of + m * ie.sz, none⟩), fun w' hs => by
        have := run_indexAt_in (E := E) ht he hte b of l.length cap .i64 (m : Int) (by omega) (by omega) w'
        simp only [Int.toNat_natCast] at this
        simp [execOp, ho, hxv, ev_scalar hr hy, Sem.run_bind, this], ?_⟩
      simp only [DR]
      exact ⟨⟨b, of, l.length, cap, rfl, rfl⟩, trivial⟩
theorem setN_whole {α : Type} (vs r us : List α) (h : us.length = vs.length) : setN (us ++ r) 0 vs = vs ++ r := by
  rw [setN_eq _ _ _ (by simp; omega)]
  simp [← h]
theorem flatMap_set {α : Type} {sz : Nat} {c : α → List T} (hc : ∀ x, (c x).length = sz) : ∀ (l : List α) (i : Nat) (v : α), i < l.length → setN (l.flatMap c) (i * sz) (c v) = (l.set i v).flatMap c
  | [], _, _, h => by simp at h
  | x :: l, 0, v, _ => by
    rw [Nat.zero_mul, List.flatMap_cons, List.set_cons_zero, List.flatMap_cons]
    exact setN_whole _ _ _ (by rw [hc, hc])
  | x :: l, i + 1, v, h => by
    have ih := flatMap_set hc l i v (by simpa using h)
    rw [List.flatMap_cons, List.set_cons_succ, List.flatMap_cons, ← ih]
    have : (i + 1) * sz = (c x).length + i * sz := by rw [Nat.succ_mul, hc]; omega
    rw [this]
    have gen : ∀ (vs l r : List T) (p : Nat), setN (l ++ r) (l.length + p) vs = l ++ setN r p vs := by
      intro vs
      induction vs with
      | nil => intro l r p; rfl
      | cons v vs ih =>
        intro l r p
        rw [setN, setN, List.set_append_right _ _ (by omega), Nat.add_sub_cancel_left, Nat.add_assoc, ih]
    exact gen _ _ _ _
theorem DW_len : ∀ {es : List D} {us : List T}, DW es us → us.length = es.length
  | [], us, h => by simp only [DW] at h; simp [h]
  | e :: es, us, h => by
    simp only [DW] at h
    obtain ⟨t, ts', rfl, _, h2⟩ := h
    simp [DW_len h2]
def ZT : List T → List Value → Prop
  | [], [] => True
  | t :: ts, x :: xs => (t = .v x ∨ (x = .slice none 0 0 ∧ ∃ sz, t = .a sz 0 [])) ∧ ZT ts xs
  | _, _ => False
theorem ZT.e : ZT [] [] := trivial
theorem ZT.v {x : Value} {ts : List T} {xs : List Value} (h : ZT ts xs) : ZT (.v x :: ts) (x :: xs) := ⟨.inl rfl, h⟩
theorem ZT.n {sz : Nat} {ts : List T} {xs : List Value} (h : ZT ts xs) : ZT (.a sz 0 [] :: ts) (.slice none 0 0 :: xs) := ⟨.inr ⟨rfl, sz, rfl⟩, h⟩
theorem OL_zero {w : World} : ∀ {ts us : List T} {xs cs : List Value}, ZT ts xs → OL w us cs [] → OL w (ts ++ us) (xs ++ cs) []
  | [], _, [], _, _, h => h
  | [], _, _ :: _, _, h, _ => h.elim
  | _ :: _, _, [], _, h, _ => h.elim
  | t :: ts, us, x :: xs, cs, h, h' => by
    simp only [List.cons_append, OL]
    refine ⟨x, xs ++ cs, [], [], rfl, rfl, ?_, OL_zero h.2 h'⟩
    rcases h.1 with rfl | ⟨rfl, sz, rfl⟩
    · simp [OT]
    · simp [OT]
theorem ZT_len : ∀ {ts : List T} {xs : List Value}, ZT ts xs → ts.length = xs.length
  | [], [], _ => rfl
  | [], _ :: _, h => h.elim
  | _ :: _, [], h => h.elim
  | t :: ts, x :: xs, h => by simp [ZT_len h.2]
theorem OK.makeS {α : Type} {t e : TypeId} {x y : Operand} {i ie : TyI} {n : Nat} {c : α → List T} (z : α) (ho : o.op = .makeSlice t x y) (ht : E.tabs t = some i) (he : i.td = .slice e) (hte : E.tabs e = some ie)
    (hx : ev st x = .r (.v (.int .i64 n))) (hy : ev st y = .r (.v (.int .i64 n))) (hz : ie.zero.length = ie.sz) (hzc : ZT (c z) ie.zero) (hb : ie.bytes * n ≤ 281474976710656) (hm : n ≤ maxLen)
    (h : ∀ X, K (setD st o.dst (.w (sl ie.sz c (List.replicate n z)) X))) : OK E B o st K := by
  intro F a w hr next Q hn
  obtain ⟨j, d, zv, t1, t2, t3, t4, t5, t6, t7⟩ := tyI_spec (E.ok _ _ hte)
  have hzc' : zv.cells = ie.zero.toArray := by rw [← t6]
  have hrun : (execOp a.eval o).run E.P w = .ok (.value (.slice (some ⟨w.heap.size, 0, none⟩) n n)) (w.alloc (.cells (List.replicate n ie.zero).flatten.toArray e)) := by
    have hm' : n ≤ 9223372036854775807 := by simpa [maxLen] using hm
    have hb' : (j.bytes : Int) * (n : Int) ≤ 281474976710656 := by
      rw [t5]
      have : ((ie.bytes * n : Nat) : Int) ≤ 281474976710656 := by omega
      simpa using this
    have hmk := run_make (P := E.P) w t e j zv (tyI_slice (E.ok _ _ ht) he) t1 t3 .i64 .i64 n n (by omega) (Int.le_refl _) hb' (by omega)
    have hce : madeCells zv.cells (n * j.size) = (List.replicate n ie.zero).flatten.toArray := by
      apply Array.ext'
      rw [hzc', t4, ← hz, madeCells_eq]
    simp only [Int.toNat_natCast, hce] at hmk
    simp [execOp, ho, ev_scalar hr hx, ev_scalar hr hy, Sem.run_bind, hmk]
  unfold Oper.wp
  rw [hrun, Oper.upon_value]
  refine hn _ _ _ _ (h (.slice (some ⟨w.heap.size, 0, none⟩) n n)) (hr.putNew' o.dst (Stp.alloc w _ []) (d := .w _ _) (bs := [w.heap.size]) ?_ (by simp) (by simp))
  have hol : ∀ (w : World) (n : Nat), OL w ((List.replicate n z).flatMap c) (List.replicate n ie.zero).flatten [] := by
    intro w n
    induction n with
    | zero => simp [OL]
    | succ n ih =>
      rw [List.replicate_succ, List.replicate_succ, List.flatMap_cons, List.flatten_cons]
      exact OL_zero hzc ih
  have hlen : ∀ n : Nat, ((List.replicate n z).flatMap c).length = n * ie.sz := by
    intro n
    induction n with
    | zero => simp
    | succ n ih => rw [List.replicate_succ, List.flatMap_cons, List.length_append, ih, ZT_len hzc, hz, Nat.succ_mul]; omega
  simp only [DR, sl, OT]
  exact ⟨trivial, .inr ⟨w.heap.size, 0, n, (List.replicate n ie.zero).flatten.toArray, e, [], by simp, by simp, hm, heap_alloc_new w _, by simp [hz], by simpa using hlen n, rfl, by simpa using hol _ n⟩⟩
end
section
variable {E : Env} {st : St} {g : Nat → Nat → Value} {bo : Nat → Nat} {i : Nat} {as outs : List A}
theorem AOs.e : AOs st g bo i [] [] := rfl
theorem AOs.r {t : T} (h : AOs st g bo (i + 1) as outs) : AOs st g bo i (.one (.r t) :: as) (.one (.r t) :: outs) := ⟨_, _, rfl, .inr rfl, h⟩
theorem AOs.a {cs : List C} (hc : cs.all ro1 = true) (h : AOs st g bo (i + 1) as outs) : AOs st g bo i (.agg cs :: as) (.agg cs :: outs) := ⟨_, _, rfl, .inr (.inl ⟨rfl, hc⟩), h⟩
theorem Post.int {k : Nat} {x y : Int} (hk : gt st k = I x) (h : x = y) (ho : AOs st g bo 0 as outs) : Post E [.tmp k] as (wI y) outs g bo st := ⟨⟨_, rfl, by simp only [RV, hk, DT1]; exact .inl (by rw [h])⟩, ho⟩
theorem Post.bool {k : Nat} {x y : Bool} (hk : gt st k = Bo x) (h : x = y) (ho : AOs st g bo 0 as outs) : Post E [.tmp k] as (wB y) outs g bo st := ⟨⟨_, rfl, by simp only [RV, hk, DT1]; exact .inl (by rw [h])⟩, ho⟩
theorem Post.own {α : Type} {k sz : Nat} {c : α → List T} {l l' : List α} {X : Value} (hk : gt st k = .w (sl sz c l) X) (h : l = l') (ho : AOs st g bo 0 as outs) : Post E [.tmp k] as (.one (.one (.w (sl sz c l')))) outs g bo st :=
  ⟨⟨_, rfl, by simp only [RV, hk, DT1]; rw [h]⟩, ho⟩
theorem Post.cell {k ty b : Nat} {ds : List D} {cs : List C} {ti : TyI} {fs : List (Nat × Nat × Nat)} (hk : gt st k = .obj b ds) (ht : E.tabs ty = some ti) (hf : ti.td = .agg fs) (hl : ds.length = ti.sz) (hd : DT ds cs) (ho : AOs st g bo 0 as outs) :
    Post E [.cell k ty] as (.one (.agg cs)) outs g bo st := ⟨⟨_, rfl, b, ds, ti, fs, hk, ht, hf, hl, hd⟩, ho⟩
theorem DT.e : DT [] [] := rfl
theorem DT.v {x : Value} {ds : List D} {cs : List C} (h : DT ds cs) : DT (.r (.v x) :: ds) (.w (.v x) :: cs) := ⟨_, _, rfl, .inl rfl, h⟩
theorem DT.w {t : T} {X : Value} {ds : List D} {cs : List C} (h : DT ds cs) : DT (.w t X :: ds) (.w t :: cs) := ⟨_, _, rfl, rfl, h⟩
theorem DT.r {t : T} {ds : List D} {cs : List C} (h : DT ds cs) : DT (.r t :: ds) (.r t :: cs) := ⟨_, _, rfl, .inl rfl, h⟩
theorem DW.e : DW [] [] := rfl
theorem DW.v {x : Value} {ds : List D} {cs : List T} (h : DW ds cs) : DW (.r (.v x) :: ds) (.v x :: cs) := ⟨_, _, rfl, .inl rfl, h⟩
theorem DW.w {t : T} {X : Value} {ds : List D} {cs : List T} (h : DW ds cs) : DW (.w t X :: ds) (t :: cs) := ⟨_, _, rfl, rfl, h⟩
end
end Go.Eng

namespace Go.Eng
open Go Go.RowKit

def cI (n : Int) : List T := [.v (.int .i64 n)]
theorem cI.len (n : Int) : (cI n).length = 1 := rfl
def cB (n : Bool) : List T := [.v (.bool n)]
theorem cB.len (n : Bool) : (cB n).length = 1 := rfl
def cS (n : ByteArray) : List T := [.v (.string n)]
theorem cS.len (n : ByteArray) : (cS n).length = 1 := rfl

section
variable {E : Env} {F : Nat → Prop} {B : Base E.P} {w : World} {o : Oper} {st : St} {K : St → Prop} {a : Act} {d : D} {Q : Exit → St → Prop} {all rest : List Oper}
theorem V.sliceR {pu : Bool} {t e : TypeId} {x : Operand} {lo hi : Option Operand} {i ie : TyI} {n : Nat} {ts : List T} {l h : Int} (ho : o.op = .slice t x lo hi none) (ht : E.tabs t = some i) (he : i.td = .slice e) (hte : E.tabs e = some ie)
    (hx : ev st x = .r (.a ie.sz n ts)) (hlo : (lo = none ∧ l = 0) ∨ ∃ y k, lo = some y ∧ ev st y = .r (.v (.int k l))) (hhi : (hi = none ∧ h = n) ∨ ∃ y k, hi = some y ∧ ev st y = .r (.v (.int k h)))
    (h0 : 0 ≤ l) (h1 : l ≤ h) (h2 : h ≤ n) : VP pu E B o st (.r (.a ie.sz (h.toNat - l.toNat) ((ts.drop (l.toNat * ie.sz)).take ((h.toNat - l.toNat) * ie.sz)))) := fun F a w hr => by
    have hx' := hr.ev x
    rw [hx] at hx'
    simp only [DR] at hx'
    have hu := tyI_slice (E.ok _ _ ht) he
    have hel : E.P.elem t = e := by simp [Program.elem, hu]
    have hsz := fun w => tyI_sizeOf (E.ok _ _ hte) w
    have hb : ∀ (cap : Nat) (w : World), n ≤ cap → (Instr.sliceBounds true n cap (lo.map a.eval) (hi.map a.eval) none).run E.P w = .ok (l.toNat, h.toNat, cap) w := by
      intro cap w hc
      have q1 : 0 ≤ h := by omega
      have q2 : (h.toNat : Int) = h := Int.toNat_of_nonneg q1
      rcases hhi with ⟨rfl, rfl⟩ | ⟨y, k, rfl, hy⟩ <;> rcases hlo with ⟨rfl, rfl⟩ | ⟨z, k', rfl, hz⟩
      · simp [Instr.sliceBounds]
      · simp [Instr.sliceBounds, ev_scalar hr hz, run_sliceBound w k' l n .sliceB h0 (by omega)]
      · simp [Instr.sliceBounds, ev_scalar hr hy, run_sliceBound w k h cap .sliceAcap q1 (by omega)]
      · simp [Instr.sliceBounds, ev_scalar hr hy, ev_scalar hr hz, run_sliceBound w k h cap .sliceAcap q1 (by omega), run_sliceBound w k' l h.toNat .sliceB h0 (by omega)]
    have hrt := hx'.1
    simp only [RT] at hrt
    rcases hrt with ⟨A, C, g1, rfl, rfl⟩ | ⟨b, of, cap, g1, g2, g3, g4, g5, g6⟩
    · have : l = 0 ∧ h = 0 := by omega
      obtain ⟨rfl, rfl⟩ := this
      refine ⟨.slice (if C = 0 then A else A.map (·.add 0)) 0 C, fun w' hs => ?_, by simp [DR, RT]⟩
      simp [execOp, ho, g1, Instr.sliceAt, run_underlying hu, Instr.slice, Sem.run_bind, hb C w' (by omega), hsz]
    · have q3 : l.toNat ≤ h.toNat := by omega
      have q4 : h.toNat ≤ n := by omega
      have hlen : ((ts.drop (l.toNat * ie.sz)).take ((h.toNat - l.toNat) * ie.sz)).length = (h.toNat - l.toNat) * ie.sz := by
        simp only [List.length_take, List.length_drop, g5]
        rw [← Nat.sub_mul]
        exact Nat.min_eq_left (Nat.mul_le_mul_right _ (by omega))
      refine ⟨.slice (some ⟨b, if cap = l.toNat then of else of + l.toNat * ie.sz, none⟩) (h.toNat - l.toNat) (cap - l.toNat), fun w' hs => ?_, ?_⟩
      · simp [execOp, ho, g1, Instr.sliceAt, run_underlying hu, Instr.slice, Sem.run_bind, hb cap w' g2, hsz]
        split <;> simp [Addr.add_mid]
      · simp only [DR, RT]
        refine ⟨.inr ⟨b, _, _, rfl, by omega, by omega, g4, hlen, ?_⟩, trivial⟩
        by_cases hc : cap = l.toNat
        · have : h.toNat - l.toNat = 0 := by omega
          rw [this]
          simp [RL]
        · rw [if_neg hc]
          exact RL_take _ (RL_drop _ (by rw [g5]; exact Nat.mul_le_mul_right _ (by omega)) g6)
variable {P : Program} {n : Nat} {xs ys : Array Value} {f : Field} {fs : List Field} {p q : Value} {r s : Bool}
theorem eqF_last (hn : (f.name == "_") = false) (ha : (part f.type xs f.offset).run P w = .ok p w) (hb : (part f.type ys f.offset).run P w = .ok q w) (he : (Op.equalIn n f.type p q).run P w = .ok r w) : (Op.eqFields n xs ys [f]).run P w = .ok r w := by
  have hn' : f.name ≠ "_" := by simpa using hn
  simp only [Op.eqFields, if_pos hn', Sem.run_bind, ha, hb, he, Result.andThen_ok]
  cases r <;> simp
theorem eqF_cons (hn : (f.name == "_") = false) (ha : (part f.type xs f.offset).run P w = .ok p w) (hb : (part f.type ys f.offset).run P w = .ok q w) (he : (Op.equalIn n f.type p q).run P w = .ok r w) (hr : (Op.eqFields n xs ys fs).run P w = .ok s w) : (Op.eqFields n xs ys (f :: fs)).run P w = .ok (r && s) w := by
  have hn' : f.name ≠ "_" := by simpa using hn
  rw [Op.eqFields]
  simp only [if_pos hn', Sem.run_bind, ha, hb, he, Result.andThen_ok]
  cases r
  · simp
  · simpa using hr
theorem eqA_of {t : TypeId} {fs : Array Field} (hu : P.underlying t = some (.struct fs)) (hp : P.stoodInHeld t = false) (h : (Op.eqFields n xs ys fs.toList).run P w = .ok r w) : (Op.equalIn (n + 1) t (.agg xs) (.agg ys)).run P w = .ok r w := by
  have hf : P.fieldsOf t = fs := by simp [Program.fieldsOf, hu]
  rw [run_equalIn_struct (P := P) w n t xs ys (by rw [hf]; exact hu) hp, hf]
  exact h
end
end Go.Eng
