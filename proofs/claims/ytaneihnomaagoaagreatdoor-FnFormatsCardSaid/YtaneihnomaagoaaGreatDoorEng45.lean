import Derived.Test.YtaneihnomaagoaaGreatDoorEng42
import Derived.Test.YtaneihnomaagoaaGreatDoorEng30
namespace Go.Eng
open Go Go.RowKit

inductive Kfr where
  | c (y : Code)
  | b (id : Nat)
def SQ (E : Env) (B : Base E.P) : List Kfr → (Exit → St → Prop) → Exit → St → Prop
  | [], Q => Q
  | .c y :: ys, Q => QN (fun s => CW E B y s (SQ E B ys Q)) (SQ E B ys Q)
  | .b id :: ys, Q => QB id (SQ E B ys Q)
inductive Ki where
  | o (m : Nat)
  | e (ks : List Nat)
  | p
  | n (k : Nat)
inductive Kmd where
  | c (y : Code)
  | r (all rest : List Oper)
class RfK (E : Env) (B : Base E.P) (K : St → Prop) (ys : outParam (List Kfr)) (Q : outParam (Exit → St → Prop)) : Prop where
  h : ∀ s, SQ E B ys Q .normal s → K s
instance (priority := 10) RfK.z {E : Env} {B : Base E.P} {K : St → Prop} : RfK E B K [] (fun _ s => K s) := ⟨fun _ h => h⟩
instance (priority := 1000) RfK.s {E : Env} {B : Base E.P} {ys : List Kfr} {Q : Exit → St → Prop} : RfK E B (SQ E B ys Q .normal) ys Q := ⟨fun _ h => h⟩
class RfQ (E : Env) (B : Base E.P) (Q0 : Exit → St → Prop) (ys : outParam (List Kfr)) (Q : outParam (Exit → St → Prop)) : Prop where
  h : ∀ e s, SQ E B ys Q e s → Q0 e s
instance (priority := 10) RfQ.z {E : Env} {B : Base E.P} {Q : Exit → St → Prop} : RfQ E B Q [] Q := ⟨fun _ _ h => h⟩
instance (priority := 1000) RfQ.s {E : Env} {B : Base E.P} {ys : List Kfr} {Q : Exit → St → Prop} : RfQ E B (SQ E B ys Q) ys Q := ⟨fun _ _ h => h⟩

def resK (E : Env) (B : Base E.P) (n : Nat) (Q : Exit → St → Prop) : Kmd → List Kfr → List (Nat × D) → Prop
  | .c y, [], l => CW E B y ⟨n, l⟩ Q
  | .c y, ys, l => CW E B y ⟨n, l⟩ (SQ E B ys Q)
  | .r all rest, ys, l => RW E B all rest ⟨n, l⟩ (SQ E B ys Q .normal)
def popK (f : Code → List Kfr → Prop) (z : Prop) : List Kfr → Prop
  | [] => z
  | .c y :: ys => f y ys
  | .b _ :: ys => popK f z ys
def goK (E : Env) (X : Kd E.P) (B : Base E.P) (n : Nat) (Q : Exit → St → Prop) : Nat → List Ki → Kmd → List Kfr → List (Nat × D) → List (Nat × Nat) → Prop
  | 0, _, _, _, _, _ => False
  | _ + 1, [], md, ys, l, q => Ob q (resK E B n Q md ys l)
  | m + 1, .e ks :: is, md, ys, l, q => keepK n l ks fun l' => goK E X B n Q m is md ys l' q
  | m + 1, .n 0 :: is, md, ys, l, q => goK E X B n Q m is md ys l q
  | m + 1, .n (k + 1) :: is, md, ys, l, q => goK E X B n Q m (.o 999 :: .p :: .n k :: is) md ys l q
  | m + 1, .o k :: is, .r all rest, ys, l, q => runK E X all n (fun rest l q => goK E X B n Q m is (.r all rest) ys l q) k rest l q
  | m + 1, .o k :: is, .c (.seq x y), ys, l, q => goK E X B n Q m (.o k :: is) (.c x) (.c y :: ys) l q
  | m + 1, .o k :: is, .c (.region _ ops false), ys, l, q => goK E X B n Q m (.o k :: is) (.r ops.toList ops.toList) ys l q
  | m + 1, .o k :: is, .c .skip, ys, l, q => popK (fun y ys => goK E X B n Q m (.o k :: is) (.c y) ys l q) False ys
  | m + 1, .o k :: is, .c (.block id c), ys, l, q => goK E X B n Q m (.o k :: is) (.c c) (.b id :: ys) l q
  | m + 1, .p :: is, .r all [], ys, l, q => popK (fun y ys => goK E X B n Q m is (.c y) ys l q) (Ob q (Q .normal ⟨n, l⟩)) ys
  | m + 1, .p :: is, .c .skip, ys, l, q => popK (fun y ys => goK E X B n Q m is (.c y) ys l q) (Ob q (Q .normal ⟨n, l⟩)) ys
  | m + 1, .p :: is, .c (.region _ ops false), ys, l, q => goK E X B n Q m is (.r ops.toList ops.toList) ys l q
  | m + 1, .p :: is, .c (.seq x y), ys, l, q => goK E X B n Q m is (.c x) (.c y :: ys) l q
  | m + 1, .p :: is, .c (.block id c), ys, l, q => goK E X B n Q m is (.c c) (.b id :: ys) l q
  | _ + 1, _ :: _, _, _, _, _ => False

theorem popK_ok {E : Env} {B : Base E.P} {n : Nat} {Q : Exit → St → Prop} {l : List (Nat × D)} {P : Prop} {f : Code → List Kfr → Prop} {z : Prop} (hf : ∀ y ys, f y ys → P ∧ CW E B y ⟨n, l⟩ (SQ E B ys Q)) (hz : z → P ∧ Q .normal ⟨n, l⟩) : ∀ ys, popK f z ys → P ∧ SQ E B ys Q .normal ⟨n, l⟩
  | [], h => hz h
  | .c y :: ys, h => hf _ _ h
  | .b id :: ys, h => popK_ok hf hz ys h
theorem resK_c {E : Env} {B : Base E.P} {n : Nat} {Q : Exit → St → Prop} {y : Code} {ys : List Kfr} {l : List (Nat × D)} (h : resK E B n Q (.c y) ys l) : CW E B y ⟨n, l⟩ (SQ E B ys Q) := by
  cases ys <;> exact h
def resW (E : Env) (B : Base E.P) (n : Nat) (Q : Exit → St → Prop) : Kmd → List Kfr → List (Nat × D) → Prop
  | .c y, ys, l => CW E B y ⟨n, l⟩ (SQ E B ys Q)
  | .r all rest, ys, l => RW E B all rest ⟨n, l⟩ (SQ E B ys Q .normal)
theorem resK_W {E : Env} {B : Base E.P} {n : Nat} {Q : Exit → St → Prop} {md : Kmd} {ys : List Kfr} {l : List (Nat × D)} (h : resK E B n Q md ys l) : resW E B n Q md ys l := by
  cases md with
  | c y => exact resK_c h
  | r all rest => cases ys <;> exact h
theorem goK_ok {E : Env} {X : Kd E.P} {B : Base E.P} {n : Nat} {Q : Exit → St → Prop} : ∀ (m : Nat) (is : List Ki) (md : Kmd) (ys : List Kfr) (l : List (Nat × D)) (q : List (Nat × Nat)), goK E X B n Q m is md ys l q → Eqs q ∧ resW E B n Q md ys l
  | 0, _, _, _, _, _, h => (h : False).elim
  | m + 1, [], md, ys, l, q, h => ⟨Ob.e h, resK_W (Ob.h h)⟩
  | m + 1, .e ks :: is, md, ys, l, q, h => by
    obtain ⟨l', h1, h2⟩ := keepK_of (show keepK n l ks fun l' => goK E X B n Q m is md ys l' q from h)
    obtain ⟨h3, h4⟩ := goK_ok m _ _ _ _ _ h2
    refine ⟨h3, ?_⟩
    cases md with
    | c y => exact CW.le l' rfl h1 h4
    | r all rest => exact RW.le l' rfl h1 h4
  | m + 1, .n 0 :: is, md, ys, l, q, h => goK_ok m is md ys l q h
  | m + 1, .n (k + 1) :: is, md, ys, l, q, h => goK_ok m (.o 999 :: .p :: .n k :: is) md ys l q h
  | m + 1, .o k :: is, .r all rest, ys, l, q, h => runK_ok (B := B) (K := SQ E B ys Q .normal) (fun rest l q h => goK_ok m _ _ _ _ _ h) _ _ _ _ (show runK E X all n (fun rest l q => goK E X B n Q m is (.r all rest) ys l q) k rest l q from h)
  | m + 1, .o k :: is, .c c, ys, l, q, h => by
    cases c with
    | seq x y =>
      obtain ⟨h1, h2⟩ := goK_ok m _ _ _ _ _ (show goK E X B n Q m (.o k :: is) (.c x) (.c y :: ys) l q from h)
      exact ⟨h1, CW.seq h2⟩
    | region id ops b =>
      cases b with
      | true => exact (h : False).elim
      | false =>
        obtain ⟨h1, h2⟩ := goK_ok m _ _ _ _ _ (show goK E X B n Q m (.o k :: is) (.r ops.toList ops.toList) ys l q from h)
        have e : ops = ops.toList.toArray := by simp
        refine ⟨h1, ?_⟩
        show CW E B (.region id ops false) ⟨n, l⟩ _
        rw [e]
        exact CW.region h2
    | skip =>
      obtain ⟨h1, h2⟩ := popK_ok (fun y ys h => goK_ok m _ _ _ _ _ h) (fun h => h.elim) ys (show popK (fun y ys => goK E X B n Q m (.o k :: is) (.c y) ys l q) False ys from h)
      exact ⟨h1, CW.skip h2⟩
    | block id c =>
      obtain ⟨h1, h2⟩ := goK_ok m _ _ _ _ _ (show goK E X B n Q m (.o k :: is) (.c c) (.b id :: ys) l q from h)
      exact ⟨h1, CW.block h2⟩
    | _ => exact (h : False).elim
  | m + 1, .p :: is, .r all [], ys, l, q, h => by
    obtain ⟨h1, h2⟩ := popK_ok (fun y ys h => goK_ok m _ _ _ _ _ h) (fun h => ⟨h.e, h.h⟩) ys (show popK (fun y ys => goK E X B n Q m is (.c y) ys l q) (Ob q (Q .normal ⟨n, l⟩)) ys from h)
    exact ⟨h1, RW.nil h2⟩
  | m + 1, .p :: is, .r all (o :: r), ys, l, q, h => (h : False).elim
  | m + 1, .p :: is, .c c, ys, l, q, h => by
    cases c with
    | seq x y =>
      obtain ⟨h1, h2⟩ := goK_ok m _ _ _ _ _ (show goK E X B n Q m is (.c x) (.c y :: ys) l q from h)
      exact ⟨h1, CW.seq h2⟩
    | region id ops b =>
      cases b with
      | true => exact (h : False).elim
      | false =>
        obtain ⟨h1, h2⟩ := goK_ok m _ _ _ _ _ (show goK E X B n Q m is (.r ops.toList ops.toList) ys l q from h)
        have e : ops = ops.toList.toArray := by simp
        refine ⟨h1, ?_⟩
        show CW E B (.region id ops false) ⟨n, l⟩ _
        rw [e]
        exact CW.region h2
    | skip =>
      obtain ⟨h1, h2⟩ := popK_ok (fun y ys h => goK_ok m _ _ _ _ _ h) (fun h => ⟨h.e, h.h⟩) ys (show popK (fun y ys => goK E X B n Q m is (.c y) ys l q) (Ob q (Q .normal ⟨n, l⟩)) ys from h)
      exact ⟨h1, CW.skip h2⟩
    | block id c =>
      obtain ⟨h1, h2⟩ := goK_ok m _ _ _ _ _ (show goK E X B n Q m is (.c c) (.b id :: ys) l q from h)
      exact ⟨h1, CW.block h2⟩
    | _ => exact (h : False).elim
theorem CW.g {E : Env} {B : Base E.P} {c : Code} {st : St} {Q0 : Exit → St → Prop} {ys : List Kfr} {Q : Exit → St → Prop} [hq : RfQ E B Q0 ys Q] (X : Kd E.P) (n : Nat) (is : List Ki) {q : List (Nat × Nat)} {R : Prop} (hn : st.n = n)
    (hev : spK st.l (fun l => goK E X B n Q 999 is (.c c) ys l []) = Ob q R) (he : q.map (·.1) = q.map (·.2)) (h : R) : CW E B c st Q0 := by
  subst hn
  rw [spK_eq] at hev
  have := goK_ok _ _ _ _ _ _ (hev ▸ (⟨he, h⟩ : Ob q R) : goK E X B st.n Q 999 is (.c c) ys st.l [])
  exact CW.mono this.2 hq.h
theorem RW.g {E : Env} {B : Base E.P} {all rest : List Oper} {st : St} {K : St → Prop} {ys : List Kfr} {Q : Exit → St → Prop} [hq : RfK E B K ys Q] (X : Kd E.P) (n : Nat) (is : List Ki) {q : List (Nat × Nat)} {R : Prop} (hn : st.n = n)
    (hev : spK st.l (fun l => goK E X B n Q 999 is (.r all rest) ys l []) = Ob q R) (he : q.map (·.1) = q.map (·.2)) (h : R) : RW E B all rest st K := by
  subst hn
  rw [spK_eq] at hev
  have := goK_ok _ _ _ _ _ _ (hev ▸ (⟨he, h⟩ : Ob q R) : goK E X B st.n Q 999 is (.r all rest) ys st.l [])
  exact fun F a w hr Q' hQ => this.2 F a w hr Q' (fun F' st' a' w' hk hr' => hQ F' st' a' w' (hq.h _ hk) hr')
theorem CW.h {E : Env} {B : Base E.P} {c : Code} {st : St} {Q0 : Exit → St → Prop} {ys : List Kfr} {Q : Exit → St → Prop} [hq : RfQ E B Q0 ys Q] (X : Kd E.P) (n : Nat) (is : List Ki) (hn : st.n = n)
    (h : spK st.l (fun l => goK E X B n Q 999 is (.c c) ys l [])) : CW E B c st Q0 := by
  subst hn
  rw [spK_eq] at h
  exact CW.mono (goK_ok _ _ _ _ _ _ h).2 hq.h
theorem RW.h {E : Env} {B : Base E.P} {all rest : List Oper} {st : St} {K : St → Prop} {ys : List Kfr} {Q : Exit → St → Prop} [hq : RfK E B K ys Q] (X : Kd E.P) (n : Nat) (is : List Ki) (hn : st.n = n)
    (h : spK st.l (fun l => goK E X B n Q 999 is (.r all rest) ys l [])) : RW E B all rest st K := by
  subst hn
  rw [spK_eq] at h
  have := goK_ok _ _ _ _ _ _ h
  exact fun F a w hr Q' hQ => this.2 F a w hr Q' (fun F' st' a' w' hk hr' => hQ F' st' a' w' (hq.h _ hk) hr')
end Go.Eng

namespace Go.Eng
open Go Go.RowKit
section
variable {E : Env} {F : Nat → Prop} {B : Base E.P} {w : World} {o : Oper} {st : St} {K : St → Prop} {a : Act} {all rest : List Oper}
theorem fill_rows {s : Nat} (hs : s ≠ 0) : ∀ (vs : List Value) (rows : List (List Value)) (k : Nat) (pre post : List Value), vs.map Value.cells = rows.map (fun r => r.toArray) → (∀ r ∈ rows, r.length = s) → pre.length = k * s → post.length = vs.length * s →
    Instr.fill (fun i => some (i * s, s)) (pre ++ post).toArray ((vs.zipIdx k).map fun p => (p.2, p.1)) = some (pre ++ rows.flatten).toArray
  | [], [], k, pre, post, _, _, _, hl => by
    obtain rfl : post = [] := List.eq_nil_of_length_eq_zero (by simpa using hl)
    simp [Instr.fill]
  | [], _ :: _, _, _, _, h, _, _, _ => by simp at h
  | _ :: _, [], _, _, _, h, _, _, _ => by simp at h
  | v :: vs, r :: rows, k, pre, post, hv, hr, hk, hl => by
    have hrs : r.length = s := hr r (by simp)
    simp only [List.length_cons, Nat.add_mul, Nat.one_mul] at hl
    obtain ⟨p, post', rfl, hp⟩ : ∃ p q, post = p ++ q ∧ p.length = s := ⟨post.take s, post.drop s, (List.take_append_drop s post).symm, by rw [List.length_take]; omega⟩
    simp only [List.map_cons, List.cons.injEq] at hv
    have hne : r ≠ [] := by rintro rfl; simp at hrs; omega
    rw [List.zipIdx_cons, List.map_cons, fill_cons (vs := r) (off := k * s) hv.1 (by simp [hrs]) (by simp [hk, hrs, hp])]
    have e : setN (pre ++ (p ++ post')) (k * s) r = (pre ++ r) ++ post' := by
      rw [setN_eq _ _ _ (by simp [hk, hrs, hp]), ← hk, List.take_left', List.drop_append]
      · simp [hrs, ← hp, ← List.append_assoc]
      · rfl
    show Instr.fill _ (setN (pre ++ (p ++ post')) (k * s) r).toArray _ = _
    rw [e, fill_rows hs vs rows (k + 1) (pre ++ r) post' hv.2 (fun r' h' => hr r' (by simp [h'])) (by simp [hk, hrs, Nat.add_mul]) (by simp [hp] at hl; omega)]
    simp
def DWs {α : Type} (c : α → List T) : List (List D) → List α → Prop
  | [], [] => True
  | es :: r, v :: s => DW es (c v) ∧ DWs c r s
  | _, _ => False
theorem OL_join : ∀ {ts us : List T} {cs ds : List Value} {bs es : List Nat}, cs.length = ts.length → OL w ts cs bs → OL w us ds es → OL w (ts ++ us) (cs ++ ds) (bs ++ es)
  | [], us, cs, ds, bs, es, hl, h1, h2 => by
    obtain rfl := List.eq_nil_of_length_eq_zero hl
    simp only [OL] at h1
    subst h1
    simpa using h2
  | t :: ts, us, cs, ds, bs, es, hl, h1, h2 => by
    simp only [OL] at h1
    obtain ⟨c, cs', b1, b2, rfl, rfl, h3, h4⟩ := h1
    simp only [List.cons_append, OL]
    exact ⟨c, cs' ++ ds, b1, b2 ++ es, rfl, by simp, h3, OL_join (by simpa using hl) h4 h2⟩
theorem eval_rows {α : Type} {c : α → List T} {s : Nat} (hc : ∀ x, (c x).length = s) (hr : Rel F B st a w) : ∀ (xs : List Operand) (ess : List (List D)) (L : List α), xs.map (ev st) = ess.map D.agg → DWs c ess L →
    ∃ rows : List (List Value), (xs.map a.eval).map Value.cells = rows.map (fun r => r.toArray) ∧ (∀ r ∈ rows, r.length = s) ∧ rows.flatten.length = L.length * s ∧ ∀ ob, OL (w.alloc ob) (L.flatMap c) rows.flatten []
  | [], [], [], _, _ => ⟨[], rfl, by simp, by simp, fun _ => by simp [OL]⟩
  | [], [], _ :: _, _, h => h.elim
  | [], _ :: _, _, h, _ => by simp at h
  | _ :: _, [], _, h, _ => by simp at h
  | _ :: _, _ :: _, [], _, h => h.elim
  | x :: xs, es :: ess, v :: L, h, hd => by
    simp only [List.map_cons, List.cons.injEq] at h
    obtain ⟨rows, h1, h2, h3, h4⟩ := eval_rows hc hr xs ess L h.2 hd.2
    have hxv := hr.ev x
    rw [h.1] at hxv
    simp only [DR] at hxv
    obtain ⟨vs, hv1, hv2⟩ := hxv
    have hl : vs.length = s := by rw [DLs_length hv2, ← DW_len hd.1, hc]
    refine ⟨vs :: rows, by simp only [List.map_cons, h1, hv1]; rfl, fun r hr' => ?_, by rw [List.flatten_cons, List.length_append, h3, hl, List.length_cons, Nat.add_mul]; omega, fun ob => ?_⟩
    · rcases List.mem_cons.1 hr' with rfl | h'
      · exact hl
      · exact h2 r h'
    · rw [List.flatMap_cons, List.flatten_cons]
      have := OL_join (by rw [hl, hc]) (DW_OL hd.1 (DLs_fix hr.Flt ob hv2)) (h4 ob)
      simpa using this
theorem OK.buildG {α : Type} {t e : TypeId} {n : Nat} {ps : Array (Nat × Operand)} {i ie : TyI} {c : α → List T} {L : List α} (xs : List Operand) (ess : List (List D)) (ho : o.op = .buildSlice t n ps) (ht : E.tabs t = some i) (he : i.td = .slice e) (hte : E.tabs e = some ie)
    (hps : ps.toList = xs.zipIdx.map fun p => (p.2, p.1)) (hev : xs.map (ev st) = ess.map D.agg) (hw : DWs c ess L) (hn : n = L.length) (hx : xs.length = L.length) (hc : ∀ x, (c x).length = ie.sz) (hn0 : 0 < n) (hp : ie.sz ≠ 0) (hsm : n * ie.sz ≤ 4096)
    (h : ∀ X, K (setD st o.dst (.w (sl ie.sz c L) X))) : OK E B o st K := by
  intro F a w hr next Q hnx
  obtain ⟨j, d, z, t1, t2, t3, t4, t5, t6, t7⟩ := tyI_spec (E.ok _ _ hte)
  have hu := tyI_slice (E.ok _ _ ht) he
  obtain ⟨rows, h1, h2, h3, h4⟩ := eval_rows hc hr xs ess L hev hw
  have hps2 : ps.toList.map (fun p => (p.1, a.eval p.2)) = (xs.map a.eval).zipIdx.map fun p => (p.2, p.1) := by
    rw [hps, List.map_map, List.zipIdx_map, List.map_map]
    rfl
  have hf : Instr.fill (fun i => some (i * j.size, j.size)) ((Array.range (n * j.size)).map (z.cells[· % z.cells.size]!)) ((xs.map a.eval).zipIdx.map fun p => (p.2, p.1)) = some rows.flatten.toArray := by
    have e : (Array.range (n * j.size)).map (z.cells[· % z.cells.size]!) = ([] ++ (List.range (n * j.size)).map (z.cells[· % z.cells.size]!)).toArray := by
      rw [← Array.toList_inj]; simp
    rw [e, fill_rows (by rw [t4]; exact hp) (xs.map a.eval) rows 0 [] _ h1 (fun r hr' => by rw [h2 r hr', t4]) (by simp) (by simp [hx, hn])]
    simp
  have hpa : (ps.map fun (x : Nat × Operand) => match x with | (i, x) => (i, a.eval x)).toList = (xs.map a.eval).zipIdx.map fun p => (p.2, p.1) := by
    rw [Array.toList_map]; exact hps2
  have hz : 0 < n * ie.sz := Nat.mul_pos hn0 (Nat.pos_of_ne_zero hp)
  have hn1 : n ≤ n * ie.sz := Nat.le_mul_of_pos_right _ (Nat.pos_of_ne_zero hp)
  have := run_buildSlice w t e n (ps.map fun (x : Nat × Operand) => match x with | (i, x) => (i, a.eval x)) rows.flatten.toArray j z hu t1 t3 (by rw [t4]; omega) (by rw [t4]; omega) (by rw [hpa]; exact hf)
  have hrun : (execOp a.eval o).run E.P w = .ok (.value (.slice (some ⟨w.heap.size, 0, none⟩) n n)) (w.alloc (.cells rows.flatten.toArray e)) := by
    simp [execOp, ho, Sem.run_bind, this]
  have hfl : (L.flatMap c).length = n * ie.sz := by rw [hn]; exact flatMap_len hc L
  have hrl : rows.flatten.length = n * ie.sz := by rw [h3, hn]
  unfold Oper.wp
  rw [hrun, Oper.upon_value]
  refine hnx _ _ _ _ (h (.slice (some ⟨w.heap.size, 0, none⟩) n n)) (hr.putNew' o.dst (Stp.alloc w _ []) (d := .w _ _) (bs := [w.heap.size]) ?_ (by simp) (by simp))
  simp only [DR, sl, OT]
  refine ⟨trivial, .inr ⟨w.heap.size, 0, n, rows.flatten.toArray, e, [], by rw [hn], by omega, by simp [maxLen]; omega, heap_alloc_new w _, by simp [hrl], by rw [hfl, ← hn], rfl, ?_⟩⟩
  simpa using h4 _
theorem RW.buildG {α : Type} {t e : TypeId} {n : Nat} {ps : Array (Nat × Operand)} {i ie : TyI} {c : α → List T} {L : List α} (xs : List Operand) (ess : List (List D)) (hg : o.guard = none) (ho : o.op = .buildSlice t n ps) (ht : E.tabs t = some i) (he : i.td = .slice e) (hte : E.tabs e = some ie)
    (hps : ps.toList = xs.zipIdx.map fun p => (p.2, p.1)) (hev : xs.map (ev st) = ess.map D.agg) (hw : DWs c ess L) (hn : n = L.length) (hx : xs.length = L.length) (hc : ∀ x, (c x).length = ie.sz) (hn0 : 0 < n) (hp : ie.sz ≠ 0) (hsm : n * ie.sz ≤ 4096)
    (h : ∀ X, RW E B all rest (setD st o.dst (.w (sl ie.sz c L) X)) K) : RW E B all (o :: rest) st K := RW.cons hg (OK.buildG xs ess ho ht he hte hps hev hw hn hx hc hn0 hp hsm h)
end
end Go.Eng

namespace Go.Eng
open Go Go.RowKit
def isNil : Value → Bool
  | .nilIface => true
  | _ => false
section
variable {E : Env} {F : Nat → Prop} {B : Base E.P} {w : World} {o : Oper} {st : St} {K : St → Prop} {a : Act} {all rest : List Oper}
theorem iface_of {d : Option TypeDesc} (h : (match d with | some (.interface _) => true | _ => false) = true) : ∃ m, d = some (.interface m) := by
  split at h
  · exact ⟨_, rfl⟩
  · cases h
theorem run_eqNil {P : Program} {t : TypeId} {m : Array (String × TypeId)} (hu : P.underlying t = some (.interface m)) (e : Value) (he : e = .nilIface ∨ ∃ te pe, e = .iface te pe) (w : World) : (Op.equal t e .nilIface).run P w = .ok (isNil e) w := by
  rw [show Op.equal t e .nilIface = Op.equalIn (9999 + 1) t e .nilIface from rfl, Op.equalIn]
  rcases he with rfl | ⟨te, pe, rfl⟩ <;> simp [Sem.run_bind, run_underlying hu, isNil]
theorem V.neNil {pu : Bool} {t u : TypeId} {x : Operand} {e : Value} (ho : o.op = .binOp .neq t x (.const .nilIface) u) (hx : ev st x = .r (.v e)) (he : e = .nilIface ∨ ∃ te pe, e = .iface te pe) (ht : (match E.P.underlying t with | some (.interface _) => true | _ => false) = true) :
    VP pu E B o st (.r (.v (.bool (!isNil e)))) := fun F a w hr =>
  ⟨.bool (!isNil e), fun w' hs => by
    obtain ⟨m, hu⟩ := iface_of ht
    have hq := run_eqNil hu e he w'
    have hc : a.eval (.const .nilIface) = .nilIface := rfl
    have he' := ev_scalar hr hx
    rcases he with rfl | ⟨te, pe, rfl⟩ <;> simp [execOp, ho, he', hc, binOp, eqGuard, Sem.run_bind, hq], by simp [DR, RT]⟩
theorem V.midS {pu : Bool} {α : Type} {t e : TypeId} {x y1 y2 : Operand} {i ie : TyI} {c : α → List T} {l : List α} {m q : Nat} {z1 z2 : Int} (ho : o.op = .slice t x (some y1) (some y2) none) (ht : E.tabs t = some i) (he : i.td = .slice e) (hte : E.tabs e = some ie)
    (hx : ev st x = .r (sl ie.sz c l)) (hy1 : ev st y1 = .r (.v (.int .i64 z1))) (hy2 : ev st y2 = .r (.v (.int .i64 z2))) (h1 : z1 = (m : Int)) (h2 : z2 = ((m + q : Nat) : Int)) (hc : ∀ x, (c x).length = ie.sz) (hm : m + q ≤ l.length) : VP pu E B o st (.r (sl ie.sz c ((l.drop m).take q))) := by
  subst h1 h2
  have h := V.sliceR (pu := pu) (B := B) (n := l.length) (l := (m : Int)) (h := ((m + q : Nat) : Int)) ho ht he hte hx (.inr ⟨y1, .i64, rfl, hy1⟩) (.inr ⟨y2, .i64, rfl, hy2⟩) (by omega) (by omega) (by omega)
  have e0 : ((m + q : Nat) : Int).toNat - (m : Int).toNat = q := by rw [Int.toNat_natCast, Int.toNat_natCast]; omega
  have e1 : ((l.drop m).take q).length = q := by rw [List.length_take, List.length_drop]; omega
  have e2 : ((l.flatMap c).drop ((m : Int).toNat * ie.sz)).take (q * ie.sz) = ((l.drop m).take q).flatMap c := by
    simp only [Int.toNat_natCast]
    rw [flatMap_dropS hc, flatMap_take hc]
  rw [e0, e2] at h
  show VP pu E B o st (.r (.a ie.sz ((l.drop m).take q).length (((l.drop m).take q).flatMap c)))
  rw [e1]; exact h
end
end Go.Eng

namespace Go.Eng
open Go Go.RowKit
section
variable {E : Env} {B : Base E.P} {st : St} {o : Oper}
def mxI (p q : Int) : Int := if p < q then q else p
theorem V.max2I {pu : Bool} {t u : TypeId} {x y : Operand} {p q : Int} (ho : o.op = .call { callee := .builtin .max, args := #[x, y], argTypes := #[t, u] }) (hx : ev st x = .r (.v (.int .i64 p))) (hy : ev st y = .r (.v (.int .i64 q))) : VP pu E B o st (.r (.v (.int .i64 (mxI p q)))) := fun F ac w hr =>
  ⟨.int .i64 (mxI p q), fun w' hs => by
    simp [execOp, ho, resolve, invoke, builtin, ev_scalar hr hx, ev_scalar hr hy, Builtin.max_, Builtin.max2, mxI] <;> rfl, by simp [DR, RT]⟩
end
end Go.Eng
