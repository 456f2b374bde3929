import Derived.Test.YtdipdkfbaehglaaGreatDoorEng39
namespace Go.Eng
open Go Go.RowKit
section
variable {E : Env} {F : Nat → Prop} {B : Base E.P} {w : World} {o : Oper} {st : St} {K : St → Prop} {a : Act} {all rest : List Oper}
theorem V.idxStrZ {pu : Bool} {t : TypeId} {x y : Operand} {s : ByteArray} {m : Nat} {q : Int} (ho : o.op = .index t x y) (ht : E.P.underlying t = some .string) (hx : ev st x = .r (.v (.string s))) (hy : ev st y = .r (.v (.int .i64 q))) (hz : q = (m : Int)) (hm : m < s.size) :
    VP pu E B o st (.r (.v (.int .u8 (bat s m)))) := by
  subst hz; exact V.idxStr ho ht hx hy hm
theorem RW.bool (d : Tmp) {g : Bool} (hv : Eng.gt st d = .r (.v (.bool g))) (h1 : g = true → RW E B all rest (st.set d (.r (.v (.bool true)))) K) (h2 : g = false → RW E B all rest (st.set d (.r (.v (.bool false)))) K) : RW E B all rest st K := by
  intro F a w hr
  cases g with
  | true => exact h1 rfl F a w (hr.same hv rfl)
  | false => exact h2 rfl F a w (hr.same hv rfl)
theorem RQ.bool (d : Tmp) {g : Bool} (hv : Eng.gt st d = .r (.v (.bool g))) (h1 : g = true → RQ E B all rest (st.set d (.r (.v (.bool true)))) K) (h2 : g = false → RQ E B all rest (st.set d (.r (.v (.bool false)))) K) : RQ E B all rest st K := by
  intro F a w hr
  cases g with
  | true => exact h1 rfl F a w (hr.same hv rfl)
  | false => exact h2 rfl F a w (hr.same hv rfl)
end
end Go.Eng

namespace Go.Eng
open Go Go.RowKit
def FnX (P : Program) {α : Type} (f : FuncId) (args : List A) (res : α → R) (outs : α → List A) : Prop :=
  Callable P f ∧ ∀ (w : World) (vs : List Value) (bs : List Nat) (G : Nat → Prop), Tb P w bs → (∀ b, G b → b < w.heap.size ∧ b ∉ bs) → ARs G w args vs bs → bs.Nodup → (∀ b ∈ bs, b < w.heap.size) →
    Calls P f vs.toArray w fun e w' => ∃ y x b1 b2, e = .returned x ∧ Stp w w' bs ∧ OR (aft G w w' bs (b1 ++ b2)) w' (res y) x b1 ∧ ARs (aft G w w' bs (b1 ++ b2)) w' (outs y) vs b2 ∧ (b1 ++ b2).Nodup ∧
      ∀ b ∈ b1 ++ b2, (b ∈ bs ∨ w.heap.size ≤ b) ∧ b < w'.heap.size
theorem FnX.intro {E : Env} {f : FuncId} {fn : Func} {c : Code} {rvs : List ResultVar} {args : List A} {α : Type} {res : α → R} {outs : α → List A} (hf : E.P.funcs[f]? = some fn) (hb : fn.body = some c) (hnm : (fn.name == "runtime.NumGoroutine") = false)
    (hrv : fn.results = rvs.toArray) (hap : ∀ y, (rvs.map rvSlot ++ outSlots 0 (outs y)).Nodup)
    (h : ∀ (B : Base E.P) (g : Nat → Nat → Value) (bo : Nat → Nat),
      CW E B c ⟨args.length + (fn.ntmps - args.length), num 0 (aDs g bo 0 args)⟩ (fun e st => match e with | .ret => ∃ y, Post E rvs args (res y) (outs y) g bo st | .normal => ∃ y, Post E rvs args (res y) (outs y) g bo st | _ => False)) :
    FnX E.P f args res outs := by
  refine ⟨⟨fn, hf, hnm, by simp [hb]⟩, ?_⟩
  intro w vs bs G htb hG hA hn hlt
  obtain ⟨g, bo, hd⟩ := ARs_D args 0 vs bs hA
  have hl : vs.length = args.length := by
    have := DLs_length hd
    rw [this]
    clear this hd hA h hap
    have : ∀ (as : List A) (i : Nat), (aDs g bo i as).length = as.length := by
      intro as
      induction as with
      | nil => intro i; rfl
      | cons a as ih => intro i; simp [aDs, ih]
    exact this args 0
  have hr := Rel.entry htb hG hd hn hlt (fn.ntmps - args.length)
  rw [← DLs_length hd, hl] at hr
  refine calls_of_wp hf hb ?_
  have hw := h ⟨G, bs, w, htb⟩ g bo G _ w hr
  simp only [List.size_toArray, hl]
  refine Code.wp_mono ?_ hw
  intro e a w' ⟨st', F', hq, hr'⟩
  have key : ∀ y, Post E rvs args (res y) (outs y) g bo st' → ∃ v, (results fn a.tmps).run E.P w' = .ok v w' ∧ ∃ x b1 b2, Ending.returned v = .returned x ∧ Stp w w' bs ∧ OR (aft G w w' bs (b1 ++ b2)) w' (res y) x b1 ∧ ARs (aft G w w' bs (b1 ++ b2)) w' (outs y) vs b2 ∧ (b1 ++ b2).Nodup ∧ ∀ b ∈ b1 ++ b2, (b ∈ bs ∨ w.heap.size ≤ b) ∧ b < w'.heap.size := by
    intro y hp
    have hap := hap y
    generalize res y = res at hp ⊢
    generalize outs y = outs at hp hap ⊢
    obtain ⟨hp1, hp2⟩ := hp
    obtain ⟨own, hs⟩ := hr'.slots
    have hs' : Slots F' (fun b => b ∈ bs ∨ w.heap.size ≤ b) w' st' a.tmps own := hs
    have hG' : ∀ b, G b → w'.heap[b]? = w.heap[b]? := fun b hb => hr'.fr.fix b (hG b hb).1 (hG b hb).2
    have hstp : Stp w w' bs := ⟨hr'.fr.os, hr'.fr.tape, hr'.fr.output, hr'.fr.size, fun b hb hnb => hr'.fr.fix b hb hnb⟩
    have hGa : ∀ cs : List Nat, (∀ b ∈ cs, b ∈ bs ∨ w.heap.size ≤ b) → ∀ b, G b → aft G w w' bs cs b := fun cs hc b hb => ⟨.inl hb, Nat.lt_of_lt_of_le (hG b hb).1 hr'.fr.size, fun hm => by
      rcases hc b hm with h1 | h1
      · exact (hG b hb).2 h1
      · have := (hG b hb).1; omega⟩
    have hFa : ∀ cs : List Nat, (∀ b ∈ cs, ¬ F' b) → ∀ b, F' b → aft G w w' bs cs b := fun cs hc b hb => ⟨hr'.Fin b hb, hr'.Flt b hb, fun hm => hc b hm hb⟩
    rw [List.nodup_append] at hap
    cases res with
    | one r =>
      obtain ⟨v, rfl, hv⟩ := hp1
      obtain ⟨x, b1, m1, m2, m3, m4⟩ := RV_run hs' hv
      obtain ⟨b2, k1, k2, k3⟩ := AOs_ARs (H := fun b => G b ∨ F' b) hG' (fun b hb => .inl hb) (fun b hb => .inr hb) hs' args outs 0 vs bs hd hp2
      have hin : ∀ b ∈ b1 ++ b2, (¬ F' b ∧ (b ∈ bs ∨ w.heap.size ≤ b)) ∧ b < w'.heap.size := fun b hb => by
        rcases List.mem_append.1 hb with hb | hb
        · exact (m4 b hb).2
        · exact (k3 b hb).2
      have hGa' := hGa (b1 ++ b2) (fun b hb => (hin b hb).1.2)
      have hFa' := hFa (b1 ++ b2) (fun b hb => (hin b hb).1.1)
      refine ⟨x, results_single hrv (m1 [] [] .nil), x, b1, b2, rfl, hstp, OR1_mono hFa' m2, ARs_mono (fun b hb => hb.elim (hGa' b) (hFa' b)) outs vs b2 k1, ?_, fun b hb => ⟨(hin b hb).1.2, (hin b hb).2⟩⟩
      rw [List.nodup_append]
      refine ⟨m3, k2, fun p hp q hq e => ?_⟩
      subst e
      exact hap.2.2 _ (by simp [(m4 p hp).1]) _ (k3 p hq).1 rfl
    | tup rs =>
      obtain ⟨hne, hv⟩ := hp1
      obtain ⟨xs, b1, m1, m2, m3, m4⟩ := RVs_run hs' hv hap.1
      obtain ⟨b2, k1, k2, k3⟩ := AOs_ARs (H := fun b => G b ∨ F' b) hG' (fun b hb => .inl hb) (fun b hb => .inr hb) hs' args outs 0 vs bs hd hp2
      have hin : ∀ b ∈ b1 ++ b2, (¬ F' b ∧ (b ∈ bs ∨ w.heap.size ≤ b)) ∧ b < w'.heap.size := fun b hb => by
        rcases List.mem_append.1 hb with hb | hb
        · exact (m4 b hb).2
        · exact (k3 b hb).2
      have hGa' := hGa (b1 ++ b2) (fun b hb => (hin b hb).1.2)
      have hFa' := hFa (b1 ++ b2) (fun b hb => (hin b hb).1.1)
      refine ⟨.tuple xs.toArray, results_list hrv (by rw [m1.len]; exact hne) m1, .tuple xs.toArray, b1, b2, rfl, hstp, ⟨xs, rfl, ORs_mono hFa' rs xs b1 m2⟩, ARs_mono (fun b hb => hb.elim (hGa' b) (hFa' b)) outs vs b2 k1, ?_, fun b hb => ⟨(hin b hb).1.2, (hin b hb).2⟩⟩
      rw [List.nodup_append]
      refine ⟨m3, k2, fun p hp q hq e => ?_⟩
      subst e
      exact hap.2.2 _ (m4 p hp).1 _ (k3 p hq).1 rfl
  cases e with
  | normal => obtain ⟨y, hq⟩ := hq; obtain ⟨v, h1, x, h2⟩ := key y hq; exact ⟨hr'.defers, v, h1, y, x, h2⟩
  | ret => obtain ⟨y, hq⟩ := hq; obtain ⟨v, h1, x, h2⟩ := key y hq; exact ⟨hr'.defers, v, h1, y, x, h2⟩
  | _ => exact hq.elim
section
variable {E : Env} {F : Nat → Prop} {B : Base E.P} {w : World} {o : Oper} {st : St} {K : St → Prop} {a : Act} {all rest : List Oper}
end
end Go.Eng

namespace Go.Eng
open Go Go.RowKit
section
variable {E : Env} {B : Base E.P} {st : St} {o : Oper}
end
end Go.Eng

namespace Go.Eng
open Go Go.RowKit

inductive Kfr where
  | c (y : Code)
  | b (id : Nat)
def SQ (E : Env) (B : Base E.P) : List Kfr → (Exit → St → Prop) → Exit → St → Prop
  | [], Q => Q
  | .c y :: ys, Q => QN (fun s => CW E B y s (SQ E B ys Q)) (SQ E B ys Q)
  | .b id :: ys, Q => QB id (SQ E B ys Q)
inductive Ki where
  | o (m : Nat)
  | e (ks : List Nat)
  | p
  | n (k : Nat)
inductive Kmd where
  | c (y : Code)
  | r (all rest : List Oper)
class RfK (E : Env) (B : Base E.P) (K : St → Prop) (ys : outParam (List Kfr)) (Q : outParam (Exit → St → Prop)) : Prop where
  h : ∀ s, SQ E B ys Q .normal s → K s
instance (priority := 10) RfK.z {E : Env} {B : Base E.P} {K : St → Prop} : RfK E B K [] (fun _ s => K s) := ⟨fun _ h => h⟩
instance (priority := 1000) RfK.s {E : Env} {B : Base E.P} {ys : List Kfr} {Q : Exit → St → Prop} : RfK E B (SQ E B ys Q .normal) ys Q := ⟨fun _ h => h⟩
class RfQ (E : Env) (B : Base E.P) (Q0 : Exit → St → Prop) (ys : outParam (List Kfr)) (Q : outParam (Exit → St → Prop)) : Prop where
  h : ∀ e s, SQ E B ys Q e s → Q0 e s
instance (priority := 10) RfQ.z {E : Env} {B : Base E.P} {Q : Exit → St → Prop} : RfQ E B Q [] Q := ⟨fun _ _ h => h⟩
instance (priority := 1000) RfQ.s {E : Env} {B : Base E.P} {ys : List Kfr} {Q : Exit → St → Prop} : RfQ E B (SQ E B ys Q) ys Q := ⟨fun _ _ h => h⟩

def resK (E : Env) (B : Base E.P) (n : Nat) (Q : Exit → St → Prop) : Kmd → List Kfr → List (Nat × D) → Prop
  | .c y, [], l => CW E B y ⟨n, l⟩ Q
  | .c y, ys, l => CW E B y ⟨n, l⟩ (SQ E B ys Q)
  | .r all rest, ys, l => RW E B all rest ⟨n, l⟩ (SQ E B ys Q .normal)
def popK (f : Code → List Kfr → Prop) (z : Prop) : List Kfr → Prop
  | [] => z
  | .c y :: ys => f y ys
  | .b _ :: ys => popK f z ys
def goK (E : Env) (X : Kd E.P) (B : Base E.P) (n : Nat) (Q : Exit → St → Prop) : Nat → List Ki → Kmd → List Kfr → List (Nat × D) → List (Nat × Nat) → Prop
  | 0, _, _, _, _, _ => False
  | _ + 1, [], md, ys, l, q => Ob q (resK E B n Q md ys l)
  | m + 1, .e ks :: is, md, ys, l, q => keepK n l ks fun l' => goK E X B n Q m is md ys l' q
  | m + 1, .n 0 :: is, md, ys, l, q => goK E X B n Q m is md ys l q
  | m + 1, .n (k + 1) :: is, md, ys, l, q => goK E X B n Q m (.o 999 :: .p :: .n k :: is) md ys l q
  | m + 1, .o k :: is, .r all rest, ys, l, q => runK E X all n (fun rest l q => goK E X B n Q m is (.r all rest) ys l q) k rest l q
  | m + 1, .o k :: is, .c (.seq x y), ys, l, q => goK E X B n Q m (.o k :: is) (.c x) (.c y :: ys) l q
  | m + 1, .o k :: is, .c (.region _ ops false), ys, l, q => goK E X B n Q m (.o k :: is) (.r ops.toList ops.toList) ys l q
  | m + 1, .o k :: is, .c .skip, ys, l, q => popK (fun y ys => goK E X B n Q m (.o k :: is) (.c y) ys l q) False ys
  | m + 1, .o k :: is, .c (.block id c), ys, l, q => goK E X B n Q m (.o k :: is) (.c c) (.b id :: ys) l q
  | m + 1, .p :: is, .r all [], ys, l, q => popK (fun y ys => goK E X B n Q m is (.c y) ys l q) (Ob q (Q .normal ⟨n, l⟩)) ys
  | m + 1, .p :: is, .c .skip, ys, l, q => popK (fun y ys => goK E X B n Q m is (.c y) ys l q) (Ob q (Q .normal ⟨n, l⟩)) ys
  | m + 1, .p :: is, .c (.region _ ops false), ys, l, q => goK E X B n Q m is (.r ops.toList ops.toList) ys l q
  | m + 1, .p :: is, .c (.seq x y), ys, l, q => goK E X B n Q m is (.c x) (.c y :: ys) l q
  | m + 1, .p :: is, .c (.block id c), ys, l, q => goK E X B n Q m is (.c c) (.b id :: ys) l q
  | _ + 1, _ :: _, _, _, _, _ => False

theorem popK_ok {E : Env} {B : Base E.P} {n : Nat} {Q : Exit → St → Prop} {l : List (Nat × D)} {P : Prop} {f : Code → List Kfr → Prop} {z : Prop} (hf : ∀ y ys, f y ys → P ∧ CW E B y ⟨n, l⟩ (SQ E B ys Q)) (hz : z → P ∧ Q .normal ⟨n, l⟩) : ∀ ys, popK f z ys → P ∧ SQ E B ys Q .normal ⟨n, l⟩
  | [], h => hz h
  | .c y :: ys, h => hf _ _ h
  | .b id :: ys, h => popK_ok hf hz ys h
theorem resK_c {E : Env} {B : Base E.P} {n : Nat} {Q : Exit → St → Prop} {y : Code} {ys : List Kfr} {l : List (Nat × D)} (h : resK E B n Q (.c y) ys l) : CW E B y ⟨n, l⟩ (SQ E B ys Q) := by
  cases ys <;> exact h
def resW (E : Env) (B : Base E.P) (n : Nat) (Q : Exit → St → Prop) : Kmd → List Kfr → List (Nat × D) → Prop
  | .c y, ys, l => CW E B y ⟨n, l⟩ (SQ E B ys Q)
  | .r all rest, ys, l => RW E B all rest ⟨n, l⟩ (SQ E B ys Q .normal)
theorem resK_W {E : Env} {B : Base E.P} {n : Nat} {Q : Exit → St → Prop} {md : Kmd} {ys : List Kfr} {l : List (Nat × D)} (h : resK E B n Q md ys l) : resW E B n Q md ys l := by
  cases md with
  | c y => exact resK_c h
  | r all rest => cases ys <;> exact h
theorem goK_ok {E : Env} {X : Kd E.P} {B : Base E.P} {n : Nat} {Q : Exit → St → Prop} : ∀ (m : Nat) (is : List Ki) (md : Kmd) (ys : List Kfr) (l : List (Nat × D)) (q : List (Nat × Nat)), goK E X B n Q m is md ys l q → Eqs q ∧ resW E B n Q md ys l
  | 0, _, _, _, _, _, h => (h : False).elim
  | m + 1, [], md, ys, l, q, h => ⟨Ob.e h, resK_W (Ob.h h)⟩
  | m + 1, .e ks :: is, md, ys, l, q, h => by
    obtain ⟨l', h1, h2⟩ := keepK_of (show keepK n l ks fun l' => goK E X B n Q m is md ys l' q from h)
    obtain ⟨h3, h4⟩ := goK_ok m _ _ _ _ _ h2
    refine ⟨h3, ?_⟩
    cases md with
    | c y => exact CW.le l' rfl h1 h4
    | r all rest => exact RW.le l' rfl h1 h4
  | m + 1, .n 0 :: is, md, ys, l, q, h => goK_ok m is md ys l q h
  | m + 1, .n (k + 1) :: is, md, ys, l, q, h => goK_ok m (.o 999 :: .p :: .n k :: is) md ys l q h
  | m + 1, .o k :: is, .r all rest, ys, l, q, h => runK_ok (B := B) (K := SQ E B ys Q .normal) (fun rest l q h => goK_ok m _ _ _ _ _ h) _ _ _ _ (show runK E X all n (fun rest l q => goK E X B n Q m is (.r all rest) ys l q) k rest l q from h)
  | m + 1, .o k :: is, .c c, ys, l, q, h => by
    cases c with
    | seq x y =>
      obtain ⟨h1, h2⟩ := goK_ok m _ _ _ _ _ (show goK E X B n Q m (.o k :: is) (.c x) (.c y :: ys) l q from h)
      exact ⟨h1, CW.seq h2⟩
    | region id ops b =>
      cases b with
      | true => exact (h : False).elim
      | false =>
        obtain ⟨h1, h2⟩ := goK_ok m _ _ _ _ _ (show goK E X B n Q m (.o k :: is) (.r ops.toList ops.toList) ys l q from h)
        have e : ops = ops.toList.toArray := by simp
        refine ⟨h1, ?_⟩
        show CW E B (.region id ops false) ⟨n, l⟩ _
        rw [e]
        exact CW.region h2
    | skip =>
      obtain ⟨h1, h2⟩ := popK_ok (fun y ys h => goK_ok m _ _ _ _ _ h) (fun h => h.elim) ys (show popK (fun y ys => goK E X B n Q m (.o k :: is) (.c y) ys l q) False ys from h)
      exact ⟨h1, CW.skip h2⟩
    | block id c =>
      obtain ⟨h1, h2⟩ := goK_ok m _ _ _ _ _ (show goK E X B n Q m (.o k :: is) (.c c) (.b id :: ys) l q from h)
      exact ⟨h1, CW.block h2⟩
    | _ => exact (h : False).elim
  | m + 1, .p :: is, .r all [], ys, l, q, h => by
    obtain ⟨h1, h2⟩ := popK_ok (fun y ys h => goK_ok m _ _ _ _ _ h) (fun h => ⟨h.e, h.h⟩) ys (show popK (fun y ys => goK E X B n Q m is (.c y) ys l q) (Ob q (Q .normal ⟨n, l⟩)) ys from h)
    exact ⟨h1, RW.nil h2⟩
  | m + 1, .p :: is, .r all (o :: r), ys, l, q, h => (h : False).elim
  | m + 1, .p :: is, .c c, ys, l, q, h => by
    cases c with
    | seq x y =>
      obtain ⟨h1, h2⟩ := goK_ok m _ _ _ _ _ (show goK E X B n Q m is (.c x) (.c y :: ys) l q from h)
      exact ⟨h1, CW.seq h2⟩
    | region id ops b =>
      cases b with
      | true => exact (h : False).elim
      | false =>
        obtain ⟨h1, h2⟩ := goK_ok m _ _ _ _ _ (show goK E X B n Q m is (.r ops.toList ops.toList) ys l q from h)
        have e : ops = ops.toList.toArray := by simp
        refine ⟨h1, ?_⟩
        show CW E B (.region id ops false) ⟨n, l⟩ _
        rw [e]
        exact CW.region h2
    | skip =>
      obtain ⟨h1, h2⟩ := popK_ok (fun y ys h => goK_ok m _ _ _ _ _ h) (fun h => ⟨h.e, h.h⟩) ys (show popK (fun y ys => goK E X B n Q m is (.c y) ys l q) (Ob q (Q .normal ⟨n, l⟩)) ys from h)
      exact ⟨h1, CW.skip h2⟩
    | block id c =>
      obtain ⟨h1, h2⟩ := goK_ok m _ _ _ _ _ (show goK E X B n Q m is (.c c) (.b id :: ys) l q from h)
      exact ⟨h1, CW.block h2⟩
    | _ => exact (h : False).elim
theorem CW.g {E : Env} {B : Base E.P} {c : Code} {st : St} {Q0 : Exit → St → Prop} {ys : List Kfr} {Q : Exit → St → Prop} [hq : RfQ E B Q0 ys Q] (X : Kd E.P) (n : Nat) (is : List Ki) {q : List (Nat × Nat)} {R : Prop} (hn : st.n = n)
    (hev : spK st.l (fun l => goK E X B n Q 999 is (.c c) ys l []) = Ob q R) (he : q.map (·.1) = q.map (·.2)) (h : R) : CW E B c st Q0 := by
  subst hn
  rw [spK_eq] at hev
  have := goK_ok _ _ _ _ _ _ (hev ▸ (⟨he, h⟩ : Ob q R) : goK E X B st.n Q 999 is (.c c) ys st.l [])
  exact CW.mono this.2 hq.h
theorem RW.g {E : Env} {B : Base E.P} {all rest : List Oper} {st : St} {K : St → Prop} {ys : List Kfr} {Q : Exit → St → Prop} [hq : RfK E B K ys Q] (X : Kd E.P) (n : Nat) (is : List Ki) {q : List (Nat × Nat)} {R : Prop} (hn : st.n = n)
    (hev : spK st.l (fun l => goK E X B n Q 999 is (.r all rest) ys l []) = Ob q R) (he : q.map (·.1) = q.map (·.2)) (h : R) : RW E B all rest st K := by
  subst hn
  rw [spK_eq] at hev
  have := goK_ok _ _ _ _ _ _ (hev ▸ (⟨he, h⟩ : Ob q R) : goK E X B st.n Q 999 is (.r all rest) ys st.l [])
  exact fun F a w hr Q' hQ => this.2 F a w hr Q' (fun F' st' a' w' hk hr' => hQ F' st' a' w' (hq.h _ hk) hr')
theorem CW.h {E : Env} {B : Base E.P} {c : Code} {st : St} {Q0 : Exit → St → Prop} {ys : List Kfr} {Q : Exit → St → Prop} [hq : RfQ E B Q0 ys Q] (X : Kd E.P) (n : Nat) (is : List Ki) (hn : st.n = n)
    (h : spK st.l (fun l => goK E X B n Q 999 is (.c c) ys l [])) : CW E B c st Q0 := by
  subst hn
  rw [spK_eq] at h
  exact CW.mono (goK_ok _ _ _ _ _ _ h).2 hq.h
theorem RW.h {E : Env} {B : Base E.P} {all rest : List Oper} {st : St} {K : St → Prop} {ys : List Kfr} {Q : Exit → St → Prop} [hq : RfK E B K ys Q] (X : Kd E.P) (n : Nat) (is : List Ki) (hn : st.n = n)
    (h : spK st.l (fun l => goK E X B n Q 999 is (.r all rest) ys l [])) : RW E B all rest st K := by
  subst hn
  rw [spK_eq] at h
  have := goK_ok _ _ _ _ _ _ h
  exact fun F a w hr Q' hQ => this.2 F a w hr Q' (fun F' st' a' w' hk hr' => hQ F' st' a' w' (hq.h _ hk) hr')
end Go.Eng

namespace Go.Eng
open Go Go.RowKit
section
variable {E : Env} {F : Nat → Prop} {B : Base E.P} {w : World} {o : Oper} {st : St} {K : St → Prop} {a : Act} {all rest : List Oper}
end
end Go.Eng

namespace Go.Eng
open Go Go.RowKit
section
variable {E : Env} {F : Nat → Prop} {B : Base E.P} {w : World} {o : Oper} {st : St} {K : St → Prop} {a : Act} {all rest : List Oper}
theorem V.midS {pu : Bool} {α : Type} {t e : TypeId} {x y1 y2 : Operand} {i ie : TyI} {c : α → List T} {l : List α} {m q : Nat} {z1 z2 : Int} (ho : o.op = .slice t x (some y1) (some y2) none) (ht : E.tabs t = some i) (he : i.td = .slice e) (hte : E.tabs e = some ie)
    (hx : ev st x = .r (sl ie.sz c l)) (hy1 : ev st y1 = .r (.v (.int .i64 z1))) (hy2 : ev st y2 = .r (.v (.int .i64 z2))) (h1 : z1 = (m : Int)) (h2 : z2 = ((m + q : Nat) : Int)) (hc : ∀ x, (c x).length = ie.sz) (hm : m + q ≤ l.length) : VP pu E B o st (.r (sl ie.sz c ((l.drop m).take q))) := by
  subst h1 h2
  have h := V.sliceR (pu := pu) (B := B) (n := l.length) (l := (m : Int)) (h := ((m + q : Nat) : Int)) ho ht he hte hx (.inr ⟨y1, .i64, rfl, hy1⟩) (.inr ⟨y2, .i64, rfl, hy2⟩) (by omega) (by omega) (by omega)
  have e0 : ((m + q : Nat) : Int).toNat - (m : Int).toNat = q := by rw [Int.toNat_natCast, Int.toNat_natCast]; omega
  have e1 : ((l.drop m).take q).length = q := by rw [List.length_take, List.length_drop]; omega
  have e2 : ((l.flatMap c).drop ((m : Int).toNat * ie.sz)).take (q * ie.sz) = ((l.drop m).take q).flatMap c := by
    simp only [Int.toNat_natCast]
    rw [flatMap_dropS hc, flatMap_take hc]
  rw [e0, e2] at h
  show VP pu E B o st (.r (.a ie.sz ((l.drop m).take q).length (((l.drop m).take q).flatMap c)))
  rw [e1]; exact h
end
end Go.Eng
