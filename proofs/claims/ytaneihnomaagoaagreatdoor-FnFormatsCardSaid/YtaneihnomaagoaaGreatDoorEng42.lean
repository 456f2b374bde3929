import Derived.Test.YtaneihnomaagoaaGreatDoorEng39
namespace Go.Eng
open Go Go.RowKit
section
variable {E : Env} {F : Nat → Prop} {B : Base E.P} {w : World} {o : Oper} {st : St} {K : St → Prop} {a : Act} {all rest : List Oper}
theorem fill_all : ∀ (vs : List Value) (k : Nat) (pre post : List Value), vs.map Value.cells = vs.map (fun v => #[v]) → pre.length = k → post.length = vs.length →
    Instr.fill (fun i => some (i * 1, 1)) (pre ++ post).toArray ((vs.zipIdx k).map fun p => (p.2, p.1)) = some (pre ++ vs).toArray
  | [], k, pre, post, _, _, hl => by
    obtain rfl : post = [] := List.eq_nil_of_length_eq_zero (by simpa using hl)
    simp [Instr.fill]
  | v :: vs, k, pre, post, hv, hk, hl => by
    obtain ⟨p, post', rfl⟩ : ∃ p q, post = p :: q := by
      cases post with
      | nil => simp at hl
      | cons p q => exact ⟨p, q, rfl⟩
    simp only [List.map_cons, List.cons.injEq] at hv
    rw [List.zipIdx_cons, List.map_cons, fill_cons (vs := [v]) (off := k) (by simpa using hv.1) (by simp) (by simp; omega)]
    have e : setN (pre ++ p :: post') k [v] = (pre ++ [v]) ++ post' := by
      simp [setN, hk.symm]
    show Instr.fill _ (setN (pre ++ p :: post') k [v]).toArray _ = _
    rw [e, fill_all vs (k + 1) (pre ++ [v]) post' hv.2 (by simp [hk]) (by simpa using hl)]
    simp
theorem OL_vals : ∀ (vs : List Value), OL w (vs.map T.v) vs []
  | [] => by simp [OL]
  | v :: vs => by
    simp only [List.map_cons, OL]
    exact ⟨v, vs, [], [], rfl, rfl, by simp [OT], OL_vals vs⟩
theorem OK.buildK {α : Type} {t e : TypeId} {n : Nat} {ps : Array (Nat × Operand)} {i ie : TyI} {c : α → List T} {L : List α} {vs : List Value} (ho : o.op = .buildSlice t n ps) (ht : E.tabs t = some i) (he : i.td = .slice e) (hte : E.tabs e = some ie)
    (hps : ∀ a : Act, ps.toList.map (fun p => (p.1, a.eval p.2)) = vs.zipIdx.map fun p => (p.2, p.1)) (hn : n = vs.length) (hv : vs.map Value.cells = vs.map (fun v => #[v])) (hL : L.flatMap c = vs.map T.v) (hn0 : 0 < n) (hn1 : n ≤ 4096) (hLl : L.length = n) (hsz : ie.sz = 1)
    (h : ∀ X, K (setD st o.dst (.w (sl ie.sz c L) X))) : OK E B o st K := by
  intro F a w hr next Q hnx
  obtain ⟨j, d, z, t1, t2, t3, t4, t5, t6, t7⟩ := tyI_spec (E.ok _ _ hte)
  have hu := tyI_slice (E.ok _ _ ht) he
  have hj : j.size = 1 := by rw [t4, hsz]
  have hf : Instr.fill (fun i => some (i * j.size, j.size)) ((Array.range (n * j.size)).map (z.cells[· % z.cells.size]!)) (vs.zipIdx.map fun p => (p.2, p.1)) = some vs.toArray := by
    rw [hj, Nat.mul_one]
    have e : (Array.range n).map (z.cells[· % z.cells.size]!) = ([] ++ (List.range n).map (z.cells[· % z.cells.size]!)).toArray := by
      rw [← Array.toList_inj]; simp
    rw [e, fill_all vs 0 [] _ hv rfl (by simp [hn])]
    simp
  have hpa : (ps.map fun (x : Nat × Operand) => match x with | (i, x) => (i, a.eval x)).toList = vs.zipIdx.map fun p => (p.2, p.1) := by
    rw [Array.toList_map]; exact hps a
  have := run_buildSlice w t e n (ps.map fun (x : Nat × Operand) => match x with | (i, x) => (i, a.eval x)) vs.toArray j z hu t1 t3 (by rw [hj]; omega) (by rw [hj]; omega) (by rw [hpa]; exact hf)
  have hrun : (execOp a.eval o).run E.P w = .ok (.value (.slice (some ⟨w.heap.size, 0, none⟩) n n)) (w.alloc (.cells vs.toArray e)) := by
    simp [execOp, ho, Sem.run_bind, this]
  unfold Oper.wp
  rw [hrun, Oper.upon_value]
  refine hnx _ _ _ _ (h (.slice (some ⟨w.heap.size, 0, none⟩) n n)) (hr.putNew' o.dst (Stp.alloc w _ []) (d := .w _ _) (bs := [w.heap.size]) ?_ (by simp) (by simp))
  simp only [DR, sl, OT]
  refine ⟨trivial, .inr ⟨w.heap.size, 0, n, vs.toArray, e, [], by rw [hLl], by omega, by simp [maxLen]; omega, heap_alloc_new w _, by simp [hsz, hn], by rw [hL]; simp [hsz, hLl, hn], rfl, ?_⟩⟩
  rw [hL]
  simpa using OL_vals vs
theorem RW.buildK {α : Type} {t e : TypeId} {n : Nat} {ps : Array (Nat × Operand)} {i ie : TyI} {c : α → List T} {L : List α} {vs : List Value} (hg : o.guard = none) (ho : o.op = .buildSlice t n ps) (ht : E.tabs t = some i) (he : i.td = .slice e) (hte : E.tabs e = some ie)
    (hps : ∀ a : Act, ps.toList.map (fun p => (p.1, a.eval p.2)) = vs.zipIdx.map fun p => (p.2, p.1)) (hn : n = vs.length) (hv : vs.map Value.cells = vs.map (fun v => #[v])) (hL : L.flatMap c = vs.map T.v) (hn0 : 0 < n) (hn1 : n ≤ 4096) (hLl : L.length = n) (hsz : ie.sz = 1)
    (h : ∀ X, RW E B all rest (setD st o.dst (.w (sl ie.sz c L) X)) K) : RW E B all (o :: rest) st K := RW.cons hg (OK.buildK ho ht he hte hps hn hv hL hn0 hn1 hLl hsz h)
theorem RO.buildK {fc : Facts} {n0 q : Nat} {ls ls' : Array Bool} {α : Type} {t e : TypeId} {n : Nat} {ps : Array (Nat × Operand)} {i ie : TyI} {c : α → List T} {L : List α} {vs : List Value} (hi : all[q]? = some o) (hgu : o.guard = none) (hl : ls.setIfInBounds q true = ls') (ho : o.op = .buildSlice t n ps) (ht : E.tabs t = some i) (he : i.td = .slice e) (hte : E.tabs e = some ie)
    (hps : ∀ a : Act, ps.toList.map (fun p => (p.1, a.eval p.2)) = vs.zipIdx.map fun p => (p.2, p.1)) (hn : n = vs.length) (hv : vs.map Value.cells = vs.map (fun v => #[v])) (hL : L.flatMap c = vs.map T.v) (hn0 : 0 < n) (hn1 : n ≤ 4096) (hLl : L.length = n) (hsz : ie.sz = 1)
    (h : ∀ X, RA fc E B all n0 ls' (setD st o.dst (.w (sl ie.sz c L) X)) K) : RO fc E B all n0 ls st K q :=
  ⟨o, hi, hgu, OK.buildK ho ht he hte hps hn hv hL hn0 hn1 hLl hsz (fun X => by rw [hl]; exact h X)⟩
theorem eval_all {F : Nat → Prop} {B : Base E.P} {st : St} {a : Act} {w : World} (hr : Rel F B st a w) : ∀ (xs : List Operand) (vs : List Value), xs.map (ev st) = vs.map (fun v => D.r (T.v v)) → xs.map a.eval = vs
  | [], [], _ => rfl
  | x :: xs, v :: vs, h => by
    simp only [List.map_cons, List.cons.injEq] at h ⊢
    exact ⟨ev_scalar hr h.1, eval_all hr xs vs h.2⟩
  | [], _ :: _, h => by simp at h
  | _ :: _, [], h => by simp at h
theorem OK.buildV {α : Type} {t e : TypeId} {n : Nat} {ps : Array (Nat × Operand)} {i ie : TyI} {c : α → List T} {L : List α} {vs : List Value} (xs : List Operand) (ho : o.op = .buildSlice t n ps) (ht : E.tabs t = some i) (he : i.td = .slice e) (hte : E.tabs e = some ie)
    (hps : ps.toList = xs.zipIdx.map fun p => (p.2, p.1)) (hev : xs.map (ev st) = vs.map (fun v => D.r (T.v v))) (hn : n = vs.length) (hv : vs.map Value.cells = vs.map (fun v => #[v])) (hL : L.flatMap c = vs.map T.v) (hn0 : 0 < n) (hn1 : n ≤ 4096) (hLl : L.length = n) (hsz : ie.sz = 1)
    (h : ∀ X, K (setD st o.dst (.w (sl ie.sz c L) X))) : OK E B o st K := by
  intro F a w hr next Q hnx
  obtain ⟨j, d, z, t1, t2, t3, t4, t5, t6, t7⟩ := tyI_spec (E.ok _ _ hte)
  have hu := tyI_slice (E.ok _ _ ht) he
  have hj : j.size = 1 := by rw [t4, hsz]
  have hxv := eval_all hr xs vs hev
  have hps2 : ps.toList.map (fun p => (p.1, a.eval p.2)) = vs.zipIdx.map fun p => (p.2, p.1) := by
    rw [hps, ← hxv, List.map_map, List.zipIdx_map, List.map_map]
    rfl
  have hf : Instr.fill (fun i => some (i * j.size, j.size)) ((Array.range (n * j.size)).map (z.cells[· % z.cells.size]!)) (vs.zipIdx.map fun p => (p.2, p.1)) = some vs.toArray := by
    rw [hj, Nat.mul_one]
    have e : (Array.range n).map (z.cells[· % z.cells.size]!) = ([] ++ (List.range n).map (z.cells[· % z.cells.size]!)).toArray := by
      rw [← Array.toList_inj]; simp
    rw [e, fill_all vs 0 [] _ hv rfl (by simp [hn])]
    simp
  have hpa : (ps.map fun (x : Nat × Operand) => match x with | (i, x) => (i, a.eval x)).toList = vs.zipIdx.map fun p => (p.2, p.1) := by
    rw [Array.toList_map]; exact hps2
  have := run_buildSlice w t e n (ps.map fun (x : Nat × Operand) => match x with | (i, x) => (i, a.eval x)) vs.toArray j z hu t1 t3 (by rw [hj]; omega) (by rw [hj]; omega) (by rw [hpa]; exact hf)
  have hrun : (execOp a.eval o).run E.P w = .ok (.value (.slice (some ⟨w.heap.size, 0, none⟩) n n)) (w.alloc (.cells vs.toArray e)) := by
    simp [execOp, ho, Sem.run_bind, this]
  unfold Oper.wp
  rw [hrun, Oper.upon_value]
  refine hnx _ _ _ _ (h (.slice (some ⟨w.heap.size, 0, none⟩) n n)) (hr.putNew' o.dst (Stp.alloc w _ []) (d := .w _ _) (bs := [w.heap.size]) ?_ (by simp) (by simp))
  simp only [DR, sl, OT]
  refine ⟨trivial, .inr ⟨w.heap.size, 0, n, vs.toArray, e, [], by rw [hLl], by omega, by simp [maxLen]; omega, heap_alloc_new w _, by simp [hsz, hn], by rw [hL]; simp [hsz, hLl, hn], rfl, ?_⟩⟩
  rw [hL]
  simpa using OL_vals vs
theorem RW.buildV {α : Type} {t e : TypeId} {n : Nat} {ps : Array (Nat × Operand)} {i ie : TyI} {c : α → List T} {L : List α} {vs : List Value} (xs : List Operand) (hg : o.guard = none) (ho : o.op = .buildSlice t n ps) (ht : E.tabs t = some i) (he : i.td = .slice e) (hte : E.tabs e = some ie)
    (hps : ps.toList = xs.zipIdx.map fun p => (p.2, p.1)) (hev : xs.map (ev st) = vs.map (fun v => D.r (T.v v))) (hn : n = vs.length) (hv : vs.map Value.cells = vs.map (fun v => #[v])) (hL : L.flatMap c = vs.map T.v) (hn0 : 0 < n) (hn1 : n ≤ 4096) (hLl : L.length = n) (hsz : ie.sz = 1)
    (h : ∀ X, RW E B all rest (setD st o.dst (.w (sl ie.sz c L) X)) K) : RW E B all (o :: rest) st K := RW.cons hg (OK.buildV xs ho ht he hte hps hev hn hv hL hn0 hn1 hLl hsz h)
theorem RO.buildV {fc : Facts} {n0 q : Nat} {ls ls' : Array Bool} {α : Type} {t e : TypeId} {n : Nat} {ps : Array (Nat × Operand)} {i ie : TyI} {c : α → List T} {L : List α} {vs : List Value} (xs : List Operand) (hi : all[q]? = some o) (hgu : o.guard = none) (hl : ls.setIfInBounds q true = ls') (ho : o.op = .buildSlice t n ps) (ht : E.tabs t = some i) (he : i.td = .slice e) (hte : E.tabs e = some ie)
    (hps : ps.toList = xs.zipIdx.map fun p => (p.2, p.1)) (hev : xs.map (ev st) = vs.map (fun v => D.r (T.v v))) (hn : n = vs.length) (hv : vs.map Value.cells = vs.map (fun v => #[v])) (hL : L.flatMap c = vs.map T.v) (hn0 : 0 < n) (hn1 : n ≤ 4096) (hLl : L.length = n) (hsz : ie.sz = 1)
    (h : ∀ X, RA fc E B all n0 ls' (setD st o.dst (.w (sl ie.sz c L) X)) K) : RO fc E B all n0 ls st K q :=
  ⟨o, hi, hgu, OK.buildV xs ho ht he hte hps hev hn hv hL hn0 hn1 hLl hsz (fun X => by rw [hl]; exact h X)⟩
theorem V.idxStrZ {pu : Bool} {t : TypeId} {x y : Operand} {s : ByteArray} {m : Nat} {q : Int} (ho : o.op = .index t x y) (ht : E.P.underlying t = some .string) (hx : ev st x = .r (.v (.string s))) (hy : ev st y = .r (.v (.int .i64 q))) (hz : q = (m : Int)) (hm : m < s.size) :
    VP pu E B o st (.r (.v (.int .u8 (bat s m)))) := by
  subst hz; exact V.idxStr ho ht hx hy hm
theorem RW.bool (d : Tmp) {g : Bool} (hv : Eng.gt st d = .r (.v (.bool g))) (h1 : g = true → RW E B all rest (st.set d (.r (.v (.bool true)))) K) (h2 : g = false → RW E B all rest (st.set d (.r (.v (.bool false)))) K) : RW E B all rest st K := by
  intro F a w hr
  cases g with
  | true => exact h1 rfl F a w (hr.same hv rfl)
  | false => exact h2 rfl F a w (hr.same hv rfl)
theorem RQ.bool (d : Tmp) {g : Bool} (hv : Eng.gt st d = .r (.v (.bool g))) (h1 : g = true → RQ E B all rest (st.set d (.r (.v (.bool true)))) K) (h2 : g = false → RQ E B all rest (st.set d (.r (.v (.bool false)))) K) : RQ E B all rest st K := by
  intro F a w hr
  cases g with
  | true => exact h1 rfl F a w (hr.same hv rfl)
  | false => exact h2 rfl F a w (hr.same hv rfl)
end
end Go.Eng

namespace Go.Eng
open Go Go.RowKit
def FnX (P : Program) {α : Type} (f : FuncId) (args : List A) (res : α → R) (outs : α → List A) : Prop :=
  Callable P f ∧ ∀ (w : World) (vs : List Value) (bs : List Nat) (G : Nat → Prop), Tb P w bs → (∀ b, G b → b < w.heap.size ∧ b ∉ bs) → ARs G w args vs bs → bs.Nodup → (∀ b ∈ bs, b < w.heap.size) →
    Calls P f vs.toArray w fun e w' => ∃ y x b1 b2, e = .returned x ∧ Stp w w' bs ∧ OR (aft G w w' bs (b1 ++ b2)) w' (res y) x b1 ∧ ARs (aft G w w' bs (b1 ++ b2)) w' (outs y) vs b2 ∧ (b1 ++ b2).Nodup ∧
      ∀ b ∈ b1 ++ b2, (b ∈ bs ∨ w.heap.size ≤ b) ∧ b < w'.heap.size
theorem FnX.intro {E : Env} {f : FuncId} {fn : Func} {c : Code} {rvs : List ResultVar} {args : List A} {α : Type} {res : α → R} {outs : α → List A} (hf : E.P.funcs[f]? = some fn) (hb : fn.body = some c) (hnm : (fn.name == "runtime.NumGoroutine") = false)
    (hrv : fn.results = rvs.toArray) (hap : ∀ y, (rvs.map rvSlot ++ outSlots 0 (outs y)).Nodup)
    (h : ∀ (B : Base E.P) (g : Nat → Nat → Value) (bo : Nat → Nat),
      CW E B c ⟨args.length + (fn.ntmps - args.length), num 0 (aDs g bo 0 args)⟩ (fun e st => match e with | .ret => ∃ y, Post E rvs args (res y) (outs y) g bo st | .normal => ∃ y, Post E rvs args (res y) (outs y) g bo st | _ => False)) :
    FnX E.P f args res outs := by
  refine ⟨⟨fn, hf, hnm, by simp [hb]⟩, ?_⟩
  intro w vs bs G htb hG hA hn hlt
  obtain ⟨g, bo, hd⟩ := ARs_D args 0 vs bs hA
  have hl : vs.length = args.length := by
    have := DLs_length hd
    rw [this]
    clear this hd hA h hap
    have : ∀ (as : List A) (i : Nat), (aDs g bo i as).length = as.length := by
      intro as
      induction as with
      | nil => intro i; rfl
      | cons a as ih => intro i; simp [aDs, ih]
    exact this args 0
  have hr := Rel.entry htb hG hd hn hlt (fn.ntmps - args.length)
  rw [← DLs_length hd, hl] at hr
  refine calls_of_wp hf hb ?_
  have hw := h ⟨G, bs, w, htb⟩ g bo G _ w hr
  simp only [List.size_toArray, hl]
  refine Code.wp_mono ?_ hw
  intro e a w' ⟨st', F', hq, hr'⟩
  have key : ∀ y, Post E rvs args (res y) (outs y) g bo st' → ∃ v, (results fn a.tmps).run E.P w' = .ok v w' ∧ ∃ x b1 b2, Ending.returned v = .returned x ∧ Stp w w' bs ∧ OR (aft G w w' bs (b1 ++ b2)) w' (res y) x b1 ∧ ARs (aft G w w' bs (b1 ++ b2)) w' (outs y) vs b2 ∧ (b1 ++ b2).Nodup ∧ ∀ b ∈ b1 ++ b2, (b ∈ bs ∨ w.heap.size ≤ b) ∧ b < w'.heap.size := by
    intro y hp
    have hap := hap y
    generalize res y = res at hp ⊢
    generalize outs y = outs at hp hap ⊢
    obtain ⟨hp1, hp2⟩ := hp
    obtain ⟨own, hs⟩ := hr'.slots
    have hs' : Slots F' (fun b => b ∈ bs ∨ w.heap.size ≤ b) w' st' a.tmps own := hs
    have hG' : ∀ b, G b → w'.heap[b]? = w.heap[b]? := fun b hb => hr'.fr.fix b (hG b hb).1 (hG b hb).2
    have hstp : Stp w w' bs := ⟨hr'.fr.os, hr'.fr.tape, hr'.fr.output, hr'.fr.size, fun b hb hnb => hr'.fr.fix b hb hnb⟩
    have hGa : ∀ cs : List Nat, (∀ b ∈ cs, b ∈ bs ∨ w.heap.size ≤ b) → ∀ b, G b → aft G w w' bs cs b := fun cs hc b hb => ⟨.inl hb, Nat.lt_of_lt_of_le (hG b hb).1 hr'.fr.size, fun hm => by
      rcases hc b hm with h1 | h1
      · exact (hG b hb).2 h1
      · have := (hG b hb).1; omega⟩
    have hFa : ∀ cs : List Nat, (∀ b ∈ cs, ¬ F' b) → ∀ b, F' b → aft G w w' bs cs b := fun cs hc b hb => ⟨hr'.Fin b hb, hr'.Flt b hb, fun hm => hc b hm hb⟩
    rw [List.nodup_append] at hap
    cases res with
    | one r =>
      obtain ⟨v, rfl, hv⟩ := hp1
      obtain ⟨x, b1, m1, m2, m3, m4⟩ := RV_run hs' hv
      obtain ⟨b2, k1, k2, k3⟩ := AOs_ARs (H := fun b => G b ∨ F' b) hG' (fun b hb => .inl hb) (fun b hb => .inr hb) hs' args outs 0 vs bs hd hp2
      have hin : ∀ b ∈ b1 ++ b2, (¬ F' b ∧ (b ∈ bs ∨ w.heap.size ≤ b)) ∧ b < w'.heap.size := fun b hb => by
        rcases List.mem_append.1 hb with hb | hb
        · exact (m4 b hb).2
        · exact (k3 b hb).2
      have hGa' := hGa (b1 ++ b2) (fun b hb => (hin b hb).1.2)
      have hFa' := hFa (b1 ++ b2) (fun b hb => (hin b hb).1.1)
      refine ⟨x, results_single hrv (m1 [] [] .nil), x, b1, b2, rfl, hstp, OR1_mono hFa' m2, ARs_mono (fun b hb => hb.elim (hGa' b) (hFa' b)) outs vs b2 k1, ?_, fun b hb => ⟨(hin b hb).1.2, (hin b hb).2⟩⟩
      rw [List.nodup_append]
      refine ⟨m3, k2, fun p hp q hq e => ?_⟩
      subst e
      exact hap.2.2 _ (by simp [(m4 p hp).1]) _ (k3 p hq).1 rfl
    | tup rs =>
      obtain ⟨hne, hv⟩ := hp1
      obtain ⟨xs, b1, m1, m2, m3, m4⟩ := RVs_run hs' hv hap.1
      obtain ⟨b2, k1, k2, k3⟩ := AOs_ARs (H := fun b => G b ∨ F' b) hG' (fun b hb => .inl hb) (fun b hb => .inr hb) hs' args outs 0 vs bs hd hp2
      have hin : ∀ b ∈ b1 ++ b2, (¬ F' b ∧ (b ∈ bs ∨ w.heap.size ≤ b)) ∧ b < w'.heap.size := fun b hb => by
        rcases List.mem_append.1 hb with hb | hb
        · exact (m4 b hb).2
        · exact (k3 b hb).2
      have hGa' := hGa (b1 ++ b2) (fun b hb => (hin b hb).1.2)
      have hFa' := hFa (b1 ++ b2) (fun b hb => (hin b hb).1.1)
      refine ⟨.tuple xs.toArray, results_list hrv (by rw [m1.len]; exact hne) m1, .tuple xs.toArray, b1, b2, rfl, hstp, ⟨xs, rfl, ORs_mono hFa' rs xs b1 m2⟩, ARs_mono (fun b hb => hb.elim (hGa' b) (hFa' b)) outs vs b2 k1, ?_, fun b hb => ⟨(hin b hb).1.2, (hin b hb).2⟩⟩
      rw [List.nodup_append]
      refine ⟨m3, k2, fun p hp q hq e => ?_⟩
      subst e
      exact hap.2.2 _ (m4 p hp).1 _ (k3 p hq).1 rfl
  cases e with
  | normal => obtain ⟨y, hq⟩ := hq; obtain ⟨v, h1, x, h2⟩ := key y hq; exact ⟨hr'.defers, v, h1, y, x, h2⟩
  | ret => obtain ⟨y, hq⟩ := hq; obtain ⟨v, h1, x, h2⟩ := key y hq; exact ⟨hr'.defers, v, h1, y, x, h2⟩
  | _ => exact hq.elim
section
variable {E : Env} {F : Nat → Prop} {B : Base E.P} {w : World} {o : Oper} {st : St} {K : St → Prop} {a : Act} {all rest : List Oper}
theorem OK.callX {f : FuncId} {xs : List Operand} {tys : Array TypeId} {as : List A} {α : Type} {res : α → R} {outs : α → List A} (hf : FnX E.P f as res outs) (ho : o.op = .call { callee := .value (.func f), args := xs.toArray, argTypes := tys })
    (ha : AsAs st false none xs as) (h : ∀ y g, K (setD st o.dst (rD g (res y)))) : OK E B o st K := by
  intro F a w hr next Q hn
  unfold Oper.wp
  rw [run_call hf.1 ho, Oper.upon_enter]
  refine Calls.mono (hf.2 w _ [] F (hr.tb (by simp)) (fun b hb => ⟨hr.Flt b hb, by simp⟩) (ha.read hr (Out.own none)) (by simp) (by simp)) ?_
  rintro e w' ⟨y, x, b1, b2, rfl, hs, h1, _, h3, h4⟩
  obtain ⟨g, hg⟩ := OR_D h1
  rw [List.nodup_append] at h3
  have h4' : ∀ b ∈ b1 ++ b2, w.heap.size ≤ b ∧ b < w'.heap.size := fun b hb => by simpa using h4 b hb
  refine hn _ _ _ _ (h y g) (hr.putMore o.dst hs ?_ ?_ ?_ hg h3.1 (fun b hb => ⟨fun hH => hH.2.2 (by simp [hb]), h4' b (by simp [hb])⟩))
  · intro b hb
    exact ⟨.inl hb, Nat.lt_of_lt_of_le (hr.Flt b hb) hs.size, fun hm => by have := hr.Flt b hb; have := (h4' b hm).1; omega⟩
  · intro b hb; exact hb.2.1
  · intro b hb
    rcases hb.1 with h5 | h5 | h5
    · exact .inl h5
    · simp at h5
    · exact .inr h5

theorem OK.callPX {f : FuncId} {xs : List Operand} {tys : Array TypeId} {as : List A} {α : Type} {res : α → R} {outs : α → List A} {k b : Nat} {ds : List D} {cs os0 : List C} {os : α → List C} {outs0 : List A} (hf : FnX E.P f as res outs) (ho : o.op = .call { callee := .value (.func f), args := xs.toArray, argTypes := tys })
    (hk : k < st.length) (hd : o.dst ≠ some k) (hg : gt st k = .obj b ds) (hc : DT ds cs) (ha0 : AsPs st k b cs os0 xs as outs0) (ha : ∀ y, AsPs st k b cs (os y) xs as (outs y)) (h : ∀ y g g', K (setD (st.set k (.obj b (cD g' 0 (os y)))) o.dst (rD g (res y)))) : OK E B o st K := by
  intro F a w hr next Q hn
  have hl : ∃ l, k ≠ l ∧ (o.dst = some l ∨ (o.dst = none ∧ l = st.length)) := by
    cases hdd : o.dst with
    | none => exact ⟨st.length, by omega, .inr ⟨rfl, rfl⟩⟩
    | some l => exact ⟨l, fun e => hd (by rw [hdd, e]), .inl rfl⟩
  obtain ⟨l, hkl, hl⟩ := hl
  obtain ⟨bk, p1, p2, ⟨xk, q1, q2⟩, p6⟩ := hr.twoH k l hkl hk
  rw [hg] at q2
  have h2 := (ha0.give hr hc q2).1
  unfold Oper.wp
  rw [run_call hf.1 ho, Oper.upon_enter]
  refine Calls.mono (hf.2 w _ bk F (hr.tb fun b hb => (p1 b hb).2.2) (fun b hb => ⟨hr.Flt b hb, fun hm => (p1 b hm).1 hb⟩) h2 p2 (fun b hb => (p1 b hb).2.1)) ?_
  rintro e w' ⟨y, x, b1, b2, rfl, hs, h4, h5, h6, h7⟩
  obtain ⟨g, hgr⟩ := OR_D h4
  obtain ⟨g', b3, hsub, hd3⟩ := ((ha y).give hr hc q2).2 w' _ b2 h5
  have h6' := List.nodup_append.1 h6
  have hrel := p6 w' (.obj b (cD g' 0 (os y))) (rD g (res y)) (a.put o.dst x) b3 (if o.dst = none then [] else b1) (aft F w w' bk (b1 ++ b2)) hs (by cases o.dst <;> rfl) (by cases o.dst <;> simp [Act.put])
    (fun i hik hil => by
      rcases hl with hl | hl
      · rw [hl]; exact get_put_ne a x hil
      · rw [hl.1]; rfl)
    ⟨xk, by
      rcases hl with hl | hl
      · rw [hl, get_put_ne a x hkl]; exact q1
      · rw [hl.1]; exact q1, hd3⟩
    (fun hlt => by
      rcases hl with hl | hl
      · rw [hl]
        exact ⟨x, get_put_eq a x (by rw [hr.len]; exact hlt), by rw [if_neg (by simp)]; exact hgr⟩
      · omega)
    (by
      rw [List.nodup_append]
      refine ⟨h6'.2.1.sublist hsub, ?_, fun p hp q hq e => ?_⟩
      · split
        · simp
        · exact h6'.1
      · split at hq
        · simp at hq
        · subst e
          exact h6'.2.2 p hq p (hsub.subset hp) rfl)
    (by
      intro c hc'
      have hm : c ∈ b1 ++ b2 := by
        rcases List.mem_append.1 hc' with hc' | hc'
        · exact List.mem_append.2 (.inr (hsub.subset hc'))
        · split at hc'
          · simp at hc'
          · exact List.mem_append.2 (.inl hc')
      exact ⟨(h7 c hm).1, (h7 c hm).2, fun hH => hH.2.2 hm⟩)
    (fun c hc' => ⟨.inl hc', Nat.lt_of_lt_of_le (hr.Flt c hc') hs.size, fun hm => by
      rcases (h7 c hm).1 with h' | h'
      · exact (p1 c h').1 hc'
      · have := hr.Flt c hc'; omega⟩)
    (fun c hc' => hc'.2.1)
    (fun c hc' => hc'.1)
  refine hn (aft F w w' bk (b1 ++ b2)) _ _ _ (h y g g') ?_
  rcases hl with hl | hl
  · rw [hl] at hrel ⊢
    exact hrel
  · rw [hl.1] at hrel ⊢
    exact hrel.oob (by simp [hl.2])
theorem RW.callX {f : FuncId} {xs : List Operand} {tys : Array TypeId} {as : List A} {α : Type} {res : α → R} {outs : α → List A} (hg : o.guard = none) (hf : FnX E.P f as res outs) (ho : o.op = .call { callee := .value (.func f), args := xs.toArray, argTypes := tys })
    (ha : AsAs st false none xs as) (h : ∀ y g, RW E B all rest (setD st o.dst (rD g (res y))) K) : RW E B all (o :: rest) st K := RW.cons hg (OK.callX hf ho ha h)
theorem RO.callX {fc : Facts} {n i : Nat} {ls ls' : Array Bool} {f : FuncId} {xs : List Operand} {tys : Array TypeId} {as : List A} {α : Type} {res : α → R} {outs : α → List A} (hi : all[i]? = some o) (hg : o.guard = none) (hf : FnX E.P f as res outs) (ho : o.op = .call { callee := .value (.func f), args := xs.toArray, argTypes := tys })
    (ha : AsAs st false none xs as) (hl : ls.setIfInBounds i true = ls') (h : ∀ y g, RA fc E B all n ls' (setD st o.dst (rD g (res y))) K) : RO fc E B all n ls st K i := ⟨o, hi, hg, OK.callX hf ho ha (fun y g => by rw [hl]; exact h y g)⟩
theorem RW.callPX {f : FuncId} {xs : List Operand} {tys : Array TypeId} {as : List A} {α : Type} {res : α → R} {outs : α → List A} {k b : Nat} {ds : List D} {cs os0 : List C} {os : α → List C} {outs0 : List A} (hf : FnX E.P f as res outs) (hgu : o.guard = none) (ho : o.op = .call { callee := .value (.func f), args := xs.toArray, argTypes := tys })
    (hk : k < st.length) (hd : o.dst ≠ some k) (hgk : Eng.gt st k = .obj b ds) (hc : DT ds cs) (ha0 : AsPs st k b cs os0 xs as outs0) (ha : ∀ y, AsPs st k b cs (os y) xs as (outs y)) (h : ∀ y g g', RW E B all rest (setD (st.set k (.obj b (cD g' 0 (os y)))) o.dst (rD g (res y))) K) : RW E B all (o :: rest) st K := RW.cons hgu (OK.callPX hf ho hk hd hgk hc ha0 ha h)
theorem RO.callPX {fc : Facts} {n i : Nat} {ls ls' : Array Bool} {f : FuncId} {xs : List Operand} {tys : Array TypeId} {as : List A} {α : Type} {res : α → R} {outs : α → List A} {k b : Nat} {ds : List D} {cs os0 : List C} {os : α → List C} {outs0 : List A} (hf : FnX E.P f as res outs) (hi : all[i]? = some o) (hgu : o.guard = none) (ho : o.op = .call { callee := .value (.func f), args := xs.toArray, argTypes := tys })
    (hl : ls.setIfInBounds i true = ls') (hk : k < st.length) (hd : o.dst ≠ some k) (hgk : Eng.gt st k = .obj b ds) (hc : DT ds cs) (ha0 : AsPs st k b cs os0 xs as outs0) (ha : ∀ y, AsPs st k b cs (os y) xs as (outs y)) (h : ∀ y g g', RA fc E B all n ls' (setD (st.set k (.obj b (cD g' 0 (os y)))) o.dst (rD g (res y))) K) : RO fc E B all n ls st K i :=
  ⟨o, hi, hgu, OK.callPX hf ho hk hd hgk hc ha0 ha (fun y g g' => by rw [hl]; exact h y g g')⟩
end
end Go.Eng

namespace Go.Eng
open Go Go.RowKit
def xorW (a b : Int) : Int := IntKind.u32.wrap ((BitVec.ofInt 32 a ^^^ BitVec.ofInt 32 b).toNat : Int)
def shrW (a n : Int) : Int := a.fdiv (2 ^ (min n.toNat 32))
section
variable {E : Env} {B : Base E.P} {st : St} {o : Oper}
theorem V.xorW {pu : Bool} {t u : TypeId} {x y : Operand} {p q : Int} (ho : o.op = .binOp .xor t x y u) (hx : ev st x = .r (.v (.int .u32 p))) (hy : ev st y = .r (.v (.int .u32 q))) : VP pu E B o st (.r (.v (.int .u32 (xorW p q)))) := fun F a w hr =>
  ⟨.int .u32 (Eng.xorW p q), fun w' hs => by simp [execOp, ho, ev_scalar hr hx, ev_scalar hr hy, eqGuard, binOp, Op.intBits, Eng.xorW] <;> rfl, by simp [DR, RT]⟩
theorem V.shrW {pu : Bool} {t u : TypeId} {x y : Operand} {k : IntKind} {p q : Int} (ho : o.op = .binOp .shr t x y u) (hx : ev st x = .r (.v (.int .u32 p))) (hy : ev st y = .r (.v (.int k q)))
    (hn : 0 ≤ q) : VP pu E B o st (.r (.v (.int .u32 (shrW p q)))) := fun F a w hr =>
  ⟨.int .u32 (Eng.shrW p q), fun w' hs => by
    have h0 : ¬ q < 0 := by omega
    simp [execOp, ho, ev_scalar hr hx, ev_scalar hr hy, eqGuard, binOp, Op.shift, h0, Eng.shrW] <;> rfl, by simp [DR, RT]⟩
end
end Go.Eng
