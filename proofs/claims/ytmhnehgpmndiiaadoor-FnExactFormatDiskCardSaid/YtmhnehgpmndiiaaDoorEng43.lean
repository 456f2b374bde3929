/- Contracts that tell some of what a function tells. -/
import Derived.Test.YtmhnehgpmndiiaaDoorEng42
namespace Go.Eng
open Go Go.RowKit
def FnX (P : Program) {α : Type} (f : FuncId) (args : List A) (res : α → R) (outs : α → List A) : Prop :=
  Callable P f ∧ ∀ (w : World) (vs : List Value) (bs : List Nat) (G : Nat → Prop), Tb P w bs → (∀ b, G b → b < w.heap.size ∧ b ∉ bs) → ARs G w args vs bs → bs.Nodup → (∀ b ∈ bs, b < w.heap.size) →
    Calls P f vs.toArray w fun e w' => ∃ y x b1 b2, e = .returned x ∧ Stp w w' bs ∧ OR (aft G w w' bs (b1 ++ b2)) w' (res y) x b1 ∧ ARs (aft G w w' bs (b1 ++ b2)) w' (outs y) vs b2 ∧ (b1 ++ b2).Nodup ∧
      ∀ b ∈ b1 ++ b2, (b ∈ bs ∨ w.heap.size ≤ b) ∧ b < w'.heap.size
theorem FnX.intro {E : Env} {f : FuncId} {fn : Func} {c : Code} {rvs : List ResultVar} {args : List A} {α : Type} {res : α → R} {outs : α → List A} (hf : E.P.funcs[f]? = some fn) (hb : fn.body = some c) (hnm : (fn.name == "runtime.NumGoroutine") = false)
    (hrv : fn.results = rvs.toArray) (hap : ∀ y, (rvs.map rvSlot ++ outSlots 0 (outs y)).Nodup)
    (h : ∀ (B : Base E.P) (g : Nat → Nat → Value) (bo : Nat → Nat),
      CW E B c ⟨args.length + (fn.ntmps - args.length), num 0 (aDs g bo 0 args)⟩ (fun e st => match e with | .ret => ∃ y, Post E rvs args (res y) (outs y) g bo st | .normal => ∃ y, Post E rvs args (res y) (outs y) g bo st | _ => False)) :
    FnX E.P f args res outs := by
  refine ⟨⟨fn, hf, hnm, by simp [hb]⟩, ?_⟩
  intro w vs bs G htb hG hA hn hlt
  obtain ⟨g, bo, hd⟩ := ARs_D args 0 vs bs hA
  have hl : vs.length = args.length := by
    have := DLs_length hd
    rw [this]
    clear this hd hA h hap
    have : ∀ (as : List A) (i : Nat), (aDs g bo i as).length = as.length := by
      intro as
      induction as with
      | nil => intro i; rfl
      | cons a as ih => intro i; simp [aDs, ih]
    exact this args 0
  have hr := Rel.entry htb hG hd hn hlt (fn.ntmps - args.length)
  rw [← DLs_length hd, hl] at hr
  refine calls_of_wp hf hb ?_
  have hw := h ⟨G, bs, w, htb⟩ g bo G _ w hr
  simp only [List.size_toArray, hl]
  refine Code.wp_mono ?_ hw
  intro e a w' ⟨st', F', hq, hr'⟩
  have key : ∀ y, Post E rvs args (res y) (outs y) g bo st' → ∃ v, (results fn a.tmps).run E.P w' = .ok v w' ∧ ∃ x b1 b2, Ending.returned v = .returned x ∧ Stp w w' bs ∧ OR (aft G w w' bs (b1 ++ b2)) w' (res y) x b1 ∧ ARs (aft G w w' bs (b1 ++ b2)) w' (outs y) vs b2 ∧ (b1 ++ b2).Nodup ∧ ∀ b ∈ b1 ++ b2, (b ∈ bs ∨ w.heap.size ≤ b) ∧ b < w'.heap.size := by
    intro y hp
    have hap := hap y
    generalize res y = res at hp ⊢
    generalize outs y = outs at hp hap ⊢
    obtain ⟨hp1, hp2⟩ := hp
    obtain ⟨own, hs⟩ := hr'.slots
    have hs' : Slots F' (fun b => b ∈ bs ∨ w.heap.size ≤ b) w' st' a.tmps own := hs
    have hG' : ∀ b, G b → w'.heap[b]? = w.heap[b]? := fun b hb => hr'.fr.fix b (hG b hb).1 (hG b hb).2
    have hstp : Stp w w' bs := ⟨hr'.fr.os, hr'.fr.tape, hr'.fr.output, hr'.fr.size, fun b hb hnb => hr'.fr.fix b hb hnb⟩
    have hGa : ∀ cs : List Nat, (∀ b ∈ cs, b ∈ bs ∨ w.heap.size ≤ b) → ∀ b, G b → aft G w w' bs cs b := fun cs hc b hb => ⟨.inl hb, Nat.lt_of_lt_of_le (hG b hb).1 hr'.fr.size, fun hm => by
      rcases hc b hm with h1 | h1
      · exact (hG b hb).2 h1
      · have := (hG b hb).1; omega⟩
    have hFa : ∀ cs : List Nat, (∀ b ∈ cs, ¬ F' b) → ∀ b, F' b → aft G w w' bs cs b := fun cs hc b hb => ⟨hr'.Fin b hb, hr'.Flt b hb, fun hm => hc b hm hb⟩
    rw [List.nodup_append] at hap
    cases res with
    | one r =>
      obtain ⟨v, rfl, hv⟩ := hp1
      obtain ⟨x, b1, m1, m2, m3, m4⟩ := RV_run hs' hv
      obtain ⟨b2, k1, k2, k3⟩ := AOs_ARs (H := fun b => G b ∨ F' b) hG' (fun b hb => .inl hb) (fun b hb => .inr hb) hs' args outs 0 vs bs hd hp2
      have hin : ∀ b ∈ b1 ++ b2, (¬ F' b ∧ (b ∈ bs ∨ w.heap.size ≤ b)) ∧ b < w'.heap.size := fun b hb => by
        rcases List.mem_append.1 hb with hb | hb
        · exact (m4 b hb).2
        · exact (k3 b hb).2
      have hGa' := hGa (b1 ++ b2) (fun b hb => (hin b hb).1.2)
      have hFa' := hFa (b1 ++ b2) (fun b hb => (hin b hb).1.1)
      refine ⟨x, results_single hrv (m1 [] [] .nil), x, b1, b2, rfl, hstp, OR1_mono hFa' m2, ARs_mono (fun b hb => hb.elim (hGa' b) (hFa' b)) outs vs b2 k1, ?_, fun b hb => ⟨(hin b hb).1.2, (hin b hb).2⟩⟩
      rw [List.nodup_append]
      refine ⟨m3, k2, fun p hp q hq e => ?_⟩
      subst e
      exact hap.2.2 _ (by simp [(m4 p hp).1]) _ (k3 p hq).1 rfl
    | tup rs =>
      obtain ⟨hne, hv⟩ := hp1
      obtain ⟨xs, b1, m1, m2, m3, m4⟩ := RVs_run hs' hv hap.1
      obtain ⟨b2, k1, k2, k3⟩ := AOs_ARs (H := fun b => G b ∨ F' b) hG' (fun b hb => .inl hb) (fun b hb => .inr hb) hs' args outs 0 vs bs hd hp2
      have hin : ∀ b ∈ b1 ++ b2, (¬ F' b ∧ (b ∈ bs ∨ w.heap.size ≤ b)) ∧ b < w'.heap.size := fun b hb => by
        rcases List.mem_append.1 hb with hb | hb
        · exact (m4 b hb).2
        · exact (k3 b hb).2
      have hGa' := hGa (b1 ++ b2) (fun b hb => (hin b hb).1.2)
      have hFa' := hFa (b1 ++ b2) (fun b hb => (hin b hb).1.1)
      refine ⟨.tuple xs.toArray, results_list hrv (by rw [m1.len]; exact hne) m1, .tuple xs.toArray, b1, b2, rfl, hstp, ⟨xs, rfl, ORs_mono hFa' rs xs b1 m2⟩, ARs_mono (fun b hb => hb.elim (hGa' b) (hFa' b)) outs vs b2 k1, ?_, fun b hb => ⟨(hin b hb).1.2, (hin b hb).2⟩⟩
      rw [List.nodup_append]
      refine ⟨m3, k2, fun p hp q hq e => ?_⟩
      subst e
      exact hap.2.2 _ (m4 p hp).1 _ (k3 p hq).1 rfl
  cases e with
  | normal => obtain ⟨y, hq⟩ := hq; obtain ⟨v, h1, x, h2⟩ := key y hq; exact ⟨hr'.defers, v, h1, y, x, h2⟩
  | ret => obtain ⟨y, hq⟩ := hq; obtain ⟨v, h1, x, h2⟩ := key y hq; exact ⟨hr'.defers, v, h1, y, x, h2⟩
  | _ => exact hq.elim
section
variable {E : Env} {F : Nat → Prop} {B : Base E.P} {w : World} {o : Oper} {st : St} {K : St → Prop} {a : Act} {all rest : List Oper}
end
end Go.Eng
