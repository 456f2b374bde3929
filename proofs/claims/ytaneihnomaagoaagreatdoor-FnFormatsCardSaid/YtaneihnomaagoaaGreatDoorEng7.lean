import Derived.Test.YtaneihnomaagoaaGreatDoorEng6
namespace Go.Eng
open Go Go.RowKit

inductive Vals (P : Program) (tmps : Array Value) (w : World) : List ResultVar → List Value → Prop where
  | nil : Vals P tmps w [] []
  | tmp {k : Tmp} {rs : List ResultVar} {vs : List Value} (h : Vals P tmps w rs vs) : Vals P tmps w (.tmp k :: rs) (tmps.getD k undef :: vs)
  | cell {k : Tmp} {ty : TypeId} {rs : List ResultVar} {vs : List Value} {x : Value} (hx : (do loadVar ty (← asAddr (tmps.getD k undef)) : Sem Value).run P w = .ok x w) (h : Vals P tmps w rs vs) : Vals P tmps w (.cell k ty :: rs) (x :: vs)
section
variable {P : Program} {tmps : Array Value} {w : World}
theorem vals_run {rs : List ResultVar} {vs : List Value} (hv : Vals P tmps w rs vs) (f : ResultVar → Sem Value) (hf : ∀ u, f (.tmp u) = pure (tmps.getD u undef)) (hc : ∀ a t, f (.cell a t) = (do loadVar t (← asAddr (tmps.getD a undef)))) :
    (rs.mapM f).run P w = .ok vs w := by
  induction hv with
  | nil => simp
  | tmp h ih => simp [List.mapM_cons, hf, ih]
  | cell hx h ih => rw [List.mapM_cons, hc, Sem.run_bind, hx]; simp [ih]
theorem results_list {fn : Func} {rs : List ResultVar} {vs : List Value} (h : fn.results = rs.toArray) (hl : vs.length ≠ 1) (hv : Vals P tmps w rs vs) : (results fn tmps).run P w = .ok (.tuple vs.toArray) w := by
  unfold results
  rw [h, List.mapM_toArray]
  simp only [Sem.run_bind, Sem.run_map]
  rw [vals_run hv]
  · simp [hl]
  · intro u
    rfl
  · intro a t
    rfl
theorem results_single {fn : Func} {r : ResultVar} {v : Value} (h : fn.results = [r].toArray) (hv : Vals P tmps w [r] [v]) : (results fn tmps).run P w = .ok v w := by
  unfold results
  rw [h, List.mapM_toArray]
  simp only [Sem.run_bind, Sem.run_map]
  rw [vals_run hv]
  · simp
  · intro u
    rfl
  · intro a t
    rfl
theorem Vals.len {rs : List ResultVar} {vs : List Value} (h : Vals P tmps w rs vs) : vs.length = rs.length := by induction h <;> simp_all
end

section
variable {F H : Nat → Prop} {w : World}
theorem CR_mono (h : ∀ b, F b → H b) {c : C} {x : Value} {bs : List Nat} (hc : CR F w c x bs) : CR H w c x bs := by
  cases c with
  | r t => exact ⟨RT_mono h _ _ hc.1, hc.2⟩
  | w t => exact hc
theorem CRs_mono (h : ∀ b, F b → H b) : ∀ (cs : List C) (xs : List Value) (bs : List Nat), CRs F w cs xs bs → CRs H w cs xs bs
  | [], _, _, hc => by simpa [CRs] using hc
  | c :: cs, xs, bs, hc => by
    simp only [CRs] at hc ⊢
    obtain ⟨x, xs', b1, b2, h1, h2, h3, h4⟩ := hc
    exact ⟨x, xs', b1, b2, h1, h2, CR_mono h h3, CRs_mono h cs xs' b2 h4⟩
theorem OR1_mono (h : ∀ b, F b → H b) {r : R1} {x : Value} {bs : List Nat} (hc : OR1 F w r x bs) : OR1 H w r x bs := by
  cases r with
  | one c => exact CR_mono h hc
  | agg cs =>
    obtain ⟨xs, h1, h2⟩ := hc
    exact ⟨xs, h1, CRs_mono h cs xs bs h2⟩
  | ob cs =>
    obtain ⟨b, xs, ty, bs', h1, h2, h3, h4⟩ := hc
    exact ⟨b, xs, ty, bs', h1, h2, h3, CRs_mono h cs xs bs' h4⟩
theorem ORs_mono (h : ∀ b, F b → H b) : ∀ (rs : List R1) (xs : List Value) (bs : List Nat), ORs F w rs xs bs → ORs H w rs xs bs
  | [], _, _, hc => by simpa [ORs] using hc
  | c :: cs, xs, bs, hc => by
    simp only [ORs] at hc ⊢
    obtain ⟨x, xs', b1, b2, h1, h2, h3, h4⟩ := hc
    exact ⟨x, xs', b1, b2, h1, h2, OR1_mono h h3, ORs_mono h cs xs' b2 h4⟩
end

section
variable {F H : Nat → Prop} {w : World}
theorem AR_mono (h : ∀ b, F b → H b) {a : A} {x : Value} {bs : List Nat} (hc : AR F w a x bs) : AR H w a x bs := by
  cases a with
  | one c => exact CR_mono h hc
  | agg cs =>
    obtain ⟨xs, h1, h2⟩ := hc
    exact ⟨xs, h1, CRs_mono h cs xs bs h2⟩
  | ob cs =>
    obtain ⟨b, xs, ty, bs', h1, h2, h3, h4⟩ := hc
    exact ⟨b, xs, ty, bs', h1, h2, h3, CRs_mono h cs xs bs' h4⟩
  | gone => exact hc
theorem ARs_mono (h : ∀ b, F b → H b) : ∀ (as : List A) (xs : List Value) (bs : List Nat), ARs F w as xs bs → ARs H w as xs bs
  | [], _, _, hc => by simpa [ARs] using hc
  | c :: cs, xs, bs, hc => by
    simp only [ARs] at hc ⊢
    obtain ⟨x, xs', b1, b2, h1, h2, h3, h4⟩ := hc
    exact ⟨x, xs', b1, b2, h1, h2, AR_mono h h3, ARs_mono h cs xs' b2 h4⟩
end

def Slots (F : Nat → Prop) (N : Nat → Prop) (w : World) (st : St) (tmps : Array Value) (own : Nat → Nat) : Prop :=
  ∀ k d, st.get? k = some d → ∃ x bs, tmps[k]? = some x ∧ DR F w d x bs ∧ bs.Nodup ∧ ∀ b ∈ bs, own b = k ∧ (¬ F b ∧ N b) ∧ b < w.heap.size

section
variable {E : Env} {F N : Nat → Prop} {w : World} {st : St} {tmps : Array Value} {own : Nat → Nat}
theorem getD_of {k : Nat} {x : Value} (h : tmps[k]? = some x) : tmps.getD k undef = x := by simp [Array.getD_eq_getD_getElem?, h]

theorem RV_run (hs : Slots F N w st tmps own) {v : ResultVar} {r : R1} (h : RV E st v r) :
    ∃ x bs, (∀ rs vs, Vals E.P tmps w rs vs → Vals E.P tmps w (v :: rs) (x :: vs)) ∧ OR1 F w r x bs ∧ bs.Nodup ∧ ∀ b ∈ bs, own b = rvSlot v ∧ (¬ F b ∧ N b) ∧ b < w.heap.size := by
  cases v with
  | tmp k =>
    cases r with
    | one t =>
      simp only [RV] at h
      have hk : st.get? k = some (gt st k) := gt_some rfl (by intro hu; rw [hu] at h; exact h)
      obtain ⟨x, bs, h1, h2, h3, h4⟩ := hs k _ hk
      refine ⟨x, bs, fun rs vs hv => ?_, DT1_CR h h2, h3, h4⟩
      rw [← getD_of h1]
      exact .tmp hv
    | agg ts =>
      simp only [RV] at h
      obtain ⟨ds, hg, hd⟩ := h
      obtain ⟨x, bs, h1, h2, h3, h4⟩ := hs k _ (gt_some hg (by simp))
      simp only [DR] at h2
      obtain ⟨cs, rfl, h5⟩ := h2
      refine ⟨_, bs, fun rs vs hv => ?_, ⟨cs, rfl, DT_CRs ds ts cs bs hd h5⟩, h3, h4⟩
      rw [← getD_of h1]
      exact .tmp hv
    | ob ts =>
      simp only [RV] at h
      obtain ⟨b, ds, hg, hd⟩ := h
      obtain ⟨x, bs, h1, h2, h3, h4⟩ := hs k _ (gt_some hg (by simp))
      simp only [DR] at h2
      obtain ⟨cs, ty, bs', rfl, h5, h6, h7⟩ := h2
      refine ⟨_, bs, fun rs vs hv => ?_, ⟨b, cs, ty, bs', rfl, h5, h6, DT_CRs ds ts cs bs' hd h7⟩, h3, h4⟩
      rw [← getD_of h1]
      exact .tmp hv
  | cell k ty =>
    cases r with
    | ob ts => exact h.elim
    | one t =>
      simp only [RV] at h
      obtain ⟨b, d, i, hg, ht, hp, hd⟩ := h
      obtain ⟨x, bs, h1, h2, h3, h4⟩ := hs k _ (gt_some hg (by simp))
      simp only [DR, DLs] at h2
      obtain ⟨cs, ty', bs', rfl, h5, rfl, c, cs', b1, b2, rfl, rfl, h6, rfl, rfl⟩ := h2
      have hcell : w.cell? ⟨b, 0, none⟩ = some c := by simp [World.cell?, h5]
      rw [List.nodup_cons] at h3
      refine ⟨c, b1, fun rs vs hv => .cell ?_ hv, DT1_CR hd h6, by simpa using h3.2, fun b' hb' => h4 b' (by simp [hb'])⟩
      rw [getD_of h1]
      simp [asAddr, loadVar, Sem.run_bind, tyI_notAgg (E.ok _ _ ht) hp, hcell]
    | agg ts =>
      simp only [RV] at h
      obtain ⟨b, ds, i, fs, hg, ht, hf, hl, hd⟩ := h
      obtain ⟨x, bs, h1, h2, h3, h4⟩ := hs k _ (gt_some hg (by simp))
      simp only [DR] at h2
      obtain ⟨cs, ty', bs', rfl, h5, rfl, h6⟩ := h2
      have hT := E.ok _ _ ht
      obtain ⟨j, d, z, t1, t2, t3, t4, t5, t6, t7⟩ := tyI_spec hT
      have hrow : d.isRow = true := by
        rw [hf] at t7
        cases d <;> simp [tdOf] at t7 <;> rfl
      have hsz : (E.P.info? ty).map (·.size) = some cs.length := by
        rw [tyI_size hT, DLs_length h6, hl]
      rw [List.nodup_cons] at h3
      refine ⟨.agg cs.toArray, bs', fun rs vs hv => .cell ?_ hv, ⟨cs, rfl, DT_CRs ds ts cs bs' hd h6⟩, h3.2, fun b' hb' => h4 b' (by simp [hb'])⟩
      rw [getD_of h1]
      have hr := rangeAt_of_block h5 0
      rw [List.drop_zero] at hr
      simp [asAddr, run_loadVar_mid w b 0 ty cs d hr t2 hrow hsz]
theorem RVs_run (hs : Slots F N w st tmps own) : ∀ {vs : List ResultVar} {rs : List R1}, RVs E st vs rs → (vs.map rvSlot).Nodup →
    ∃ xs bs, Vals E.P tmps w vs xs ∧ ORs F w rs xs bs ∧ bs.Nodup ∧ ∀ b ∈ bs, own b ∈ vs.map rvSlot ∧ (¬ F b ∧ N b) ∧ b < w.heap.size
  | [], rs, h, _ => by
    simp only [RVs] at h
    subst h
    exact ⟨[], [], .nil, by simp [ORs], by simp, by simp⟩
  | v :: vs, rs, h, hn => by
    simp only [RVs] at h
    obtain ⟨r, rs', rfl, h1, h2⟩ := h
    simp only [List.map_cons, List.nodup_cons] at hn
    obtain ⟨x, b1, g1, g2, g3, g4⟩ := RV_run hs h1
    obtain ⟨xs, b2, f1, f2, f3, f4⟩ := RVs_run hs h2 hn.2
    refine ⟨x :: xs, b1 ++ b2, g1 _ _ f1, ?_, ?_, ?_⟩
    · simp only [ORs]
      exact ⟨x, xs, b1, b2, rfl, rfl, g2, f2⟩
    · rw [List.nodup_append]
      refine ⟨g3, f3, fun a ha b hb e => ?_⟩
      subst e
      exact hn.1 ((g4 a ha).1 ▸ (f4 a hb).1)
    · intro b hb
      rcases List.mem_append.1 hb with hb | hb
      · exact ⟨by rw [(g4 b hb).1]; simp, (g4 b hb).2⟩
      · exact ⟨by simpa using Or.inr (by simpa using (f4 b hb).1), (f4 b hb).2⟩
theorem outSlots_ge : ∀ (as : List A) (i k : Nat), k ∈ outSlots i as → i ≤ k
  | [], _, _, h => by simp [outSlots] at h
  | a :: as, i, k, h => by
    simp only [outSlots] at h
    split at h
    · rcases List.mem_cons.1 h with h | h
      · omega
      · have := outSlots_ge as (i + 1) k h; omega
    · have := outSlots_ge as (i + 1) k h; omega
theorem RT_fix {G H : Nat → Prop} {w0 : World} (hw : ∀ b, G b → w.heap[b]? = w0.heap[b]?) (hG : ∀ b, G b → H b) {t : T} {x : Value} (h : RT G w0 t x) : RT H w t x := RT_mono hG _ _ (RT_world hw _ _ h)
theorem cD_CRs {G H : Nat → Prop} {w0 : World} (hw : ∀ b, G b → w.heap[b]? = w0.heap[b]?) (hG : ∀ b, G b → H b) : ∀ (cs : List C) (g : Nat → Value) (j : Nat) (xs : List Value) (bs : List Nat), cs.all ro1 = true → DLs G w0 (cD g j cs) xs bs → CRs H w cs xs []
  | [], _, _, _, _, _, h => by simpa [cD, DLs, CRs] using And.left (by simpa [cD, DLs] using h)
  | c :: cs, g, j, xs, bs, ha, h => by
    simp only [List.all_cons, Bool.and_eq_true] at ha
    simp only [cD, DLs] at h
    obtain ⟨x, xs', b1, b2, rfl, rfl, h3, h4⟩ := h
    simp only [CRs]
    refine ⟨x, xs', [], [], rfl, rfl, ?_, cD_CRs hw hG cs g (j + 1) xs' b2 ha.2 h4⟩
    cases c with
    | r t =>
      simp only [cD1, DR] at h3
      simp only [CR]
      exact ⟨RT_fix hw hG h3.1, trivial⟩
    | w t =>
      cases t with
      | v y =>
        simp only [cD1, DR, RT] at h3
        simp [CR, OT, h3.1]
      | a _ _ _ => simp [ro1] at ha
      | f _ _ => simp [ro1] at ha
theorem AOc_CRs {G H : Nat → Prop} {w0 : World} (hw : ∀ b, G b → w.heap[b]? = w0.heap[b]?) (hG : ∀ b, G b → H b) : ∀ (cs : List C) (g : Nat → Value) (j : Nat) (xs ys : List Value) (bs b2 : List Nat) (ds : List D) (os : List C), AOc g j cs ds os → DLs G w0 (cD g j cs) xs bs → DLs F w ds ys b2 →
    ∃ b3 : List Nat, CRs H w os xs b3 ∧ b3.Sublist b2
  | [], _, _, _, _, _, _, _, _, ho, h, _ => by
    simp only [AOc] at ho
    simp only [cD, DLs] at h
    exact ⟨[], by simp [ho.2, CRs, h.1], by simp⟩
  | c :: cs, g, j, xs, ys, bs, b2, ds, os, ho, h, h' => by
    simp only [AOc] at ho
    obtain ⟨d, ds', o, os', rfl, rfl, h1, h2⟩ := ho
    simp only [cD, DLs] at h
    obtain ⟨x, xs', p1, p2, rfl, rfl, h3, h4⟩ := h
    simp only [DLs] at h'
    obtain ⟨y, ys', q1, q2, rfl, rfl, h5, h6⟩ := h'
    obtain ⟨b3, k1, k2⟩ := AOc_CRs hw hG cs g (j + 1) xs' ys' p2 q2 ds' os' h2 h4 h6
    simp only [CRs]
    by_cases hr : ro1 c = true
    · rw [if_pos hr] at h1
      subst h1
      refine ⟨b3, ⟨x, xs', [], b3, rfl, rfl, ?_, k1⟩, k2.trans (List.sublist_append_right _ _)⟩
      have := cD_CRs hw hG [o] g j [x] p1 (by simp [hr]) (by simp only [cD, DLs]; exact ⟨x, [], p1, [], rfl, by simp, h3, rfl, rfl⟩)
      simp only [CRs] at this
      obtain ⟨_, _, e1, e2, e3, e4, e5, _⟩ := this
      cases e3
      obtain ⟨rfl, rfl⟩ := List.append_eq_nil_iff.1 e4.symm
      exact e5
    · rw [if_neg hr] at h1
      obtain ⟨t, rfl, rfl⟩ := h1
      cases c with
      | r _ => simp [ro1] at hr
      | w t0 =>
        cases t0 with
        | v _ => simp [ro1] at hr
        | f _ _ => simp only [cD1, DR, OT] at h3; exact h3.2.elim
        | a _ _ _ =>
          simp only [cD1, DR] at h3 h5
          obtain ⟨rfl, h5⟩ := h5
          obtain ⟨rfl, _⟩ := h3
          exact ⟨q1 ++ b3, ⟨_, xs', q1, b3, rfl, rfl, h5, k1⟩, List.Sublist.append (List.Sublist.refl _) k2⟩
theorem AO_AR {G H : Nat → Prop} {w0 : World} (hw : ∀ b, G b → w.heap[b]? = w0.heap[b]?) (hG : ∀ b, G b → H b) (hF : ∀ b, F b → H b) {g : Nat → Value} {b : Nat} {a o : A} {x : Value} {bx : List Nat} {i : Nat} (hin : DR G w0 (aD g b a) x bx) (hs : Slots F N w st tmps own)
    (h : AO g b (gt st i) a o) : ∃ b2, AR H w o x b2 ∧ b2.Nodup ∧ ∀ c ∈ b2, (moved o = true ∧ own c = i) ∧ (¬ F c ∧ N c) ∧ c < w.heap.size := by
  rcases h with rfl | h
  · exact ⟨[], rfl, by simp, by simp⟩
  cases a with
  | gone => exact h.elim
  | agg cs =>
    simp only [aD, DR] at hin
    obtain ⟨xs, h1, h2⟩ := hin
    rcases h with ⟨rfl, ha⟩ | ⟨os, ds, rfl, hg, ho⟩
    · exact ⟨[], ⟨xs, h1, cD_CRs hw hG cs g 0 xs bx ha h2⟩, by simp, by simp⟩
    · obtain ⟨x', bs, k1, k2, k3, k4⟩ := hs i _ (gt_some hg (by simp))
      simp only [DR] at k2
      obtain ⟨ys, _, k5⟩ := k2
      obtain ⟨b3, m1, m2⟩ := AOc_CRs hw hG cs g 0 xs ys bx bs ds os ho h2 k5
      exact ⟨b3, ⟨xs, h1, m1⟩, k3.sublist m2, fun c hc => ⟨⟨rfl, (k4 c (m2.subset hc)).1⟩, (k4 c (m2.subset hc)).2⟩⟩
  | ob cs0 =>
    obtain ⟨cs, ds, rfl, hg, hd⟩ := h
    simp only [aD, DR] at hin
    obtain ⟨_, _, _, rfl, _⟩ := hin
    obtain ⟨x', bs, h1, h2, h3, h4⟩ := hs i _ (gt_some hg (by simp))
    simp only [DR] at h2
    obtain ⟨xs, ty, bs', rfl, h5, h6, h7⟩ := h2
    exact ⟨bs, ⟨b, xs, ty, bs', rfl, h5, h6, CRs_mono hF cs xs bs' (DT_CRs ds cs xs bs' hd h7)⟩, h3, fun c hc => ⟨⟨rfl, (h4 c hc).1⟩, (h4 c hc).2⟩⟩
  | one c =>
    cases c with
    | r t =>
      simp only at h
      subst h
      simp only [aD, cD1, DR] at hin
      exact ⟨[], ⟨RT_fix hw hG hin.1, rfl⟩, by simp, by simp⟩
    | w t =>
      cases t with
      | v y =>
        simp only at h
        subst h
        simp only [aD, cD1, DR, RT] at hin
        exact ⟨[], by simp [AR, CR, OT, hin.1], by simp, by simp⟩
      | f _ _ => exact h.elim
      | a sz n us =>
        obtain ⟨t, rfl, hg⟩ := h
        simp only [aD, cD1, DR] at hin
        obtain ⟨rfl, _⟩ := hin
        obtain ⟨x', bs, h1, h2, h3, h4⟩ := hs i _ (gt_some hg (by simp))
        simp only [DR] at h2
        cases t with
        | v y =>
          have := h2.2
          simp only [OT] at this
          exact ⟨bs, h2.2, h3, fun c hc => by rw [this.2] at hc; simp at hc⟩
        | f _ _ => have := h2.2; simp [OT] at this
        | a sz' n' us' => exact ⟨bs, h2.2, h3, fun c hc => ⟨⟨rfl, (h4 c hc).1⟩, (h4 c hc).2⟩⟩
theorem AOs_ARs {G H : Nat → Prop} {w0 : World} (hw : ∀ b, G b → w.heap[b]? = w0.heap[b]?) (hG : ∀ b, G b → H b) (hF : ∀ b, F b → H b) {g : Nat → Nat → Value} {bo : Nat → Nat} (hs : Slots F N w st tmps own) : ∀ (as outs : List A) (i : Nat) (xs : List Value) (bx : List Nat),
    DLs G w0 (aDs g bo i as) xs bx → AOs st g bo i as outs → ∃ b2, ARs H w outs xs b2 ∧ b2.Nodup ∧ ∀ c ∈ b2, own c ∈ outSlots i outs ∧ (¬ F c ∧ N c) ∧ c < w.heap.size
  | [], outs, i, xs, bx, h, h' => by
    simp only [AOs] at h'
    subst h'
    simp only [aDs, DLs] at h
    exact ⟨[], by simp [ARs, h.1], by simp, by simp⟩
  | a :: as, outs, i, xs, bx, h, h' => by
    simp only [AOs] at h'
    obtain ⟨o, outs', rfl, h1, h2⟩ := h'
    simp only [aDs, DLs] at h
    obtain ⟨x, xs', b1, b2, rfl, rfl, h3, h4⟩ := h
    obtain ⟨c1, g1, g2, g3⟩ := AO_AR hw hG hF h3 hs h1
    obtain ⟨c2, f1, f2, f3⟩ := AOs_ARs hw hG hF hs as outs' (i + 1) xs' b2 h4 h2
    refine ⟨c1 ++ c2, ?_, ?_, ?_⟩
    · simp only [ARs]
      exact ⟨x, xs', c1, c2, rfl, rfl, g1, f1⟩
    · rw [List.nodup_append]
      refine ⟨g2, f2, fun p hp q hq e => ?_⟩
      subst e
      have h5 := outSlots_ge outs' (i + 1) _ (f3 p hq).1
      have h6 := (g3 p hp).1.2
      omega
    · intro c hc
      rcases List.mem_append.1 hc with hc | hc
      · exact ⟨by simp [outSlots, (g3 c hc).1.1, (g3 c hc).1.2], (g3 c hc).2⟩
      · refine ⟨?_, (f3 c hc).2⟩
        simp only [outSlots]
        split
        · exact List.mem_cons_of_mem _ (f3 c hc).1
        · exact (f3 c hc).1
end

theorem Fn.intro {E : Env} {f : FuncId} {fn : Func} {c : Code} {rvs : List ResultVar} {args outs : List A} {res : R} (hf : E.P.funcs[f]? = some fn) (hb : fn.body = some c) (hnm : (fn.name == "runtime.NumGoroutine") = false)
    (hrv : fn.results = rvs.toArray) (hap : (rvs.map rvSlot ++ outSlots 0 outs).Nodup)
    (h : ∀ (B : Base E.P) (g : Nat → Nat → Value) (bo : Nat → Nat),
      CW E B c ⟨args.length + (fn.ntmps - args.length), num 0 (aDs g bo 0 args)⟩ (fun e st => match e with | .ret => Post E rvs args res outs g bo st | .normal => Post E rvs args res outs g bo st | _ => False)) :
    Fn E.P f args res outs := by
  refine ⟨⟨fn, hf, hnm, by simp [hb]⟩, ?_⟩
  intro w vs bs G htb hG hA hn hlt
  obtain ⟨g, bo, hd⟩ := ARs_D args 0 vs bs hA
  have hl : vs.length = args.length := by
    have := DLs_length hd
    rw [this]
    clear this hd hA h hap
    have : ∀ (as : List A) (i : Nat), (aDs g bo i as).length = as.length := by
      intro as
      induction as with
      | nil => intro i; rfl
      | cons a as ih => intro i; simp [aDs, ih]
    exact this args 0
  have hr := Rel.entry htb hG hd hn hlt (fn.ntmps - args.length)
  rw [← DLs_length hd, hl] at hr
  refine calls_of_wp hf hb ?_
  have hw := h ⟨G, bs, w, htb⟩ g bo G _ w hr
  simp only [List.size_toArray, hl]
  refine Code.wp_mono ?_ hw
  intro e a w' ⟨st', F', hq, hr'⟩
  have key : Post E rvs args res outs g bo st' → ∃ v, (results fn a.tmps).run E.P w' = .ok v w' ∧ ∃ x b1 b2, Ending.returned v = .returned x ∧ Stp w w' bs ∧ OR (aft G w w' bs (b1 ++ b2)) w' res x b1 ∧ ARs (aft G w w' bs (b1 ++ b2)) w' outs vs b2 ∧ (b1 ++ b2).Nodup ∧ ∀ b ∈ b1 ++ b2, (b ∈ bs ∨ w.heap.size ≤ b) ∧ b < w'.heap.size := by
    intro ⟨hp1, hp2⟩
    obtain ⟨own, hs⟩ := hr'.slots
    have hs' : Slots F' (fun b => b ∈ bs ∨ w.heap.size ≤ b) w' st' a.tmps own := hs
    have hG' : ∀ b, G b → w'.heap[b]? = w.heap[b]? := fun b hb => hr'.fr.fix b (hG b hb).1 (hG b hb).2
    have hstp : Stp w w' bs := ⟨hr'.fr.os, hr'.fr.tape, hr'.fr.output, hr'.fr.size, fun b hb hnb => hr'.fr.fix b hb hnb⟩
    have hGa : ∀ cs : List Nat, (∀ b ∈ cs, b ∈ bs ∨ w.heap.size ≤ b) → ∀ b, G b → aft G w w' bs cs b := fun cs hc b hb => ⟨.inl hb, Nat.lt_of_lt_of_le (hG b hb).1 hr'.fr.size, fun hm => by
      rcases hc b hm with h1 | h1
      · exact (hG b hb).2 h1
      · have := (hG b hb).1; omega⟩
    have hFa : ∀ cs : List Nat, (∀ b ∈ cs, ¬ F' b) → ∀ b, F' b → aft G w w' bs cs b := fun cs hc b hb => ⟨hr'.Fin b hb, hr'.Flt b hb, fun hm => hc b hm hb⟩
    rw [List.nodup_append] at hap
    cases res with
    | one r =>
      obtain ⟨v, rfl, hv⟩ := hp1
      obtain ⟨x, b1, m1, m2, m3, m4⟩ := RV_run hs' hv
      obtain ⟨b2, k1, k2, k3⟩ := AOs_ARs (H := fun b => G b ∨ F' b) hG' (fun b hb => .inl hb) (fun b hb => .inr hb) hs' args outs 0 vs bs hd hp2
      have hin : ∀ b ∈ b1 ++ b2, (¬ F' b ∧ (b ∈ bs ∨ w.heap.size ≤ b)) ∧ b < w'.heap.size := fun b hb => by
        rcases List.mem_append.1 hb with hb | hb
        · exact (m4 b hb).2
        · exact (k3 b hb).2
      have hGa' := hGa (b1 ++ b2) (fun b hb => (hin b hb).1.2)
      have hFa' := hFa (b1 ++ b2) (fun b hb => (hin b hb).1.1)
      refine ⟨x, results_single hrv (m1 [] [] .nil), x, b1, b2, rfl, hstp, OR1_mono hFa' m2, ARs_mono (fun b hb => hb.elim (hGa' b) (hFa' b)) outs vs b2 k1, ?_, fun b hb => ⟨(hin b hb).1.2, (hin b hb).2⟩⟩
      rw [List.nodup_append]
      refine ⟨m3, k2, fun p hp q hq e => ?_⟩
      subst e
      exact hap.2.2 _ (by simp [(m4 p hp).1]) _ (k3 p hq).1 rfl
    | tup rs =>
      obtain ⟨hne, hv⟩ := hp1
      obtain ⟨xs, b1, m1, m2, m3, m4⟩ := RVs_run hs' hv hap.1
      obtain ⟨b2, k1, k2, k3⟩ := AOs_ARs (H := fun b => G b ∨ F' b) hG' (fun b hb => .inl hb) (fun b hb => .inr hb) hs' args outs 0 vs bs hd hp2
      have hin : ∀ b ∈ b1 ++ b2, (¬ F' b ∧ (b ∈ bs ∨ w.heap.size ≤ b)) ∧ b < w'.heap.size := fun b hb => by
        rcases List.mem_append.1 hb with hb | hb
        · exact (m4 b hb).2
        · exact (k3 b hb).2
      have hGa' := hGa (b1 ++ b2) (fun b hb => (hin b hb).1.2)
      have hFa' := hFa (b1 ++ b2) (fun b hb => (hin b hb).1.1)
      refine ⟨.tuple xs.toArray, results_list hrv (by rw [m1.len]; exact hne) m1, .tuple xs.toArray, b1, b2, rfl, hstp, ⟨xs, rfl, ORs_mono hFa' rs xs b1 m2⟩, ARs_mono (fun b hb => hb.elim (hGa' b) (hFa' b)) outs vs b2 k1, ?_, fun b hb => ⟨(hin b hb).1.2, (hin b hb).2⟩⟩
      rw [List.nodup_append]
      refine ⟨m3, k2, fun p hp q hq e => ?_⟩
      subst e
      exact hap.2.2 _ (m4 p hp).1 _ (k3 p hq).1 rfl
  cases e with
  | normal => obtain ⟨v, h1, h2⟩ := key hq; exact ⟨hr'.defers, v, h1, h2⟩
  | ret => obtain ⟨v, h1, h2⟩ := key hq; exact ⟨hr'.defers, v, h1, h2⟩
  | _ => exact hq.elim
end Go.Eng
