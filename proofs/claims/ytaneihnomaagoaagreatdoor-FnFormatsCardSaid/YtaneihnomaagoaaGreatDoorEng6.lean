import Derived.Test.YtaneihnomaagoaaGreatDoorEng5
namespace Go.Eng
open Go Go.RowKit

def cD1 (V : Value) : C → D
  | .r t => .r t
  | .w (.v x) => .r (.v x)
  | .w (.a sz n us) => .w (.a sz n us) V
  | .w (.f id ts) => .w (.f id ts) V
def cD (g : Nat → Value) : Nat → List C → List D
  | _, [] => []
  | j, c :: cs => cD1 (g j) c :: cD g (j + 1) cs
def aD (g : Nat → Value) (b : Nat) : A → D
  | .one c => cD1 (g 0) c
  | .agg cs => .agg (cD g 0 cs)
  | .ob cs => .obj b (cD g 0 cs)
  | .gone => .u
def aDs (g : Nat → Nat → Value) (bo : Nat → Nat) : Nat → List A → List D
  | _, [] => []
  | i, a :: as => aD (g i) (bo i) a :: aDs g bo (i + 1) as
def blk : Value → Nat
  | .pointer (some a) => a.block
  | _ => 0
def rD1 (g : Nat → Value) : R1 → D
  | .one c => cD1 (g 0) c
  | .agg cs => .agg (cD g 0 cs)
  | .ob cs => .obj (blk (g cs.length)) (cD g 0 cs)
def rDs (g : Nat → Nat → Value) : Nat → List R1 → List D
  | _, [] => []
  | i, r :: rs => rD1 (g i) r :: rDs g (i + 1) rs
def rD (g : Nat → Nat → Value) : R → D
  | .one r => rD1 (g 0) r
  | .tup rs => .tup (rDs g 0 rs)

section
variable {F : Nat → Prop} {w : World}
theorem cD_congr {g g' : Nat → Value} : ∀ (cs : List C) (j : Nat), (∀ k, j ≤ k → g k = g' k) → cD g j cs = cD g' j cs
  | [], _, _ => rfl
  | c :: cs, j, h => by simp only [cD]; rw [cD_congr cs (j + 1) (fun k hk => h k (by omega)), h j (Nat.le_refl _)]
theorem cD_congr' {g g' : Nat → Value} : ∀ (cs : List C) (j : Nat), (∀ k, k < j + cs.length → g k = g' k) → cD g j cs = cD g' j cs
  | [], _, _ => rfl
  | c :: cs, j, h => by simp only [cD]; rw [cD_congr' cs (j + 1) (fun k hk => h k (by simp; omega)), h j (by simp)]
theorem CR_D {c : C} {x : Value} {bs : List Nat} (h : CR F w c x bs) : DR F w (cD1 x c) x bs := by
  cases c with
  | r t => simpa [CR, cD1, DR] using h
  | w t =>
    cases t with
    | v y => simp only [CR, OT] at h; simp [cD1, DR, RT, h]
    | a sz n us => simp only [CR] at h; simp [cD1, DR, h]
    | f _ _ => simp [CR, OT] at h
theorem CRs_D : ∀ (cs : List C) (j : Nat) (xs : List Value) (bs : List Nat), CRs F w cs xs bs → ∃ g, DLs F w (cD g j cs) xs bs
  | [], _, _, _, h => ⟨fun _ => undef, by simpa [CRs, cD, DLs] using h⟩
  | c :: cs, j, xs, bs, h => by
    simp only [CRs] at h
    obtain ⟨x, xs', b1, b2, h1, h2, h3, h4⟩ := h
    obtain ⟨g, hg⟩ := CRs_D cs (j + 1) xs' b2 h4
    refine ⟨fun k => if k = j then x else g k, ?_⟩
    simp only [cD, DLs]
    rw [cD_congr (g := fun k => if k = j then x else g k) (g' := g) cs (j + 1) (fun k hk => by
      have : k ≠ j := by omega
      simp [this])]
    exact ⟨x, xs', b1, b2, h1, h2, by simpa using CR_D h3, hg⟩
theorem AR_D {a : A} {x : Value} {bs : List Nat} (h : AR F w a x bs) : ∃ g b, DR F w (aD g b a) x bs := by
  cases a with
  | one c => exact ⟨fun _ => x, 0, CR_D h⟩
  | agg ts =>
    simp only [AR] at h
    obtain ⟨cs, h1, h2⟩ := h
    obtain ⟨g, hg⟩ := CRs_D ts 0 cs bs h2
    exact ⟨g, 0, by simp only [aD, DR]; exact ⟨cs, h1, hg⟩⟩
  | ob ts =>
    simp only [AR] at h
    obtain ⟨b, cs, ty, bs', h1, h2, h3, h4⟩ := h
    obtain ⟨g, hg⟩ := CRs_D ts 0 cs bs' h4
    exact ⟨g, b, by simp only [aD, DR]; exact ⟨cs, ty, bs', h1, h2, h3, hg⟩⟩
  | gone => exact ⟨fun _ => undef, 0, by simpa [AR, aD, DR] using h⟩
theorem aDs_congr {g g' : Nat → Nat → Value} {bo bo' : Nat → Nat} : ∀ (as : List A) (i : Nat), (∀ k, i ≤ k → g k = g' k ∧ bo k = bo' k) → aDs g bo i as = aDs g' bo' i as
  | [], _, _ => rfl
  | a :: as, i, h => by simp only [aDs]; rw [aDs_congr as (i + 1) (fun k hk => h k (by omega)), (h i (Nat.le_refl _)).1, (h i (Nat.le_refl _)).2]
theorem ARs_D : ∀ (as : List A) (i : Nat) (xs : List Value) (bs : List Nat), ARs F w as xs bs → ∃ g bo, DLs F w (aDs g bo i as) xs bs
  | [], _, _, _, h => ⟨fun _ _ => undef, fun _ => 0, by simpa [ARs, aDs, DLs] using h⟩
  | a :: as, i, xs, bs, h => by
    simp only [ARs] at h
    obtain ⟨x, xs', b1, b2, h1, h2, h3, h4⟩ := h
    obtain ⟨g, bo, hg⟩ := ARs_D as (i + 1) xs' b2 h4
    obtain ⟨g0, b0, h0⟩ := AR_D h3
    refine ⟨fun k => if k = i then g0 else g k, fun k => if k = i then b0 else bo k, ?_⟩
    simp only [aDs, DLs]
    rw [aDs_congr (g := fun k => if k = i then g0 else g k) (g' := g) (bo := fun k => if k = i then b0 else bo k) (bo' := bo) as (i + 1) (fun k hk => by
      have : k ≠ i := by omega
      simp [this])]
    exact ⟨x, xs', b1, b2, h1, h2, by simpa using h0, hg⟩

theorem OR1_D {r : R1} {x : Value} {bs : List Nat} (h : OR1 F w r x bs) : ∃ g, DR F w (rD1 g r) x bs := by
  cases r with
  | one c => exact ⟨fun _ => x, CR_D h⟩
  | agg ts =>
    simp only [OR1] at h
    obtain ⟨cs, h1, h2⟩ := h
    obtain ⟨g, hg⟩ := CRs_D ts 0 cs bs h2
    exact ⟨g, by simp only [rD1, DR]; exact ⟨cs, h1, hg⟩⟩
  | ob ts =>
    simp only [OR1] at h
    obtain ⟨b, cs, ty, bs', h1, h2, h3, h4⟩ := h
    obtain ⟨g, hg⟩ := CRs_D ts 0 cs bs' h4
    refine ⟨fun k => if k = ts.length then .pointer (some ⟨b, 0, none⟩) else g k, ?_⟩
    simp only [rD1, DR, if_true, blk]
    rw [cD_congr' (g' := g) ts 0 (fun k hk => if_neg (by omega))]
    exact ⟨cs, ty, bs', h1, h2, h3, hg⟩
theorem rDs_congr {g g' : Nat → Nat → Value} : ∀ (rs : List R1) (i : Nat), (∀ k, i ≤ k → g k = g' k) → rDs g i rs = rDs g' i rs
  | [], _, _ => rfl
  | r :: rs, i, h => by simp only [rDs]; rw [rDs_congr rs (i + 1) (fun k hk => h k (by omega)), h i (Nat.le_refl _)]
theorem ORs_D : ∀ (rs : List R1) (i : Nat) (cs : List Value) (bs : List Nat), ORs F w rs cs bs → ∃ g, DLs F w (rDs g i rs) cs bs
  | [], _, _, _, h => ⟨fun _ _ => undef, by simpa [ORs, rDs, DLs] using h⟩
  | r :: rs, i, cs, bs, h => by
    simp only [ORs] at h
    obtain ⟨c, cs', b1, b2, h1, h2, h3, h4⟩ := h
    obtain ⟨g, hg⟩ := ORs_D rs (i + 1) cs' b2 h4
    obtain ⟨g0, h0⟩ := OR1_D h3
    refine ⟨fun k => if k = i then g0 else g k, ?_⟩
    simp only [rDs, DLs]
    rw [rDs_congr (g := fun k => if k = i then g0 else g k) (g' := g) rs (i + 1) (fun k hk => by
      have : k ≠ i := by omega
      simp [this])]
    exact ⟨c, cs', b1, b2, h1, h2, by simpa using h0, hg⟩
theorem OR_D {r : R} {x : Value} {bs : List Nat} (h : OR F w r x bs) : ∃ g, DR F w (rD g r) x bs := by
  cases r with
  | one r =>
    simp only [OR] at h
    obtain ⟨g, hg⟩ := OR1_D h
    exact ⟨fun _ => g, hg⟩
  | tup rs =>
    simp only [OR] at h
    obtain ⟨cs, h1, h2⟩ := h
    obtain ⟨g, hg⟩ := ORs_D rs 0 cs bs h2
    exact ⟨g, by simp only [rD, DR]; exact ⟨cs, h1, hg⟩⟩

theorem DLs_own : ∀ (ds : List D) (xs : List Value) (bs : List Nat), DLs F w ds xs bs → bs.Nodup → ∃ own : Nat → Nat, ∀ k d, ds[k]? = some d →
    ∃ x b', xs[k]? = some x ∧ DR F w d x b' ∧ b'.Nodup ∧ ∀ b ∈ b', own b = k ∧ b ∈ bs
  | [], _, _, _, _ => ⟨fun _ => 0, fun k d hk => by simp at hk⟩
  | d :: ds, xs, bs, h, hn => by
    simp only [DLs] at h
    obtain ⟨x, xs', b1, b2, rfl, rfl, h3, h4⟩ := h
    rw [List.nodup_append] at hn
    obtain ⟨own, ho⟩ := DLs_own ds xs' b2 h4 hn.2.1
    refine ⟨fun b => if b ∈ b1 then 0 else own b + 1, fun k d' hk => ?_⟩
    cases k with
    | zero =>
      simp at hk
      subst hk
      exact ⟨x, b1, by simp, h3, hn.1, fun b hb => ⟨by simp [hb], by simp [hb]⟩⟩
    | succ k =>
      obtain ⟨x', b', g1, g2, g3, g4⟩ := ho k d' (by simpa using hk)
      refine ⟨x', b', by simpa using g1, g2, g3, fun b hb => ?_⟩
      have hb1 : b ∉ b1 := fun hb' => hn.2.2 b hb' b (g4 b hb).2 rfl
      exact ⟨by simp [hb1, (g4 b hb).1], by simp [(g4 b hb).2]⟩
def num : Nat → List D → List (Nat × D)
  | _, [] => []
  | i, d :: ds => (i, d) :: num (i + 1) ds
theorem look_num : ∀ (ds : List D) (i k : Nat), look (num i ds) (i + k) = (ds[k]?).getD .u
  | [], _, _ => by simp [num, look]
  | d :: ds, i, 0 => by simp [num, look]
  | d :: ds, i, k + 1 => by
    have : Nat.beq i (i + (k + 1)) = false := by
      cases hb : Nat.beq i (i + (k + 1)) with
      | false => rfl
      | true => have := Nat.eq_of_beq_eq_true hb; omega
    simp only [num, look, this, cond_false, List.getElem?_cons_succ]
    rw [← look_num ds (i + 1) k]
    congr 1
    omega
theorem Rel.entry {P : Program} {G : Nat → Prop} {ds : List D} {xs : List Value} {bs : List Nat} (htb : Tb P w bs) (hG : ∀ b, G b → b < w.heap.size ∧ b ∉ bs) (h : DLs G w ds xs bs) (hn : bs.Nodup) (hb : ∀ b ∈ bs, b < w.heap.size) (m : Nat) :
    Rel G ⟨G, bs, w, htb⟩ ⟨ds.length + m, num 0 ds⟩ { tmps := xs.toArray ++ Array.replicate m undef, defers := [] } w := by
  obtain ⟨own, ho⟩ := DLs_own ds xs bs h hn
  have hl := DLs_length h
  refine ⟨rfl, by simp [hl, St.length], ⟨rfl, rfl, rfl, Nat.le_refl _, fun b _ _ => rfl⟩, fun b hb' => (hG b hb').1, fun b hb' => .inl hb', own, fun k d hk => ?_⟩
  have hlt := St.get_lt hk
  have hd := St.get_gt hk
  rw [gt_lt (s := ⟨ds.length + m, num 0 ds⟩) hlt] at hd
  have hln := look_num ds 0 k
  rw [Nat.zero_add] at hln
  rw [hln] at hd
  have hlt' : k < ds.length + m := hlt
  rcases Nat.lt_or_ge k ds.length with hlt | hge
  · rw [List.getElem?_eq_getElem hlt, Option.getD_some] at hd
    obtain ⟨x, b', g1, g2, g3, g4⟩ := ho k d (by rw [List.getElem?_eq_getElem hlt, hd])
    refine ⟨x, b', ?_, g2, g3, fun b hb' => ⟨(g4 b hb').1, ⟨fun hf => (hG b hf).2 (g4 b hb').2, .inl (g4 b hb').2⟩, hb b (g4 b hb').2⟩⟩
    rw [Array.getElem?_append_left (by simp [hl, hlt])]
    simpa using g1
  · rw [List.getElem?_eq_none hge, Option.getD_none] at hd
    subst hd
    refine ⟨undef, [], ?_, by simp [DR], by simp, by simp⟩
    rw [Array.getElem?_append_right (by simp [hl, hge])]
    simp only [List.size_toArray, hl, Array.getElem?_replicate]
    rw [if_pos (by omega)]
end

def DT1 : D → C → Prop
  | .r t, .r t' => t = t' ∨ (t = .v (.slice none 0 0) ∧ ∃ sz, t' = .a sz 0 [])
  | .r (.v x), .w t => t = .v x ∨ (x = .slice none 0 0 ∧ ∃ sz, t = .a sz 0 [])
  | .w t' _, .w t => t = t'
  | _, _ => False
def DT : List D → List C → Prop
  | [], ts => ts = []
  | d :: ds, ts => ∃ t ts', ts = t :: ts' ∧ DT1 d t ∧ DT ds ts'
theorem DT1_CR {F : Nat → Prop} {w : World} {d : D} {t : C} {c : Value} {bs : List Nat} (h1 : DT1 d t) (g3 : DR F w d c bs) : CR F w t c bs := by
  cases d with
  | r t0 =>
    cases t with
    | r t =>
      simp only [DT1] at h1
      simp only [DR] at g3
      rcases h1 with rfl | ⟨rfl, sz, rfl⟩
      · simpa [CR] using g3
      · simp only [RT] at g3
        simp [CR, RT, g3]
    | w t =>
      cases t0 with
      | v x =>
        simp only [DT1] at h1
        simp only [DR, RT] at g3
        rcases h1 with rfl | ⟨rfl, sz, rfl⟩
        · simp [CR, OT, g3]
        · simp [CR, OT, g3]
      | a _ _ _ => exact h1.elim
      | f _ _ => exact h1.elim
  | w t' V =>
    cases t with
    | r t => exact h1.elim
    | w t =>
      simp only [DT1] at h1
      simp only [DR] at g3
      subst h1
      rw [g3.1]
      exact g3.2
  | _ => cases t <;> exact h1.elim
theorem DT_CRs {F : Nat → Prop} {w : World} : ∀ (ds : List D) (ts : List C) (cs : List Value) (bs : List Nat), DT ds ts → DLs F w ds cs bs → CRs F w ts cs bs
  | [], _, _, _, h, h' => by simp only [DT] at h; subst h; simpa [DLs, CRs] using h'
  | d :: ds, ts, cs, bs, h, h' => by
    simp only [DT] at h
    obtain ⟨t, ts', rfl, h1, h2⟩ := h
    simp only [DLs] at h'
    obtain ⟨c, cs', b1, b2, g1, g2, g3, g4⟩ := h'
    simp only [CRs]
    exact ⟨c, cs', b1, b2, g1, g2, DT1_CR h1 g3, DT_CRs ds ts' cs' b2 h2 g4⟩
def RV (E : Env) (st : St) : ResultVar → R1 → Prop
  | .tmp k, .one t => DT1 (gt st k) t
  | .tmp k, .agg ts => ∃ ds, gt st k = .agg ds ∧ DT ds ts
  | .tmp k, .ob ts => ∃ b ds, gt st k = .obj b ds ∧ DT ds ts
  | .cell _ _, .ob _ => False
  | .cell k ty, .agg ts => ∃ b ds i fs, gt st k = .obj b ds ∧ E.tabs ty = some i ∧ i.td = .agg fs ∧ ds.length = i.sz ∧ DT ds ts
  | .cell k ty, .one t => ∃ b d i, gt st k = .obj b [d] ∧ E.tabs ty = some i ∧ (i.td = .prim ∨ ∃ e, i.td = .slice e) ∧ DT1 d t
def rvSlot : ResultVar → Nat
  | .tmp k => k
  | .cell k _ => k
def RVs (E : Env) (st : St) : List ResultVar → List R1 → Prop
  | [], rs => rs = []
  | v :: vs, rs => ∃ r rs', rs = r :: rs' ∧ RV E st v r ∧ RVs E st vs rs'
def ro1 : C → Bool
  | .r _ => true
  | .w (.v _) => true
  | _ => false
def AOc (g : Nat → Value) : Nat → List C → List D → List C → Prop
  | _, [], ds, os => ds = [] ∧ os = []
  | j, c :: cs, ds, os => ∃ d ds' o os', ds = d :: ds' ∧ os = o :: os' ∧ (if ro1 c then o = c else ∃ t, o = .w t ∧ d = .w t (g j)) ∧ AOc g (j + 1) cs ds' os'
def AO (g : Nat → Value) (b : Nat) (d : D) (a o : A) : Prop :=
  o = .gone ∨ match a with
  | .one (.r t) => o = .one (.r t)
  | .one (.w (.v x)) => o = .one (.w (.v x))
  | .one (.w (.a _ _ _)) => ∃ t, o = .one (.w t) ∧ d = .w t (g 0)
  | .one (.w (.f _ _)) => False
  | .agg cs => (o = .agg cs ∧ cs.all ro1 = true) ∨ ∃ os ds, o = .agg os ∧ d = .agg ds ∧ AOc g 0 cs ds os
  | .ob _ => ∃ cs ds, o = .ob cs ∧ d = .obj b ds ∧ DT ds cs
  | .gone => False
def AOs (st : St) (g : Nat → Nat → Value) (bo : Nat → Nat) : Nat → List A → List A → Prop
  | _, [], outs => outs = []
  | i, a :: as, outs => ∃ o outs', outs = o :: outs' ∧ AO (g i) (bo i) (gt st i) a o ∧ AOs st g bo (i + 1) as outs'
def moved : A → Bool
  | .one (.w (.a _ _ _)) => true
  | .ob _ => true
  | .agg _ => true
  | _ => false
def outSlots : Nat → List A → List Nat
  | _, [] => []
  | i, a :: as => if moved a then i :: outSlots (i + 1) as else outSlots (i + 1) as
def Post (E : Env) (rvs : List ResultVar) (args : List A) (res : R) (outs : List A) (g : Nat → Nat → Value) (bo : Nat → Nat) (st : St) : Prop :=
  (match res with | .one r => ∃ v, rvs = [v] ∧ RV E st v r | .tup rs => rvs.length ≠ 1 ∧ RVs E st rvs rs) ∧ AOs st g bo 0 args outs
end Go.Eng
