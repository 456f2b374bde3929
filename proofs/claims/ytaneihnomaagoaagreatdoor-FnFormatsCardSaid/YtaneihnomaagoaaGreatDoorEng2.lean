import Derived.Test.YtaneihnomaagoaaGreatDoorEng1
namespace Go.Eng
open Go Go.RowKit


def cpyC (k j : Nat) : D → D
  | .w (.a sz n _) V => .al k (some j) sz n V 0
  | .w (.v x) _ => .r (.v x)
  | .agg _ => .u
  | .tup _ => .u
  | .obj _ _ => .u
  | d => d
def cpyL (k : Nat) : Nat → List D → List D
  | _, [] => []
  | j, d :: ds => cpyC k j d :: cpyL k (j + 1) ds
def cpy (k : Nat) : D → D
  | .w (.a sz n _) V => .al k none sz n V 0
  | .w (.v x) _ => .r (.v x)
  | .agg ds => .agg (cpyL k 0 ds)
  | .tup _ => .u
  | .obj b _ => .pt k b 0
  | d => d

def ev (st : St) : Operand → D
  | .tmp k => cpy k (gt st k)
  | .const v => .r (.v v)
  | .func f => .r (.v (.func (.func f) #[] #[]))
  | .global _ => .u

theorem subV_whole {w : World} {sz n : Nat} {ts : List T} {V : Value} {bs : List Nat} (h : OT w (.a sz n ts) V bs) : V = subV sz 0 n V := by
  simp only [OT] at h
  rcases h with ⟨rfl, rfl, _, _⟩ | ⟨b, o, cap, cur, ty, bs', rfl, h2, _⟩
  · simp [subV]
  · simp [subV, Addr.add]

theorem OT_slice {w : World} {sz n : Nat} {ts : List T} {V : Value} {bs : List Nat} (h : OT w (.a sz n ts) V bs) : ∃ A m C, V = .slice A m C := by
  simp only [OT] at h
  rcases h with ⟨rfl, _⟩ | ⟨b, o, cap, cur, ty, bs', rfl, _⟩
  · exact ⟨_, _, _, rfl⟩
  · exact ⟨_, _, _, rfl⟩

theorem DR_cpyC {F : Nat → Prop} {w : World} (k j : Nat) {d : D} {x : Value} {bs : List Nat} (h : DR F w d x bs) : DR F w (cpyC k j d) x [] := by
  cases d with
  | u => simp [cpyC, DR]
  | r t => simp only [cpyC, DR] at h ⊢; exact ⟨h.1, trivial⟩
  | w t V =>
    simp only [DR] at h
    cases t with
    | v y => simp only [OT] at h; simp only [cpyC, DR, RT]; exact ⟨h.1.trans h.2.1, trivial⟩
    | a sz n ts => simp only [cpyC, DR]; exact ⟨h.1.trans (subV_whole h.2), trivial, OT_slice h.2⟩
    | f id ts => simp [OT] at h
  | al k j sz n V off => simp only [cpyC, DR] at h ⊢; exact ⟨h.1, trivial, h.2.2⟩
  | agg ds => simp [cpyC, DR]
  | tup ds => simp [cpyC, DR]
  | obj b ds => simp [cpyC, DR]
  | pt k b off => simp only [cpyC, DR] at h ⊢; exact ⟨h.1, trivial⟩
  | rp ts => simp only [cpyC, DR] at h ⊢; exact ⟨h.1, trivial⟩
  | ep k j sz V pos => simp only [cpyC, DR] at h ⊢; exact ⟨h.1, trivial⟩
theorem DLs_cpyL {F : Nat → Prop} {w : World} (k : Nat) : ∀ (ds : List D) (j : Nat) (cs : List Value) (bs : List Nat), DLs F w ds cs bs → DLs F w (cpyL k j ds) cs []
  | [], _, _, _, h => by simp only [DLs, cpyL] at h ⊢; exact ⟨h.1, trivial⟩
  | d :: ds, j, cs, bs, h => by
    simp only [DLs, cpyL] at h ⊢
    obtain ⟨c, cs', b1, b2, h1, _, h3, h4⟩ := h
    exact ⟨c, cs', [], [], h1, rfl, DR_cpyC k j h3, DLs_cpyL k ds (j + 1) cs' b2 h4⟩
theorem DR_cpy {F : Nat → Prop} {w : World} (k : Nat) {d : D} {x : Value} {bs : List Nat} (h : DR F w d x bs) : DR F w (cpy k d) x [] := by
  cases d with
  | u => simp [cpy, DR]
  | r t => simp only [cpy, DR] at h ⊢; exact ⟨h.1, trivial⟩
  | w t V =>
    simp only [DR] at h
    cases t with
    | v y => simp only [OT] at h; simp only [cpy, DR, RT]; exact ⟨h.1.trans h.2.1, trivial⟩
    | a sz n ts => simp only [cpy, DR]; exact ⟨h.1.trans (subV_whole h.2), trivial, OT_slice h.2⟩
    | f id ts => simp [OT] at h
  | al k j sz n V off => simp only [cpy, DR] at h ⊢; exact ⟨h.1, trivial, h.2.2⟩
  | agg ds =>
    simp only [cpy, DR] at h ⊢
    obtain ⟨cs, h1, h2⟩ := h
    exact ⟨cs, h1, DLs_cpyL k ds 0 cs bs h2⟩
  | tup ds => simp [cpy, DR]
  | obj b ds =>
    simp only [cpy, DR] at h ⊢
    obtain ⟨cs, ty, bs', h1, _⟩ := h
    exact ⟨h1, trivial⟩
  | pt k b off => simp only [cpy, DR] at h ⊢; exact ⟨h.1, trivial⟩
  | rp ts => simp only [cpy, DR] at h ⊢; exact ⟨h.1, trivial⟩
  | ep k j sz V pos => simp only [cpy, DR] at h ⊢; exact ⟨h.1, trivial⟩

section
variable {F : Nat → Prop} {P : Program} {B : Base P} {w : World} {st : St} {a : Act}

theorem Rel.slot (h : Rel F B st a w) {k : Nat} {d : D} (hk : st.get? k = some d) : ∃ x bs, a.tmps[k]? = some x ∧ DR F w d x bs := by
  obtain ⟨own, hs⟩ := h.slots
  obtain ⟨x, bs, h1, h2, _⟩ := hs k d hk
  exact ⟨x, bs, h1, h2⟩

theorem Rel.ev (h : Rel F B st a w) (x : Operand) : DR F w (ev st x) (a.eval x) [] := by
  cases x with
  | tmp k =>
    simp only [Eng.ev, Act.eval]
    by_cases hk : k < st.length
    · obtain ⟨x, bs, h1, h2⟩ := h.slot (St.get_of hk)
      have : a.tmps.getD k undef = x := by simp [Array.getD_eq_getD_getElem?, h1]
      rw [this]
      exact DR_cpy k h2
    · rw [gt_ge (Nat.le_of_not_lt hk)]
      simp [cpy, DR]
  | const v => simp [Eng.ev, Act.eval, DR, RT]
  | func f => simp [Eng.ev, Act.eval, DR, RT]
  | global g => simp [Eng.ev, DR]
theorem Rel.congr {st' : St} (h : Rel F B st a w) (hn : st'.length = st.length) (hg : ∀ k, st'.get? k = st.get? k) : Rel F B st' a w := by
  obtain ⟨own, hs⟩ := h.slots
  exact ⟨h.defers, by rw [h.len, hn], h.fr, h.Flt, h.Fin, own, fun k d hk => hs k d (by rw [← hg]; exact hk)⟩
theorem Rel.oob {k : Nat} {d : D} (h : Rel F B (st.set k d) a w) (hk : st.length ≤ k) : Rel F B st a w := h.congr rfl (fun j => (St.get_oob hk j).symm)
theorem Rel.oob' {k : Nat} {d : D} (h : Rel F B st a w) (hk : st.length ≤ k) : Rel F B (st.set k d) a w := h.congr rfl (fun j => St.get_oob hk j)

structure Stp (w w' : World) (W : List Nat) : Prop where
  os : w'.os = w.os
  tape : w'.tape = w.tape
  output : w'.output = w.output
  size : w.heap.size ≤ w'.heap.size
  block : ∀ b, b < w.heap.size → b ∉ W → w'.heap[b]? = w.heap[b]?

theorem Stp.refl (w : World) (W : List Nat) : Stp w w W := ⟨rfl, rfl, rfl, Nat.le_refl _, fun _ _ _ => rfl⟩
theorem Stp.alloc (w : World) (o : Obj) (W : List Nat) : Stp w (w.alloc o) W := ⟨rfl, rfl, rfl, by simp, fun b hb _ => Below.heap_alloc w o b hb⟩
theorem Stp.drew (w : World) (W : List Nat) : Stp w w.drew W := ⟨rfl, rfl, rfl, Nat.le_refl _, fun _ _ _ => rfl⟩
theorem Stp.mono {w w' : World} {W W' : List Nat} (h : Stp w w' W) (hs : ∀ b ∈ W, b ∈ W') : Stp w w' W' := ⟨h.os, h.tape, h.output, h.size, fun b hb hn => h.block b hb (fun hm => hn (hs b hm))⟩
theorem Stp.set (w : World) (p : Addr) (u : Value) : Stp w (w.setCell p u) [p.block] :=
  ⟨rfl, rfl, rfl, by simp [World.setCell], fun b _ hn => Below.heap_setCell w p u b (by simpa using hn)⟩
theorem Stp.trans {w w1 w2 : World} {W : List Nat} (h : Stp w w1 W) (h' : Stp w1 w2 W) : Stp w w2 W :=
  ⟨h'.os.trans h.os, h'.tape.trans h.tape, h'.output.trans h.output, Nat.le_trans h.size h'.size, fun b hb hn => (h'.block b (Nat.lt_of_lt_of_le hb h.size) hn).trans (h.block b hb hn)⟩

theorem Fr.stp {w' : World} {W : List Nat} (h : Fr B w) (hs : Stp w w' W) (hW : ∀ b ∈ W, b ∈ B.bs ∨ B.w.heap.size ≤ b) : Fr B w' :=
  ⟨hs.os.trans h.os, hs.tape.trans h.tape, hs.output.trans h.output, Nat.le_trans h.size hs.size, fun b hb hn =>
    (hs.block b (Nat.lt_of_lt_of_le hb h.size) (fun hm => by rcases hW b hm with h1 | h1; exact hn h1; omega)).trans (h.fix b hb hn)⟩

theorem get_put_ne (a : Act) {k l : Nat} (x : Value) (h : l ≠ k) : (a.put (some k) x).tmps[l]? = a.tmps[l]? := by
  simp [Act.put, Ne.symm h]
theorem get_put_eq (a : Act) {k : Nat} (x : Value) (h : k < a.tmps.size) : (a.put (some k) x).tmps[k]? = some x := by
  simp [Act.put, h]

theorem Rel.two' (h : Rel F B st a w) (k l : Nat) (hkl : k ≠ l) (hk : k < st.length) :
    ∃ bk bl : List Nat, (∀ b ∈ bk, (¬ F b ∧ (b ∈ B.bs ∨ B.w.heap.size ≤ b)) ∧ b < w.heap.size) ∧ (∀ b ∈ bl, (¬ F b ∧ (b ∈ B.bs ∨ B.w.heap.size ≤ b)) ∧ b < w.heap.size) ∧ (bk ++ bl).Nodup ∧
      (∃ xk, a.tmps[k]? = some xk ∧ DR F w (gt st k) xk bk) ∧ (∀ d, st.get? l = some d → ∃ xl, a.tmps[l]? = some xl ∧ DR F w d xl bl) ∧
      (∀ i d, i ≠ k → st.get? i = some d → ∃ x bs, a.tmps[i]? = some x ∧ DR F w d x bs ∧ ∀ b ∈ bs, b ∉ bk ∧ b < w.heap.size) ∧
      ∀ (w' : World) (dk dl : D) (a' : Act) (ck cl : List Nat), Stp w w' (bk ++ bl) → a'.defers = a.defers → a'.tmps.size = a.tmps.size →
        (∀ i, i ≠ k → i ≠ l → a'.tmps[i]? = a.tmps[i]?) →
        (∃ xk, a'.tmps[k]? = some xk ∧ DR F w' dk xk ck) → (l < st.length → ∃ xl, a'.tmps[l]? = some xl ∧ DR F w' dl xl cl) →
        (ck ++ cl).Nodup → (∀ b ∈ ck ++ cl, (b ∈ bk ∨ b ∈ bl ∨ w.heap.size ≤ b) ∧ b < w'.heap.size) →
        Rel F B ((st.set k dk).set l dl) a' w' := by
  obtain ⟨own, hs⟩ := h.slots
  have hgk : st.get? k = some (gt st k) := St.get_of hk
  obtain ⟨xk, bk, h1, h2, h3, h4⟩ := hs k _ hgk
  have hl : ∃ bl : List Nat, (∀ b ∈ bl, own b = l ∧ (¬ F b ∧ (b ∈ B.bs ∨ B.w.heap.size ≤ b)) ∧ b < w.heap.size) ∧ bl.Nodup ∧ ∀ d, st.get? l = some d → ∃ xl, a.tmps[l]? = some xl ∧ DR F w d xl bl := by
    cases hd : st.get? l with
    | none => exact ⟨[], by simp, by simp, by simp⟩
    | some d =>
      obtain ⟨xl, bl, g1, g2, g3, g4⟩ := hs l d hd
      exact ⟨bl, g4, g3, fun d' hd' => by cases hd'; exact ⟨xl, g1, g2⟩⟩
  obtain ⟨bl, g1, g2, g3⟩ := hl
  refine ⟨bk, bl, fun b hb => (h4 b hb).2, fun b hb => (g1 b hb).2, ?_, ⟨xk, h1, h2⟩, g3, ?_, ?_⟩
  · rw [List.nodup_append]
    refine ⟨h3, g2, fun b hb c hc e => ?_⟩
    subst e
    exact hkl ((h4 b hb).1.symm.trans (g1 b hc).1)
  · intro i d hik hi
    obtain ⟨x, bs, f1, f2, f3, f4⟩ := hs i d hi
    exact ⟨x, bs, f1, f2, fun b hb => ⟨fun hb' => hik ((f4 b hb).1.symm.trans (h4 b hb').1), (f4 b hb).2.2⟩⟩
  · intro w' dk dl a' ck cl hst hdef hsz hoth hnk hnl hnd hin
    have hFW : ∀ b ∈ bk ++ bl, ¬ F b ∧ (b ∈ B.bs ∨ B.w.heap.size ≤ b) := fun b hb => by
      rcases List.mem_append.1 hb with hb | hb
      · exact (h4 b hb).2.1
      · exact (g1 b hb).2.1
    have hfr : Fr B w' := h.fr.stp hst (fun b hb => (hFW b hb).2)
    have hF : ∀ b, F b → w'.heap[b]? = w.heap[b]? := fun b hb => hst.block b (h.Flt b hb) (fun hm => (hFW b hm).1 hb)
    have hnF : ∀ b, w.heap.size ≤ b → ¬ F b ∧ (b ∈ B.bs ∨ B.w.heap.size ≤ b) := fun b hb => ⟨fun hf => by have := h.Flt b hf; omega, .inr (Nat.le_trans h.fr.size hb)⟩
    rw [List.nodup_append] at hnd
    refine ⟨hdef.trans h.defers, by rw [hsz, h.len]; simp, hfr, fun b hb => Nat.lt_of_lt_of_le (h.Flt b hb) hst.size, h.Fin, fun b => if b ∈ ck then k else if b ∈ cl then l else own b, ?_⟩
    intro i d hi
    by_cases hil : i = l
    · subst hil
      have hlt : i < st.length := by have := St.get_lt hi; simpa using this
      rw [St.get_set_self (by simpa using hlt)] at hi
      cases hi
      obtain ⟨xl, e1, e2⟩ := hnl hlt
      refine ⟨xl, cl, e1, e2, hnd.2.1, fun b hb => ?_⟩
      have hbk : b ∉ ck := fun hb' => hnd.2.2 b hb' b hb rfl
      refine ⟨by simp [hbk, hb], ?_, (hin b (by simp [hb])).2⟩
      rcases (hin b (by simp [hb])).1 with h' | h' | h'
      · exact (h4 b h').2.1
      · exact (g1 b h').2.1
      · exact hnF b h'
    · rw [St.get_set_ne (Ne.symm hil)] at hi
      by_cases hik : i = k
      · subst hik
        rw [St.get_set_self hk] at hi
        cases hi
        obtain ⟨xk, e1, e2⟩ := hnk
        refine ⟨xk, ck, e1, e2, hnd.1, fun b hb => ?_⟩
        refine ⟨by simp [hb], ?_, (hin b (by simp [hb])).2⟩
        rcases (hin b (by simp [hb])).1 with h' | h' | h'
        · exact (h4 b h').2.1
        · exact (g1 b h').2.1
        · exact hnF b h'
      · rw [St.get_set_ne (Ne.symm hik)] at hi
        obtain ⟨x, bs, f1, f2, f3, f4⟩ := hs i d hi
        have hnot : ∀ b ∈ bs, b ∉ bk ∧ b ∉ bl := fun b hb => ⟨fun hb' => hik ((f4 b hb).1.symm.trans (h4 b hb').1), fun hb' => hil ((f4 b hb).1.symm.trans (g1 b hb').1)⟩
        have hsame : ∀ b ∈ bs, w'.heap[b]? = w.heap[b]? := fun b hb => hst.block b (f4 b hb).2.2 (fun hm => by
          rcases List.mem_append.1 hm with hm | hm
          · exact (hnot b hb).1 hm
          · exact (hnot b hb).2 hm)
        refine ⟨x, bs, by rw [hoth i hik hil]; exact f1, DR_world hF d x bs hsame f2, f3, fun b hb => ⟨?_, (f4 b hb).2.1, Nat.lt_of_lt_of_le (f4 b hb).2.2 hst.size⟩⟩
        have h1 : b ∉ ck := fun hb' => by
          rcases (hin b (by simp [hb'])).1 with h' | h' | h'
          · exact (hnot b hb).1 h'
          · exact (hnot b hb).2 h'
          · have := (f4 b hb).2.2; omega
        have h2 : b ∉ cl := fun hb' => by
          rcases (hin b (by simp [hb'])).1 with h' | h' | h'
          · exact (hnot b hb).1 h'
          · exact (hnot b hb).2 h'
          · have := (f4 b hb).2.2; omega
        simp [h1, h2, (f4 b hb).1]

theorem Rel.two (h : Rel F B st a w) (k l : Nat) (hkl : k ≠ l) (hk : k < st.length) :
    ∃ bk bl : List Nat, (∀ b ∈ bk, (¬ F b ∧ (b ∈ B.bs ∨ B.w.heap.size ≤ b)) ∧ b < w.heap.size) ∧ (∀ b ∈ bl, (¬ F b ∧ (b ∈ B.bs ∨ B.w.heap.size ≤ b)) ∧ b < w.heap.size) ∧ (bk ++ bl).Nodup ∧
      (∃ xk, a.tmps[k]? = some xk ∧ DR F w (gt st k) xk bk) ∧ (∀ d, st.get? l = some d → ∃ xl, a.tmps[l]? = some xl ∧ DR F w d xl bl) ∧
      ∀ (w' : World) (dk dl : D) (a' : Act) (ck cl : List Nat), Stp w w' (bk ++ bl) → a'.defers = a.defers → a'.tmps.size = a.tmps.size →
        (∀ i, i ≠ k → i ≠ l → a'.tmps[i]? = a.tmps[i]?) →
        (∃ xk, a'.tmps[k]? = some xk ∧ DR F w' dk xk ck) → (l < st.length → ∃ xl, a'.tmps[l]? = some xl ∧ DR F w' dl xl cl) →
        (ck ++ cl).Nodup → (∀ b ∈ ck ++ cl, (b ∈ bk ∨ b ∈ bl ∨ w.heap.size ≤ b) ∧ b < w'.heap.size) →
        Rel F B ((st.set k dk).set l dl) a' w' := by
  obtain ⟨bk, bl, p1, p2, p3, p4, p5, _, p6⟩ := h.two' k l hkl hk
  exact ⟨bk, bl, p1, p2, p3, p4, p5, p6⟩

theorem Rel.put (h : Rel F B st a w) (k : Nat) {d : D} {x : Value} (hd : DR F w d x []) : Rel F B (st.set k d) (a.put (some k) x) w := by
  by_cases hk : k < st.length
  · obtain ⟨bk, bl, _, _, _, _, h5, h6⟩ := h.two k st.length (by omega) hk
    have := h6 w d .u (a.put (some k) x) [] [] (Stp.refl _ _) rfl (by simp [Act.put]) (fun i hi _ => get_put_ne a x hi) ⟨x, get_put_eq a x (by rw [h.len]; exact hk), hd⟩ (fun hl => absurd hl (by omega)) (by simp) (by simp)
    exact this.oob (by simp)
  · refine Rel.oob' ?_ (by omega)
    have : a.put (some k) x = a := by
      have hs : a.tmps.setIfInBounds k x = a.tmps := by
        rw [Array.setIfInBounds, dif_neg (by rw [h.len]; exact hk)]
      simp [Act.put, hs]
    rw [this]
    exact h

theorem Rel.putNew (h : Rel F B st a w) {k : Nat} (hk : k < st.length) {w' : World} (hs : Stp w w' []) {d : D} {x : Value} {bs : List Nat} (hd : DR F w' d x bs) (hn : bs.Nodup)
    (hb : ∀ b ∈ bs, w.heap.size ≤ b ∧ b < w'.heap.size) : Rel F B (st.set k d) (a.put (some k) x) w' := by
  obtain ⟨bk, bl, _, _, _, _, h5, h6⟩ := h.two k st.length (by omega) hk
  have := h6 w' d .u (a.put (some k) x) bs [] (hs.mono (by simp)) rfl (by simp [Act.put]) (fun i hi _ => get_put_ne a x hi) ⟨x, get_put_eq a x (by rw [h.len]; exact hk), hd⟩ (fun hl => absurd hl (by omega)) (by simpa using hn)
    (by intro b hb'; simp at hb'; exact ⟨.inr (.inr (hb b hb').1), (hb b hb').2⟩)
  exact this.oob (by simp)

theorem Rel.grow (h : Rel F B st a w) {w' : World} (hs : Stp w w' []) : Rel F B st a w' := by
  obtain ⟨own, hsl⟩ := h.slots
  have hF : ∀ b, F b → w'.heap[b]? = w.heap[b]? := fun b hb => hs.block b (h.Flt b hb) (by simp)
  refine ⟨h.defers, h.len, h.fr.stp hs (by simp), fun b hb => Nat.lt_of_lt_of_le (h.Flt b hb) hs.size, h.Fin, own, fun k d hk => ?_⟩
  obtain ⟨x, bs, f1, f2, f3, f4⟩ := hsl k d hk
  exact ⟨x, bs, f1, DR_world hF d x bs (fun b hb => hs.block b (f4 b hb).2.2 (by simp)) f2, f3, fun b hb => ⟨(f4 b hb).1, (f4 b hb).2.1, Nat.lt_of_lt_of_le (f4 b hb).2.2 hs.size⟩⟩

theorem Rel.drop (h : Rel F B st a w) (k : Nat) : Rel F B (st.set k .u) a w := by
  obtain ⟨own, hsl⟩ := h.slots
  refine ⟨h.defers, by rw [h.len]; simp, h.fr, h.Flt, h.Fin, own, fun i d hi => ?_⟩
  by_cases hik : i = k
  · subst hik
    have hlt : i < st.length := by have := St.get_lt hi; simpa using this
    rw [St.get_set_self hlt] at hi
    cases hi
    have hx : i < a.tmps.size := by rw [h.len]; exact hlt
    exact ⟨a.tmps[i], [], Array.getElem?_eq_getElem hx, by simp [DR], by simp, by simp⟩
  · rw [St.get_set_ne (Ne.symm hik)] at hi
    exact hsl i d hi
end
end Go.Eng
