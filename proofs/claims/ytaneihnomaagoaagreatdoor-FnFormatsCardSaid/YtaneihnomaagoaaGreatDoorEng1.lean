import Derived.WalkKit
import Derived.Deep.Quiet
import Derived.Below
import GoSem.Claims
namespace Go.Eng
open Go Go.RowKit

inductive T where
  | v (x : Value)
  | a (sz n : Nat) (ts : List T)
  | f (q : Option Nat) (ts : List T)

def mkF : Option Nat → Nat → Nat → Value
  | none, b, o => .pointer (some ⟨b, o, none⟩)
  | some id, b, o => .func (.func id) #[] #[.pointer (some ⟨b, o, none⟩)]
mutual
def RT (F : Nat → Prop) (w : World) : T → Value → Prop
  | .v x, y => y = x
  | .f q ts, y => ∃ b o, y = mkF q b o ∧ F b ∧ RL F w ts b o
  | .a sz n ts, y => (∃ A C, y = .slice A 0 C ∧ n = 0 ∧ ts = []) ∨
      ∃ b o cap, y = .slice (some ⟨b, o, none⟩) n cap ∧ n ≤ cap ∧ cap ≤ maxLen ∧ F b ∧ ts.length = n * sz ∧ RL F w ts b o
def RL (F : Nat → Prop) (w : World) : List T → Nat → Nat → Prop
  | [], _, _ => True
  | t :: ts, b, o => (∃ c, w.cell? ⟨b, o, none⟩ = some c ∧ RT F w t c) ∧ RL F w ts b (o + 1)
end

mutual
def OT (w : World) : T → Value → List Nat → Prop
  | .v x, y, bs => y = x ∧ bs = []
  | .f _ _, _, _ => False
  | .a sz n ts, y, bs => (y = .slice none 0 0 ∧ n = 0 ∧ ts = [] ∧ bs = []) ∨
      ∃ b o cap cur ty bs', y = .slice (some ⟨b, o, none⟩) n cap ∧ n ≤ cap ∧ cap ≤ maxLen ∧ w.heap[b]? = some (.cells cur ty (0, 0)) ∧
        o + cap * sz ≤ cur.size ∧ ts.length = n * sz ∧ bs = b :: bs' ∧ OL w ts (cur.toList.drop o) bs'
def OL (w : World) : List T → List Value → List Nat → Prop
  | [], _, bs => bs = []
  | t :: ts, cs, bs => ∃ c cs' b1 b2, cs = c :: cs' ∧ bs = b1 ++ b2 ∧ OT w t c b1 ∧ OL w ts cs' b2
end

def subV (sz off n : Nat) : Value → Value
  | .slice A _ C => .slice (if C = off then A else A.map (·.add (off * sz))) n (C - off)
  | v => v

inductive D where
  | u
  | r (t : T)
  | w (t : T) (V : Value)
  | al (k : Nat) (j : Option Nat) (sz n : Nat) (V : Value) (off : Nat)
  | agg (ds : List D)
  | tup (ds : List D)
  | obj (b : Nat) (ds : List D)
  | pt (k : Nat) (b off : Nat)
  | rp (ts : List T)
  | ep (k : Nat) (j : Option Nat) (sz : Nat) (V : Value) (pos : Nat)

mutual
def DR (F : Nat → Prop) (w : World) : D → Value → List Nat → Prop
  | .u, _, bs => bs = []
  | .r t, x, bs => RT F w t x ∧ bs = []
  | .w t V, x, bs => x = V ∧ OT w t V bs
  | .al _ _ sz n V off, x, bs => x = subV sz off n V ∧ bs = [] ∧ ∃ A m C, V = .slice A m C
  | .agg ds, x, bs => ∃ cs : List Value, x = .agg cs.toArray ∧ DLs F w ds cs bs
  | .tup ds, x, bs => ∃ cs : List Value, x = .tuple cs.toArray ∧ DLs F w ds cs bs
  | .obj b ds, x, bs => ∃ (cs : List Value) (ty : TypeId) (bs' : List Nat), x = .pointer (some ⟨b, 0, none⟩) ∧ w.heap[b]? = some (.cells cs.toArray ty (0, 0)) ∧ bs = b :: bs' ∧ DLs F w ds cs bs'
  | .pt _ b off, x, bs => x = .pointer (some ⟨b, off, none⟩) ∧ bs = []
  | .rp ts, x, bs => (∃ b o, x = .pointer (some ⟨b, o, none⟩) ∧ F b ∧ RL F w ts b o) ∧ bs = []
  | .ep _ _ _ V pos, x, bs => (∃ b o n c, V = .slice (some ⟨b, o, none⟩) n c ∧ x = .pointer (some ⟨b, o + pos, none⟩)) ∧ bs = []
def DLs (F : Nat → Prop) (w : World) : List D → List Value → List Nat → Prop
  | [], cs, bs => cs = [] ∧ bs = []
  | d :: ds, cs, bs => ∃ c cs' b1 b2, cs = c :: cs' ∧ bs = b1 ++ b2 ∧ DR F w d c b1 ∧ DLs F w ds cs' b2
end

mutual
theorem RT_world {F : Nat → Prop} {w w' : World} (h : ∀ b, F b → w'.heap[b]? = w.heap[b]?) : ∀ (t : T) (y : Value), RT F w t y → RT F w' t y
  | .v _, _, hy => by simpa [RT] using hy
  | .a sz n ts, y, hy => by
    simp only [RT] at hy ⊢
    rcases hy with hy | ⟨b, o, cap, h1, h2, h3, h4, h5, h6⟩
    · exact .inl hy
    · exact .inr ⟨b, o, cap, h1, h2, h3, h4, h5, RL_world h ts b o h4 h6⟩
  | .f id ts, y, hy => by
    simp only [RT] at hy ⊢
    obtain ⟨b, o, h1, h2, h3⟩ := hy
    exact ⟨b, o, h1, h2, RL_world h ts b o h2 h3⟩
theorem RL_world {F : Nat → Prop} {w w' : World} (h : ∀ b, F b → w'.heap[b]? = w.heap[b]?) : ∀ (ts : List T) (b o : Nat), F b → RL F w ts b o → RL F w' ts b o
  | [], _, _, _, _ => by simp [RL]
  | t :: ts, b, o, hb, hy => by
    simp only [RL] at hy ⊢
    obtain ⟨⟨c, h1, h2⟩, h3⟩ := hy
    refine ⟨⟨c, ?_, RT_world h t c h2⟩, RL_world h ts b (o + 1) hb h3⟩
    rw [World.cell?_of_block (w := w) (h b hb)]
    exact h1
end
mutual
theorem RT_mono {F G : Nat → Prop} {w : World} (h : ∀ b, F b → G b) : ∀ (t : T) (y : Value), RT F w t y → RT G w t y
  | .v _, _, hy => by simpa [RT] using hy
  | .a sz n ts, y, hy => by
    simp only [RT] at hy ⊢
    rcases hy with hy | ⟨b, o, cap, h1, h2, h3, h4, h5, h6⟩
    · exact .inl hy
    · exact .inr ⟨b, o, cap, h1, h2, h3, h b h4, h5, RL_mono h ts b o h6⟩
  | .f id ts, y, hy => by
    simp only [RT] at hy ⊢
    obtain ⟨b, o, h1, h2, h3⟩ := hy
    exact ⟨b, o, h1, h b h2, RL_mono h ts b o h3⟩
theorem RL_mono {F G : Nat → Prop} {w : World} (h : ∀ b, F b → G b) : ∀ (ts : List T) (b o : Nat), RL F w ts b o → RL G w ts b o
  | [], _, _, _ => by simp [RL]
  | t :: ts, b, o, hy => by
    simp only [RL] at hy ⊢
    obtain ⟨⟨c, h1, h2⟩, h3⟩ := hy
    exact ⟨⟨c, h1, RT_mono h t c h2⟩, RL_mono h ts b (o + 1) h3⟩
end
mutual
theorem OT_world {w w' : World} : ∀ (t : T) (y : Value) (bs : List Nat), (∀ b ∈ bs, w'.heap[b]? = w.heap[b]?) → OT w t y bs → OT w' t y bs
  | .v _, _, _, _, hy => by simpa [OT] using hy
  | .f _ _, _, _, _, hy => by simp [OT] at hy
  | .a sz n ts, y, bs, h, hy => by
    simp only [OT] at hy ⊢
    rcases hy with hy | ⟨b, o, cap, cur, ty, bs', h1, h2, h3, h4, h5, h6, h7, h8⟩
    · exact .inl hy
    · subst h7
      exact .inr ⟨b, o, cap, cur, ty, bs', h1, h2, h3, by rw [h b (by simp)]; exact h4, h5, h6, rfl, OL_world ts _ bs' (fun b hb => h b (by simp [hb])) h8⟩
theorem OL_world {w w' : World} : ∀ (ts : List T) (cs : List Value) (bs : List Nat), (∀ b ∈ bs, w'.heap[b]? = w.heap[b]?) → OL w ts cs bs → OL w' ts cs bs
  | [], _, _, _, hy => by simpa [OL] using hy
  | t :: ts, cs, bs, h, hy => by
    simp only [OL] at hy ⊢
    obtain ⟨c, cs', b1, b2, h1, h2, h3, h4⟩ := hy
    subst h2
    exact ⟨c, cs', b1, b2, h1, rfl, OT_world t c b1 (fun b hb => h b (by simp [hb])) h3, OL_world ts cs' b2 (fun b hb => h b (by simp [hb])) h4⟩
end
mutual
theorem DR_world {F : Nat → Prop} {w w' : World} (hF : ∀ b, F b → w'.heap[b]? = w.heap[b]?) : ∀ (d : D) (x : Value) (bs : List Nat), (∀ b ∈ bs, w'.heap[b]? = w.heap[b]?) → DR F w d x bs → DR F w' d x bs
  | .u, _, _, _, h => by simpa [DR] using h
  | .r t, x, bs, _, h => by
    simp only [DR] at h ⊢
    exact ⟨RT_world hF t x h.1, h.2⟩
  | .w t V, x, bs, hb, h => by
    simp only [DR] at h ⊢
    exact ⟨h.1, OT_world t V bs hb h.2⟩
  | .al _ _ _ _ _ _, _, _, _, h => by simpa [DR] using h
  | .agg ds, x, bs, hb, h => by
    simp only [DR] at h ⊢
    obtain ⟨cs, h1, h2⟩ := h
    exact ⟨cs, h1, DLs_world hF ds cs bs hb h2⟩
  | .tup ds, x, bs, hb, h => by
    simp only [DR] at h ⊢
    obtain ⟨cs, h1, h2⟩ := h
    exact ⟨cs, h1, DLs_world hF ds cs bs hb h2⟩
  | .obj b ds, x, bs, hb, h => by
    simp only [DR] at h ⊢
    obtain ⟨cs, ty, bs', h1, h2, h3, h4⟩ := h
    subst h3
    exact ⟨cs, ty, bs', h1, by rw [hb b (by simp)]; exact h2, rfl, DLs_world hF ds cs bs' (fun b hb' => hb b (by simp [hb'])) h4⟩
  | .pt _ _ _, _, _, _, h => by simpa [DR] using h
  | .rp ts, x, bs, hb, h => by
    simp only [DR] at h ⊢
    obtain ⟨⟨b, o, h1, h2, h3⟩, h4⟩ := h
    exact ⟨⟨b, o, h1, h2, RL_world hF ts b o h2 h3⟩, h4⟩
  | .ep _ _ _ _ _, _, _, _, h => by simpa [DR] using h
theorem DLs_world {F : Nat → Prop} {w w' : World} (hF : ∀ b, F b → w'.heap[b]? = w.heap[b]?) : ∀ (ds : List D) (cs : List Value) (bs : List Nat), (∀ b ∈ bs, w'.heap[b]? = w.heap[b]?) → DLs F w ds cs bs → DLs F w' ds cs bs
  | [], _, _, _, h => by simpa [DLs] using h
  | d :: ds, cs, bs, hb, h => by
    simp only [DLs] at h ⊢
    obtain ⟨c, cs', b1, b2, h1, h2, h3, h4⟩ := h
    subst h2
    exact ⟨c, cs', b1, b2, h1, rfl, DR_world hF d c b1 (fun b hb' => hb b (by simp [hb'])) h3, DLs_world hF ds cs' b2 (fun b hb' => hb b (by simp [hb'])) h4⟩
end

structure St where
  n : Nat
  l : List (Nat × D)
def look : List (Nat × D) → Nat → D
  | [], _ => .u
  | (k, d) :: r, j => bif Nat.beq k j then d else look r j
def St.length (s : St) : Nat := s.n
def St.set (s : St) (k : Nat) (d : D) : St := ⟨s.n, (k, d) :: s.l⟩
def gt (s : St) (k : Nat) : D := bif Nat.blt k s.n then look s.l k else .u
def St.get? (s : St) (k : Nat) : Option D := if k < s.n then some (gt s k) else none
section
variable {s : St} {k j : Nat} {d e : D}
theorem gt_lt (h : k < s.n) : gt s k = look s.l k := by
  have : Nat.blt k s.n = true := by rw [Nat.blt_eq]; exact h
  simp [gt, this]
theorem gt_ge (h : s.n ≤ k) : gt s k = .u := by
  have : Nat.blt k s.n = false := by
    cases hb : Nat.blt k s.n with
    | false => rfl
    | true => rw [Nat.blt_eq] at hb; omega
  simp [gt, this]
theorem St.get_set_self (h : k < s.length) : (s.set k d).get? k = some d := by
  have h' : k < (s.set k d).n := h
  unfold St.get?
  rw [if_pos h', gt_lt h']
  simp [St.set, look]
theorem gt_set_ne (h : k ≠ j) : gt (s.set k d) j = gt s j := by
  have : Nat.beq k j = false := by
    cases hb : Nat.beq k j with
    | false => rfl
    | true => exact absurd (Nat.eq_of_beq_eq_true hb) h
  simp [gt, St.set, look, this]
theorem St.get_set_ne (h : k ≠ j) : (s.set k d).get? j = s.get? j := by
  unfold St.get?
  rw [gt_set_ne h]
  rfl
theorem St.get_lt (h : s.get? k = some d) : k < s.length := by
  unfold St.get? at h
  split at h
  · assumption
  · cases h
theorem St.get_gt (h : s.get? k = some d) : gt s k = d := by
  unfold St.get? at h
  split at h
  · cases h; rfl
  · cases h
theorem St.get_of (h : k < s.length) : s.get? k = some (gt s k) := by
  unfold St.get?
  rw [if_pos (show k < s.n from h)]
theorem St.get_oob (h : s.length ≤ k) (j : Nat) : (s.set k d).get? j = s.get? j := by
  by_cases hkj : k = j
  · subst hkj
    have h' : s.n ≤ k := h
    unfold St.get?
    rw [if_neg (by show ¬ k < s.n; omega), if_neg (by omega)]
  · exact St.get_set_ne hkj
@[simp] theorem St.length_set : (s.set k d).length = s.length := rfl
theorem gt_some (h : gt s k = d) (hd : d ≠ .u) : s.get? k = some d := by
  rcases Nat.lt_or_ge k s.n with h1 | h1
  · rw [St.get_of h1, h]
  · rw [gt_ge h1] at h
    exact absurd h.symm hd
theorem getD_eq (h : gt s k = d) (hd : d ≠ .u) : k < s.length := St.get_lt (gt_some h hd)
end

def tb10 : Array Value := (((List.range 20).map fun i => ((10 ^ i : Nat) : Int)).map fun z => Value.int .u64 z).toArray
def Tb (P : Program) (w : World) (bs : List Nat) : Prop :=
  (∀ g, P.globalNamed "internal/strconv.uint64pow10" = some g → g ∉ bs ∧ g < w.heap.size ∧ w.var? P "internal/strconv.uint64pow10" = some tb10) ∧
    ∀ nm ∈ ["strconv.ErrSyntax", "strconv.ErrRange"], ∀ g, P.globalNamed nm = some g → g ∉ bs ∧ g < w.heap.size ∧ ∃ ev, w.cell? ⟨g, 0, none⟩ = some ev ∧ (ev = .nilIface ∨ ∃ te pe, ev = .iface te pe)
theorem Tb.no {P : Program} {w : World} {bs : List Nat} (h : P.globalNamed "internal/strconv.uint64pow10" = none) (h1 : P.globalNamed "strconv.ErrSyntax" = none) (h2 : P.globalNamed "strconv.ErrRange" = none) : Tb P w bs :=
  ⟨fun g hg => (by rw [h] at hg; cases hg), fun nm hn g hg => by
    rcases List.mem_cons.1 hn with rfl | hn
    · rw [h1] at hg; cases hg
    · rw [List.mem_singleton.1 hn, h2] at hg; cases hg⟩
theorem Tb.on {P : Program} {w w' : World} {bs bs' : List Nat} (h : Tb P w bs) (hs : w.heap.size ≤ w'.heap.size) (hf : ∀ b, b < w.heap.size → b ∉ bs → w'.heap[b]? = w.heap[b]?) (hb : ∀ b ∈ bs', b ∈ bs ∨ w.heap.size ≤ b) : Tb P w' bs' := by
  have key : ∀ g, g ∉ bs → g < w.heap.size → g ∉ bs' := fun g h1 h2 hm => by
    rcases hb g hm with h4 | h4
    · exact h1 h4
    · omega
  refine ⟨fun g hg => ?_, fun nm hn g hg => ?_⟩
  · obtain ⟨h1, h2, h3⟩ := h.1 g hg
    refine ⟨key g h1 h2, Nat.lt_of_lt_of_le h2 hs, ?_⟩
    unfold World.var? at h3 ⊢
    simp only [hg, Option.bind_some] at h3 ⊢
    rw [hf g h2 h1]; exact h3
  · obtain ⟨h1, h2, ev, h3, h4⟩ := h.2 nm hn g hg
    refine ⟨key g h1 h2, Nat.lt_of_lt_of_le h2 hs, ev, ?_, h4⟩
    rw [World.cell?_of_block (w := w) (hf g h2 h1)]; exact h3
structure Base (P : Program) where
  G : Nat → Prop
  bs : List Nat
  w : World
  tb : Tb P w bs

structure Fr {P : Program} (B : Base P) (w : World) : Prop where
  os : w.os = B.w.os
  tape : w.tape = B.w.tape
  output : w.output = B.w.output
  size : B.w.heap.size ≤ w.heap.size
  fix : ∀ b, b < B.w.heap.size → b ∉ B.bs → w.heap[b]? = B.w.heap[b]?

structure Rel {P : Program} (F : Nat → Prop) (B : Base P) (st : St) (a : Act) (w : World) : Prop where
  defers : a.defers = []
  len : a.tmps.size = st.length
  fr : Fr B w
  Flt : ∀ b, F b → b < w.heap.size
  Fin : ∀ b, F b → B.G b ∨ b ∈ B.bs ∨ B.w.heap.size ≤ b
  slots : ∃ own : Nat → Nat, ∀ k d, st.get? k = some d → ∃ x bs, a.tmps[k]? = some x ∧ DR F w d x bs ∧ bs.Nodup ∧ ∀ b ∈ bs, own b = k ∧ (¬ F b ∧ (b ∈ B.bs ∨ B.w.heap.size ≤ b)) ∧ b < w.heap.size

theorem Rel.tb {P : Program} {F : Nat → Prop} {B : Base P} {st : St} {a : Act} {w : World} (hr : Rel F B st a w) {bs' : List Nat} (hb : ∀ b ∈ bs', b ∈ B.bs ∨ B.w.heap.size ≤ b) : Tb P w bs' := B.tb.on hr.fr.size hr.fr.fix hb
end Go.Eng
