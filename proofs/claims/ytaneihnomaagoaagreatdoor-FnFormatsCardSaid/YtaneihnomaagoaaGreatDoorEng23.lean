import Derived.Test.YtaneihnomaagoaaGreatDoorEng19
namespace Go.Eng
open Go Go.RowKit

inductive Hand : List D → List C → List C → List D → Prop where
  | e : Hand [] [] [] []
  | r {t : T} {ds : List D} {cs os : List C} {ds' : List D} (h : Hand ds cs os ds') : Hand (.r t :: ds) (.r t :: cs) (.r t :: os) (.r t :: ds')
  | v {x : Value} {ds : List D} {cs os : List C} {ds' : List D} (h : Hand ds cs os ds') : Hand (.r (.v x) :: ds) (.w (.v x) :: cs) (.w (.v x) :: os) (.r (.v x) :: ds')
  | w {sz n : Nat} {ts : List T} {t' : T} {V : Value} {ds : List D} {cs os : List C} {ds' : List D} (h : Hand ds cs os ds') : Hand (.w (.a sz n ts) V :: ds) (.w (.a sz n ts) :: cs) (.w t' :: os) (.w t' V :: ds')
  | n {sz : Nat} {t' : T} {ds : List D} {cs os : List C} {ds' : List D} (h : Hand ds cs os ds') : Hand (.r (.v (.slice none 0 0)) :: ds) (.w (.a sz 0 []) :: cs) (.w t' :: os) (.w t' (.slice none 0 0) :: ds')
section
variable {F : Nat → Prop} {w : World}
theorem Hand.give {ds : List D} {cs os : List C} {ds' : List D} (h : Hand ds cs os ds') : ∀ (k j : Nat) (xs ys : List Value) (bk : List Nat), DLs F w ds xs bk → DLs F w (cpyL k j ds) ys [] →
    (∀ G : Nat → Prop, (∀ b, F b → G b) → CRs G w cs ys bk) ∧ ∀ (w' : World) (H : Nat → Prop) (b2 : List Nat), (∀ b, F b → w'.heap[b]? = w.heap[b]?) → CRs H w' os ys b2 → DLs F w' ds' xs b2 := by
  induction h with
  | e =>
    intro k j xs ys bk h1 h2
    simp only [DLs, cpyL] at h1 h2
    refine ⟨fun G _ => by simp [CRs, h2.1, h1.2], fun w' H b2 _ h3 => ?_⟩
    simp only [CRs] at h3
    simp [DLs, h1.1, h3.2]
  | r h ih =>
    intro k j xs ys bk h1 h2
    simp only [DLs, cpyL, cpyC] at h1 h2
    obtain ⟨x, xs', p1, p2, rfl, rfl, h3, h4⟩ := h1
    obtain ⟨y, ys', q1, q2, rfl, hq, h5, h6⟩ := h2
    obtain ⟨rfl, rfl⟩ := List.append_eq_nil_iff.1 hq.symm
    obtain ⟨i1, i2⟩ := ih k (j + 1) xs' ys' p2 h4 h6
    simp only [DR] at h3 h5
    obtain ⟨h3, rfl⟩ := h3
    refine ⟨fun G hG => ?_, fun w' H b2 hw h7 => ?_⟩
    · simp only [CRs]
      exact ⟨y, ys', [], p2, rfl, rfl, ⟨RT_mono hG _ _ h5.1, rfl⟩, i1 G hG⟩
    · simp only [CRs] at h7
      obtain ⟨_, _, r1, r2, hy, rfl, h8, h9⟩ := h7
      cases hy
      simp only [CR] at h8
      obtain ⟨_, rfl⟩ := h8
      simp only [DLs]
      exact ⟨x, xs', [], r2, rfl, rfl, by simp only [DR]; exact ⟨RT_world hw _ _ h3, trivial⟩, i2 w' H r2 hw h9⟩
  | v h ih =>
    intro k j xs ys bk h1 h2
    simp only [DLs, cpyL, cpyC] at h1 h2
    obtain ⟨x, xs', p1, p2, rfl, rfl, h3, h4⟩ := h1
    obtain ⟨y, ys', q1, q2, rfl, hq, h5, h6⟩ := h2
    obtain ⟨rfl, rfl⟩ := List.append_eq_nil_iff.1 hq.symm
    obtain ⟨i1, i2⟩ := ih k (j + 1) xs' ys' p2 h4 h6
    simp only [DR, RT] at h3 h5
    obtain ⟨h3, rfl⟩ := h3
    refine ⟨fun G hG => ?_, fun w' H b2 hw h7 => ?_⟩
    · simp only [CRs]
      exact ⟨y, ys', [], p2, rfl, rfl, by simp [CR, OT, h5.1], i1 G hG⟩
    · simp only [CRs] at h7
      obtain ⟨_, _, r1, r2, hy, rfl, h8, h9⟩ := h7
      cases hy
      simp only [CR, OT] at h8
      obtain ⟨_, rfl⟩ := h8
      simp only [DLs]
      exact ⟨x, xs', [], r2, rfl, rfl, by simp [DR, RT, h3], i2 w' H r2 hw h9⟩
  | w h ih =>
    intro k j xs ys bk h1 h2
    simp only [DLs, cpyL, cpyC] at h1 h2
    obtain ⟨x, xs', p1, p2, rfl, rfl, h3, h4⟩ := h1
    obtain ⟨y, ys', q1, q2, rfl, hq, h5, h6⟩ := h2
    obtain ⟨rfl, rfl⟩ := List.append_eq_nil_iff.1 hq.symm
    obtain ⟨i1, i2⟩ := ih k (j + 1) xs' ys' p2 h4 h6
    simp only [DR] at h3 h5
    obtain ⟨rfl, h3⟩ := h3
    have hy : y = x := by rw [h5.1, ← subV_whole h3]
    subst hy
    refine ⟨fun G hG => ?_, fun w' H b2 hw h7 => ?_⟩
    · simp only [CRs]
      exact ⟨_, ys', p1, p2, rfl, rfl, h3, i1 G hG⟩
    · simp only [CRs] at h7
      obtain ⟨_, _, r1, r2, hy, rfl, h8, h9⟩ := h7
      cases hy
      simp only [DLs]
      exact ⟨_, xs', r1, r2, rfl, rfl, by simp only [DR]; exact ⟨trivial, h8⟩, i2 w' H r2 hw h9⟩
  | n h ih =>
    intro k j xs ys bk h1 h2
    simp only [DLs, cpyL, cpyC] at h1 h2
    obtain ⟨x, xs', p1, p2, rfl, rfl, h3, h4⟩ := h1
    obtain ⟨y, ys', q1, q2, rfl, hq, h5, h6⟩ := h2
    obtain ⟨rfl, rfl⟩ := List.append_eq_nil_iff.1 hq.symm
    obtain ⟨i1, i2⟩ := ih k (j + 1) xs' ys' p2 h4 h6
    simp only [DR, RT] at h3 h5
    obtain ⟨rfl, rfl⟩ := h3
    obtain ⟨rfl, _⟩ := h5
    refine ⟨fun G hG => ?_, fun w' H b2 hw h7 => ?_⟩
    · simp only [CRs]
      exact ⟨_, ys', [], p2, rfl, rfl, by simp [CR, OT], i1 G hG⟩
    · simp only [CRs] at h7
      obtain ⟨_, _, r1, r2, hy, rfl, h8, h9⟩ := h7
      cases hy
      simp only [DLs]
      exact ⟨_, xs', r1, r2, rfl, rfl, by simp only [DR]; exact ⟨trivial, h8⟩, i2 w' H r2 hw h9⟩

theorem DLs_split : ∀ {ds : List D} {xs : List Value} {bk : List Nat} {j : Nat} {d : D}, DLs F w ds xs bk → ds[j]? = some d →
    ∃ (pre bj post : List Nat) (x : Value), bk = pre ++ bj ++ post ∧ DR F w d x bj ∧ ∀ (w' : World) (d' : D) (b' : List Nat), (∀ b, F b ∨ b ∈ pre ∨ b ∈ post → w'.heap[b]? = w.heap[b]?) → DR F w' d' x b' → DLs F w' (ds.set j d') xs (pre ++ b' ++ post)
  | [], _, _, _, _, _, hj => by simp at hj
  | d0 :: ds, xs, bk, j, d, h, hj => by
    simp only [DLs] at h
    obtain ⟨x, xs', p1, p2, rfl, rfl, h3, h4⟩ := h
    cases j with
    | zero =>
      simp at hj
      subst hj
      refine ⟨[], p1, p2, x, by simp, h3, fun w' d' b' hw hd => ?_⟩
      simp only [List.set_cons_zero, List.nil_append, DLs]
      exact ⟨x, xs', b', p2, rfl, rfl, hd, DLs_world (fun b hb => hw b (.inl hb)) _ _ _ (fun b hb => hw b (.inr (.inr hb))) h4⟩
    | succ j =>
      obtain ⟨pre, bj, post, y, rfl, h5, h6⟩ := DLs_split h4 (by simpa using hj)
      refine ⟨p1 ++ pre, bj, post, y, by simp, h5, fun w' d' b' hw hd => ?_⟩
      simp only [List.set_cons_succ, DLs]
      refine ⟨x, xs', p1, pre ++ b' ++ post, rfl, by simp, DR_world (fun b hb => hw b (.inl hb)) _ _ _ (fun b hb => hw b (.inr (.inl (by simp [hb])))) h3, h6 w' d' b' (fun b hb => hw b ?_) hd⟩
      rcases hb with hb | hb | hb
      · exact .inl hb
      · exact .inr (.inl (by simp [hb]))
      · exact .inr (.inr hb)
end
inductive One (k j sz n : Nat) (V : Value) (ts : List T) (t' : T) : List D → List C → List C → Prop where
  | here {xs : List Value} : One k j sz n V ts t' (.al k (some j) sz n V 0 :: xs.map fun x => .r (.v x)) (.w (.a sz n ts) :: xs.map fun x => .w (.v x)) (.w t' :: xs.map fun x => .w (.v x))
  | there {x : Value} {es : List D} {cs os : List C} (h : One k j sz n V ts t' es cs os) : One k j sz n V ts t' (.r (.v x) :: es) (.w (.v x) :: cs) (.w (.v x) :: os)
theorem vals_DLs {F : Nat → Prop} {w : World} : ∀ {xs : List Value} {ys : List Value}, DLs F w (xs.map fun x => D.r (.v x)) ys [] → ys = xs
  | [], ys, h => by simp only [List.map_nil, DLs] at h; exact h.1
  | x :: xs, ys, h => by
    simp only [List.map_cons, DLs] at h
    obtain ⟨c, cs', b1, b2, rfl, hb, h3, h4⟩ := h
    obtain ⟨rfl, rfl⟩ := List.append_eq_nil_iff.1 hb.symm
    simp only [DR, RT] at h3
    rw [h3.1, vals_DLs h4]
theorem vals_CRs {G : Nat → Prop} {w : World} : ∀ (xs : List Value), CRs G w (xs.map fun x => C.w (.v x)) xs []
  | [] => by simp [CRs]
  | x :: xs => by
    simp only [List.map_cons, CRs]
    exact ⟨x, xs, [], [], rfl, rfl, by simp [CR, OT], vals_CRs xs⟩
theorem vals_none {G : Nat → Prop} {w : World} : ∀ (xs ys : List Value) (bs : List Nat), CRs G w (xs.map fun x => C.w (.v x)) ys bs → bs = []
  | [], ys, bs, h => by simp only [List.map_nil, CRs] at h; exact h.2
  | x :: xs, ys, bs, h => by
    simp only [List.map_cons, CRs] at h
    obtain ⟨c, cs', b1, b2, rfl, rfl, h3, h4⟩ := h
    simp only [CR, OT] at h3
    rw [h3.2, vals_none xs _ _ h4]
    rfl
theorem One.give {F : Nat → Prop} {w : World} {k j sz n : Nat} {V : Value} {ts : List T} {t' : T} {es : List D} {cs os : List C} (h : One k j sz n V ts t' es cs os) {bj : List Nat} (hV : OT w (.a sz n ts) V bj) : ∀ {ys : List Value}, DLs F w es ys [] →
    (∀ G : Nat → Prop, CRs G w cs ys bj) ∧ ∀ (w' : World) (H : Nat → Prop) (b2 : List Nat), CRs H w' os ys b2 → OT w' t' V b2 := by
  induction h with
  | here =>
    intro ys hd
    simp only [DLs] at hd
    obtain ⟨c, cs', b1, b2, rfl, hb, h3, h4⟩ := hd
    obtain ⟨rfl, rfl⟩ := List.append_eq_nil_iff.1 hb.symm
    have hx := vals_DLs h4
    subst hx
    simp only [DR] at h3
    have hc : c = V := by rw [h3.1, ← subV_whole hV]
    subst hc
    refine ⟨fun G => ?_, fun w' H b2 h5 => ?_⟩
    · simp only [CRs]
      exact ⟨c, _, bj, [], rfl, by simp, hV, vals_CRs _⟩
    · simp only [CRs] at h5
      obtain ⟨_, _, r1, r2, hy, rfl, h6, h7⟩ := h5
      cases hy
      rw [vals_none _ _ _ h7, List.append_nil]
      exact h6
  | there h ih =>
    intro ys hd
    simp only [DLs] at hd
    obtain ⟨c, cs', b1, b2, rfl, hb, h3, h4⟩ := hd
    obtain ⟨rfl, rfl⟩ := List.append_eq_nil_iff.1 hb.symm
    obtain ⟨i1, i2⟩ := ih h4
    simp only [DR, RT] at h3
    refine ⟨fun G => ?_, fun w' H b2 h5 => ?_⟩
    · simp only [CRs]
      exact ⟨c, cs', [], bj, rfl, rfl, by simp [CR, OT, h3.1], i1 G⟩
    · simp only [CRs] at h5
      obtain ⟨_, _, r1, r2, hy, rfl, h6, h7⟩ := h5
      cases hy
      simp only [CR, OT] at h6
      rw [h6.2, List.nil_append]
      exact i2 w' H r2 h7
theorem cpyL_drop (k : Nat) : ∀ (ds : List D) (j m : Nat), (cpyL k j ds).drop m = cpyL k (j + m) (ds.drop m)
  | [], j, m => by cases m <;> rfl
  | d :: ds, j, 0 => rfl
  | d :: ds, j, m + 1 => by
    show (cpyL k (j + 1) ds).drop m = _
    rw [cpyL_drop k ds (j + 1) m, Nat.add_right_comm, Nat.add_assoc]; rfl
theorem cpyL_take (k : Nat) : ∀ (ds : List D) (j m : Nat), (cpyL k j ds).take m = cpyL k j (ds.take m)
  | [], j, m => by cases m <;> rfl
  | d :: ds, j, 0 => rfl
  | d :: ds, j, m + 1 => by
    show _ :: (cpyL k (j + 1) ds).take m = _
    rw [cpyL_take k ds (j + 1) m]; rfl
theorem DLs_app {F : Nat → Prop} {w : World} : ∀ {d1 d2 : List D} {xs : List Value} {bs : List Nat}, DLs F w (d1 ++ d2) xs bs → ∃ x1 x2 b1 b2, xs = x1 ++ x2 ∧ bs = b1 ++ b2 ∧ DLs F w d1 x1 b1 ∧ DLs F w d2 x2 b2
  | [], d2, xs, bs, h => ⟨[], xs, [], bs, rfl, rfl, ⟨rfl, rfl⟩, h⟩
  | d :: d1, d2, xs, bs, h => by
    simp only [List.cons_append, DLs] at h
    obtain ⟨c, cs', b1, b2, rfl, rfl, h3, h4⟩ := h
    obtain ⟨x1, x2, e1, e2, rfl, rfl, h5, h6⟩ := DLs_app h4
    exact ⟨c :: x1, x2, b1 ++ e1, e2, rfl, by simp, ⟨c, x1, b1, e1, rfl, rfl, h3, h5⟩, h6⟩
theorem DLs_join {F : Nat → Prop} {w : World} : ∀ {d1 d2 : List D} {x1 x2 : List Value} {b1 b2 : List Nat}, DLs F w d1 x1 b1 → DLs F w d2 x2 b2 → DLs F w (d1 ++ d2) (x1 ++ x2) (b1 ++ b2)
  | [], d2, x1, x2, b1, b2, h, h2 => by
    obtain ⟨rfl, rfl⟩ := h
    exact h2
  | d :: d1, d2, x1, x2, b1, b2, h, h2 => by
    simp only [DLs] at h
    obtain ⟨c, cs', e1, e2, rfl, rfl, h3, h4⟩ := h
    exact ⟨c, cs' ++ x2, e1, e2 ++ b2, rfl, by simp, h3, DLs_join h4 h2⟩
inductive AsW (k : Nat) : D → D → A → A → ((Nat → Value) → D) → Prop where
  | own {sz n : Nat} {ts : List T} {V : Value} {t' : T} : AsW k (.w (.a sz n ts) V) (.al k none sz n V 0) (.one (.w (.a sz n ts))) (.one (.w t')) (fun _ => .w t' V)
  | cellO {b j sz n : Nat} {ds : List D} {ts : List T} {V : Value} {t' : T} (hj : ds[j]? = some (.w (.a sz n ts) V)) : AsW k (.obj b ds) (.al k (some j) sz n V 0) (.one (.w (.a sz n ts))) (.one (.w t')) (fun _ => .obj b (ds.set j (.w t' V)))
  | cellA {j sz n : Nat} {ds : List D} {ts : List T} {V : Value} {t' : T} (hj : ds[j]? = some (.w (.a sz n ts) V)) : AsW k (.agg ds) (.al k (some j) sz n V 0) (.one (.w (.a sz n ts))) (.one (.w t')) (fun _ => .agg (ds.set j (.w t' V)))
  | aggA {ds : List D} {cs os : List C} {ds' : List D} (h : Hand ds cs os ds') : AsW k (.agg ds) (.agg (cpyL k 0 ds)) (.agg cs) (.agg os) (fun _ => .agg ds')
  | aggO {b : Nat} {ds : List D} {cs os : List C} {ds' : List D} (h : Hand ds cs os ds') : AsW k (.obj b ds) (.agg (cpyL k 0 ds)) (.agg cs) (.agg os) (fun _ => .obj b ds')
  | ob {b : Nat} {ds : List D} {cs os : List C} (h : DT ds cs) (ho : os.all ownC = true) : AsW k (.obj b ds) (.pt k b 0) (.ob cs) (.ob os) (fun g => .obj b (cD g 0 os))
  | partA {j sz n : Nat} {ds es : List D} {ts : List T} {V : Value} {t' : T} {cs os : List C} (hj : ds[j]? = some (.w (.a sz n ts) V)) (h : One k j sz n V ts t' es cs os) : AsW k (.agg ds) (.agg es) (.agg cs) (.agg os) (fun _ => .agg (ds.set j (.w t' V)))
  | partO {b j sz n : Nat} {ds es : List D} {ts : List T} {V : Value} {t' : T} {cs os : List C} (hj : ds[j]? = some (.w (.a sz n ts) V)) (h : One k j sz n V ts t' es cs os) : AsW k (.obj b ds) (.agg es) (.agg cs) (.agg os) (fun _ => .obj b (ds.set j (.w t' V)))
  | rangeA {off len : Nat} {ds : List D} {cs os : List C} {mid' : List D} (h : Hand ((ds.drop off).take len) cs os mid') : AsW k (.agg ds) (.agg (((cpyL k 0 ds).drop off).take len)) (.agg cs) (.agg os) (fun _ => .agg (ds.take off ++ (mid' ++ ds.drop (off + len))))
  | rangeO {b off len : Nat} {ds : List D} {cs os : List C} {mid' : List D} (h : Hand ((ds.drop off).take len) cs os mid') : AsW k (.obj b ds) (.agg (((cpyL k 0 ds).drop off).take len)) (.agg cs) (.agg os) (fun _ => .obj b (ds.take off ++ (mid' ++ ds.drop (off + len))))
  | gone {sz n : Nat} {ts : List T} {V : Value} : AsW k (.w (.a sz n ts) V) (.al k none sz n V 0) (.one (.w (.a sz n ts))) .gone (fun _ => .u)
inductive AsWs (st : St) (k : Nat) (d' : (Nat → Value) → D) : List Operand → List A → List A → Prop where
  | here {x : Operand} {a o : A} {xs : List Operand} {as outs : List A} (h : AsW k (gt st k) (ev st x) a o d') (hs : AsAs st true (some k) xs as) : AsWs st k d' (x :: xs) (a :: as) (o :: outs)
  | there {x : Operand} {a o : A} {xs : List Operand} {as outs : List A} (h : AsA st true (some k) (ev st x) a) (hs : AsWs st k d' xs as outs) : AsWs st k d' (x :: xs) (a :: as) (o :: outs)

section
variable {E : Env} {F : Nat → Prop} {B : Base E.P} {w : World} {o : Oper} {st : St} {K : St → Prop} {a : Act} {all rest : List Oper}
theorem AsW.give {k : Nat} {d e : D} {ain aout : A} {d' : (Nat → Value) → D} (h : AsW k d e ain aout d') {x y : Value} {bk : List Nat} (hd : DR F w d x bk) (he : DR F w e y []) (hxy : ∀ b ds, d = .obj b ds → ∀ c, (∃ ds', d = .obj c ds') → True) :
    ∃ pre bs post, bk = pre ++ bs ++ post ∧ (∀ G : Nat → Prop, (∀ b, F b → G b) → AR G w ain y bs) ∧
      ∀ (w' : World) (H : Nat → Prop) (b2 : List Nat), (∀ b, F b ∨ b ∈ pre ∨ b ∈ post → w'.heap[b]? = w.heap[b]?) → AR H w' aout y b2 → ∃ g, DR F w' (d' g) x (pre ++ b2 ++ post) := by
  cases h with
  | own =>
    simp only [DR] at hd he
    obtain ⟨rfl, hd⟩ := hd
    have hy : y = x := by rw [he.1, ← subV_whole hd]
    subst hy
    refine ⟨[], bk, [], by simp, fun G _ => hd, fun w' H b2 _ h2 => ⟨fun _ => undef, ?_⟩⟩
    simp only [DR, List.nil_append, List.append_nil]
    exact ⟨trivial, h2⟩
  | gone =>
    simp only [DR] at hd he
    obtain ⟨rfl, hd⟩ := hd
    have hy : y = x := by rw [he.1, ← subV_whole hd]
    subst hy
    refine ⟨[], bk, [], by simp, fun G _ => hd, fun w' H b2 _ h2 => ⟨fun _ => undef, ?_⟩⟩
    simp only [AR] at h2
    simp [DR, h2]
  | cellO hj =>
    rename_i b j sz n ds ts V t'
    simp only [DR] at hd he
    obtain ⟨cs, ty, bs', rfl, h2, rfl, h3⟩ := hd
    obtain ⟨pre, bj, post, z, rfl, h4, h5⟩ := DLs_split h3 hj
    simp only [DR] at h4
    obtain ⟨rfl, h4⟩ := h4
    have hy : y = z := by rw [he.1, ← subV_whole h4]
    subst hy
    refine ⟨b :: pre, bj, post, by simp, fun G _ => h4, fun w' H b2 hw h6 => ⟨fun _ => undef, ?_⟩⟩
    simp only [DR]
    refine ⟨cs, ty, pre ++ b2 ++ post, trivial, by rw [hw _ (.inr (.inl (by simp)))]; exact h2, by simp, h5 w' _ b2 (fun b hb => hw b ?_) (by simp only [DR]; exact ⟨trivial, h6⟩)⟩
    rcases hb with hb | hb | hb
    · exact .inl hb
    · exact .inr (.inl (by simp [hb]))
    · exact .inr (.inr hb)
  | cellA hj =>
    simp only [DR] at hd he
    obtain ⟨cs, rfl, h3⟩ := hd
    obtain ⟨pre, bj, post, z, rfl, h4, h5⟩ := DLs_split h3 hj
    simp only [DR] at h4
    obtain ⟨rfl, h4⟩ := h4
    have hy : y = z := by rw [he.1, ← subV_whole h4]
    subst hy
    refine ⟨pre, bj, post, rfl, fun G _ => h4, fun w' H b2 hw h6 => ⟨fun _ => undef, ?_⟩⟩
    simp only [DR]
    exact ⟨cs, rfl, h5 w' _ b2 hw (by simp only [DR]; exact ⟨trivial, h6⟩)⟩
  | partA hj h =>
    simp only [DR] at hd he
    obtain ⟨cs, rfl, h3⟩ := hd
    obtain ⟨ys, rfl, h7⟩ := he
    obtain ⟨pre, bj, post, z, rfl, h4, h5⟩ := DLs_split h3 hj
    simp only [DR] at h4
    obtain ⟨rfl, h4⟩ := h4
    obtain ⟨i1, i2⟩ := h.give h4 h7
    refine ⟨pre, bj, post, rfl, fun G _ => ⟨ys, rfl, i1 G⟩, fun w' H b2 hw h6 => ⟨fun _ => undef, ?_⟩⟩
    obtain ⟨ys', hys, h6⟩ := h6
    have : ys' = ys := by simpa using hys.symm
    subst this
    simp only [DR]
    exact ⟨cs, rfl, h5 w' _ b2 hw (by simp only [DR]; exact ⟨trivial, i2 w' H b2 h6⟩)⟩
  | partO hj h =>
    rename_i b j sz n ds es ts V t' cs0 os
    simp only [DR] at hd he
    obtain ⟨cs, ty, bs', rfl, h2, rfl, h3⟩ := hd
    obtain ⟨ys, rfl, h7⟩ := he
    obtain ⟨pre, bj, post, z, rfl, h4, h5⟩ := DLs_split h3 hj
    simp only [DR] at h4
    obtain ⟨rfl, h4⟩ := h4
    obtain ⟨i1, i2⟩ := h.give h4 h7
    refine ⟨b :: pre, bj, post, by simp, fun G _ => ⟨ys, rfl, i1 G⟩, fun w' H b2 hw h6 => ⟨fun _ => undef, ?_⟩⟩
    obtain ⟨ys', hys, h6⟩ := h6
    have : ys' = ys := by simpa using hys.symm
    subst this
    simp only [DR]
    refine ⟨cs, ty, pre ++ b2 ++ post, trivial, by rw [hw _ (.inr (.inl (by simp)))]; exact h2, by simp, h5 w' _ b2 (fun c hc => hw c ?_) (by simp only [DR]; exact ⟨trivial, i2 w' H b2 h6⟩)⟩
    rcases hc with hc | hc | hc
    · exact .inl hc
    · exact .inr (.inl (by simp [hc]))
    · exact .inr (.inr hc)
  | aggA h =>
    simp only [DR] at hd he
    obtain ⟨cs, rfl, h3⟩ := hd
    obtain ⟨ys, rfl, h4⟩ := he
    obtain ⟨i1, i2⟩ := h.give k 0 cs ys bk h3 h4
    refine ⟨[], bk, [], by simp, fun G hG => ⟨ys, rfl, i1 G hG⟩, fun w' H b2 hw h6 => ⟨fun _ => undef, ?_⟩⟩
    obtain ⟨ys', hys, h6⟩ := h6
    have : ys' = ys := by simpa using hys.symm
    subst this
    simp only [DR, List.nil_append, List.append_nil]
    exact ⟨cs, rfl, i2 w' H b2 (fun b hb => hw b (.inl hb)) h6⟩
  | aggO h =>
    rename_i b ds cs0 os ds'
    simp only [DR] at hd he
    obtain ⟨cs, ty, bs', rfl, h2, rfl, h3⟩ := hd
    obtain ⟨ys, rfl, h4⟩ := he
    obtain ⟨i1, i2⟩ := h.give k 0 cs ys bs' h3 h4
    refine ⟨[b], bs', [], by simp, fun G hG => ⟨ys, rfl, i1 G hG⟩, fun w' H b2 hw h6 => ⟨fun _ => undef, ?_⟩⟩
    obtain ⟨ys', hys, h6⟩ := h6
    have : ys' = ys := by simpa using hys.symm
    subst this
    simp only [DR]
    exact ⟨cs, ty, b2, trivial, by rw [hw _ (.inr (.inl (by simp)))]; exact h2, by simp, i2 w' H b2 (fun b hb => hw b (.inl hb)) h6⟩
  | rangeA h =>
    rename_i off len ds cs0 os mid'
    simp only [DR] at hd he
    obtain ⟨cs, rfl, h3⟩ := hd
    obtain ⟨ys, rfl, h4⟩ := he
    have e0 : ds = ds.take off ++ ((ds.drop off).take len ++ ds.drop (off + len)) := by
      rw [← List.drop_drop, List.take_append_drop, List.take_append_drop]
    rw [e0] at h3
    obtain ⟨x1, x23, b1, b23, rfl, rfl, p1, p23⟩ := DLs_app h3
    obtain ⟨x2, x3, b2', b3, rfl, rfl, p2, p3⟩ := DLs_app p23
    rw [cpyL_drop, cpyL_take, Nat.zero_add] at h4
    obtain ⟨i1, i2⟩ := h.give k off x2 ys b2' p2 h4
    refine ⟨b1, b2', b3, by simp, fun G hG => ⟨ys, rfl, i1 G hG⟩, fun w' H b2 hw h6 => ⟨fun _ => undef, ?_⟩⟩
    obtain ⟨ys', hys, h6⟩ := h6
    have : ys' = ys := by simpa using hys.symm
    subst this
    simp only [DR]
    have q1 : DLs F w' (ds.take off) x1 b1 := DLs_world (fun c hc => hw c (.inl hc)) _ _ _ (fun c hc => hw c (.inr (.inl hc))) p1
    have q3 : DLs F w' (ds.drop (off + len)) x3 b3 := DLs_world (fun c hc => hw c (.inl hc)) _ _ _ (fun c hc => hw c (.inr (.inr hc))) p3
    have q2 := i2 w' H b2 (fun c hc => hw c (.inl hc)) h6
    refine ⟨x1 ++ (x2 ++ x3), rfl, ?_⟩
    rw [List.append_assoc]
    exact DLs_join q1 (DLs_join q2 q3)
  | rangeO h =>
    rename_i b off len ds cs0 os mid'
    simp only [DR] at hd he
    obtain ⟨cs, ty, bs', rfl, h2, rfl, h3⟩ := hd
    obtain ⟨ys, rfl, h4⟩ := he
    have e0 : ds = ds.take off ++ ((ds.drop off).take len ++ ds.drop (off + len)) := by
      rw [← List.drop_drop, List.take_append_drop, List.take_append_drop]
    rw [e0] at h3
    obtain ⟨x1, x23, b1, b23, rfl, rfl, p1, p23⟩ := DLs_app h3
    obtain ⟨x2, x3, b2', b3, rfl, rfl, p2, p3⟩ := DLs_app p23
    rw [cpyL_drop, cpyL_take, Nat.zero_add] at h4
    obtain ⟨i1, i2⟩ := h.give k off x2 ys b2' p2 h4
    refine ⟨b :: b1, b2', b3, by simp, fun G hG => ⟨ys, rfl, i1 G hG⟩, fun w' H b2 hw h6 => ⟨fun _ => undef, ?_⟩⟩
    obtain ⟨ys', hys, h6⟩ := h6
    have : ys' = ys := by simpa using hys.symm
    subst this
    simp only [DR]
    have q1 : DLs F w' (ds.take off) x1 b1 := DLs_world (fun c hc => hw c (.inl hc)) _ _ _ (fun c hc => hw c (.inr (.inl (by simp [hc])))) p1
    have q3 : DLs F w' (ds.drop (off + len)) x3 b3 := DLs_world (fun c hc => hw c (.inl hc)) _ _ _ (fun c hc => hw c (.inr (.inr hc))) p3
    have q2 := i2 w' H b2 (fun c hc => hw c (.inl hc)) h6
    exact ⟨x1 ++ (x2 ++ x3), ty, b1 ++ (b2 ++ b3), trivial, by rw [hw _ (.inr (.inl (by simp)))]; exact h2, by simp, DLs_join q1 (DLs_join q2 q3)⟩
  | ob h ho =>
    rename_i b ds cs os
    simp only [DR] at hd he
    obtain ⟨xs, ty, bs', rfl, h2, rfl, h3⟩ := hd
    obtain ⟨rfl, _⟩ := he
    refine ⟨[], b :: bs', [], by simp, fun G hG => ⟨b, xs, ty, bs', rfl, h2, rfl, CRs_mono hG _ _ _ (DT_CRs ds cs xs bs' h h3)⟩, fun w' H b2 hw h6 => ?_⟩
    obtain ⟨b', xs', ty', bs2, hp, h7, rfl, h8⟩ := h6
    cases hp
    obtain ⟨g, hg⟩ := CRs_D os 0 xs' bs2 (CRs_own (F := F) os xs' bs2 ho h8)
    refine ⟨g, ?_⟩
    simp only [DR, List.nil_append, List.append_nil]
    exact ⟨xs', ty', bs2, trivial, h7, rfl, hg⟩
theorem AsWs.give {k : Nat} {d' : (Nat → Value) → D} {xs : List Operand} {as outs : List A} (hr : Rel F B st a w) (h : AsWs st k d' xs as outs) {x : Value} {bk : List Nat} (hd : DR F w (gt st k) x bk) :
    ∃ pre bs post, bk = pre ++ bs ++ post ∧ (∀ G : Nat → Prop, Out F w st a true (some k) G → ARs G w as (xs.map a.eval) bs) ∧
      ∀ (w' : World) (H : Nat → Prop) (b2 : List Nat), (∀ b, F b ∨ b ∈ pre ∨ b ∈ post → w'.heap[b]? = w.heap[b]?) → ARs H w' outs (xs.map a.eval) b2 → ∃ g b3, b3.Sublist b2 ∧ DR F w' (d' g) x (pre ++ b3 ++ post) := by
  induction h with
  | here h hs =>
    obtain ⟨pre, bs, post, h1, h2, h3⟩ := h.give hd (hr.ev _) (fun _ _ _ _ _ => trivial)
    refine ⟨pre, bs, post, h1, fun G hG => ?_, fun w' H b2 hw h4 => ?_⟩
    · simp only [List.map_cons, ARs]
      exact ⟨_, _, bs, [], rfl, by simp, h2 G hG.fix, hs.read hr hG⟩
    · simp only [List.map_cons, ARs] at h4
      obtain ⟨y, ys, c1, c2, hy, rfl, h5, h6⟩ := h4
      cases hy
      obtain ⟨g, hg⟩ := h3 w' H c1 hw h5
      exact ⟨g, c1, List.sublist_append_left _ _, hg⟩
  | there h hs ih =>
    obtain ⟨pre, bs, post, h1, h2, h3⟩ := ih
    refine ⟨pre, bs, post, h1, fun G hG => ?_, fun w' H b2 hw h4 => ?_⟩
    · simp only [List.map_cons, ARs]
      exact ⟨_, _, [], bs, rfl, by simp, h.read hG (hr.ev _), h2 G hG⟩
    · simp only [List.map_cons, ARs] at h4
      obtain ⟨y, ys, c1, c2, hy, rfl, h5, h6⟩ := h4
      cases hy
      obtain ⟨g, b3, hb, hg⟩ := h3 w' H c2 hw h6
      exact ⟨g, b3, hb.trans (List.sublist_append_right _ _), hg⟩
end
end Go.Eng
