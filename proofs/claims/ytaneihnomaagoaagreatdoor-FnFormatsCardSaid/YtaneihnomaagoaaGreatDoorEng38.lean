import Derived.Test.YtaneihnomaagoaaGreatDoorEng37
namespace Go.Eng
open Go Go.RowKit

def nf0 : D → (D → Prop) → Prop
  | .r t, f => f (.r t)
  | .w t V, f => f (.w t V)
  | .al k j sz n V off, f => f (.al k j sz n V off)
  | .pt k b off, f => f (.pt k b off)
  | .rp ts, f => f (.rp ts)
  | .ep k j sz V pos, f => f (.ep k j sz V pos)
  | .u, f => f .u
  | .agg ds, f => f (.agg ds)
  | .tup ds, f => f (.tup ds)
  | .obj b ds, f => f (.obj b ds)
def nfL : List D → (List D → Prop) → Prop
  | [], f => f []
  | d :: ds, f => nf0 d fun e => nfL ds fun es => f (e :: es)
def nf1 : D → (D → Prop) → Prop
  | .agg ds, f => nfL ds fun es => f (.agg es)
  | .obj b ds, f => nfL ds fun es => f (.obj b es)
  | d, f => nf0 d f
def nfL1 : List D → (List D → Prop) → Prop
  | [], f => f []
  | d :: ds, f => nf1 d fun e => nfL1 ds fun es => f (e :: es)
def nfD : D → (D → Prop) → Prop
  | .tup ds, f => nfL1 ds fun es => f (.tup es)
  | d, f => nf1 d f
theorem nf0_eq (d : D) (f : D → Prop) : nf0 d f = f d := by cases d <;> rfl
theorem nfL_eq : ∀ (ds : List D) (f : List D → Prop), nfL ds f = f ds
  | [], _ => rfl
  | d :: ds, f => by rw [nfL, nf0_eq, nfL_eq ds]
theorem nf1_eq (d : D) (f : D → Prop) : nf1 d f = f d := by
  cases d <;> simp only [nf1, nfL_eq, nf0_eq]
theorem nfL1_eq : ∀ (ds : List D) (f : List D → Prop), nfL1 ds f = f ds
  | [], _ => rfl
  | d :: ds, f => by rw [nfL1, nf1_eq, nfL1_eq ds]
theorem nfD_eq (d : D) (f : D → Prop) : nfD d f = f d := by
  cases d <;> simp only [nfD, nfL1_eq, nf1_eq]

structure Kd (P : Program) where
  k : Nat → Option TypeDesc
  ok : ∀ t d, k t = some d → P.underlying t = some d

def binI (op : BinOp) (k : IntKind) (p q : Int) : Option D :=
  match op with
  | .eql => some (.r (.v (.bool (p == q))))
  | .neq => some (.r (.v (.bool (p != q))))
  | .lss => some (.r (.v (.bool (decide (p < q)))))
  | .leq => some (.r (.v (.bool (decide (p ≤ q)))))
  | .gtr => some (.r (.v (.bool (decide (p > q)))))
  | .geq => some (.r (.v (.bool (decide (p ≥ q)))))
  | .add => some (.r (.v (.int k (k.wrap (p + q)))))
  | .sub => some (.r (.v (.int k (k.wrap (p - q)))))
  | .mul => some (.r (.v (.int k (k.wrap (p * q)))))
  | .quo => match q with
    | .ofNat (_ + 1) => some (.r (.v (.int k (k.wrap (p.tdiv q)))))
    | _ => none
  | .rem => match q with
    | .ofNat (_ + 1) => some (.r (.v (.int k (p.tmod q))))
    | _ => none
  | _ => none
def bitD (op : BinOp) (p q : Int) : Option D :=
  match op with
  | .and => some (.r (.v (.int .i64 (andI p q))))
  | .or => some (.r (.v (.int .i64 (orI p q))))
  | .xor => some (.r (.v (.int .i64 (xorI p q))))
  | .shl => match q with
    | .ofNat _ => some (.r (.v (.int .i64 (shlI p q))))
    | _ => none
  | .shr => match q with
    | .ofNat _ => some (.r (.v (.int .i64 (shrI p q))))
    | _ => none
  | op => binI op .i64 p q
def shD (op : BinOp) (p q : Int) : Option D :=
  match op with
  | .shl => match q with
    | .ofNat _ => some (.r (.v (.int .i64 (shlI p q))))
    | _ => none
  | .shr => match q with
    | .ofNat _ => some (.r (.v (.int .i64 (shrI p q))))
    | _ => none
  | _ => none
def cvD : Option TypeDesc → Option TypeDesc → D → Option D
  | some (.int .i64), some (.int .u8), .r (.v (.int .i64 p)) => some (.r (.v (.int .u8 (IntKind.u8.wrap p))))
  | some (.int .u8), some (.int .i64), .r (.v (.int .u8 p)) => some (.r (.v (.int .i64 (IntKind.i64.wrap p))))
  | some (.int .i64), some (.int .i64), .r (.v (.int .i64 p)) => some (.r (.v (.int .i64 (IntKind.i64.wrap p))))
  | some (.int .u8), some (.int .u8), .r (.v (.int .u8 p)) => some (.r (.v (.int .u8 (IntKind.u8.wrap p))))
  | _, _, _ => none
def binS (op : BinOp) (a b : ByteArray) : Option D :=
  match op with
  | .eql => some (.r (.v (.bool (a.toList == b.toList))))
  | .neq => some (.r (.v (.bool (!(a.toList == b.toList)))))
  | .lss => some (.r (.v (.bool (Op.bytesLess a.toList b.toList))))
  | .leq => some (.r (.v (.bool (Op.bytesLess a.toList b.toList || a.toList == b.toList))))
  | .gtr => some (.r (.v (.bool (!(Op.bytesLess a.toList b.toList || a.toList == b.toList)))))
  | .geq => some (.r (.v (.bool (!(Op.bytesLess a.toList b.toList)))))
  | _ => none
def isSlice : TD → Bool
  | .slice _ => true
  | _ => false
def lenD (st : St) (kt : Option TypeDesc) (td : Option TyI) : D → Option D
  | .r (.v (.string s)) => match kt with
    | some .string => some (.r (.v (.int .i64 s.size)))
    | _ => none
  | .r (.a sz n ts) => match td with
    | some i => bif isSlice i.td then some (.r (.v (.int .i64 n))) else none
    | none => none
  | .r (.v (.slice none 0 0)) => match td with
    | some i => bif isSlice i.td then some (.r (.v (.int .i64 0))) else none
    | none => none
  | .al k j sz n V off => match td with
    | some i => bif isSlice i.td then some (.r (.v (.int .i64 n))) else none
    | none => none
  | _ => none
def repL {α : Type} (ds : List α) (o : Nat) (es : List α) : List α := ds.take o ++ (es ++ ds.drop (o + es.length))
theorem repL_eq {α : Type} {ds es : List α} {o : Nat} (h : o + es.length ≤ ds.length) : repL ds o es = setN ds o es := by rw [setN_eq es ds o h, repL, List.append_assoc]
def bldF (st : St) (fs : List (Nat × Nat × Nat)) : List (Nat × Operand) → List D → Option (List D)
  | [], ds => some ds
  | (i, x) :: rest, ds => match fs[i]? with
    | some (off, ty, sz) => match ev st x with
      | .agg es => bif Nat.beq es.length sz && Nat.ble (off + sz) ds.length then bldF st fs rest (repL ds off es) else none
      | d => bif Nat.beq sz 1 && one1 d && Nat.blt off ds.length then bldF st fs rest (ds.set off d) else none
    | none => none

def vevP (E : Env) (X : Kd E.P) (st : St) (op : Op) : Option D :=
  match op with
  | .move x => some (ev st x)
  | .assign x => some (ev st x)
  | .pick c x y => match ev st c with
    | .r (.v (.bool true)) => some (ev st x)
    | .r (.v (.bool false)) => some (ev st y)
    | _ => none
  | .binOp op t x y u => match ev st x, ev st y with
    | .r (.v (.int .i64 p)), .r (.v (.int .i64 q)) => bitD op p q
    | .r (.v (.int .i64 p)), .r (.v (.int .u64 q)) => shD op p q
    | .r (.v (.int .u8 p)), .r (.v (.int .u8 q)) => binI op .u8 p q
    | .r (.v (.string a)), .r (.v (.string b)) => binS op a b
    | _, _ => none
  | .unOp .not t x => match ev st x with
    | .r (.v (.bool b)) => some (.r (.v (.bool (!b))))
    | _ => none
  | .unOp .neg t x => match ev st x with
    | .r (.v (.int .i64 p)) => some (.r (.v (.int .i64 (IntKind.i64.wrap (0 - p)))))
    | _ => none
  | .convert s t x => cvD (X.k s) (X.k t) (ev st x)
  | .fieldAddr s x f => match E.tabs s with
    | some i => match i.td with
      | .agg fs => match fs[f]? with
        | some (off, ty, sz) => bif Nat.beq sz 0 then none else match ev st x with
          | .pt k b o => some (.pt k b (o + off))
          | .rp ts => bif Nat.ble off ts.length then some (.rp (ts.drop off)) else none
          | .ep k j s' V pos => some (.ep k j s' V (pos + off))
          | _ => none
        | none => none
      | _ => none
    | none => none
  | .build t ps => match E.tabs t with
    | some i => match i.td with
      | .agg fs => bif fs.all (fun f => !Nat.beq f.2.2 0) then match bldF st fs ps.toList (i.zero.map fun v => .r (.v v)) with
        | some ds => some (.agg ds)
        | none => none
        else none
      | _ => none
    | none => none
  | .nilCheck x => match ev st x with
    | .pt k b o => some (.pt k b o)
    | .rp ts => some (.rp ts)
    | _ => none
  | .call ⟨.builtin .len, ⟨[x]⟩, ⟨[t]⟩⟩ => lenD st (X.k t) (E.tabs t) (ev st x)
  | .call ⟨.builtin .min, ⟨[x, y]⟩, ⟨[t, u]⟩⟩ => match ev st x, ev st y with
    | .r (.v (.int .i64 p)), .r (.v (.int .i64 q)) => some (.r (.v (.int .i64 (mnI p q))))
    | _, _ => none
  | _ => none

section
variable {E : Env} {X : Kd E.P} {B : Base E.P} {o : Oper} {st : St} {d : D}
theorem V.lenAl {pu : Bool} {t : TypeId} {x : Operand} {k : Nat} {j : Option Nat} {sz n off : Nat} {V : Value} (ho : o.op = .call { callee := .builtin .len, args := #[x], argTypes := #[t] }) {i : TyI} {e : TypeId} (ht : E.tabs t = some i) (he : i.td = .slice e)
    (hx : ev st x = .al k j sz n V off) : VP pu E B o st (.r (.v (.int .i64 n))) := fun F ac w hr =>
  ⟨.int .i64 n, fun w' hs => by
    have hx' := hr.ev x
    rw [hx] at hx'
    simp only [DR] at hx'
    obtain ⟨h1, _, A, m, C, rfl⟩ := hx'
    have hu := tyI_slice (E.ok _ _ ht) he
    simp [execOp, ho, resolve, invoke, builtin, h1, subV, Builtin.len_, run_underlying hu, goInt], by simp [DR, RT]⟩
theorem binI_ok {pu : Bool} {op : BinOp} {t u : TypeId} {x y : Operand} {k : IntKind} {p q : Int} (ho : o.op = .binOp op t x y u) (hx : ev st x = .r (.v (.int k p))) (hy : ev st y = .r (.v (.int k q))) (h : binI op k p q = some d) : VP pu E B o st d := by
  cases op <;> simp only [binI, Option.some.injEq, reduceCtorEq] at h <;> try subst h
  case add => exact V.arInt ho hx hy rfl
  case sub => exact V.arInt ho hx hy rfl
  case mul => exact V.arInt ho hx hy rfl
  case quo =>
    split at h
    · cases h; exact V.quo ho hx hy (by simp; omega)
    · cases h
  case rem =>
    split at h
    · cases h; exact V.rem ho hx hy (by simp; omega)
    · cases h
  all_goals exact V.cmpInt ho hx hy rfl
theorem shD_ok {pu : Bool} {op : BinOp} {t u : TypeId} {x y : Operand} {k : IntKind} {p q : Int} (ho : o.op = .binOp op t x y u) (hx : ev st x = .r (.v (.int .i64 p))) (hy : ev st y = .r (.v (.int k q))) (h : shD op p q = some d) : VP pu E B o st d := by
  cases op <;> simp only [shD, reduceCtorEq] at h
  case shl =>
    split at h
    · cases h; exact V.shl ho hx hy (by simp)
    · cases h
  case shr =>
    split at h
    · cases h; exact V.shr ho hx hy (by simp)
    · cases h
theorem bitD_ok {pu : Bool} {op : BinOp} {t u : TypeId} {x y : Operand} {p q : Int} (ho : o.op = .binOp op t x y u) (hx : ev st x = .r (.v (.int .i64 p))) (hy : ev st y = .r (.v (.int .i64 q))) (h : bitD op p q = some d) : VP pu E B o st d := by
  cases op
  case shl => exact shD_ok ho hx hy h
  case shr => exact shD_ok ho hx hy h
  case and => simp only [bitD, Option.some.injEq] at h; subst h; exact V.bits ho hx hy rfl
  case or => simp only [bitD, Option.some.injEq] at h; subst h; exact V.bits ho hx hy rfl
  case xor => simp only [bitD, Option.some.injEq] at h; subst h; exact V.bits ho hx hy rfl
  all_goals exact binI_ok ho hx hy h
theorem cvD_ok {pu : Bool} {s t : TypeId} {x : Operand} (ho : o.op = .convert s t x) (h : cvD (X.k s) (X.k t) (ev st x) = some d) : VP pu E B o st d := by
  unfold cvD at h
  split at h
  · rename_i h1 h2 h3; cases h; exact V.convInt ho (X.ok _ _ h1) (X.ok _ _ h2) h3
  · rename_i h1 h2 h3; cases h; exact V.convInt ho (X.ok _ _ h1) (X.ok _ _ h2) h3
  · rename_i h1 h2 h3; cases h; exact V.convInt ho (X.ok _ _ h1) (X.ok _ _ h2) h3
  · rename_i h1 h2 h3; cases h; exact V.convInt ho (X.ok _ _ h1) (X.ok _ _ h2) h3
  · cases h
theorem binS_ok {pu : Bool} {op : BinOp} {t u : TypeId} {x y : Operand} {p q : ByteArray} (ho : o.op = .binOp op t x y u) (hx : ev st x = .r (.v (.string p))) (hy : ev st y = .r (.v (.string q))) (h : binS op p q = some d) : VP pu E B o st d := by
  cases op <;> simp only [binS, Option.some.injEq, reduceCtorEq] at h <;> subst h
  all_goals exact V.strCmp ho hx hy rfl
theorem bldF_ok {fs : List (Nat × Nat × Nat)} : ∀ {ps : List (Nat × Operand)} {ds out : List D}, bldF st fs ps ds = some out → Bld st fs ps ds out
  | [], ds, out, h => by simp only [bldF, Option.some.injEq] at h; subst h; exact .nil
  | (i, x) :: rest, ds, out, h => by
    unfold bldF at h
    split at h
    · rename_i off ty sz hi
      split at h
      · rename_i es hx
        cases hc : (Nat.beq es.length sz && Nat.ble (off + sz) ds.length) with
        | false => rw [hc] at h; simp at h
        | true =>
          rw [hc] at h
          simp only [Bool.and_eq_true] at hc
          have h1 := Nat.eq_of_beq_eq_true hc.1
          have h2 := Nat.le_of_ble_eq_true hc.2
          rw [cond_true, repL_eq (by omega)] at h
          exact .agg hi hx h1 h2 (bldF_ok h)
      · rename_i hx
        cases hc : (Nat.beq sz 1 && one1 (ev st x) && Nat.blt off ds.length) with
        | false => rw [hc] at h; simp at h
        | true =>
          rw [hc] at h
          simp only [Bool.and_eq_true] at hc
          have h1 := Nat.eq_of_beq_eq_true hc.1.1
          subst h1
          exact .one hi rfl hc.1.2 (by have := hc.2; rw [Nat.blt_eq] at this; exact this) (bldF_ok h)
    · cases h
theorem isSlice_ok {t : TD} (h : isSlice t = true) : ∃ e, t = .slice e := by cases t <;> simp_all [isSlice]
theorem vevP_ok {pu : Bool} (h : vevP E X st o.op = some d) : VP pu E B o st d := by
  generalize ho : o.op = op at h
  unfold vevP at h
  split at h
  · cases h; exact V.move ho
  · cases h; exact V.assign ho
  · split at h
    · rename_i hc; cases h; exact V.pickT ho hc rfl
    · rename_i hc; cases h; exact V.pickF ho hc rfl
    · cases h
  · split at h
    · rename_i hx hy; exact bitD_ok ho hx hy h
    · rename_i hx hy; exact shD_ok ho hx hy h
    · rename_i hx hy; exact binI_ok ho hx hy h
    · rename_i hx hy; exact binS_ok ho hx hy h
    · cases h
  · split at h
    · rename_i hx; cases h; exact V.not ho hx
    · cases h
  · split at h
    · rename_i hx; cases h; exact V.neg ho hx
    · cases h
  · exact cvD_ok ho h
  · split at h
    · rename_i i ht
      split at h
      · rename_i fs hf
        split at h
        · rename_i off ty sz hn
          cases hz : Nat.beq sz 0 with
          | true => rw [hz] at h; simp at h
          | false =>
            rw [hz] at h
            have hz' : sz ≠ 0 := by rintro rfl; simp at hz
            simp only [cond_false] at h
            split at h
            · rename_i hx; cases h; exact V.field ho ht hf hn hz' hx
            · rename_i ts hx
              cases hl : Nat.ble off ts.length with
              | false => rw [hl] at h; simp at h
              | true =>
                rw [hl] at h
                cases h
                exact V.fieldR ho ht hf hn hz' hx (Nat.le_of_ble_eq_true hl)
            · rename_i hx; cases h; exact V.fieldE ho ht hf hn hz' hx
            · cases h
        · cases h
      · cases h
    · cases h
  · split at h
    · rename_i i ht
      split at h
      · rename_i fs hf
        cases hz : (fs.all fun f => !Nat.beq f.2.2 0) with
        | false => rw [hz] at h; simp at h
        | true =>
          rw [hz] at h
          simp only [cond_true] at h
          split at h
          · rename_i ds hb
            cases h
            exact V.build (by rw [ho]) ht hf hz (bldF_ok hb)
          · cases h
      · cases h
    · cases h
  · split at h
    · rename_i hx; cases h; exact V.nilP ho hx
    · rename_i hx; cases h; exact V.nilR ho hx
    · cases h
  · rename_i x t
    generalize hD : ev st x = dd at h
    unfold lenD at h
    split at h
    · split at h
      · rename_i hk; cases h; exact V.lenStr ho (X.ok _ _ hk) hD
      · cases h
    · split at h
      · rename_i i hi
        cases hs : isSlice i.td with
        | false => rw [hs] at h; simp at h
        | true =>
          obtain ⟨e, he⟩ := isSlice_ok hs
          rw [hs] at h; cases h; exact V.lenT ho hi he (by rw [hD]; exact AsT.r)
      · cases h
    · split at h
      · rename_i i hi
        cases hs : isSlice i.td with
        | false => rw [hs] at h; simp at h
        | true =>
          obtain ⟨e, he⟩ := isSlice_ok hs
          rw [hs] at h; cases h
          exact V.lenT (sz := 0) (n := 0) (ts := []) ho hi he (by rw [hD]; exact AsT.nil)
      · cases h
    · split at h
      · rename_i i hi
        cases hs : isSlice i.td with
        | false => rw [hs] at h; simp at h
        | true =>
          obtain ⟨e, he⟩ := isSlice_ok hs
          rw [hs] at h; cases h
          exact V.lenAl ho hi he hD
      · cases h
    · cases h
  · split at h
    · rename_i hx hy; cases h; exact V.min2I ho hx hy
    · cases h
  · cases h
end

structure Ob (l : List (Nat × Nat)) (R : Prop) : Prop where
  e : l.map (·.1) = l.map (·.2)
  h : R
def ldK (E : Env) (st : St) (t : TypeId) (x : Operand) (f : D → List (Nat × Nat) → Prop) (no : Prop) : Prop :=
  match E.tabs t with
  | some i => match ev st x with
    | .pt k b off => match gt st k with
      | .obj b' ds => match i.td with
        | .agg fs => bif Nat.ble (off + i.sz) ds.length then f (.agg (((cpyL k 0 ds).drop off).take i.sz)) [(b, b')] else no
        | .prim => match (cpyL k 0 ds)[off]? with
          | some d => f d [(b, b')]
          | none => no
        | .slice _ => match (cpyL k 0 ds)[off]? with
          | some d => f d [(b, b')]
          | none => no
        | .other => no
      | _ => no
    | .rp ts => match i.td with
      | .agg fs => bif Nat.ble i.sz ts.length then f (.agg ((ts.take i.sz).map .r)) [] else no
      | .prim => match ts[0]? with
        | some t0 => f (.r t0) []
        | none => no
      | .slice _ => match ts[0]? with
        | some t0 => f (.r t0) []
        | none => no
      | .other => no
    | _ => no
  | none => no
def Eqs (l : List (Nat × Nat)) : Prop := l.map (·.1) = l.map (·.2)
theorem Eqs.one {b c : Nat} (h : Eqs [(b, c)]) : b = c := by simpa [Eqs] using h
theorem ldK_ok {E : Env} {B : Base E.P} {st : St} {t : TypeId} {x : Operand} {o : Oper} (ho : o.op = .load t x) {f : D → List (Nat × Nat) → Prop} {no : Prop} {P : D → Prop} (hf : ∀ d q, f d q → Eqs q ∧ P d) (h : ldK E st t x f no) : no ∨ ∃ d, V E B o st d ∧ P d := by
  unfold ldK at h
  split at h
  · rename_i i ht
    split at h
    · rename_i k b off hx
      split at h
      · rename_i b' ds hk
        split at h
        · rename_i fs hfs
          cases hl : Nat.ble (off + i.sz) ds.length with
          | false => rw [hl] at h; exact .inl h
          | true =>
            rw [hl] at h
            obtain ⟨e, hp⟩ := hf _ _ h
            obtain rfl := e.one
            exact .inr ⟨_, V.loadAgg ho ht hfs hx hk (Nat.le_of_ble_eq_true hl), hp⟩
        · rename_i hpr
          split at h
          · rename_i d hd
            obtain ⟨e, hp⟩ := hf _ _ h
            obtain rfl := e.one
            exact .inr ⟨_, V.loadPrim ho ht (.inl hpr) hx hk hd, hp⟩
          · exact .inl h
        · rename_i e0 hpr
          split at h
          · rename_i d hd
            obtain ⟨e, hp⟩ := hf _ _ h
            obtain rfl := e.one
            exact .inr ⟨_, V.loadPrim ho ht (.inr ⟨_, hpr⟩) hx hk hd, hp⟩
          · exact .inl h
        · exact .inl h
      · exact .inl h
    · rename_i ts hx
      split at h
      · rename_i fs hfs
        cases hl : Nat.ble i.sz ts.length with
        | false => rw [hl] at h; exact .inl h
        | true =>
          rw [hl] at h
          exact .inr ⟨_, V.loadAggR ho ht hfs hx (Nat.le_of_ble_eq_true hl), (hf _ _ h).2⟩
      · rename_i hpr
        split at h
        · rename_i t0 h0; exact .inr ⟨_, V.loadPrimR ho ht (.inl hpr) hx h0, (hf _ _ h).2⟩
        · exact .inl h
      · rename_i e0 hpr
        split at h
        · rename_i t0 h0; exact .inr ⟨_, V.loadPrimR ho ht (.inr ⟨_, hpr⟩) hx h0, (hf _ _ h).2⟩
        · exact .inl h
      · exact .inl h
    · exact .inl h
  · exact .inl h
def valK (E : Env) (X : Kd E.P) (st : St) (op : Op) (f : D → List (Nat × Nat) → Prop) (no : Prop) : Prop :=
  match op with
  | .load t x => ldK E st t x f no
  | op => match vevP E X st op with
    | some d => f d []
    | none => no
theorem valK_ok {E : Env} {X : Kd E.P} {B : Base E.P} {st : St} {o : Oper} {f : D → List (Nat × Nat) → Prop} {no : Prop} {P : D → Prop} (hf : ∀ d q, f d q → Eqs q ∧ P d) (h : valK E X st o.op f no) : no ∨ ∃ d, V E B o st d ∧ P d := by
  generalize ho : o.op = op at h
  unfold valK at h
  split at h
  · exact ldK_ok ho hf h
  · split at h
    · rename_i d hd; exact .inr ⟨_, vevP_ok (X := X) (by rw [ho]; exact hd), (hf _ _ h).2⟩
    · exact .inl h
def setK (n : Nat) (l : List (Nat × D)) (k : Option Nat) (d : D) (f : List (Nat × D) → Prop) : Prop :=
  match k with
  | some k => nfD d fun d' => f ((k, d') :: l)
  | none => f l
def gdK (all : List Oper) (st : St) : Option (Nat × Bool) → Option Bool
  | none => some true
  | some (j, want) => match all[j]? with
    | some oj => match oj.dst with
      | some d => match Eng.gt st d with
        | .r (.v (.bool true)) => some want
        | .r (.v (.bool false)) => some (!want)
        | .r (.v (.tuple ⟨[]⟩)) => some false
        | _ => none
      | none => none
    | none => none

def keepK (n : Nat) (l : List (Nat × D)) : List Nat → (List (Nat × D) → Prop) → Prop
  | [], f => f []
  | k :: ks, f => nfD (Eng.gt ⟨n, l⟩ k) fun d => keepK n l ks fun r => f ((k, d) :: r)
theorem keepK_of {n : Nat} {l : List (Nat × D)} : ∀ {ks : List Nat} {f : List (Nat × D) → Prop}, keepK n l ks f → ∃ l', Le ⟨n, l⟩ l' ∧ f l'
  | [], f, h => ⟨[], trivial, h⟩
  | k :: ks, f, h => by
    simp only [keepK, nfD_eq] at h
    obtain ⟨r, h1, h2⟩ := keepK_of (ks := ks) h
    exact ⟨_, Le.c rfl h1, h2⟩
def spK : List (Nat × D) → (List (Nat × D) → Prop) → Prop
  | [], f => f []
  | (k, d) :: r, f => nfD d fun d' => spK r fun r' => f ((k, d') :: r')
theorem spK_eq : ∀ (l : List (Nat × D)) (f : List (Nat × D) → Prop), spK l f = f l
  | [], _ => rfl
  | (k, d) :: r, f => by rw [spK, nfD_eq, spK_eq r]
structure Wr (R : Prop) : Prop where
  h : R
theorem CW.keep {E : Env} {B : Base E.P} {Q : Exit → St → Prop} {c : Code} {st : St} (n : Nat) (ks : List Nat) (hn : st.n = n) (h : keepK n st.l ks fun l => Wr (CW E B c ⟨n, l⟩ Q)) : CW E B c st Q := by
  subst hn
  obtain ⟨l', h1, h2⟩ := keepK_of h
  exact CW.le l' rfl h1 h2.h
theorem RW.keep {E : Env} {B : Base E.P} {all rest : List Oper} {K : St → Prop} {st : St} (n : Nat) (ks : List Nat) (hn : st.n = n) (h : keepK n st.l ks fun l => Wr (RW E B all rest ⟨n, l⟩ K)) : RW E B all rest st K := by
  subst hn
  obtain ⟨l', h1, h2⟩ := keepK_of h
  exact RW.le l' rfl h1 h2.h

def memK (E : Env) (X : Kd E.P) (n : Nat) (l : List (Nat × D)) (o : Oper) (f : List (Nat × D) → List (Nat × Nat) → Prop) (no : Prop) : Prop :=
  match o.op with
  | .alloc t => match E.tabs t with
    | some i => ∀ b, setK n l o.dst (.obj b (i.zero.map fun v => .r (.v v))) fun l' => f l' []
    | none => no
  | .box t x => match ev ⟨n, l⟩ x with
    | .agg ds => ∀ b, setK n l o.dst (.obj b ds) fun l' => f l' []
    | .r (.v (.int k p)) => ∀ b, setK n l o.dst (.obj b [.r (.v (.int k p))]) fun l' => f l' []
    | .r (.v (.bool p)) => ∀ b, setK n l o.dst (.obj b [.r (.v (.bool p))]) fun l' => f l' []
    | .r (.v (.string p)) => ∀ b, setK n l o.dst (.obj b [.r (.v (.string p))]) fun l' => f l' []
    | _ => no
  | .store t x y => match o.dst with
    | none => match E.tabs t with
      | some i => match ev ⟨n, l⟩ x with
        | .pt k b off => match Eng.gt ⟨n, l⟩ k with
          | .obj b' ds => match ev ⟨n, l⟩ y with
            | .agg es => bif Nat.beq es.length i.sz && Nat.ble (off + i.sz) ds.length && es.all one1 then setK n l (some k) (.obj b' (repL ds off es)) fun l' => f l' [(b, b')] else no
            | d => bif Nat.beq i.sz 1 && one1 d && Nat.blt off ds.length then setK n l (some k) (.obj b' (ds.set off d)) fun l' => f l' [(b, b')] else no
          | _ => no
        | _ => no
      | none => no
    | some _ => no
  | .extract (.tmp q) i => match o.dst with
    | some k => bif Nat.beq k q || !Nat.blt k n then no else match Eng.gt ⟨n, l⟩ q with
      | .tup ds => match ds[i]? with
        | some d => nfD d fun d' => nfD (.tup (ds.set i .u)) fun e => f ((q, e) :: (k, d') :: l) []
        | none => no
      | _ => no
    | none => no
  | .move (.tmp q) => match Eng.gt ⟨n, l⟩ q with
    | .tup ds => match o.dst with
      | some k => bif Nat.beq k q || !Nat.blt k n || !Nat.blt q n then no else f ((q, .u) :: (k, .tup ds) :: l) []
      | none => no
    | _ => valK E X ⟨n, l⟩ o.op (fun d q => setK n l o.dst d fun l' => f l' q) no
  | op => valK E X ⟨n, l⟩ op (fun d q => setK n l o.dst d fun l' => f l' q) no
section
variable {E : Env} {X : Kd E.P} {B : Base E.P} {o : Oper} {st : St} {d : D} {K : St → Prop} {all rest : List Oper}
theorem gdK_T {g : Option (Nat × Bool)} (h : gdK all st g = some true) (hg : o.guard = g) (h1 : OK E B o st (fun st' => RW E B all rest st' K)) : RW E B all (o :: rest) st K := by
  unfold gdK at h
  split at h
  · exact RW.cons hg h1
  · split at h
    · rename_i j want oj hj
      split at h
      · rename_i d hd
        split at h
        · rename_i hv; cases h; exact RW.guardT hg hj hd hv h1
        · rename_i hv
          simp only [Option.some.injEq, Bool.not_eq_true'] at h
          subst h
          exact RW.guardT hg hj hd hv h1
        · cases h
        · cases h
      · cases h
    · cases h
theorem gdK_F {g : Option (Nat × Bool)} (h : gdK all st g = some false) (hg : o.guard = g) (h1 : RW E B all rest (setD st o.dst (.r (.v undef))) K) : RW E B all (o :: rest) st K := by
  unfold gdK at h
  split at h
  · cases h
  · split at h
    · rename_i j want oj hj
      split at h
      · rename_i d hd
        split at h
        · rename_i hv; cases h; exact RW.guardF hg hj hd hv h1
        · rename_i hv
          simp only [Option.some.injEq, Bool.not_eq_false'] at h
          subst h
          exact RW.guardF hg hj hd hv h1
        · rename_i hv; exact RW.guardU hg hj hd hv h1
        · cases h
      · cases h
    · cases h
theorem setK_of {n : Nat} {l : List (Nat × D)} {k : Option Nat} {d : D} {f : List (Nat × D) → Prop} (h : setK n l k d f) : ∃ l', setD ⟨n, l⟩ k d = ⟨n, l'⟩ ∧ f l' := by
  cases k with
  | none => exact ⟨l, rfl, h⟩
  | some k =>
    simp only [setK, nfD_eq] at h
    exact ⟨(k, d) :: l, rfl, h⟩
theorem memK_ok {n : Nat} {l : List (Nat × D)} {f : List (Nat × D) → List (Nat × Nat) → Prop} {no P : Prop}
    (hf : ∀ l' q, f l' q → Eqs q ∧ P ∧ K ⟨n, l'⟩) (h : memK E X n l o f no) : no ∨ (P ∧ OK E B o ⟨n, l⟩ K) := by
  have hval : valK E X ⟨n, l⟩ o.op (fun d q => setK n l o.dst d fun l' => f l' q) no → no ∨ (P ∧ OK E B o ⟨n, l⟩ K) := fun h => by
    rcases valK_ok (B := B) (P := fun d => P ∧ K (setD ⟨n, l⟩ o.dst d)) (fun d q hd => by
      obtain ⟨l', e, h1⟩ := setK_of hd
      obtain ⟨h2, h3, h4⟩ := hf _ _ h1
      exact ⟨h2, h3, by rw [e]; exact h4⟩) h with h | ⟨d, hv, hP, hK⟩
    · exact .inl h
    · exact .inr ⟨hP, OK.ofV hv hK⟩
  unfold memK at h
  split at h
  · rename_i t ho
    split at h
    · rename_i i ht
      refine .inr ⟨?_, OK.alloc ho ht fun b => ?_⟩
      · obtain ⟨l', e, h1⟩ := setK_of (h 0); exact (hf _ _ h1).2.1
      · obtain ⟨l', e, h1⟩ := setK_of (h b); rw [e]; exact (hf _ _ h1).2.2
    · exact .inl h
  · rename_i t x ho
    split at h
    · rename_i ds hx
      refine .inr ⟨?_, OK.boxAgg ho hx fun b => ?_⟩
      · obtain ⟨l', e, h1⟩ := setK_of (h 0); exact (hf _ _ h1).2.1
      · obtain ⟨l', e, h1⟩ := setK_of (h b); rw [e]; exact (hf _ _ h1).2.2
    · rename_i hx
      refine .inr ⟨?_, OK.boxPrim ho hx rfl fun b => ?_⟩
      · obtain ⟨l', e, h1⟩ := setK_of (h 0); exact (hf _ _ h1).2.1
      · obtain ⟨l', e, h1⟩ := setK_of (h b); rw [e]; exact (hf _ _ h1).2.2
    · rename_i hx
      refine .inr ⟨?_, OK.boxPrim ho hx rfl fun b => ?_⟩
      · obtain ⟨l', e, h1⟩ := setK_of (h 0); exact (hf _ _ h1).2.1
      · obtain ⟨l', e, h1⟩ := setK_of (h b); rw [e]; exact (hf _ _ h1).2.2
    · rename_i hx
      refine .inr ⟨?_, OK.boxPrim ho hx rfl fun b => ?_⟩
      · obtain ⟨l', e, h1⟩ := setK_of (h 0); exact (hf _ _ h1).2.1
      · obtain ⟨l', e, h1⟩ := setK_of (h b); rw [e]; exact (hf _ _ h1).2.2
    · exact .inl h
  · rename_i t x y ho
    split at h
    · rename_i hd
      split at h
      · rename_i i ht
        split at h
        · rename_i k b off hx
          split at h
          · rename_i b' ds hk
            split at h
            · rename_i es hy
              cases hc : (Nat.beq es.length i.sz && Nat.ble (off + i.sz) ds.length && es.all one1) with
              | false => rw [hc] at h; exact .inl h
              | true =>
                rw [hc] at h
                simp only [Bool.and_eq_true] at hc
                simp only [cond_true] at h
                rw [repL_eq (by rw [Nat.eq_of_beq_eq_true hc.1.1]; exact Nat.le_of_ble_eq_true hc.1.2)] at h
                obtain ⟨l', e, h1⟩ := setK_of h
                obtain ⟨h2, h3, h4⟩ := hf _ _ h1
                obtain rfl := h2.one
                refine .inr ⟨h3, OK.storeAgg ho hd ht hx hk hy (Nat.eq_of_beq_eq_true hc.1.1) (Nat.le_of_ble_eq_true hc.1.2) hc.2 ?_⟩
                rw [← setD_some, e]; exact h4
            · cases hc : (Nat.beq i.sz 1 && one1 (ev ⟨n, l⟩ y) && Nat.blt off ds.length) with
              | false => rw [hc] at h; exact .inl h
              | true =>
                rw [hc] at h
                simp only [Bool.and_eq_true] at hc
                simp only [cond_true] at h
                obtain ⟨l', e, h1⟩ := setK_of h
                obtain ⟨h2, h3, h4⟩ := hf _ _ h1
                obtain rfl := h2.one
                refine .inr ⟨h3, OK.store ho hd ht (Nat.eq_of_beq_eq_true hc.1.1) hx hk (by have := hc.2; rw [Nat.blt_eq] at this; exact this) hc.1.2 ?_⟩
                rw [← setD_some, e]; exact h4
          · exact .inl h
        · exact .inl h
      · exact .inl h
    · exact .inl h
  · rename_i q i ho
    split at h
    · rename_i k hd
      cases hc : (Nat.beq k q || !Nat.blt k n) with
      | true => rw [hc] at h; exact .inl h
      | false =>
        rw [hc] at h
        simp only [Bool.or_eq_false_iff, Bool.not_eq_false'] at hc
        simp only [cond_false] at h
        split at h
        · rename_i ds hq
          split at h
          · rename_i d hi
            simp only [nfD_eq] at h
            obtain ⟨h2, h3, h4⟩ := hf _ _ h
            exact .inr ⟨h3, OK.extract ho hd (by rintro rfl; simp at hc) (by have := hc.2; rw [Nat.blt_eq] at this; exact this) hq hi h4⟩
          · exact .inl h
        · exact .inl h
    · exact .inl h
  · rename_i q ho
    split at h
    · rename_i ds hq
      split at h
      · rename_i k hd
        cases hc : (Nat.beq k q || !Nat.blt k n || !Nat.blt q n) with
        | true => rw [hc] at h; exact .inl h
        | false =>
          rw [hc] at h
          simp only [Bool.or_eq_false_iff, Bool.not_eq_false'] at hc
          simp only [cond_false] at h
          obtain ⟨h2, h3, h4⟩ := hf _ _ h
          refine .inr ⟨h3, OK.moveMove ho hd (by rintro rfl; simp at hc) (by have := hc.1.2; rw [Nat.blt_eq] at this; exact this) (by have := hc.2; rw [Nat.blt_eq] at this; exact this) ?_⟩
          rw [hq]; exact h4
      · exact .inl h
    · exact hval h
  · exact hval h
end
def runK (E : Env) (X : Kd E.P) (all : List Oper) (n : Nat) (R : List Oper → List (Nat × D) → List (Nat × Nat) → Prop) : Nat → List Oper → List (Nat × D) → List (Nat × Nat) → Prop
  | 0, rest, l, q => R rest l q
  | _ + 1, [], l, q => R [] l q
  | m + 1, o :: rest, l, q => match gdK all ⟨n, l⟩ o.guard with
    | some true => memK E X n l o (fun l' q' => runK E X all n R m rest l' (q' ++ q)) (R (o :: rest) l q)
    | some false => setK n l o.dst (.r (.v undef)) fun l' => runK E X all n R m rest l' q
    | none => R (o :: rest) l q
theorem runK_ok {E : Env} {X : Kd E.P} {B : Base E.P} {all : List Oper} {n : Nat} {K : St → Prop} {R : List Oper → List (Nat × D) → List (Nat × Nat) → Prop} (hR : ∀ rest l q, R rest l q → Eqs q ∧ RW E B all rest ⟨n, l⟩ K) : ∀ (m : Nat) (rest : List Oper) (l : List (Nat × D)) (q : List (Nat × Nat)),
    runK E X all n R m rest l q → Eqs q ∧ RW E B all rest ⟨n, l⟩ K
  | 0, rest, l, q, h => hR _ _ _ h
  | _ + 1, [], l, q, h => hR _ _ _ h
  | m + 1, o :: rest, l, q, h => by
    unfold runK at h
    split at h
    · rename_i hg
      rcases memK_ok (B := B) (P := Eqs q) (K := fun st => RW E B all rest st K) (fun l' q' h' => by
        obtain ⟨h1, h2⟩ := runK_ok hR m rest l' (q' ++ q) h'
        simp only [Eqs, List.map_append] at h1
        have hl : (q'.map (·.1)).length = (q'.map (·.2)).length := by simp
        obtain ⟨e1, e2⟩ := List.append_inj h1 hl
        exact ⟨e1, e2, h2⟩) h with h | ⟨h1, h2⟩
      · exact hR _ _ _ h
      · exact ⟨h1, gdK_T hg rfl h2⟩
    · rename_i hg
      obtain ⟨l', e, h1⟩ := setK_of h
      obtain ⟨h2, h3⟩ := runK_ok hR m rest l' q h1
      exact ⟨h2, gdK_F hg rfl (by rw [e]; exact h3)⟩
    · exact hR _ _ _ h
theorem RW.k {E : Env} {B : Base E.P} {all rest : List Oper} {st : St} {K : St → Prop} (X : Kd E.P) (n m : Nat) (hn : st.n = n) (h : spK st.l fun l => runK E X all n (fun rest l q => Ob q (RW E B all rest ⟨n, l⟩ K)) m rest l []) : RW E B all rest st K := by
  subst hn
  rw [spK_eq] at h
  exact (runK_ok (fun _ _ _ h => ⟨h.e, h.h⟩) m rest st.l [] h).2
def cwK (E : Env) (X : Kd E.P) (B : Base E.P) (n : Nat) (ks : List Nat) (Q : Exit → St → Prop) : Nat → Code → List (Nat × D) → List (Nat × Nat) → Prop
  | 0, c, l, q => keepK n l ks fun l' => Ob q (CW E B c ⟨n, l'⟩ Q)
  | m + 1, .seq (.region _ ops false) y, l, q => runK E X ops.toList n (fun rest l q => match rest with
    | [] => cwK E X B n ks Q m y l q
    | _ :: _ => False) ops.toList.length ops.toList l q
  | _ + 1, _, _, _ => False
theorem cwK_ok {E : Env} {X : Kd E.P} {B : Base E.P} {n : Nat} {ks : List Nat} {Q : Exit → St → Prop} : ∀ (m : Nat) (c : Code) (l : List (Nat × D)) (q : List (Nat × Nat)), cwK E X B n ks Q m c l q → Eqs q ∧ CW E B c ⟨n, l⟩ Q
  | 0, c, l, q, h => by
    obtain ⟨l', h1, h2⟩ := keepK_of h
    exact ⟨h2.e, CW.le l' rfl h1 h2.h⟩
  | m + 1, c, l, q, h => by
    unfold cwK at h
    split at h
    · cases ‹m + 1 = 0›
    · rename_i m' id ops y hm
      cases hm
      have := runK_ok (B := B) (K := fun s => CW E B y s Q) (fun rest l q h => by
        cases rest with
        | nil =>
          obtain ⟨h1, h2⟩ := cwK_ok m y l q h
          exact ⟨h1, RW.nil h2⟩
        | cons o r => cases h) _ _ _ _ h
      refine ⟨this.1, CW.seq ?_⟩
      have e : ops = ops.toList.toArray := by simp
      rw [e]
      exact CW.region this.2
    · cases h
theorem CW.k {E : Env} {B : Base E.P} {c : Code} {st : St} {Q : Exit → St → Prop} (X : Kd E.P) (n m : Nat) (ks : List Nat) (hn : st.n = n) (h : spK st.l fun l => cwK E X B n ks Q m c l []) : CW E B c st Q := by
  subst hn
  rw [spK_eq] at h
  exact (cwK_ok m c st.l [] h).2
section
variable {E : Env} {X : Kd E.P} {B : Base E.P} {o : Oper} {st : St} {d : D} {K : St → Prop} {all rest : List Oper}
theorem gdQ_T {g : Option (Nat × Bool)} (h : gdK all st g = some true) (hg : o.guard = g) (h1 : QOK E B o st (fun st' => RQ E B all rest st' K)) : RQ E B all (o :: rest) st K := by
  unfold gdK at h
  split at h
  · exact RQ.cons hg h1
  · split at h
    · rename_i j want oj hj
      split at h
      · rename_i d hd
        split at h
        · rename_i hv; cases h; exact RQ.guardT hg hj hd hv h1
        · rename_i hv
          simp only [Option.some.injEq, Bool.not_eq_true'] at h
          subst h
          exact RQ.guardT hg hj hd hv h1
        · cases h
        · cases h
      · cases h
    · cases h
theorem gdQ_F {g : Option (Nat × Bool)} (h : gdK all st g = some false) (hg : o.guard = g) (h1 : RQ E B all rest (setD st o.dst (.r (.v undef))) K) : RQ E B all (o :: rest) st K := by
  unfold gdK at h
  split at h
  · cases h
  · split at h
    · rename_i j want oj hj
      split at h
      · rename_i d hd
        split at h
        · rename_i hv; cases h; exact RQ.guardF hg hj hd hv h1
        · rename_i hv
          simp only [Option.some.injEq, Bool.not_eq_false'] at h
          subst h
          exact RQ.guardF hg hj hd hv h1
        · rename_i hv; exact RQ.guardU hg hj hd hv h1
        · cases h
      · cases h
    · cases h
end
def runQ (E : Env) (X : Kd E.P) (all : List Oper) (n : Nat) (R : List Oper → St → Prop) : Nat → List Oper → List (Nat × D) → List (Nat × Nat) → Prop
  | 0, rest, l, q => Ob q (R rest ⟨n, l⟩)
  | _ + 1, [], l, q => Ob q (R [] ⟨n, l⟩)
  | m + 1, o :: rest, l, q => match gdK all ⟨n, l⟩ o.guard with
    | some true => valK E X ⟨n, l⟩ o.op (fun d q' => setK n l o.dst d fun l' => runQ E X all n R m rest l' (q' ++ q)) (Ob q (R (o :: rest) ⟨n, l⟩))
    | some false => setK n l o.dst (.r (.v undef)) fun l' => runQ E X all n R m rest l' q
    | none => Ob q (R (o :: rest) ⟨n, l⟩)
theorem runQ_ok {E : Env} {X : Kd E.P} {B : Base E.P} {all : List Oper} {n : Nat} {K : St → Prop} : ∀ (m : Nat) (rest : List Oper) (l : List (Nat × D)) (q : List (Nat × Nat)),
    runQ E X all n (fun rest st => RQ E B all rest st K) m rest l q → Eqs q ∧ RQ E B all rest ⟨n, l⟩ K
  | 0, rest, l, q, h => ⟨h.e, h.h⟩
  | _ + 1, [], l, q, h => ⟨h.e, h.h⟩
  | m + 1, o :: rest, l, q, h => by
    unfold runQ at h
    split at h
    · rename_i hg
      rcases valK_ok (B := B) (P := fun d => Eqs q ∧ RQ E B all rest (setD ⟨n, l⟩ o.dst d) K) (fun d q' h' => by
        obtain ⟨l', e, h1⟩ := setK_of h'
        obtain ⟨h1, h2⟩ := runQ_ok m rest l' (q' ++ q) h1
        simp only [Eqs, List.map_append] at h1
        have hl : (q'.map (·.1)).length = (q'.map (·.2)).length := by simp
        obtain ⟨e1, e2⟩ := List.append_inj h1 hl
        exact ⟨e1, e2, by rw [e]; exact h2⟩) h with h | ⟨d, hv, h1, h2⟩
      · exact ⟨h.e, h.h⟩
      · exact ⟨h1, gdQ_T hg rfl (QOK.val hv h2)⟩
    · rename_i hg
      obtain ⟨l', e, h1⟩ := setK_of h
      obtain ⟨h2, h3⟩ := runQ_ok m rest l' q h1
      exact ⟨h2, gdQ_F hg rfl (by rw [e]; exact h3)⟩
    · exact ⟨h.e, h.h⟩
theorem RQ.k {E : Env} {B : Base E.P} {all rest : List Oper} {st : St} {K : St → Prop} (X : Kd E.P) (n m : Nat) (hn : st.n = n) (h : spK st.l fun l => runQ E X all n (fun rest st => RQ E B all rest st K) m rest l []) : RQ E B all rest st K := by
  subst hn
  rw [spK_eq] at h
  exact (runQ_ok m rest st.l [] h).2
def tlD : D → Option (Nat × List Value)
  | .obj b ds => (dvals ds).map fun xs => (b, xs)
  | _ => none
theorem Tell.of {fc : Facts} {st : St} (h : fc.map (fun p => tlD (Eng.gt st p.1)) = fc.map fun p => some p.2) : Tell fc st := by
  intro p hp
  have := List.map_inj_left.1 h p hp
  cases hd : Eng.gt st p.1 with
  | obj b ds =>
    rw [hd] at this
    simp only [tlD, Option.map_eq_some_iff] at this
    obtain ⟨xs, h1, h2⟩ := this
    exact ⟨ds, by rw [← h2], by rw [h1, ← h2]⟩
  | _ => rw [hd] at this; cases this
def fcIn (fc : Facts) (k : Nat) : Bool := fc.any fun p => Nat.beq p.1 k
theorem fcIn_of {fc : Facts} {k : Nat} (h : fcIn fc k = true) : ∃ p ∈ fc, p.1 = k := by
  simp only [fcIn, List.any_eq_true] at h
  obtain ⟨p, h1, h2⟩ := h
  exact ⟨p, h1, Nat.eq_of_beq_eq_true h2⟩
theorem Tell.set {fc : Facts} {st : St} {k : Nat} {d : D} (h : Tell fc st) (hk : fcIn fc k = false) : Tell fc (st.set k d) := by
  intro p hp
  have hne : k ≠ p.1 := by
    rintro rfl
    have : fcIn fc p.1 = true := by simp only [fcIn, List.any_eq_true]; exact ⟨p, hp, Nat.beq_refl _⟩
    rw [this] at hk
    cases hk
  rw [gt_set_ne hne]
  exact h p hp
def ldF (fc : Facts) (E : Env) (st : St) (t : TypeId) (x : Operand) (f : D → List (Nat × Nat) → Prop) : Prop :=
  match E.tabs t with
  | some i => match ev st x with
    | .pt k b off => bif fcIn fc k then match Eng.gt st k with
      | .obj b' ds => match i.td with
        | .agg fs => bif Nat.ble (off + i.sz) ds.length then f (.agg (((cpyL k 0 ds).drop off).take i.sz)) [(b, b')] else False
        | .prim => match (cpyL k 0 ds)[off]? with
          | some d => f d [(b, b')]
          | none => False
        | .slice _ => match (cpyL k 0 ds)[off]? with
          | some d => f d [(b, b')]
          | none => False
        | .other => False
      | _ => False
      else False
    | _ => False
  | none => False
theorem ldF_ok {fc : Facts} {E : Env} {B : Base E.P} {st : St} {t : TypeId} {x : Operand} {o : Oper} (ht : Tell fc st) (ho : o.op = .load t x) {f : D → List (Nat × Nat) → Prop} {P : D → Prop} (hf : ∀ d q, f d q → Eqs q ∧ P d) (h : ldF fc E st t x f) : ∃ d, VF fc E B o st d ∧ P d := by
  unfold ldF at h
  split at h
  · rename_i i hty
    split at h
    · rename_i k b off hx
      cases hin : fcIn fc k with
      | false => rw [hin] at h; cases h
      | true =>
        rw [hin] at h
        simp only [cond_true] at h
        obtain ⟨p, hp, rfl⟩ := fcIn_of hin
        obtain ⟨m, hm⟩ := List.getElem?_of_mem hp
        obtain ⟨ds0, g1, g2⟩ := ht p hp
        split at h
        · rename_i b' ds hk
          have e0 : D.obj p.2.1 ds0 = D.obj b' ds := g1.symm.trans hk
          simp only [D.obj.injEq] at e0
          obtain ⟨e1, rfl⟩ := e0
          have hm' : fc[m]? = some (p.1, b', p.2.2) := by rw [hm, ← e1]
          split at h
          · rename_i fs hfs
            cases hl : Nat.ble (off + i.sz) ds0.length with
            | false => rw [hl] at h; cases h
            | true =>
              rw [hl] at h
              obtain ⟨e, hP⟩ := hf _ _ h
              obtain rfl := e.one
              exact ⟨_, VF.loadAgg hm' ho hty hfs hx hk g2 (Nat.le_of_ble_eq_true hl), hP⟩
          · rename_i hpr
            split at h
            · rename_i d hd
              obtain ⟨e, hP⟩ := hf _ _ h
              obtain rfl := e.one
              exact ⟨_, VF.loadPrim hm' ho hty (.inl hpr) hx hk g2 hd, hP⟩
            · cases h
          · rename_i e0 hpr
            split at h
            · rename_i d hd
              obtain ⟨e, hP⟩ := hf _ _ h
              obtain rfl := e.one
              exact ⟨_, VF.loadPrim hm' ho hty (.inr ⟨_, hpr⟩) hx hk g2 hd, hP⟩
            · cases h
          · cases h
        · cases h
    · cases h
  · cases h
def valF (fc : Facts) (E : Env) (X : Kd E.P) (st : St) (op : Op) (f : D → List (Nat × Nat) → Prop) : Prop :=
  match op with
  | .load t x => ldF fc E st t x f
  | op => match vevP E X st op with
    | some d => f d []
    | none => False
theorem valF_ok {fc : Facts} {E : Env} {X : Kd E.P} {B : Base E.P} {st : St} {o : Oper} (ht : Tell fc st) {f : D → List (Nat × Nat) → Prop} {P : D → Prop} (hf : ∀ d q, f d q → Eqs q ∧ P d) (h : valF fc E X st o.op f) : ∃ d, VF fc E B o st d ∧ P d := by
  generalize ho : o.op = op at h
  unfold valF at h
  split at h
  · exact ldF_ok ht ho hf h
  · split at h
    · rename_i d hd; exact ⟨_, VF.p (vevP_ok (X := X) (by rw [ho]; exact hd)), (hf _ _ h).2⟩
    · cases h
def runF (fc : Facts) (E : Env) (X : Kd E.P) (all : List Oper) (n : Nat) (R : List (Nat × D) → List (Nat × Nat) → Prop) : List Nat → List (Nat × D) → List (Nat × Nat) → Prop
  | [], l, q => R l q
  | i :: is, l, q => match all[i]? with
    | some o => match o.guard with
      | none => valF fc E X ⟨n, l⟩ o.op fun d q' => match o.dst with
        | some k => bif fcIn fc k then False else nfD d fun d' => runF fc E X all n R is ((k, d') :: l) (q' ++ q)
        | none => runF fc E X all n R is l (q' ++ q)
      | some _ => False
    | none => False
def chkF (all : List Oper) : List Nat → Array Bool → Array Bool → Bool
  | [], ls, ls' => ls == ls'
  | i :: is, ls, ls' => Region.noSelect all.toArray && Region.free .any all.toArray ls i && (Region.ready .any all.toArray ls).contains i && chkF all is (ls.setIfInBounds i true) ls'
theorem runF_ok {fc : Facts} {E : Env} {X : Kd E.P} {B : Base E.P} {all : List Oper} {n m : Nat} {ls' : Array Bool} {K : St → Prop} {R : List (Nat × D) → List (Nat × Nat) → Prop} (hR : ∀ l q, R l q → Eqs q ∧ RA fc E B all m ls' ⟨n, l⟩ K) : ∀ (is : List Nat) (l : List (Nat × D)) (q : List (Nat × Nat)) (ls : Array Bool), Tell fc ⟨n, l⟩ → chkF all is ls ls' = true → runF fc E X all n R is l q →
    Eqs q ∧ RA fc E B all (m + is.length) ls ⟨n, l⟩ K
  | [], l, q, ls, ht, hc, h => by
    simp only [chkF, beq_iff_eq] at hc
    subst hc
    exact hR _ _ h
  | i :: is, l, q, ls, ht, hc, h => by
    unfold runF at h
    simp only [chkF, Bool.and_eq_true] at hc
    split at h
    · rename_i o ho
      split at h
      · rename_i hg
        have key : ∃ d, VF fc E B o ⟨n, l⟩ d ∧ (Eqs q ∧ RA fc E B all (m + is.length) (ls.setIfInBounds i true) (setD ⟨n, l⟩ o.dst d) K) := by
          refine valF_ok ht (fun d q' h' => ?_) h
          split at h'
          · rename_i k hk
            cases hin : fcIn fc k with
            | true => rw [hin] at h'; cases h'
            | false =>
              rw [hin] at h'
              simp only [cond_false, nfD_eq] at h'
              obtain ⟨h1, h2⟩ := runF_ok hR is ((k, d) :: l) (q' ++ q) _ (ht.set hin) hc.2 h'
              simp only [Eqs, List.map_append] at h1
              have hl : (q'.map (·.1)).length = (q'.map (·.2)).length := by simp
              obtain ⟨e1, e2⟩ := List.append_inj h1 hl
              exact ⟨e1, e2, by rw [hk]; exact h2⟩
          · rename_i hk
            obtain ⟨h1, h2⟩ := runF_ok hR is l (q' ++ q) _ ht hc.2 h'
            simp only [Eqs, List.map_append] at h1
            have hl : (q'.map (·.1)).length = (q'.map (·.2)).length := by simp
            obtain ⟨e1, e2⟩ := List.append_inj h1 hl
            exact ⟨e1, e2, by rw [hk]; exact h2⟩
        obtain ⟨d, hv, h1, h2⟩ := key
        refine ⟨h1, ?_⟩
        have := RA.first (i := i) (ls' := ls.setIfInBounds i true) (n := m + is.length) ht (by simp only [Bool.and_eq_true]; exact hc.1) rfl ho hg hv h2
        exact this
      · cases h
    · cases h
theorem RA.fs {fc : Facts} {E : Env} {B : Base E.P} {all : List Oper} {ls : Array Bool} {st : St} {K : St → Prop} {m0 : Nat} (X : Kd E.P) (n m : Nat) (is : List Nat) (ls' : Array Bool) (hn : st.n = n) (hm : m0 = m + is.length) (hc : chkF all is ls ls' = true) (ht : Tell fc st)
    (h : spK st.l fun l => runF fc E X all n (fun l q => Ob q (RA fc E B all m ls' ⟨n, l⟩ K)) is l []) : RA fc E B all m0 ls st K := by
  subst hn hm
  rw [spK_eq] at h
  exact (runF_ok (fun _ _ h => ⟨h.e, h.h⟩) is st.l [] ls ht hc h).2
theorem RA.keep {fc : Facts} {E : Env} {B : Base E.P} {all : List Oper} {ls : Array Bool} {st : St} {K : St → Prop} {m : Nat} (n : Nat) (ks : List Nat) (hn : st.n = n) (h : keepK n st.l ks fun l => Wr (RA fc E B all m ls ⟨n, l⟩ K)) : RA fc E B all m ls st K := by
  subst hn
  obtain ⟨l', h1, h2⟩ := keepK_of h
  exact RA.le l' rfl h1 h2.h
def bt (n k : Nat) : Array Bool := ((List.range n).map fun i => Nat.testBit k i).toArray
theorem RA.to2 {fc f : Facts} {E : Env} {B : Base E.P} {all l : List Oper} {n m : Nat} {ls ls' : Array Bool} {st : St} {L0 b r : List (Nat × D)} {K : St → Prop} (h : all = l) (hf : fc = f) (hb : L0 = b) (hr : RA fc E B all n ls' ⟨m, r ++ L0⟩ K) (hm : st.n = m) (hl : (r ++ b).map (fun p => Eng.gt st p.1) = (r ++ b).map Prod.snd) (hs : ls = ls') : RA f E B l n ls st K := by
  subst h hf hb hs
  exact RA.le _ hm (Le.of hl) hr
theorem RA.of2 {fc f : Facts} {E : Env} {B : Base E.P} {all l : List Oper} {n m : Nat} {ls : Array Bool} {L0 b r : List (Nat × D)} {K : St → Prop} (h : all = l) (hf : fc = f) (hb : L0 = b) (hr : RA f E B l n ls ⟨m, r ++ b⟩ K) : RA fc E B all n ls ⟨m, r ++ L0⟩ K := by
  subst h hf hb
  exact hr
theorem CW.anyJ2 {fc : Facts} {E : Env} {B : Base E.P} {st : St} {Q : Exit → St → Prop} {α : Type} {id : Nat} {l : List Oper} {y : Code} {L0 : List (Nat × D)} (N : Nat) (L : α → List (Nat × D))
    (h : ∀ (all : List Oper), all = l → ∀ f : Facts, f = fc → ∀ b : List (Nat × D), b = L0 → ∀ K : St → Prop, (∀ v s, s.n = N → Le s (L v ++ L0) → K s) → RA fc E B l l.length (Array.replicate l.length false) st K)
    (h2 : ∀ v, CW E B y ⟨N, L v ++ L0⟩ Q) : CW E B (.seq (.region id l.toArray true) y) st Q :=
  CW.anyJ N (fun v => L v ++ L0) (fun all e K hK => by subst e; exact h _ rfl fc rfl L0 rfl K hK) h2
theorem CW.anyR2 {fc : Facts} {E : Env} {B : Base E.P} {st : St} {Q : Exit → St → Prop} {α : Type} {id : Nat} {l : List Oper} {L0 : List (Nat × D)} (N : Nat) (L : α → List (Nat × D))
    (h : ∀ (all : List Oper), all = l → ∀ f : Facts, f = fc → ∀ b : List (Nat × D), b = L0 → ∀ K : St → Prop, (∀ v s, s.n = N → Le s (L v ++ L0) → K s) → RA fc E B l l.length (Array.replicate l.length false) st K)
    (h2 : ∀ v, Q .normal ⟨N, L v ++ L0⟩) : CW E B (.region id l.toArray true) st Q :=
  CW.anyR N (fun v => L v ++ L0) (fun all e K hK => by subst e; exact h _ rfl fc rfl L0 rfl K hK) h2
end Go.Eng
