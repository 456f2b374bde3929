import Derived.Test.YtaeagpakloggfaaDoorEng16
import Derived.Test.YtaeagpakloggfaaDoorEng41
import Derived.Test.YtaeagpakloggfaaDoorIt
import Derived.Sort.Walk0
import Derived.Laws.Strings
namespace Go.Proofs.YtaeagpakloggfaaDoor.Y
open Go Go.RowKit Go.Eng

def szL {α : Type} (f : α → Int → Int) : List α → Int → Int
  | [], l => l
  | x :: r, l => if f x l < 0 then -1 else szL f r (f x l)
def szS {α : Type} (f : α → Int → Int) (a : List α) (left : Int) : Int :=
  if IntKind.i64.wrap (left - a.length) < 0 then -1 else szL f a (IntKind.i64.wrap (left - a.length))
def szI {α : Type} (a : List α) (left : Int) : Int :=
  if IntKind.i64.wrap (left - a.length) < 0 then -1 else IntKind.i64.wrap (left - a.length)
def szStr (s : ByteArray) (left : Int) : Int := IntKind.i64.wrap (left - s.size)
def okSl {α : Type} (ok : α → Prop) (l : List α) : Prop := l.length ≤ 1048576 ∧ ∀ x ∈ l, ok x
def eqI (x y : Int) : Bool := x == y
def eqB (x y : Bool) : Bool := x == y
def eqStr (x y : ByteArray) : Bool := x.toList == y.toList
def eqS {α : Type} (f : α → α → Bool) : List α → List α → Bool
  | [], [] => true
  | x :: r, y :: s => if f x y then eqS f r s else false
  | _, _ => false
theorem eqS_refl {α : Type} {f : α → α → Bool} (h : ∀ x, f x x = true) : ∀ a : List α, eqS f a a = true
  | [] => rfl
  | x :: r => by rw [eqS, h x, if_pos rfl, eqS_refl h r]
theorem eqS_ne {α : Type} {f : α → α → Bool} : ∀ {a b : List α}, a.length ≠ b.length → eqS f a b = false
  | [], [], h => absurd rfl h
  | [], _ :: _, _ => rfl
  | _ :: _, [], _ => rfl
  | x :: r, y :: s, h => by
    simp only [eqS]
    rw [eqS_ne (by simpa using h)]
    simp
theorem take_snoc {α : Type} {l : List α} {i : Nat} {e : α} (h : l[i]? = some e) : l.take (i + 1) = l.take i ++ [e] := by
  obtain ⟨h1, h2⟩ := List.getElem?_eq_some_iff.1 h
  rw [List.take_succ_eq_append_getElem h1, h2]
def SzOk {α : Type} (f : α → Int → Int) (fit ok : α → Prop) : Prop := ∀ x l, fit x → 0 ≤ l → l ≤ 1048576 → 0 ≤ f x l → ok x ∧ f x l ≤ l
theorem wrapSub {n : Nat} {l : Int} (hn : n ≤ maxLen) (h0 : 0 ≤ l) (h1 : l ≤ 1048576) : IntKind.i64.wrap (l - n) = l - n := by
  rw [IntKind.wrap_i64]
  simp only [maxLen] at hn
  omega
def okStr (s : ByteArray) : Prop := s.size ≤ 1048576
theorem szStr_ok : SzOk szStr okS okStr := by
  intro s l hk h0 h1 hs
  unfold szStr at hs ⊢
  rw [wrapSub hk h0 h1] at hs ⊢
  exact ⟨by unfold okStr; omega, by omega⟩
theorem szL_ok {α : Type} {f : α → Int → Int} {fit ok : α → Prop} (h : SzOk f fit ok) : ∀ (a : List α) (l : Int), (∀ x ∈ a, fit x) → 0 ≤ l → l ≤ 1048576 → 0 ≤ szL f a l → (∀ x ∈ a, ok x) ∧ szL f a l ≤ l
  | [], l, _, _, _, _ => ⟨by simp, by simp [szL]⟩
  | x :: r, l, hf, h0, h1, hs => by
    simp only [szL] at hs ⊢
    split at hs
    · omega
    · rename_i hc
      rw [if_neg hc]
      have p := h x l (hf x (by simp)) h0 h1 (by omega)
      have q := szL_ok h r (f x l) (fun y hy => hf y (by simp [hy])) (by omega) (by omega) hs
      refine ⟨fun y hy => ?_, by omega⟩
      rcases List.mem_cons.1 hy with rfl | hy
      · exact p.1
      · exact q.1 y hy
theorem szS_ok {α : Type} {f : α → Int → Int} {fit ok : α → Prop} (h : SzOk f fit ok) : SzOk (szS f) (okL fit) (okSl ok) := by
  intro a l hk h0 h1 hs
  unfold szS at hs ⊢
  rw [wrapSub hk.1 h0 h1] at hs ⊢
  split at hs
  · omega
  · rename_i hc
    rw [if_neg hc]
    have p := szL_ok h a (l - a.length) hk.2 (by omega) (by omega) hs
    exact ⟨⟨by omega, p.1⟩, by omega⟩
theorem wrap_le (x : Int) : IntKind.i64.wrap x ≤ 9223372036854775807 := by
  rw [IntKind.wrap_i64]; omega
def inc (k : Int) : Int := IntKind.i64.wrap (k + 1)
def dgs (n : Nat) (out : ByteArray) : ByteArray :=
  if h : n = 0 then out else dgs (n / 10) (bytesOf [IntKind.u8.wrap (IntKind.i64.wrap (48 + Int.tmod (n : Int) 10))] ++ out)
termination_by n
decreasing_by omega
def mtext (k : Int) : ByteArray := if k ≤ 0 then ⟨#[109, 48]⟩ else ⟨#[109]⟩ ++ dgs k.toNat ⟨#[]⟩
def mkI (_x : Int) (k : Int) : Int × Int := (k, inc k)
def mkB (_x : Bool) (k : Int) : Bool × Int := (Int.tmod k 3 == 0, inc k)
def mkS (_x : ByteArray) (k : Int) : ByteArray × Int := (mtext k, inc k)
def mkL {α : Type} (f : α → Int → α × Int) : List α → Int → List α × Int
  | [], k => ([], k)
  | x :: r, k => ((f x k).1 :: (mkL f r (f x k).2).1, (mkL f r (f x k).2).2)
def hdI (x k : Int) : Option Int := if x == k then some (inc k) else none
def hdB (x : Bool) (k : Int) : Option Int := if x == (Int.tmod k 3 == 0) then some (inc k) else none
def hdS (x : ByteArray) (k : Int) : Option Int := if x.toList == (mtext k).toList then some (inc k) else none
def hdL {α : Type} (f : α → Int → Option Int) : List α → Int → Option Int
  | [], k => some k
  | x :: r, k => match f x k with | none => none | some k' => hdL f r k'
def hdN {α : Type} (f : α → Int → Option Int) (x : α) (k : Int) : Option Int := match f x k with | none => none | some k' => if k' < 0 then none else some k'
def HdLe {α : Type} (f : α → Int → Option Int) : Prop := ∀ (x : α) (k k' : Int), k ≤ 9223372036854775807 → f x k = some k' → k' ≤ 9223372036854775807
theorem hdI_le : HdLe hdI := by
  intro x k k' _ h
  unfold hdI at h
  split at h
  · cases h; exact wrap_le _
  · cases h
theorem hdB_le : HdLe hdB := by
  intro x k k' _ h
  unfold hdB at h
  split at h
  · cases h; exact wrap_le _
  · cases h
theorem hdS_le : HdLe hdS := by
  intro x k k' _ h
  unfold hdS at h
  split at h
  · cases h; exact wrap_le _
  · cases h
theorem hdL_le {α : Type} {f : α → Int → Option Int} (hf : HdLe f) : HdLe (hdL f) := by
  intro l
  induction l with
  | nil => intro k k' h0 h; simp only [hdL] at h; cases h; exact h0
  | cons x r ih =>
    intro k k' h0 h
    simp only [hdL] at h
    cases e : f x k with
    | none => rw [e] at h; cases h
    | some k1 => rw [e] at h; exact ih k1 k' (hf x k k1 h0 e) h
theorem hdN_le {α : Type} {f : α → Int → Option Int} (hf : HdLe f) : HdLe (hdN f) := by
  intro x k k' h0 h
  unfold hdN at h
  cases e : f x k with
  | none => rw [e] at h; cases h
  | some k1 =>
    rw [e] at h
    simp only [] at h
    split at h
    · cases h
    · cases h; exact hf x k _ h0 e
theorem leD {α : Type} {f : α → Int → Option Int} {x : α} {k : Int} (hf : HdLe f) (hk : k ≤ 9223372036854775807) : (f x k).getD (-1) ≤ 9223372036854775807 := by
  cases e : f x k with
  | none => decide
  | some k1 => exact hf x k k1 hk e
theorem hdN_ok {α : Type} {f : α → Int → Option Int} {x : α} {k : Int} (h : 0 ≤ (f x k).getD (-1)) : hdN f x k = some ((f x k).getD (-1)) := by
  unfold hdN
  cases e : f x k with
  | none => rw [e] at h; simp at h
  | some k1 => rw [e] at h; simp at h; simp; omega
theorem hdN_bad {α : Type} {f : α → Int → Option Int} {x : α} {k : Int} (h : (f x k).getD (-1) < 0) : hdN f x k = none := by
  unfold hdN
  cases e : f x k with
  | none => rfl
  | some k1 => rw [e] at h; simp at h; simp; omega
theorem mkI_le (x k : Int) : (mkI x k).2 ≤ 9223372036854775807 := wrap_le _
theorem mkB_le (x : Bool) (k : Int) : (mkB x k).2 ≤ 9223372036854775807 := wrap_le _
theorem mkS_le (x : ByteArray) (k : Int) : (mkS x k).2 ≤ 9223372036854775807 := wrap_le _
theorem mkL_le {α : Type} {f : α → Int → α × Int} (hf : ∀ x k, (f x k).2 ≤ 9223372036854775807) : ∀ (l : List α) (k : Int), k ≤ 9223372036854775807 → (mkL f l k).2 ≤ 9223372036854775807
  | [], _, h => h
  | x :: r, k, _ => mkL_le hf r _ (hf x k)
theorem mkL_cnt {α : Type} {f : α → Int → α × Int} (c : Nat) (hf : ∀ (x : α) (k : Int), 0 ≤ k → k + c ≤ 4611686018427387904 → (f x k).2 = k + c) : ∀ (l : List α) (k : Int), 0 ≤ k → k + (c * l.length : Nat) ≤ 4611686018427387904 → (mkL f l k).2 = k + (c * l.length : Nat)
  | [], k, _, _ => by simp [mkL]
  | x :: r, k, h0, h1 => by
    have e : c * (x :: r).length = c + c * r.length := by simp [Nat.mul_add]; omega
    rw [e] at h1 ⊢
    have h2 := hf x k h0 (by omega)
    simp only [mkL]
    rw [h2, mkL_cnt c hf r (k + c) (by omega) (by omega)]
    omega
theorem hdL_mk {α : Type} {f : α → Int → α × Int} {h : α → Int → Option Int} (hm : ∀ x k, h (f x k).1 k = some (f x k).2) : ∀ (l : List α) (k : Int), hdL h (mkL f l k).1 k = some (mkL f l k).2
  | [], _ => rfl
  | x :: r, k => by simp [mkL, hdL, hm, hdL_mk hm r]
theorem mk_step {α : Type} (f : α → Int → α × Int) {a b b' : List α} {i : Nat} {ei : α} {l k : Int} (e' : α) (l' : Int) (hi : b[i]? = some ei) (hlen : b.length = a.length) (hdr : b.drop i = a.drop i) (hr : (b.take i ++ (mkL f (a.drop i) l).1, (mkL f (a.drop i) l).2) = mkL f a k)
    (hb : b' = b.set i e') (hf : f ei l = (e', l')) (hl : l' ≤ 9223372036854775807) : i + 1 ≤ b'.length ∧ l' ≤ 9223372036854775807 ∧ b'.length = a.length ∧ b'.drop (i + 1) = a.drop (i + 1) ∧ (b'.take (i + 1) ++ (mkL f (a.drop (i + 1)) l').1, (mkL f (a.drop (i + 1)) l').2) = mkL f a k := by
  have hlt : i < b.length := (List.getElem?_eq_some_iff.1 hi).1
  subst hb
  have h1 : b.drop i = ei :: b.drop (i + 1) := drop_get hi
  have h2 : a.drop (i + 1) = b.drop (i + 1) := by
    have := congrArg List.tail hdr
    simpa using this.symm
  refine ⟨by simp; omega, hl, by simp [hlen], ?_, ?_⟩
  · rw [List.drop_set_of_lt (by omega), h2]
  · rw [← hr, ← hdr, h1, h2]
    simp only [mkL, hf]
    have h3 : (b.set i e').take (i + 1) = b.take i ++ [e'] := by
      rw [List.take_succ_eq_append_getElem (by simp; omega)]
      simp [List.take_set_of_le]
    rw [h3]
    simp
theorem mtext_dgs {k : Int} (h : ¬ k ≤ 0) : mtext k = ⟨#[109]⟩ ++ dgs k.toNat ⟨#[]⟩ := by simp [mtext, h]
theorem dgs_step {n : Int} {out : ByteArray} (h : n > 0) : dgs n.toNat out = dgs (Int.tdiv n 10).toNat (bytesOf [IntKind.u8.wrap (IntKind.i64.wrap (48 + Int.tmod n 10))] ++ out) := by
  rw [dgs, dif_neg (by omega)]
  have e : ((n.toNat : Nat) : Int) = n := by omega
  rw [e]
  congr 1
  rw [Int.tdiv_eq_ediv_of_nonneg (by omega)]
  omega
theorem bytesOf_one (x : Int) : (bytesOf [x]).size = 1 := rfl
theorem mt_dec {n : Int} {s : Nat} (h0 : 0 ≤ n) (hp : n * 10 ^ s ≤ 9223372036854775807) (h : decide (n > 0) = true) : (IntKind.i64.wrap (Int.tdiv n 10)).toNat < n.toNat := by
  have hn : n > 0 := by simpa using h
  have hpos : (0 : Int) < 10 ^ s := Int.pow_pos (by omega)
  have : n * 1 ≤ n * 10 ^ s := Int.mul_le_mul_of_nonneg_left (by omega) (by omega)
  rw [IntKind.wrap_i64, Int.tdiv_eq_ediv_of_nonneg h0]
  omega
theorem mt_step {n k : Int} {out : ByteArray} (h0 : 0 ≤ n) (hp : n * 10 ^ out.size ≤ 9223372036854775807) (hr : dgs n.toNat out = dgs k.toNat ⟨#[]⟩) (h : decide (n > 0) = true) :
    0 ≤ IntKind.i64.wrap (Int.tdiv n 10) ∧ (bytesOf [IntKind.u8.wrap (IntKind.i64.wrap (48 + Int.tmod n 10))] ++ out).size ≤ 60 ∧
      IntKind.i64.wrap (Int.tdiv n 10) * 10 ^ (bytesOf [IntKind.u8.wrap (IntKind.i64.wrap (48 + Int.tmod n 10))] ++ out).size ≤ 9223372036854775807 ∧
      dgs (IntKind.i64.wrap (Int.tdiv n 10)).toNat (bytesOf [IntKind.u8.wrap (IntKind.i64.wrap (48 + Int.tmod n 10))] ++ out) = dgs k.toNat ⟨#[]⟩ := by
  have hn : n > 0 := by simpa using h
  have hpos : (0 : Int) < 10 ^ out.size := Int.pow_pos (by omega)
  have hle : (10 : Int) ^ out.size ≤ 9223372036854775807 := by
    have : (10 : Int) ^ out.size * 1 ≤ 10 ^ out.size * n := Int.mul_le_mul_of_nonneg_left (by omega) (by omega)
    rw [Int.mul_comm (10 ^ out.size) n] at this
    omega
  have hs : out.size < 19 := by
    rcases Nat.lt_or_ge out.size 19 with h1 | h1
    · exact h1
    · exfalso
      have h2 : (10 : Nat) ^ 19 ≤ 10 ^ out.size := Nat.pow_le_pow_right (by omega) h1
      have h3 : ((10 ^ out.size : Nat) : Int) ≤ 9223372036854775807 := by simpa using hle
      omega
  have hnM : n ≤ 9223372036854775807 := by
    have : n * 1 ≤ n * 10 ^ out.size := Int.mul_le_mul_of_nonneg_left (by omega) (by omega)
    omega
  have hw : IntKind.i64.wrap (Int.tdiv n 10) = n / 10 := by
    rw [IntKind.wrap_i64, Int.tdiv_eq_ediv_of_nonneg h0]
    omega
  have hsz : (bytesOf [IntKind.u8.wrap (IntKind.i64.wrap (48 + Int.tmod n 10))] ++ out).size = out.size + 1 := by
    rw [ByteArray.size_append, bytesOf_one]
    omega
  rw [hw, hsz]
  refine ⟨by omega, by omega, ?_, ?_⟩
  · rw [Int.pow_succ, Int.mul_comm (10 ^ out.size) 10, ← Int.mul_assoc]
    have : n / 10 * 10 * 10 ^ out.size ≤ n * 10 ^ out.size := Int.mul_le_mul_of_nonneg_right (by omega) (by omega)
    omega
  · rw [← hr, dgs_step hn, Int.tdiv_eq_ediv_of_nonneg h0]
structure Session where
  token : Int
  last : Int
  reply : ByteArray
def Session.c (e : Session) : List T := [.v (.int .i64 e.token), .v (.int .i64 e.last), .v (.string e.reply)]
theorem Session.len (e : Session) : e.c.length = 3 := rfl
def Session.z : Session := ⟨0, 0, ⟨#[]⟩⟩
def Session.vs (e : Session) : List Value := [.int .i64 e.token, .int .i64 e.last, .string e.reply]
def eqSession (x y : Session) : Bool := x.token == y.token && (x.last == y.last && (x.reply.toList == y.reply.toList))
theorem eqSession_refl (x : Session) : eqSession x x = true := by simp [eqSession]
def mkESession (x : Session) (k : Int) : Session × Int := ((⟨(mkI x.token k).1, (mkI x.last (mkI x.token k).2).1, (mkS x.reply (mkI x.last (mkI x.token k).2).2).1⟩ : Session), (mkS x.reply (mkI x.last (mkI x.token k).2).2).2)
def hdESession (x : Session) (k0 : Int) : Option Int := match hdI x.token k0 with | none => none | some k1 => match hdI x.last k1 with | none => none | some k2 => match hdS x.reply k2 with | none => none | some k3 => some k3
theorem hdESession_le : HdLe hdESession := by
  intro x k k9 h0 h
  unfold hdESession at h
  cases e0 : hdI x.token k with
  | none => rw [e0] at h; cases h
  | some k1 =>
  rw [e0] at h; simp only [] at h
  have h1 := hdI_le _ _ _ h0 e0
  cases e1 : hdI x.last k1 with
  | none => rw [e1] at h; cases h
  | some k2 =>
  rw [e1] at h; simp only [] at h
  have h2 := hdI_le _ _ _ h1 e1
  cases e2 : hdS x.reply k2 with
  | none => rw [e2] at h; cases h
  | some k3 =>
  rw [e2] at h; simp only [] at h
  have h3 := hdS_le _ _ _ h2 e2
  cases h; exact h3
theorem mkESession_le (x : Session) (k : Int) : (mkESession x k).2 ≤ 9223372036854775807 := by
  simp only [mkESession, mkI, mkB, mkS, inc]; first | exact wrap_le _ | (apply mkL_le)
theorem mkESession_cnt (x : Session) (k : Int) (h0 : 0 ≤ k) (h1 : k + 3 ≤ 4611686018427387904) : (mkESession x k).2 = k + 3 := by
  simp only [mkESession, mkI, mkB, mkS, inc, IntKind.wrap_i64]; omega
theorem hdESession_mk (x : Session) (k : Int) : hdESession (mkESession x k).1 k = some (mkESession x k).2 := by
  simp [hdESession, mkESession, mkI, mkB, mkS, hdI, hdB, hdS]
def szSession (e : Session) (left : Int) : Int := if IntKind.i64.wrap (left - e.reply.size) < 0 then -1 else IntKind.i64.wrap (left - e.reply.size)
structure Item where
  key : ByteArray
  val : ByteArray
  ver : Int
def Item.c (e : Item) : List T := [.v (.string e.key), .v (.string e.val), .v (.int .i64 e.ver)]
theorem Item.len (e : Item) : e.c.length = 3 := rfl
def Item.z : Item := ⟨⟨#[]⟩, ⟨#[]⟩, 0⟩
def Item.vs (e : Item) : List Value := [.string e.key, .string e.val, .int .i64 e.ver]
def eqItem (x y : Item) : Bool := x.key.toList == y.key.toList && (x.val.toList == y.val.toList && (x.ver == y.ver))
theorem eqItem_refl (x : Item) : eqItem x x = true := by simp [eqItem]
def mkEItem (x : Item) (k : Int) : Item × Int := ((⟨(mkS x.key k).1, (mkS x.val (mkS x.key k).2).1, (mkI x.ver (mkS x.val (mkS x.key k).2).2).1⟩ : Item), (mkI x.ver (mkS x.val (mkS x.key k).2).2).2)
def hdEItem (x : Item) (k0 : Int) : Option Int := match hdS x.key k0 with | none => none | some k1 => match hdS x.val k1 with | none => none | some k2 => match hdI x.ver k2 with | none => none | some k3 => some k3
theorem hdEItem_le : HdLe hdEItem := by
  intro x k k9 h0 h
  unfold hdEItem at h
  cases e0 : hdS x.key k with
  | none => rw [e0] at h; cases h
  | some k1 =>
  rw [e0] at h; simp only [] at h
  have h1 := hdS_le _ _ _ h0 e0
  cases e1 : hdS x.val k1 with
  | none => rw [e1] at h; cases h
  | some k2 =>
  rw [e1] at h; simp only [] at h
  have h2 := hdS_le _ _ _ h1 e1
  cases e2 : hdI x.ver k2 with
  | none => rw [e2] at h; cases h
  | some k3 =>
  rw [e2] at h; simp only [] at h
  have h3 := hdI_le _ _ _ h2 e2
  cases h; exact h3
theorem mkEItem_le (x : Item) (k : Int) : (mkEItem x k).2 ≤ 9223372036854775807 := by
  simp only [mkEItem, mkI, mkB, mkS, inc]; first | exact wrap_le _ | (apply mkL_le)
theorem mkEItem_cnt (x : Item) (k : Int) (h0 : 0 ≤ k) (h1 : k + 3 ≤ 4611686018427387904) : (mkEItem x k).2 = k + 3 := by
  simp only [mkEItem, mkI, mkB, mkS, inc, IntKind.wrap_i64]; omega
theorem hdEItem_mk (x : Item) (k : Int) : hdEItem (mkEItem x k).1 k = some (mkEItem x k).2 := by
  simp [hdEItem, mkEItem, mkI, mkB, mkS, hdI, hdB, hdS]
def szItem (e : Item) (left : Int) : Int := if IntKind.i64.wrap (left - e.key.size) < 0 then -1 else if IntKind.i64.wrap ((IntKind.i64.wrap (left - e.key.size)) - e.val.size) < 0 then -1 else IntKind.i64.wrap ((IntKind.i64.wrap (left - e.key.size)) - e.val.size)
structure Keep where
  sessions : List Session
  items : List Item
def Keep.c (e : Keep) : List T := [sl 3 Session.c e.sessions, sl 3 Item.c e.items]
theorem Keep.len (e : Keep) : e.c.length = 2 := rfl
def Keep.z : Keep := ⟨[], []⟩
def eqKeep (x y : Keep) : Bool := (eqS eqSession) x.sessions y.sessions && ((eqS eqItem) x.items y.items)
theorem eqKeep_refl (x : Keep) : eqKeep x x = true := by simp [eqKeep, eqS_refl eqItem_refl, eqS_refl eqSession_refl]
def mkVKeep (x : Keep) (k : Int) : Keep × Int := ((⟨((mkL mkESession) x.sessions k).1, ((mkL mkEItem) x.items ((mkL mkESession) x.sessions k).2).1⟩ : Keep), ((mkL mkEItem) x.items ((mkL mkESession) x.sessions k).2).2)
def hdVKeep (x : Keep) (k0 : Int) : Option Int := match (hdN (hdL hdESession)) x.sessions k0 with | none => none | some k1 => match (hdN (hdL hdEItem)) x.items k1 with | none => none | some k2 => some k2
theorem hdVKeep_le : HdLe hdVKeep := by
  intro x k k9 h0 h
  unfold hdVKeep at h
  cases e0 : (hdN (hdL hdESession)) x.sessions k with
  | none => rw [e0] at h; cases h
  | some k1 =>
  rw [e0] at h; simp only [] at h
  have h1 := (hdN_le (hdL_le hdESession_le)) _ _ _ h0 e0
  cases e1 : (hdN (hdL hdEItem)) x.items k1 with
  | none => rw [e1] at h; cases h
  | some k2 =>
  rw [e1] at h; simp only [] at h
  have h2 := (hdN_le (hdL_le hdEItem_le)) _ _ _ h1 e1
  cases h; exact h2
theorem mkVKeep_le (x : Keep) (k : Int) (hk : k ≤ 9223372036854775807) : (mkVKeep x k).2 ≤ 9223372036854775807 := by
  simp only [mkVKeep]; repeat (first | exact hk | apply mkL_le | apply mkI_le | apply mkS_le | apply mkB_le | apply mkESession_le | apply mkEItem_le)
def szKeep (e : Keep) (left : Int) : Int := if szS szSession e.sessions (left) < 0 then -1 else if szS szItem e.items ((szS szSession e.sessions (left))) < 0 then -1 else szS szItem e.items ((szS szSession e.sessions (left)))
structure Command where
  op : Int
  token : Int
  seq : Int
  key : ByteArray
  val : ByteArray
  ver : Int
def Command.c (e : Command) : List T := [.v (.int .i64 e.op), .v (.int .i64 e.token), .v (.int .i64 e.seq), .v (.string e.key), .v (.string e.val), .v (.int .i64 e.ver)]
theorem Command.len (e : Command) : e.c.length = 6 := rfl
def Command.z : Command := ⟨0, 0, 0, ⟨#[]⟩, ⟨#[]⟩, 0⟩
def Command.vs (e : Command) : List Value := [.int .i64 e.op, .int .i64 e.token, .int .i64 e.seq, .string e.key, .string e.val, .int .i64 e.ver]
def eqCommand (x y : Command) : Bool := x.op == y.op && (x.token == y.token && (x.seq == y.seq && (x.key.toList == y.key.toList && (x.val.toList == y.val.toList && (x.ver == y.ver)))))
def szCommand (e : Command) (left : Int) : Int := if IntKind.i64.wrap (left - e.key.size) < 0 then -1 else if IntKind.i64.wrap ((IntKind.i64.wrap (left - e.key.size)) - e.val.size) < 0 then -1 else IntKind.i64.wrap ((IntKind.i64.wrap (left - e.key.size)) - e.val.size)
structure Entry where
  term_ : Int
  kind : Int
  data : ByteArray
def Entry.c (e : Entry) : List T := [.v (.int .i64 e.term_), .v (.int .i64 e.kind), .v (.string e.data)]
theorem Entry.len (e : Entry) : e.c.length = 3 := rfl
def Entry.z : Entry := ⟨0, 0, ⟨#[]⟩⟩
def Entry.vs (e : Entry) : List Value := [.int .i64 e.term_, .int .i64 e.kind, .string e.data]
structure l01Cur where
  b : List Int
  i : Int
  h : Int
def l01Cur.c (e : l01Cur) : List T := [sl 1 cU e.b, .v (.int .i64 e.i), .v (.int .i64 e.h)]
theorem l01Cur.len (e : l01Cur) : e.c.length = 3 := rfl
def l01Cur.z : l01Cur := ⟨[], 0, 0⟩
structure scan where
  text : ByteArray
  at_ : Int
  bad : Bool
def scan.c (e : scan) : List T := [.v (.string e.text), .v (.int .i64 e.at_), .v (.bool e.bad)]
theorem scan.len (e : scan) : e.c.length = 3 := rfl
def scan.z : scan := ⟨⟨#[]⟩, 0, false⟩
def scan.vs (e : scan) : List Value := [.string e.text, .int .i64 e.at_, .bool e.bad]
structure l16Cur where
  text : ByteArray
  at_ : Int
  bad : Bool
def l16Cur.c (e : l16Cur) : List T := [.v (.string e.text), .v (.int .i64 e.at_), .v (.bool e.bad)]
theorem l16Cur.len (e : l16Cur) : e.c.length = 3 := rfl
def l16Cur.z : l16Cur := ⟨⟨#[]⟩, 0, false⟩
def l16Cur.vs (e : l16Cur) : List Value := [.string e.text, .int .i64 e.at_, .bool e.bad]
def okToSession (e : Session) : Prop := e.reply.size ≤ 1048576
def okToItem (e : Item) : Prop := e.key.size ≤ 1048576 ∧ e.val.size ≤ 1048576
def okToKeep (e : Keep) : Prop := okSl okToSession e.sessions ∧ okSl okToItem e.items
def okToCommand (e : Command) : Prop := e.key.size ≤ 1048576 ∧ e.val.size ≤ 1048576
def okSession (e : Session) : Prop := okI e.token ∧ okI e.last ∧ okS e.reply
def okItem (e : Item) : Prop := okS e.key ∧ okS e.val ∧ okI e.ver
def okKeep (e : Keep) : Prop := (okL okSession) e.sessions ∧ (okL okItem) e.items
def okCommand (e : Command) : Prop := okI e.op ∧ okI e.token ∧ okI e.seq ∧ okS e.key ∧ okS e.val ∧ okI e.ver
theorem szSession_ok : SzOk szSession okSession okToSession := by
  intro e l hk h0 h1 hs
  unfold szSession at hs ⊢
  by_cases c0 : IntKind.i64.wrap (l - e.reply.size) < 0
  · rw [if_pos c0] at hs; omega
  rw [if_neg c0] at hs ⊢
  have p0 := szStr_ok e.reply (l) hk.2.2 (by omega) (by omega) (by show 0 ≤ IntKind.i64.wrap (l - e.reply.size); omega)
  have q0 : IntKind.i64.wrap (l - e.reply.size) ≤ l := p0.2
  exact ⟨p0.1, by omega⟩
theorem szItem_ok : SzOk szItem okItem okToItem := by
  intro e l hk h0 h1 hs
  unfold szItem at hs ⊢
  by_cases c0 : IntKind.i64.wrap (l - e.key.size) < 0
  · rw [if_pos c0] at hs; omega
  rw [if_neg c0] at hs ⊢
  have p0 := szStr_ok e.key (l) hk.1 (by omega) (by omega) (by show 0 ≤ IntKind.i64.wrap (l - e.key.size); omega)
  have q0 : IntKind.i64.wrap (l - e.key.size) ≤ l := p0.2
  by_cases c1 : IntKind.i64.wrap ((IntKind.i64.wrap (l - e.key.size)) - e.val.size) < 0
  · rw [if_pos c1] at hs; omega
  rw [if_neg c1] at hs ⊢
  have p1 := szStr_ok e.val ((IntKind.i64.wrap (l - e.key.size))) hk.2.1 (by omega) (by omega) (by show 0 ≤ IntKind.i64.wrap ((IntKind.i64.wrap (l - e.key.size)) - e.val.size); omega)
  have q1 : IntKind.i64.wrap ((IntKind.i64.wrap (l - e.key.size)) - e.val.size) ≤ (IntKind.i64.wrap (l - e.key.size)) := p1.2
  exact ⟨⟨p0.1, p1.1⟩, by omega⟩
theorem szKeep_ok : SzOk szKeep okKeep okToKeep := by
  intro e l hk h0 h1 hs
  unfold szKeep at hs ⊢
  by_cases c0 : szS szSession e.sessions (l) < 0
  · rw [if_pos c0] at hs; omega
  rw [if_neg c0] at hs ⊢
  have p0 := (szS_ok szSession_ok) e.sessions (l) hk.1 (by omega) (by omega) (by show 0 ≤ szS szSession e.sessions (l); omega)
  have q0 : szS szSession e.sessions (l) ≤ l := p0.2
  by_cases c1 : szS szItem e.items ((szS szSession e.sessions (l))) < 0
  · rw [if_pos c1] at hs; omega
  rw [if_neg c1] at hs ⊢
  have p1 := (szS_ok szItem_ok) e.items ((szS szSession e.sessions (l))) hk.2 (by omega) (by omega) (by show 0 ≤ szS szItem e.items ((szS szSession e.sessions (l))); omega)
  have q1 : szS szItem e.items ((szS szSession e.sessions (l))) ≤ (szS szSession e.sessions (l)) := p1.2
  exact ⟨⟨p0.1, p1.1⟩, by omega⟩
theorem szCommand_ok : SzOk szCommand okCommand okToCommand := by
  intro e l hk h0 h1 hs
  unfold szCommand at hs ⊢
  by_cases c0 : IntKind.i64.wrap (l - e.key.size) < 0
  · rw [if_pos c0] at hs; omega
  rw [if_neg c0] at hs ⊢
  have p0 := szStr_ok e.key (l) hk.2.2.2.1 (by omega) (by omega) (by show 0 ≤ IntKind.i64.wrap (l - e.key.size); omega)
  have q0 : IntKind.i64.wrap (l - e.key.size) ≤ l := p0.2
  by_cases c1 : IntKind.i64.wrap ((IntKind.i64.wrap (l - e.key.size)) - e.val.size) < 0
  · rw [if_pos c1] at hs; omega
  rw [if_neg c1] at hs ⊢
  have p1 := szStr_ok e.val ((IntKind.i64.wrap (l - e.key.size))) hk.2.2.2.2.1 (by omega) (by omega) (by show 0 ≤ IntKind.i64.wrap ((IntKind.i64.wrap (l - e.key.size)) - e.val.size); omega)
  have q1 : IntKind.i64.wrap ((IntKind.i64.wrap (l - e.key.size)) - e.val.size) ≤ (IntKind.i64.wrap (l - e.key.size)) := p1.2
  exact ⟨⟨p0.1, p1.1⟩, by omega⟩
def inR (n x y : Int) : Bool := decide (n ≥ x) && decide (n ≤ y)
theorem findIdx_at {α : Type} {p : α → Bool} : ∀ {a : List α} {i : Nat} {e : α}, (a.take i).any p = false → a[i]? = some e → p e = true → a.findIdx? p = some i
  | [], i, e, _, h, _ => by simp at h
  | x :: r, 0, e, _, h, hp => by
    simp at h
    subst h
    simp [List.findIdx?_cons, hp]
  | x :: r, i + 1, e, ha, h, hp => by
    simp only [List.take_succ_cons, List.any_cons, Bool.or_eq_false_iff] at ha
    have := findIdx_at (a := r) ha.2 (by simpa using h) hp
    simp [List.findIdx?_cons, ha.1, this]
theorem any_snoc {α : Type} {p : α → Bool} {a : List α} {i : Nat} {e : α} (ha : (a.take i).any p = false) (h : a[i]? = some e) (hp : p e = false) : (a.take (i + 1)).any p = false := by
  rw [take_snoc h, List.any_append, ha]
  simp [hp]
theorem dgs_dec (u : Nat) (out : ByteArray) (h : 0 < u) : dgs u out = ⟨(Lib.decDigits u).toArray⟩ ++ out := by
  induction u using Nat.strongRecOn generalizing out with
  | _ u ih =>
    have hb : bytesOf [IntKind.u8.wrap (IntKind.i64.wrap (48 + Int.tmod (u : Int) 10))] = ⟨#[UInt8.ofNat (48 + u % 10)]⟩ := by
      rw [Int.tmod_eq_emod_of_nonneg (by omega), show IntKind.i64.wrap (48 + (u : Int) % 10) = ((48 + u % 10 : Nat) : Int) from by rw [IntKind.wrap_i64]; omega]
      have : u % 10 < 10 := Nat.mod_lt _ (by omega)
      generalize u % 10 = d at *
      have : d = 0 ∨ d = 1 ∨ d = 2 ∨ d = 3 ∨ d = 4 ∨ d = 5 ∨ d = 6 ∨ d = 7 ∨ d = 8 ∨ d = 9 := by omega
      rcases this with rfl | rfl | rfl | rfl | rfl | rfl | rfl | rfl | rfl | rfl <;> rfl
    rw [dgs, dif_neg (by omega), hb]
    by_cases h10 : u < 10
    · rw [show u / 10 = 0 by omega, dgs, dif_pos rfl, Lib.decDigits, dif_pos h10, show u % 10 = u by omega]
    · rw [ih (u / 10) (by omega) _ (by omega), Lib.decDigits.eq_def u, dif_neg h10, ← ByteArray.append_assoc]
      rfl
theorem itoa_pos {n : Int} (h : 0 < n) : itoaB n = dgs n.toNat ⟨#[]⟩ := by
  rw [dgs_dec _ _ (by omega), itoaB, Lib.itoa, if_neg (by omega)]
  exact ByteArray.append_empty.symm
theorem itoa_zero : itoaB 0 = ⟨#[48]⟩ := by
  rw [itoaB, Lib.itoa, if_neg (by omega), Lib.decDigits_one (by decide)]; rfl
theorem nd_le : ∀ (k u : Nat), 0 < k → u < 10 ^ k → Lib.nDigits u ≤ k
  | 0, _, h, _ => by omega
  | k + 1, u, _, h => by
    by_cases h10 : u < 10
    · rw [Lib.nDigits_small h10]; omega
    · rw [Lib.nDigits_big h10]
      have hk : 0 < k := by
        rcases Nat.eq_zero_or_pos k with rfl | hk
        · simp at h; omega
        · exact hk
      have := nd_le k (u / 10) hk (by rw [Nat.pow_succ] at h; omega)
      omega
theorem itoa_len {n : Int} (h0 : 0 ≤ n) (h1 : n ≤ 1000000000) : (itoaB n).size ≤ 10 := by
  have : (itoaB n).size = (Lib.decDigits n.toNat).length := by
    rw [itoaB, Lib.itoa, if_neg (by omega)]; rfl
  rw [this, Lib.decDigits_length]
  exact nd_le 10 _ (by omega) (by omega)
theorem okI_of {n : Int} (h0 : -9223372036854775808 ≤ n) (h1 : n ≤ 9223372036854775807) : okI n := by
  simp [okI, Lit.wf]
  exact ⟨h0, h1⟩
def emp (s : ByteArray) : Bool := s.toList == (⟨#[]⟩ : ByteArray).toList
def sessOk (s : Session) : Bool := inR s.token 1 1000000 && inR s.last 0 1000000 && decide ((s.reply.size : Int) ≤ 40) && !(s.last == 0 && !emp s.reply)
def prevGe (p : Option Int) (x : Int) : Bool := match p with | none => false | some q => decide (q ≥ x)
def sessF : Option Int → List Session → Bool
  | _, [] => true
  | p, s :: r => if !sessOk s || prevGe p s.token then false else sessF (some s.token) r
def itemOk (x : Item) : Bool := inR (x.key.size : Int) 1 8 && decide ((x.val.size : Int) ≤ 20) && inR x.ver 1 1000000000
def prevS (p : Option ByteArray) (x : ByteArray) : Bool := match p with | none => false | some q => !(Op.bytesLess q.toList x.toList)
def itemF : Option ByteArray → List Item → Bool
  | _, [] => true
  | p, x :: r => if !itemOk x || prevS p x.key then false else itemF (some x.key) r
def keepOk (k : Keep) : Bool := sessF none k.sessions && itemF none k.items && decide ((k.sessions.length : Int) ≤ 3) && decide ((k.items.length : Int) ≤ 8)
def prevO {α β : Type} (f : α → β) (z : α) (a : List α) (i : Nat) : Option β := if i = 0 then none else some (f (a.getD (i - 1) z))
theorem prevO_succ {α β : Type} {f : α → β} {z : α} {a : List α} {i : Nat} {e : α} (h : a[i]? = some e) : prevO f z a (i + 1) = some (f e) := by
  simp [prevO, List.getD_eq_getElem?_getD, h]
theorem itemF_all : ∀ (l : List Item) (p : Option ByteArray), itemF p l = true → ∀ x ∈ l, itemOk x = true
  | [], _, _, x, h => by cases h
  | y :: r, p, h, x, hx => by
    rw [itemF] at h
    split at h
    · cases h
    · rename_i hc
      rcases List.mem_cons.1 hx with rfl | hx
      · simp at hc; exact hc.1
      · exact itemF_all r _ h x hx
structure ItIn (x : Item) : Prop where
  k1 : 1 ≤ x.key.size
  k8 : x.key.size ≤ 8
  v : x.val.size ≤ 20
  n1 : 1 ≤ x.ver
  n9 : x.ver ≤ 1000000000
theorem itemOk_in {x : Item} (h : itemOk x = true) : ItIn x := by
  simp [itemOk, inR] at h
  exact ⟨by omega, by omega, by omega, by omega, by omega⟩
theorem ItIn.len {x : Item} (h : ItIn x) : (itoaB x.ver).size ≤ 10 := itoa_len (by have := h.n1; omega) h.n9
theorem keepOk_it {k : Keep} (h : keepOk k = true) : ∀ x ∈ k.items, ItIn x := fun x hx => by
  simp only [keepOk, Bool.and_eq_true] at h
  exact itemOk_in (itemF_all _ _ h.1.1.2 x hx)
theorem keepOk_len {k : Keep} (h : keepOk k = true) : k.items.length ≤ 8 ∧ k.sessions.length ≤ 3 := by
  simp only [keepOk, Bool.and_eq_true, decide_eq_true_eq] at h
  omega
def cmdOk (x : Command) : Bool :=
  inR x.token 0 1000000 && inR x.seq 0 1000000 && inR x.op 1 5 &&
    (if x.op == 1 then x.token == 0 && x.seq == 0 && emp x.key && emp x.val && x.ver == 0
     else inR (x.key.size : Int) 1 8 && decide ((x.val.size : Int) ≤ 20) && (if x.op == 2 then x.ver == 0 else if x.op == 5 then inR x.ver 1 1000000000 else emp x.val && x.ver == 0))
theorem cmd_open {x : Command} (h : x.op = 1) : eqCommand x ⟨1, 0, 0, ⟨#[]⟩, ⟨#[]⟩, 0⟩ = cmdOk x := by
  rw [Bool.eq_iff_iff]
  simp only [eqCommand, cmdOk, emp, inR, h]
  simp
  constructor
  · rintro ⟨h1, h2, h3, h4, h5⟩; simp_all
  · rintro h1; simp_all
theorem bl_irr (a : List UInt8) : Op.bytesLess a a = false := by
  rw [Go.Proofs.bytesLess_eq]; simp [List.lt_irrefl]
theorem bl_trans {a b c : List UInt8} (h1 : Op.bytesLess a b = true) (h2 : Op.bytesLess b c = true) : Op.bytesLess a c = true := by
  rw [Go.Proofs.bytesLess_eq] at *; simp at *; exact List.lt_trans h1 h2
theorem bl_tri {a b : List UInt8} (h1 : Op.bytesLess a b = false) (h2 : a ≠ b) : Op.bytesLess b a = true := by
  rw [Go.Proofs.bytesLess_eq] at *; simp at *
  by_cases h : b < a
  · exact h
  · exact absurd (List.le_antisymm (List.not_lt.1 h) h1) h2
def sEq (a b : ByteArray) : Bool := a.toList == b.toList
def sLt (a b : ByteArray) : Bool := Op.bytesLess a.toList b.toList
def sGt (a b : ByteArray) : Bool := !(Op.bytesLess a.toList b.toList || a.toList == b.toList)
theorem sGt_lt (a b : ByteArray) : sGt a b = sLt b a := by
  unfold sGt sLt
  by_cases h : a.toList = b.toList
  · simp [h, bl_irr]
  · cases h1 : Op.bytesLess a.toList b.toList with
    | true =>
      cases h2 : Op.bytesLess b.toList a.toList with
      | true => have := bl_trans h1 h2; rw [bl_irr] at this; cases this
      | false => simp
    | false => simp [h, bl_tri h1 h]
theorem sLt_irr (a : ByteArray) : sLt a a = false := bl_irr _
theorem sLt_trans {a b c : ByteArray} (h1 : sLt a b = true) (h2 : sLt b c = true) : sLt a c = true := bl_trans h1 h2
theorem sLt_asymm {a b : ByteArray} (h1 : sLt a b = true) : sLt b a = false := by
  cases h : sLt b a with
  | false => rfl
  | true => have := sLt_trans h1 h; rw [sLt_irr] at this; cases this
theorem sLt_ne {a b : ByteArray} (h : sLt a b = true) : sEq a b = false := by
  cases h1 : sEq a b with
  | false => rfl
  | true =>
    simp [sEq] at h1
    simp [sLt, h1, bl_irr] at h
theorem sEq_symm (a b : ByteArray) : sEq a b = sEq b a := by
  unfold sEq; exact Bool.beq_comm
theorem sTri (a b : ByteArray) : sLt a b = true ∨ sEq a b = true ∨ sLt b a = true := by
  by_cases h : a.toList = b.toList
  · exact .inr (.inl (by simp [sEq, h]))
  · cases h1 : sLt a b with
    | true => exact .inl rfl
    | false => exact .inr (.inr (bl_tri h1 h))
def Up (p : Option ByteArray) : List Item → Prop
  | [] => True
  | x :: r => (∀ q, p = some q → sLt q x.key = true) ∧ Up (some x.key) r
theorem Up.of : ∀ {l : List Item} {p : Option ByteArray}, itemF p l = true → Up p l
  | [], _, _ => trivial
  | x :: r, p, h => by
    rw [itemF] at h
    split at h
    · cases h
    · rename_i hc
      refine ⟨fun q hq => ?_, Up.of h⟩
      subst hq
      simp [prevS] at hc
      exact hc.2
theorem Up.all : ∀ {l : List Item} {q : ByteArray}, Up (some q) l → ∀ x ∈ l, sLt q x.key = true
  | [], _, _, x, hx => by cases hx
  | y :: r, q, h, x, hx => by
    rcases List.mem_cons.1 hx with rfl | hx
    · exact h.1 q rfl
    · exact sLt_trans (h.1 q rfl) (Up.all h.2 x hx)
def isKey (key : ByteArray) (x : Item) : Bool := sEq x.key key
def itemOf (k : Keep) (key : ByteArray) : Item × Bool := match k.items.find? (isKey key) with | some x => (x, true) | none => (Item.z, false)
def withoutL (l : List Item) (key : ByteArray) : List Item := l.filter fun x => !isKey key x
def insL (it : Item) : List Item → List Item
  | [] => [it]
  | x :: r => if sGt x.key it.key then it :: x :: r else x :: insL it r
def putL (l : List Item) (it : Item) : List Item := (l.filter fun x => sLt x.key it.key) ++ [it] ++ l.filter fun x => sGt x.key it.key
theorem all_gt {it : Item} : ∀ {r : List Item}, (∀ x ∈ r, sLt it.key x.key = true) → withoutL r it.key = r ∧ (r.filter fun x => sLt x.key it.key) = [] ∧ (r.filter fun x => sGt x.key it.key) = r ∧ r.find? (isKey it.key) = none ∧ insL it r = it :: r := by
  intro r h
  have h1 : ∀ x ∈ r, isKey it.key x = false := fun x hx => by rw [isKey, sEq_symm]; exact sLt_ne (h x hx)
  refine ⟨?_, ?_, ?_, ?_, ?_⟩
  · unfold withoutL
    rw [List.filter_eq_self]
    intro x hx
    simp [h1 x hx]
  · rw [List.filter_eq_nil_iff]
    intro x hx
    simp [sLt_asymm (h x hx)]
  · rw [List.filter_eq_self]
    intro x hx
    rw [sGt_lt]; exact h x hx
  · rw [List.find?_eq_none]
    intro x hx
    simp [h1 x hx]
  · cases r with
    | nil => rfl
    | cons x r => rw [insL, sGt_lt, if_pos (h x (List.mem_cons_self ..))]
theorem put_eq {it : Item} : ∀ {l : List Item} {p : Option ByteArray}, Up p l → insL it (withoutL l it.key) = putL l it ∧ (putL l it).length = (if (l.find? (isKey it.key)).isSome then l.length else l.length + 1)
  | [], _, _ => ⟨rfl, rfl⟩
  | x :: r, p, h => by
    obtain ⟨i1, i2⟩ := put_eq (it := it) h.2
    rcases sTri x.key it.key with hl | he | hg
    · have e1 : isKey it.key x = false := sLt_ne hl
      have e2 : sGt x.key it.key = false := by rw [sGt_lt]; exact sLt_asymm hl
      have e3 : putL (x :: r) it = x :: putL r it := by simp [putL, List.filter_cons, hl, e2]
      refine ⟨?_, ?_⟩
      · rw [e3, ← i1]
        simp [withoutL, List.filter_cons, e1, insL, e2]
      · rw [e3]
        simp only [List.length_cons, i2, List.find?_cons, e1]
        split <;> rfl
    · have hk : x.key.toList = it.key.toList := by simpa [sEq] using he
      have e0 : ∀ y ∈ r, sLt it.key y.key = true := fun y hy => by
        have := Up.all h.2 y hy
        simp only [sLt, ← hk] at this ⊢
        exact this
      obtain ⟨a1, a2, a3, a4, a5⟩ := all_gt e0
      have e1 : isKey it.key x = true := he
      have e2 : sLt x.key it.key = false := by simp [sLt, hk, bl_irr]
      have e3 : sGt x.key it.key = false := by simp [sGt, hk]
      have e4 : withoutL (x :: r) it.key = r := by
        rw [← a1]; simp only [withoutL, List.filter_cons, e1]; simp
      have e5 : putL (x :: r) it = it :: r := by simp [putL, List.filter_cons, e2, e3, a2, a3]
      refine ⟨by rw [e4, a5, e5], ?_⟩
      rw [e5]
      simp [List.find?_cons, e1]
    · have e0 : ∀ y ∈ x :: r, sLt it.key y.key = true := fun y hy => by
        rcases List.mem_cons.1 hy with rfl | hy
        · exact hg
        · exact sLt_trans hg (Up.all h.2 y hy)
      obtain ⟨a1, a2, a3, a4, a5⟩ := all_gt e0
      refine ⟨by rw [a1, a5, putL, a2, a3]; rfl, ?_⟩
      rw [putL, a2, a3, a4]
      simp
theorem without_none {l : List Item} {key : ByteArray} (h : l.find? (isKey key) = none) : withoutL l key = l := by
  unfold withoutL
  rw [List.filter_eq_self]
  intro x hx
  have := List.find?_eq_none.1 h x hx
  simpa using this
def UpS (p : Option Int) : List Session → Prop
  | [] => True
  | x :: r => (∀ q, p = some q → q < x.token) ∧ UpS (some x.token) r
theorem UpS.of : ∀ {l : List Session} {p : Option Int}, sessF p l = true → UpS p l
  | [], _, _ => trivial
  | x :: r, p, h => by
    rw [sessF] at h
    split at h
    · cases h
    · rename_i hc
      refine ⟨fun q hq => ?_, UpS.of h⟩
      subst hq
      simp [prevGe] at hc
      omega
theorem UpS.all : ∀ {l : List Session} {q : Int}, UpS (some q) l → ∀ x ∈ l, q < x.token
  | [], _, _, x, hx => by cases hx
  | y :: r, q, h, x, hx => by
    rcases List.mem_cons.1 hx with rfl | hx
    · exact h.1 q rfl
    · have := h.1 q rfl
      have := UpS.all h.2 x hx
      omega
def newS (n : Int) : Session := ⟨n, 0, ⟨#[]⟩⟩
def openL (n : Int) : List Session → List Session
  | [] => [newS n]
  | x :: r => if decide (x.token ≥ n) then newS n :: (x :: r).filter (fun y => !(y.token == n)) else x :: openL n r
def openS (l : List Session) (n : Int) : List Session := (l.filter fun x => decide (x.token < n)) ++ [newS n] ++ l.filter fun x => decide (x.token > n)
theorem open_eq {n : Int} : ∀ {l : List Session} {p : Option Int}, UpS p l → openL n l = openS l n
  | [], _, _ => rfl
  | x :: r, p, h => by
    have ih := open_eq (n := n) h.2
    have ha := UpS.all h.2
    rw [openL]
    by_cases hl : x.token < n
    · have e2 : ¬ x.token > n := by omega
      rw [if_neg (by simp; omega), ih]
      simp [openS, List.filter_cons, hl, e2]
    · rw [if_pos (by simp; omega)]
      have h1 : (r.filter fun y => decide (y.token < n)) = [] := by
        rw [List.filter_eq_nil_iff]; intro y hy; have := ha y hy; simp; omega
      have h2 : (r.filter fun y => decide (y.token > n)) = r := by
        rw [List.filter_eq_self]; intro y hy; have := ha y hy; simp; omega
      have h3 : (r.filter fun y => !(y.token == n)) = r := by
        rw [List.filter_eq_self]; intro y hy; have := ha y hy; simp; omega
      by_cases he : x.token = n
      · simp [openS, List.filter_cons, he, h1, h2, h3]
      · have : x.token > n := by omega
        simp [openS, List.filter_cons, hl, he, this, h1, h2, h3]
def cut3 (l : List Session) : List Session := if (l.length : Int) > 3 then l.drop 1 else l
def tOpen : ByteArray := ⟨#[111, 112, 101, 110, 32]⟩
def tIs : ByteArray := ⟨#[105, 115, 32]⟩
def tNo : ByteArray := ⟨#[110, 111]⟩
def tDrop : ByteArray := ⟨#[100, 114, 111, 112]⟩
def tNot : ByteArray := ⟨#[110, 111, 116, 32]⟩
def tFull : ByteArray := ⟨#[102, 117, 108, 108]⟩
def tPut : ByteArray := ⟨#[112, 117, 116, 32]⟩
def tNone : ByteArray := ⟨#[110, 111, 110, 101]⟩
def tOld : ByteArray := ⟨#[111, 108, 100]⟩
def tGap : ByteArray := ⟨#[103, 97, 112]⟩
def openK (k : Keep) (n : Int) : Keep := ⟨cut3 (openL n k.sessions), k.items⟩
def doK (k : Keep) (n : Int) (x : Command) : Keep × ByteArray :=
  let it := itemOf k x.key
  if x.op == 3 then (k, if it.2 then tIs ++ itoaB it.1.ver ++ ⟨#[32]⟩ ++ it.1.val else tNo)
  else if x.op == 4 then (⟨k.sessions, withoutL k.items x.key⟩, if it.2 then tDrop else tNo)
  else if x.op == 5 && !it.2 then (k, tNo)
  else if x.op == 5 && !(it.1.ver == x.ver) then (k, tNot ++ itoaB it.1.ver)
  else if !it.2 && (k.items.length : Int) == 8 then (k, tFull)
  else (⟨k.sessions, insL ⟨x.key, x.val, n⟩ (withoutL k.items x.key)⟩, tPut ++ itoaB n)
def isTok (t : Int) (s : Session) : Bool := s.token == t
def perfK (k : Keep) (n : Int) (x : Command) : Keep × ByteArray × Bool :=
  if keepOk k && inR n 1 400000 && cmdOk x then
    if x.op == 1 then (openK k n, tOpen ++ itoaB n, true)
    else match k.sessions.findIdx? (isTok x.token) with
    | none => (k, tNone, true)
    | some i =>
      let s := k.sessions.getD i Session.z
      if decide (x.seq > IntKind.i64.wrap (s.last + 1)) then (k, tGap, true)
      else if decide (x.seq < s.last) || x.seq == 0 then (k, tOld, true)
      else if x.seq == s.last then (k, s.reply, true)
      else (⟨k.sessions.set i ⟨s.token, x.seq, (doK k n x).2⟩, (doK k n x).1.items⟩, (doK k n x).2, true)
  else (⟨[], []⟩, ⟨#[]⟩, false)

theorem item_at {k : Keep} {key : ByteArray} {i : Nat} {e : Item} (hr : (k.items.drop i).find? (isKey key) = k.items.find? (isKey key)) (hd : k.items.drop i = e :: k.items.drop (i + 1)) (h : isKey key e = true) : itemOf k key = (e, true) := by
  rw [itemOf, ← hr, hd, List.find?_cons, h]
theorem item_no {k : Keep} {key : ByteArray} {i : Nat} (hr : (k.items.drop i).find? (isKey key) = k.items.find? (isKey key)) (hd : k.items.drop i = []) : itemOf k key = (Item.z, false) := by
  rw [itemOf, ← hr, hd]; rfl
theorem item_step {k : Keep} {key : ByteArray} {i : Nat} {e : Item} (hr : (k.items.drop i).find? (isKey key) = k.items.find? (isKey key)) (hd : k.items.drop i = e :: k.items.drop (i + 1)) (h : isKey key e = false) : (k.items.drop (i + 1)).find? (isKey key) = k.items.find? (isKey key) := by
  rw [← hr, hd, List.find?_cons, h]
def withoutK (k : Keep) (key : ByteArray) : Keep := ⟨k.sessions, withoutL k.items key⟩
def putK (k : Keep) (it : Item) : Keep := ⟨k.sessions, insL it (withoutL k.items it.key)⟩
theorem without_snoc {l : List Item} {key : ByteArray} {i : Nat} {e : Item} (h : l[i]? = some e) : withoutL (l.take (i + 1)) key = if isKey key e then withoutL (l.take i) key else withoutL (l.take i) key ++ [e] := by
  unfold withoutL
  rw [take_snoc h, List.filter_append]
  cases hk : isKey key e <;> simp [hk]
theorem without_len (l : List Item) (key : ByteArray) : (withoutL l key).length ≤ l.length := List.length_filter_le _ _
structure PutP (it : Item) (L : List Item) (i : Nat) (rest : List Item) (p : Bool) : Prop where
  le : i ≤ L.length
  len : rest.length ≤ i + if p then 1 else 0
  eq : rest ++ (if p then L.drop i else insL it (L.drop i)) = insL it L
theorem PutP.init (it : Item) (L : List Item) : PutP it L 0 [] false := ⟨by omega, by simp, by simp⟩
theorem PutP.len1 {it : Item} {L rest : List Item} {i : Nat} {p : Bool} (h : PutP it L i rest p) : rest.length ≤ i + 1 := by
  have := h.len
  split at this <;> omega
theorem PutP.ins {it : Item} {L rest : List Item} {i : Nat} {e : Item} {p : Bool} (h : PutP it L i rest p) (he : L[i]? = some e) (hc : (!p && sGt e.key it.key) = true) : PutP it L (i + 1) (rest ++ [it] ++ [e]) true := by
  have hi : i < L.length := (List.getElem?_eq_some_iff.1 he).1
  have hd := drop_get he
  simp only [Bool.and_eq_true, Bool.not_eq_true'] at hc
  obtain ⟨rfl, hg⟩ := hc
  refine ⟨by omega, by have := h.len; simp at this ⊢; omega, ?_⟩
  have := h.eq
  rw [hd] at this
  simp [insL, hg] at this ⊢
  exact this
theorem PutP.go {it : Item} {L rest : List Item} {i : Nat} {e : Item} {p : Bool} (h : PutP it L i rest p) (he : L[i]? = some e) (hg : (!p && sGt e.key it.key) = false) : PutP it L (i + 1) (rest ++ [e]) p := by
  have hi : i < L.length := (List.getElem?_eq_some_iff.1 he).1
  have hd := drop_get he
  refine ⟨by omega, by have := h.len; cases p <;> simp at this ⊢ <;> omega, ?_⟩
  rw [← h.eq, hd]
  cases p with
  | true => simp
  | false =>
    have : sGt e.key it.key = false := by simpa using hg
    simp [insL, this]
theorem PutP.fin1 {it : Item} {L rest : List Item} {i : Nat} {p : Bool} (h : PutP it L i rest p) (hp : (!p) = false) (hi : L.length ≤ i) : rest = insL it L := by
  obtain rfl : p = true := by simpa using hp
  rw [← h.eq, List.drop_of_length_le hi]; simp
theorem PutP.fin0 {it : Item} {L rest : List Item} {i : Nat} {p : Bool} (h : PutP it L i rest p) (hp : (!p) = true) (hi : L.length ≤ i) : rest ++ [it] = insL it L := by
  obtain rfl : p = false := by simpa using hp
  rw [← h.eq, List.drop_of_length_le hi]; simp [insL]
structure OpenP (n : Int) (L : List Session) (i : Nat) (rest : List Session) (p : Bool) : Prop where
  le : i ≤ L.length
  len : rest.length ≤ i + if p then 1 else 0
  eq : rest ++ (if p then (L.drop i).filter (fun y => !(y.token == n)) else openL n (L.drop i)) = openL n L
theorem OpenP.init (n : Int) (L : List Session) : OpenP n L 0 [] false := ⟨by omega, by simp, by simp⟩
theorem OpenP.len1 {n : Int} {L rest : List Session} {i : Nat} {p : Bool} (h : OpenP n L i rest p) : rest.length ≤ i + 1 := by
  have := h.len
  split at this <;> omega
theorem OpenP.s1 {n : Int} {L rest : List Session} {i : Nat} {e : Session} {p : Bool} (h : OpenP n L i rest p) (he : L[i]? = some e) (hc : (!p && decide (e.token ≥ n)) = true) (hq : (!(e.token == n)) = true) : OpenP n L (i + 1) (rest ++ [newS n] ++ [e]) true := by
  have hi : i < L.length := (List.getElem?_eq_some_iff.1 he).1
  have hd := drop_get he
  simp only [Bool.and_eq_true, Bool.not_eq_true'] at hc
  obtain ⟨rfl, hg⟩ := hc
  refine ⟨by omega, by have := h.len; simp at this ⊢; omega, ?_⟩
  have := h.eq
  rw [hd] at this
  simp only [Bool.false_eq_true, if_false, openL, if_pos hg, List.filter_cons, if_pos hq] at this
  simpa using this
theorem OpenP.s2 {n : Int} {L rest : List Session} {i : Nat} {e : Session} {p : Bool} (h : OpenP n L i rest p) (he : L[i]? = some e) (hc : (!p && decide (e.token ≥ n)) = true) (hq : (!(e.token == n)) = false) : OpenP n L (i + 1) (rest ++ [newS n]) true := by
  have hi : i < L.length := (List.getElem?_eq_some_iff.1 he).1
  have hd := drop_get he
  simp only [Bool.and_eq_true, Bool.not_eq_true'] at hc
  obtain ⟨rfl, hg⟩ := hc
  refine ⟨by omega, by have := h.len; simp at this ⊢; omega, ?_⟩
  have := h.eq
  rw [hd] at this
  simp only [Bool.false_eq_true, if_false, openL, if_pos hg, List.filter_cons, hq] at this
  simpa using this
theorem OpenP.s3 {n : Int} {L rest : List Session} {i : Nat} {e : Session} {p : Bool} (h : OpenP n L i rest p) (he : L[i]? = some e) (hc : (!p && decide (e.token ≥ n)) = false) (hq : (!(e.token == n)) = true) : OpenP n L (i + 1) (rest ++ [e]) p := by
  have hi : i < L.length := (List.getElem?_eq_some_iff.1 he).1
  have hd := drop_get he
  refine ⟨by omega, by have := h.len; cases p <;> simp at this ⊢ <;> omega, ?_⟩
  have := h.eq
  rw [hd] at this
  cases p with
  | true => simp only [if_true, List.filter_cons, if_pos hq] at this; simpa using this
  | false =>
    have hg : ¬ decide (e.token ≥ n) = true := by simpa using hc
    simp only [Bool.false_eq_true, if_false, openL, if_neg hg] at this
    simpa using this
theorem OpenP.s4 {n : Int} {L rest : List Session} {i : Nat} {e : Session} {p : Bool} (h : OpenP n L i rest p) (he : L[i]? = some e) (hc : (!p && decide (e.token ≥ n)) = false) (hq : (!(e.token == n)) = false) : OpenP n L (i + 1) rest p := by
  have hi : i < L.length := (List.getElem?_eq_some_iff.1 he).1
  have hd := drop_get he
  refine ⟨by omega, by have := h.len; cases p <;> simp at this ⊢ <;> omega, ?_⟩
  have := h.eq
  rw [hd] at this
  cases p with
  | true => simp only [if_true, List.filter_cons, hq] at this; simpa using this
  | false =>
    simp at hc hq
    omega
theorem OpenP.fin1 {n : Int} {L rest : List Session} {i : Nat} {p : Bool} (h : OpenP n L i rest p) (hp : (!p) = false) (hi : L.length ≤ i) : rest = openL n L := by
  obtain rfl : p = true := by simpa using hp
  rw [← h.eq, List.drop_of_length_le hi]; simp
theorem OpenP.fin0 {n : Int} {L rest : List Session} {i : Nat} {p : Bool} (h : OpenP n L i rest p) (hp : (!p) = true) (hi : L.length ≤ i) : rest ++ [newS n] = openL n L := by
  obtain rfl : p = false := by simpa using hp
  rw [← h.eq, List.drop_of_length_le hi]; simp [openL]
theorem open_cut {k : Keep} {n : Int} {l : List Session} (h : l = openL n k.sessions) (hc : decide ((l.length : Int) > 3) = true) : (⟨l.drop 1, k.items⟩ : Keep) = openK k n := by
  subst h
  have := of_decide_eq_true hc
  rw [openK, cut3, if_pos this]
theorem open_no {k : Keep} {n : Int} {l : List Session} (h : l = openL n k.sessions) (hc : decide ((l.length : Int) > 3) = false) : (⟨l, k.items⟩ : Keep) = openK k n := by
  subst h
  have := of_decide_eq_false hc
  rw [openK, cut3, if_neg this]
theorem item_in {k : Keep} {key : ByteArray} (hko : keepOk k = true) (h : (itemOf k key).2 = true) : ItIn (itemOf k key).1 := by
  unfold itemOf at *
  split at h
  · rename_i x hx
    exact keepOk_it hko x (List.mem_of_find?_eq_some hx)
  · cases h
theorem item_false {k : Keep} {key : ByteArray} (h : (itemOf k key).2 = false) : k.items.find? (isKey key) = none := by
  unfold itemOf at h
  split at h
  · cases h
  · assumption
theorem item_some {k : Keep} {key : ByteArray} : (k.items.find? (isKey key)).isSome = (itemOf k key).2 := by
  unfold itemOf
  split <;> rename_i h <;> simp [h]
theorem do_drop {k : Keep} {key : ByteArray} (h : (itemOf k key).2 = false) : withoutL k.items key = k.items := without_none (item_false h)
theorem keepOk_up {k : Keep} (h : keepOk k = true) : Up none k.items ∧ UpS none k.sessions := by
  simp only [keepOk, Bool.and_eq_true] at h
  exact ⟨Up.of h.1.1.2, UpS.of h.1.1.1⟩
theorem do_put {k : Keep} (hko : keepOk k = true) (it : Item) : putL k.items it = insL it (withoutL k.items it.key) ∧ decide (((putL k.items it).length : Int) > 8) = (!(itemOf k it.key).2 && (k.items.length : Int) == 8) := by
  obtain ⟨h1, h2⟩ := put_eq (it := it) (keepOk_up hko).1
  refine ⟨h1.symm, ?_⟩
  have h3 := (keepOk_len hko).1
  rw [h2, item_some]
  cases (itemOf k it.key).2 with
  | true => simp; omega
  | false =>
    simp only [Bool.false_eq_true, if_false, Bool.not_false, Bool.true_and]
    rw [Bool.eq_iff_iff]
    simp
    omega
section
variable {k : Keep} {n : Int} {x : Command}
theorem do_get1 (h : (x.op == 3) = true) (ht : (itemOf k x.key).2 = true) : doK k n x = (k, tIs ++ itoaB (itemOf k x.key).1.ver ++ ⟨#[32]⟩ ++ (itemOf k x.key).1.val) := by
  simp only [doK, h, ht, if_true]
theorem do_get0 (h : (x.op == 3) = true) (ht : (itemOf k x.key).2 = false) : doK k n x = (k, tNo) := by
  simp [doK, h, ht]
theorem do_drop1 (h : (x.op == 3) = false) (h4 : (x.op == 4) = true) (ht : (itemOf k x.key).2 = true) : doK k n x = (withoutK k x.key, tDrop) := by
  simp [doK, h, h4, ht, withoutK]
theorem do_drop0 (h : (x.op == 3) = false) (h4 : (x.op == 4) = true) (ht : (itemOf k x.key).2 = false) : doK k n x = (withoutK k x.key, tNo) := by
  simp [doK, h, h4, ht, withoutK]
theorem do_dropS (h : (x.op == 3) = false) (h4 : (x.op == 4) = true) (ht : (itemOf k x.key).2 = false) : doK k n x = (k, tNo) := by
  rw [do_drop0 h h4 ht, withoutK, do_drop ht]
theorem do_swap0 (h : (x.op == 3) = false) (h4 : (x.op == 4) = false) (h5 : (x.op == 5) = true) (ht : (!(itemOf k x.key).2) = true) : doK k n x = (k, tNo) := by
  simp only [Bool.not_eq_true'] at ht
  simp [doK, h, h4, h5, ht]
theorem do_swapN (h : (x.op == 3) = false) (h4 : (x.op == 4) = false) (h5 : (x.op == 5) = true) (ht : (!(itemOf k x.key).2) = false) (hv : (!((itemOf k x.key).1.ver == x.ver)) = true) : doK k n x = (k, tNot ++ itoaB (itemOf k x.key).1.ver) := by
  simp only [doK, h, h4, h5, ht, hv, Bool.and_self, Bool.and_false, Bool.false_eq_true, if_false, if_true]
theorem do_full (h : (x.op == 3) = false) (h4 : (x.op == 4) = false) (h5 : (x.op == 5) = false ∨ ((!(itemOf k x.key).2) = false ∧ (!((itemOf k x.key).1.ver == x.ver)) = false)) (hf : (!(itemOf k x.key).2 && (k.items.length : Int) == 8) = true) : doK k n x = (k, tFull) := by
  rcases h5 with h5 | ⟨h5, h6⟩
  · simp only [doK, h, h4, h5, hf, Bool.false_and, Bool.false_eq_true, if_false, if_true]
  · rw [h5] at hf; simp at hf
theorem do_putI (h : (x.op == 3) = false) (h4 : (x.op == 4) = false) (h5 : (x.op == 5) = false ∨ ((!(itemOf k x.key).2) = false ∧ (!((itemOf k x.key).1.ver == x.ver)) = false)) (hf : (!(itemOf k x.key).2 && (k.items.length : Int) == 8) = false) : doK k n x = (putK k ⟨x.key, x.val, n⟩, tPut ++ itoaB n) := by
  rcases h5 with h5 | ⟨h5, h6⟩
  · simp only [doK, h, h4, h5, hf, Bool.false_and, Bool.false_eq_true, if_false]; rfl
  · simp only [doK, h, h4, h5, h6, hf, Bool.and_false, Bool.false_eq_true, if_false]; rfl
end
theorem nT {b : Bool} (h : (!b) = true) : b = false := by simpa using h
theorem nF {b : Bool} (h : (!b) = false) : b = true := by simpa using h
theorem filt_snoc {α : Type} {p : α → Bool} {l : List α} {i : Nat} {e : α} (h : l[i]? = some e) : (l.take (i + 1)).filter p = if p e then (l.take i).filter p ++ [e] else (l.take i).filter p := by
  rw [take_snoc h, List.filter_append]
  cases hk : p e <;> simp [hk]
def lowL (l : List Item) (it : Item) : List Item := l.filter fun x => sLt x.key it.key
def highL (l : List Item) (it : Item) : List Item := l.filter fun x => sGt x.key it.key
theorem lowL_snoc {l : List Item} {i : Nat} {e it : Item} (h : l[i]? = some e) : lowL (l.take (i + 1)) it = if sLt e.key it.key then lowL (l.take i) it ++ [e] else lowL (l.take i) it := filt_snoc h
theorem highL_snoc {l : List Item} {i : Nat} {e it : Item} (h : l[i]? = some e) : highL (l.take (i + 1)) it = if sGt e.key it.key then highL (l.take i) it ++ [e] else highL (l.take i) it := filt_snoc h
theorem lowL_len (l : List Item) (it : Item) : (lowL l it).length ≤ l.length := List.length_filter_le _ _
theorem highL_len (l : List Item) (it : Item) : (highL l it).length ≤ l.length := List.length_filter_le _ _
theorem putL_take {l : List Item} {it : Item} {j : Nat} (h : l.length ≤ j) : lowL l it ++ [it] ++ highL (l.take j) it = putL l it := by
  rw [List.take_of_length_le h]; rfl
def bigP (k : Keep) (it : Item) : Bool := decide (((putL k.items it).length : Int) > 8)
def putSK (k : Keep) (it : Item) : Keep := if bigP k it then k else ⟨k.sessions, putL k.items it⟩
theorem bigP_of {k : Keep} {it : Item} {j : Nat} {b : Bool} (h : k.items.length ≤ j) (hc : decide (((lowL k.items it ++ [it] ++ highL (k.items.take j) it).length : Int) > 8) = b) : bigP k it = b := by
  rw [putL_take h] at hc; exact hc
theorem putSK_t {k : Keep} {it : Item} (h : bigP k it = true) : putSK k it = k := by rw [putSK, if_pos h]
theorem putSK_f {k : Keep} {it : Item} {j : Nat} (h : bigP k it = false) (hj : k.items.length ≤ j) : (⟨k.sessions, lowL k.items it ++ [it] ++ highL (k.items.take j) it⟩ : Keep) = putSK k it := by
  rw [putL_take hj, putSK, if_neg (by simp [h])]
section
variable {k : Keep} {n : Int} {x : Command}
theorem do_fullS (hko : keepOk k = true) (h : (x.op == 3) = false) (h4 : (x.op == 4) = false) (h5 : (x.op == 5) = false ∨ ((!(itemOf k x.key).2) = false ∧ (!((itemOf k x.key).1.ver == x.ver)) = false)) (hf : bigP k ⟨x.key, x.val, n⟩ = true) : doK k n x = (putSK k ⟨x.key, x.val, n⟩, tFull) := by
  rw [putSK_t hf]
  exact do_full h h4 h5 ((do_put hko ⟨x.key, x.val, n⟩).2.symm.trans hf)
theorem do_putS (hko : keepOk k = true) (h : (x.op == 3) = false) (h4 : (x.op == 4) = false) (h5 : (x.op == 5) = false ∨ ((!(itemOf k x.key).2) = false ∧ (!((itemOf k x.key).1.ver == x.ver)) = false)) (hf : bigP k ⟨x.key, x.val, n⟩ = false) : doK k n x = (putSK k ⟨x.key, x.val, n⟩, tPut ++ itoaB n) := by
  rw [do_putI h h4 h5 ((do_put hko ⟨x.key, x.val, n⟩).2.symm.trans hf), putSK, if_neg (by simp [hf]), putK, (do_put hko ⟨x.key, x.val, n⟩).1]
end
def lowS (l : List Session) (n : Int) : List Session := l.filter fun x => decide (x.token < n)
def highS (l : List Session) (n : Int) : List Session := l.filter fun x => decide (x.token > n)
theorem lowS_snoc {l : List Session} {i : Nat} {e : Session} {n : Int} (h : l[i]? = some e) : lowS (l.take (i + 1)) n = if decide (e.token < n) then lowS (l.take i) n ++ [e] else lowS (l.take i) n := filt_snoc h
theorem highS_snoc {l : List Session} {i : Nat} {e : Session} {n : Int} (h : l[i]? = some e) : highS (l.take (i + 1)) n = if decide (e.token > n) then highS (l.take i) n ++ [e] else highS (l.take i) n := filt_snoc h
theorem lowS_len (l : List Session) (n : Int) : (lowS l n).length ≤ l.length := List.length_filter_le _ _
theorem highS_len (l : List Session) (n : Int) : (highS l n).length ≤ l.length := List.length_filter_le _ _
theorem openS_take {k : Keep} {n : Int} {j : Nat} (hko : keepOk k = true) (h : k.sessions.length ≤ j) : lowS k.sessions n ++ [newS n] ++ highS (k.sessions.take j) n = openL n k.sessions := by
  rw [List.take_of_length_le h, open_eq (keepOk_up hko).2]; rfl
theorem openS_cut {k : Keep} {n : Int} {j : Nat} (hko : keepOk k = true) (h : k.sessions.length ≤ j) (hc : decide (((lowS k.sessions n ++ [newS n] ++ highS (k.sessions.take j) n).length : Int) > 3) = true) :
    (⟨(lowS k.sessions n ++ [newS n] ++ highS (k.sessions.take j) n).drop 1, k.items⟩ : Keep) = openK k n := open_cut (openS_take hko h) hc
theorem openS_no {k : Keep} {n : Int} {j : Nat} (hko : keepOk k = true) (h : k.sessions.length ≤ j) (hc : decide (((lowS k.sessions n ++ [newS n] ++ highS (k.sessions.take j) n).length : Int) > 3) = false) :
    (⟨lowS k.sessions n ++ [newS n] ++ highS (k.sessions.take j) n, k.items⟩ : Keep) = openK k n := open_no (openS_take hko h) hc
def perfOk (k : Keep) (n : Int) (x : Command) : Bool := keepOk k && inR n 1 400000 && cmdOk x
structure PfOk (k : Keep) (n : Int) (x : Command) : Prop where
  k : keepOk k = true
  n : 1 ≤ n ∧ n ≤ 400000
  x : cmdOk x = true
theorem PfOk.of {k : Keep} {n : Int} {x : Command} (h : perfOk k n x = true) : PfOk k n x := by
  simp [perfOk, inR] at h
  exact ⟨h.1.1, by omega, h.2⟩
theorem perf_no {k : Keep} {n : Int} {x : Command} (h : perfOk k n x = false) : perfK k n x = (⟨[], []⟩, ⟨#[]⟩, false) := by
  rw [perfK, if_neg (by rw [perfOk] at h; rw [h]; simp)]
theorem perf_yes {k : Keep} {n : Int} {x : Command} (h : PfOk k n x) : (keepOk k && inR n 1 400000 && cmdOk x) = true := by
  have := h.n
  simp [h.k, h.x, inR]
  omega
theorem perf_open {k : Keep} {n : Int} {x : Command} (h : PfOk k n x) (h1 : (x.op == 1) = true) : perfK k n x = (openK k n, tOpen ++ itoaB n, true) := by
  rw [perfK, if_pos (perf_yes h), if_pos h1]
structure At (k : Keep) (x : Command) (i : Nat) (s : Session) : Prop where
  fi : k.sessions.findIdx? (isTok x.token) = some i
  fs : k.sessions[i]? = some s
  ft : isTok x.token s = true
theorem at_of {k : Keep} {x : Command} {i : Nat} {s : Session} (ha : (k.sessions.take i).any (isTok x.token) = false) (h : k.sessions[i]? = some s) (hp : isTok x.token s = true) : At k x i s := ⟨findIdx_at ha h hp, h, hp⟩
theorem At.d {k : Keep} {x : Command} {i : Nat} {s : Session} (h : At k x i s) : k.sessions.getD i Session.z = s := by
  rw [List.getD_eq_getElem?_getD, h.fs]; rfl
theorem perf_none {k : Keep} {n : Int} {x : Command} {i : Nat} (h : PfOk k n x) (h1 : (x.op == 1) = false) (ha : (k.sessions.take i).any (isTok x.token) = false) (hi : k.sessions.length ≤ i) : perfK k n x = (k, tNone, true) := by
  have : k.sessions.findIdx? (isTok x.token) = none := by
    rw [List.findIdx?_eq_none_iff]
    intro y hy
    rw [List.take_of_length_le hi] at ha
    simpa using List.any_eq_false.1 ha y hy
  rw [perfK, if_pos (perf_yes h), if_neg (by rw [h1]; simp), this]
section
variable {k : Keep} {n : Int} {x : Command} {i : Nat} {s : Session}
theorem perf_gap (h : PfOk k n x) (h1 : (x.op == 1) = false) (ha : At k x i s) (hg : decide (x.seq > IntKind.i64.wrap (s.last + 1)) = true) : perfK k n x = (k, tGap, true) := by
  rw [perfK, if_pos (perf_yes h), if_neg (by rw [h1]; simp), ha.fi]
  simp only [ha.d, hg, if_true]
theorem perf_old (h : PfOk k n x) (h1 : (x.op == 1) = false) (ha : At k x i s) (hg : decide (x.seq > IntKind.i64.wrap (s.last + 1)) = false) (ho : (decide (x.seq < s.last) || x.seq == 0) = true) : perfK k n x = (k, tOld, true) := by
  rw [perfK, if_pos (perf_yes h), if_neg (by rw [h1]; simp), ha.fi]
  simp only [ha.d, hg, ho, Bool.false_eq_true, if_false, if_true]
theorem perf_same (h : PfOk k n x) (h1 : (x.op == 1) = false) (ha : At k x i s) (hg : decide (x.seq > IntKind.i64.wrap (s.last + 1)) = false) (ho : (decide (x.seq < s.last) || x.seq == 0) = false) (hs : (x.seq == s.last) = true) : perfK k n x = (k, s.reply, true) := by
  rw [perfK, if_pos (perf_yes h), if_neg (by rw [h1]; simp), ha.fi]
  simp only [ha.d, hg, ho, hs, Bool.false_eq_true, if_false, if_true]
theorem perf_do (h : PfOk k n x) (h1 : (x.op == 1) = false) (ha : At k x i s) (hg : decide (x.seq > IntKind.i64.wrap (s.last + 1)) = false) (ho : (decide (x.seq < s.last) || x.seq == 0) = false) (hs : (x.seq == s.last) = false) :
    perfK k n x = (⟨k.sessions.set i ⟨s.token, x.seq, (doK k n x).2⟩, (doK k n x).1.items⟩, (doK k n x).2, true) := by
  rw [perfK, if_pos (perf_yes h), if_neg (by rw [h1]; simp), ha.fi]
  simp only [ha.d, hg, ho, hs, Bool.false_eq_true, if_false]
end
theorem do_sess (k : Keep) (n : Int) (x : Command) : (doK k n x).1.sessions = k.sessions := by
  unfold doK
  simp only []
  split
  · rfl
  · split
    · rfl
    · split
      · rfl
      · split
        · rfl
        · split <;> rfl
theorem UpS.lt : ∀ {l : List Session} {p : Option Int}, UpS p l → ∀ {m i : Nat} {s e : Session}, m < i → l[m]? = some s → l[i]? = some e → s.token < e.token
  | [], _, _, m, i, s, e, _, h, _ => by simp at h
  | y :: r, p, hu, 0, i + 1, s, e, _, h1, h2 => by
    simp at h1 h2
    subst h1
    exact UpS.all hu.2 e (List.mem_of_getElem? h2)
  | y :: r, p, hu, m + 1, i + 1, s, e, hlt, h1, h2 => by
    simp at h1 h2
    exact UpS.lt hu.2 (by omega) h1 h2
structure SP (k : Keep) (x : Command) (i : Nat) (a : Int) : Prop where
  le : i ≤ k.sessions.length
  or : (a = -1 ∧ (k.sessions.take i).any (isTok x.token) = false) ∨ ∃ (m : Nat) (s : Session), a = (m : Int) ∧ m < i ∧ At k x m s
theorem SP.init (k : Keep) (x : Command) : SP k x 0 (-1) := ⟨by omega, .inl ⟨rfl, by simp⟩⟩
theorem SP.hit {k : Keep} {x : Command} {i : Nat} {a : Int} {e : Session} (h : SP k x i a) (hko : keepOk k = true) (he : k.sessions[i]? = some e) (ht : (e.token == x.token) = true) : SP k x (i + 1) (i : Int) := by
  have hi : i < k.sessions.length := (List.getElem?_eq_some_iff.1 he).1
  refine ⟨hi, .inr ⟨i, e, rfl, by omega, ?_⟩⟩
  rcases h.or with ⟨_, h1⟩ | ⟨m, s, _, h1, h2⟩
  · exact at_of h1 he ht
  · have h3 := UpS.lt (keepOk_up hko).2 h1 h2.fs he
    have h4 := h2.ft
    simp [isTok] at h4 ht
    omega
theorem SP.miss {k : Keep} {x : Command} {i : Nat} {a : Int} {e : Session} (h : SP k x i a) (he : k.sessions[i]? = some e) (ht : (e.token == x.token) = false) : SP k x (i + 1) a := by
  have hi : i < k.sessions.length := (List.getElem?_eq_some_iff.1 he).1
  refine ⟨hi, ?_⟩
  rcases h.or with ⟨h0, h1⟩ | ⟨m, s, h0, h1, h2⟩
  · exact .inl ⟨h0, any_snoc h1 he ht⟩
  · exact .inr ⟨m, s, h0, by omega, h2⟩
theorem SP.none {k : Keep} {x : Command} {i : Nat} {a : Int} (h : SP k x i a) (hd : decide (a < 0) = true) : (k.sessions.take i).any (isTok x.token) = false := by
  rcases h.or with ⟨_, h1⟩ | ⟨m, s, h0, h1, h2⟩
  · exact h1
  · simp at hd; omega
theorem SP.some {k : Keep} {x : Command} {i : Nat} {a : Int} (h : SP k x i a) (hd : decide (a < 0) = false) : ∃ (m : Nat) (s : Session), a = (m : Int) ∧ At k x m s := by
  rcases h.or with ⟨h0, h1⟩ | ⟨m, s, h0, h1, h2⟩
  · simp at hd; omega
  · exact ⟨m, s, h0, h2⟩
theorem pfS {k : Keep} {n : Int} {x : Command} : (((!keepOk k || !inR n 1 1000000) || decide (n > 400000)) || !cmdOk x) = !perfOk k n x := by
  unfold perfOk inR
  cases keepOk k <;> cases cmdOk x <;> simp
  rw [Bool.eq_iff_iff]
  simp
  omega
theorem sess_in {k : Keep} {x : Command} {i : Nat} {s : Session} (hko : keepOk k = true) (h : At k x i s) : 0 ≤ s.last ∧ s.last ≤ 1000000 := by
  have hall : ∀ (l : List Session) (p : Option Int), sessF p l = true → ∀ y ∈ l, sessOk y = true := by
    intro l
    induction l with
    | nil => intro p _ y hy; cases hy
    | cons z r ih =>
      intro p hp y hy
      rw [sessF] at hp
      split at hp
      · cases hp
      · rename_i hc
        rcases List.mem_cons.1 hy with rfl | hy
        · simp at hc; exact hc.1
        · exact ih _ hp y hy
  simp only [keepOk, Bool.and_eq_true] at hko
  have := hall _ _ hko.1.1.1 s (List.mem_of_getElem? h.fs)
  simp [sessOk, inR] at this
  omega
section
variable {k : Keep} {n : Int} {x : Command} {i : Nat} {s : Session}
theorem perfS_old (h : PfOk k n x) (h1 : (x.op == 1) = false) (ha : At k x i s) (ho : (x.seq == 0 || decide (x.seq < s.last)) = true) : perfK k n x = (k, tOld, true) := by
  have hb := sess_in h.k ha
  refine perf_old h h1 ha ?_ (by rw [Bool.or_comm]; exact ho)
  have : IntKind.i64.wrap (s.last + 1) = s.last + 1 := by rw [IntKind.wrap_i64]; omega
  rw [this]
  simp at ho ⊢
  omega
theorem perfS_same (h : PfOk k n x) (h1 : (x.op == 1) = false) (ha : At k x i s) (ho : (x.seq == 0 || decide (x.seq < s.last)) = false) (hs : (x.seq == s.last) = true) : perfK k n x = (k, s.reply, true) := by
  have hb := sess_in h.k ha
  refine perf_same h h1 ha ?_ (by rw [Bool.or_comm]; exact ho) hs
  have : IntKind.i64.wrap (s.last + 1) = s.last + 1 := by rw [IntKind.wrap_i64]; omega
  rw [this]
  simp at hs ⊢
  omega
theorem perfS_gap (h : PfOk k n x) (h1 : (x.op == 1) = false) (ha : At k x i s) (hg : decide (x.seq > IntKind.i64.wrap (s.last + 1)) = true) : perfK k n x = (k, tGap, true) := perf_gap h h1 ha hg
theorem perfS_do (h : PfOk k n x) (h1 : (x.op == 1) = false) (ha : At k x i s) (ho : (x.seq == 0 || decide (x.seq < s.last)) = false) (hs : (x.seq == s.last) = false) (hg : decide (x.seq > IntKind.i64.wrap (s.last + 1)) = false) :
    perfK k n x = (⟨k.sessions.set i ⟨s.token, x.seq, (doK k n x).2⟩, (doK k n x).1.items⟩, (doK k n x).2, true) := perf_do h h1 ha hg (by rw [Bool.or_comm]; exact ho) hs
end
theorem hdN_some {α : Type} {f : α → Int → Option Int} {x : α} {k k' : Int} (h : f x k = some k') (hp : 0 ≤ k') : hdN f x k = some k' := by
  simp only [hdN, h]
  exact if_neg (by omega)
theorem mkVKeep_facts {k : Keep} (l1 : k.sessions.length ≤ 1048576) (l2 : k.items.length ≤ 1048576) : 0 ≤ (mkVKeep k 1).2 ∧ (hdVKeep (mkVKeep k 1).1 1).getD (-1) = (mkVKeep k 1).2 := by
  have c1 := mkL_cnt 3 (fun x k => mkESession_cnt x k) k.sessions 1 (by omega) (by omega)
  have c2 := mkL_cnt 3 (fun x k => mkEItem_cnt x k) k.items (mkL mkESession k.sessions 1).2 (by omega) (by omega)
  refine ⟨by simp only [mkVKeep]; omega, ?_⟩
  have e1 := hdN_some (hdL_mk hdESession_mk k.sessions 1) (by omega)
  have e2 := hdN_some (hdL_mk hdEItem_mk k.items (mkL mkESession k.sessions 1).2) (by omega)
  simp only [hdVKeep, mkVKeep, e1, e2]
  rfl
theorem openL_len (n : Int) : ∀ l : List Session, (openL n l).length ≤ l.length + 1
  | [] => by simp [openL]
  | x :: r => by
    rw [openL]
    split
    · have := List.length_filter_le (fun y : Session => !(y.token == n)) (x :: r)
      simp only [List.length_cons] at this ⊢
      omega
    · have := openL_len n r
      simp only [List.length_cons]
      omega
theorem insL_len (it : Item) : ∀ l : List Item, (insL it l).length = l.length + 1
  | [] => rfl
  | x :: r => by
    rw [insL]
    split
    · rfl
    · simp only [List.length_cons, insL_len it r]
theorem do_len (k : Keep) (n : Int) (x : Command) : (doK k n x).1.items.length ≤ k.items.length + 1 := by
  have h1 := without_len k.items x.key
  have h2 := insL_len ⟨x.key, x.val, n⟩ (withoutL k.items x.key)
  unfold doK
  simp only []
  split
  · simp
  · split
    · simp only []; omega
    · split
      · simp
      · split
        · simp
        · split
          · simp
          · simp only []; omega
theorem perf_len (k : Keep) (n : Int) (x : Command) : (perfK k n x).1.sessions.length ≤ 1048576 ∧ (perfK k n x).1.items.length ≤ 1048576 := by
  cases hp : perfOk k n x with
  | false => rw [perf_no hp]; simp
  | true =>
    have h := PfOk.of hp
    have hl := keepOk_len h.k
    have h2 := do_len k n x
    have h3 := openL_len n k.sessions
    cases h1 : (x.op == 1) with
    | true =>
      rw [perf_open h h1]
      refine ⟨?_, by simp only [openK]; omega⟩
      simp only [openK, cut3]
      split
      · rw [List.length_drop]; omega
      · omega
    | false =>
      rw [perfK, if_pos (perf_yes h), if_neg (by rw [h1]; simp)]
      split
      · exact ⟨by show k.sessions.length ≤ _; omega, by show k.items.length ≤ _; omega⟩
      · simp only []
        split
        · exact ⟨by show k.sessions.length ≤ _; omega, by show k.items.length ≤ _; omega⟩
        · split
          · exact ⟨by show k.sessions.length ≤ _; omega, by show k.items.length ≤ _; omega⟩
          · split
            · exact ⟨by show k.sessions.length ≤ _; omega, by show k.items.length ≤ _; omega⟩
            · simp only [List.length_set]
              exact ⟨by omega, by omega⟩
end Go.Proofs.YtaeagpakloggfaaDoor.Y
