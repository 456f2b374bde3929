import Derived.Test.YtkfjkmklmjcngaaEng16
import Derived.Test.YtkfjkmklmjcngaaEng36
import Derived.Laws.Strings
namespace Go.Proofs.Ytkfjkmklmjcngaa.Y
open Go Go.RowKit Go.Eng

def szL {α : Type} (f : α → Int → Int) : List α → Int → Int
  | [], l => l
  | x :: r, l => if f x l < 0 then -1 else szL f r (f x l)
def szS {α : Type} (f : α → Int → Int) (a : List α) (left : Int) : Int :=
  if IntKind.i64.wrap (left - a.length) < 0 then -1 else szL f a (IntKind.i64.wrap (left - a.length))
def szI {α : Type} (a : List α) (left : Int) : Int :=
  if IntKind.i64.wrap (left - a.length) < 0 then -1 else IntKind.i64.wrap (left - a.length)
def szStr (s : ByteArray) (left : Int) : Int := IntKind.i64.wrap (left - s.size)
def okSl {α : Type} (ok : α → Prop) (l : List α) : Prop := l.length ≤ 1048576 ∧ ∀ x ∈ l, ok x
def eqI (x y : Int) : Bool := x == y
theorem eqI_refl (x : Int) : eqI x x = true := by simp [eqI]
def eqB (x y : Bool) : Bool := x == y
theorem eqB_refl (x : Bool) : eqB x x = true := by simp [eqB]
def eqStr (x y : ByteArray) : Bool := x.toList == y.toList
theorem eqStr_refl (x : ByteArray) : eqStr x x = true := by simp [eqStr]
def eqS {α : Type} (f : α → α → Bool) : List α → List α → Bool
  | [], [] => true
  | x :: r, y :: s => if f x y then eqS f r s else false
  | _, _ => false
theorem eqS_refl {α : Type} {f : α → α → Bool} (h : ∀ x, f x x = true) : ∀ a : List α, eqS f a a = true
  | [] => rfl
  | x :: r => by rw [eqS, h x, if_pos rfl, eqS_refl h r]
theorem szS_len {α : Type} {f : α → Int → Int} {a : List α} (hl : a.length ≤ maxLen) (h : 0 ≤ szS f a 1048576) : a.length ≤ 1048576 := by
  unfold szS at h
  split at h
  · omega
  · rename_i h2
    rw [IntKind.wrap_i64] at h2
    simp only [maxLen] at hl
    omega
theorem eqS_ne {α : Type} {f : α → α → Bool} : ∀ {a b : List α}, a.length ≠ b.length → eqS f a b = false
  | [], [], h => absurd rfl h
  | [], _ :: _, _ => rfl
  | _ :: _, [], _ => rfl
  | x :: r, y :: s, h => by
    simp only [eqS]
    rw [eqS_ne (by simpa using h)]
    simp
def pairs {α : Type} (bad : α → α → Bool) : List α → List α → Bool
  | _, [] => true
  | pre, x :: r => if pre.any (bad x) then false else pairs bad (pre ++ [x]) r
def pairsW {α : Type} (bad : α → α → Bool) (a : List α) : List α → Bool
  | [] => true
  | x :: r => if a.any (bad x) then false else pairsW bad a r
theorem take_snoc {α : Type} {l : List α} {i : Nat} {e : α} (h : l[i]? = some e) : l.take (i + 1) = l.take i ++ [e] := by
  obtain ⟨h1, h2⟩ := List.getElem?_eq_some_iff.1 h
  rw [List.take_succ_eq_append_getElem h1, h2]
/-- What is sized without falling under zero is short enough, and lowers the count. -/
def SzOk {α : Type} (f : α → Int → Int) (fit ok : α → Prop) : Prop := ∀ x l, fit x → 0 ≤ l → l ≤ 1048576 → 0 ≤ f x l → ok x ∧ f x l ≤ l
theorem wrapSub {n : Nat} {l : Int} (hn : n ≤ maxLen) (h0 : 0 ≤ l) (h1 : l ≤ 1048576) : IntKind.i64.wrap (l - n) = l - n := by
  rw [IntKind.wrap_i64]
  simp only [maxLen] at hn
  omega
def okStr (s : ByteArray) : Prop := s.size ≤ 1048576
theorem szStr_ok : SzOk szStr okS okStr := by
  intro s l hk h0 h1 hs
  unfold szStr at hs ⊢
  rw [wrapSub hk h0 h1] at hs ⊢
  exact ⟨by unfold okStr; omega, by omega⟩
theorem szI_ok {α : Type} {fit : α → Prop} : SzOk (szI : List α → Int → Int) (okL fit) (okSl (fun _ => True)) := by
  intro a l hk h0 h1 hs
  unfold szI at hs ⊢
  rw [wrapSub hk.1 h0 h1] at hs ⊢
  split at hs
  · omega
  · rename_i hc
    rw [if_neg hc]
    exact ⟨⟨by omega, fun _ _ => trivial⟩, by omega⟩
theorem szL_ok {α : Type} {f : α → Int → Int} {fit ok : α → Prop} (h : SzOk f fit ok) : ∀ (a : List α) (l : Int), (∀ x ∈ a, fit x) → 0 ≤ l → l ≤ 1048576 → 0 ≤ szL f a l → (∀ x ∈ a, ok x) ∧ szL f a l ≤ l
  | [], l, _, _, _, _ => ⟨by simp, by simp [szL]⟩
  | x :: r, l, hf, h0, h1, hs => by
    simp only [szL] at hs ⊢
    split at hs
    · omega
    · rename_i hc
      rw [if_neg hc]
      have p := h x l (hf x (by simp)) h0 h1 (by omega)
      have q := szL_ok h r (f x l) (fun y hy => hf y (by simp [hy])) (by omega) (by omega) hs
      refine ⟨fun y hy => ?_, by omega⟩
      rcases List.mem_cons.1 hy with rfl | hy
      · exact p.1
      · exact q.1 y hy
theorem szS_ok {α : Type} {f : α → Int → Int} {fit ok : α → Prop} (h : SzOk f fit ok) : SzOk (szS f) (okL fit) (okSl ok) := by
  intro a l hk h0 h1 hs
  unfold szS at hs ⊢
  rw [wrapSub hk.1 h0 h1] at hs ⊢
  split at hs
  · omega
  · rename_i hc
    rw [if_neg hc]
    have p := szL_ok h a (l - a.length) hk.2 (by omega) (by omega) hs
    exact ⟨⟨by omega, p.1⟩, by omega⟩
/-! ### marks -/
theorem wrap_le (x : Int) : IntKind.i64.wrap x ≤ 9223372036854775807 := by
  rw [IntKind.wrap_i64]; omega
def inc (k : Int) : Int := IntKind.i64.wrap (k + 1)
def dgs (n : Nat) (out : ByteArray) : ByteArray :=
  if h : n = 0 then out else dgs (n / 10) (bytesOf [IntKind.u8.wrap (IntKind.i64.wrap (48 + Int.tmod (n : Int) 10))] ++ out)
termination_by n
decreasing_by omega
def mtext (k : Int) : ByteArray := if k ≤ 0 then ⟨#[109, 48]⟩ else ⟨#[109]⟩ ++ dgs k.toNat ⟨#[]⟩
def mkI (_x : Int) (k : Int) : Int × Int := (k, inc k)
def mkB (_x : Bool) (k : Int) : Bool × Int := (Int.tmod k 3 == 0, inc k)
def mkS (_x : ByteArray) (k : Int) : ByteArray × Int := (mtext k, inc k)
def mkL {α : Type} (f : α → Int → α × Int) : List α → Int → List α × Int
  | [], k => ([], k)
  | x :: r, k => ((f x k).1 :: (mkL f r (f x k).2).1, (mkL f r (f x k).2).2)
def hdI (x k : Int) : Option Int := if x == k then some (inc k) else none
def hdB (x : Bool) (k : Int) : Option Int := if x == (Int.tmod k 3 == 0) then some (inc k) else none
def hdS (x : ByteArray) (k : Int) : Option Int := if x.toList == (mtext k).toList then some (inc k) else none
def hdL {α : Type} (f : α → Int → Option Int) : List α → Int → Option Int
  | [], k => some k
  | x :: r, k => match f x k with | none => none | some k' => hdL f r k'
def hdN {α : Type} (f : α → Int → Option Int) (x : α) (k : Int) : Option Int := match f x k with | none => none | some k' => if k' < 0 then none else some k'
def HdLe {α : Type} (f : α → Int → Option Int) : Prop := ∀ (x : α) (k k' : Int), k ≤ 9223372036854775807 → f x k = some k' → k' ≤ 9223372036854775807
theorem hdI_le : HdLe hdI := by
  intro x k k' _ h
  unfold hdI at h
  split at h
  · cases h; exact wrap_le _
  · cases h
theorem hdB_le : HdLe hdB := by
  intro x k k' _ h
  unfold hdB at h
  split at h
  · cases h; exact wrap_le _
  · cases h
theorem hdS_le : HdLe hdS := by
  intro x k k' _ h
  unfold hdS at h
  split at h
  · cases h; exact wrap_le _
  · cases h
theorem hdL_le {α : Type} {f : α → Int → Option Int} (hf : HdLe f) : HdLe (hdL f) := by
  intro l
  induction l with
  | nil => intro k k' h0 h; simp only [hdL] at h; cases h; exact h0
  | cons x r ih =>
    intro k k' h0 h
    simp only [hdL] at h
    cases e : f x k with
    | none => rw [e] at h; cases h
    | some k1 => rw [e] at h; exact ih k1 k' (hf x k k1 h0 e) h
theorem hdN_le {α : Type} {f : α → Int → Option Int} (hf : HdLe f) : HdLe (hdN f) := by
  intro x k k' h0 h
  unfold hdN at h
  cases e : f x k with
  | none => rw [e] at h; cases h
  | some k1 =>
    rw [e] at h
    simp only [] at h
    split at h
    · cases h
    · cases h; exact hf x k _ h0 e
theorem leD {α : Type} {f : α → Int → Option Int} {x : α} {k : Int} (hf : HdLe f) (hk : k ≤ 9223372036854775807) : (f x k).getD (-1) ≤ 9223372036854775807 := by
  cases e : f x k with
  | none => decide
  | some k1 => exact hf x k k1 hk e
theorem hdN_ok {α : Type} {f : α → Int → Option Int} {x : α} {k : Int} (h : 0 ≤ (f x k).getD (-1)) : hdN f x k = some ((f x k).getD (-1)) := by
  unfold hdN
  cases e : f x k with
  | none => rw [e] at h; simp at h
  | some k1 => rw [e] at h; simp at h; simp; omega
theorem hdN_bad {α : Type} {f : α → Int → Option Int} {x : α} {k : Int} (h : (f x k).getD (-1) < 0) : hdN f x k = none := by
  unfold hdN
  cases e : f x k with
  | none => rfl
  | some k1 => rw [e] at h; simp at h; simp; omega
theorem mkI_le (x k : Int) : (mkI x k).2 ≤ 9223372036854775807 := wrap_le _
theorem mkB_le (x : Bool) (k : Int) : (mkB x k).2 ≤ 9223372036854775807 := wrap_le _
theorem mkS_le (x : ByteArray) (k : Int) : (mkS x k).2 ≤ 9223372036854775807 := wrap_le _
theorem mkL_le {α : Type} {f : α → Int → α × Int} (hf : ∀ x k, (f x k).2 ≤ 9223372036854775807) : ∀ (l : List α) (k : Int), k ≤ 9223372036854775807 → (mkL f l k).2 ≤ 9223372036854775807
  | [], _, h => h
  | x :: r, k, _ => mkL_le hf r _ (hf x k)
theorem mkL_len {α : Type} {f : α → Int → α × Int} : ∀ (l : List α) (k : Int), (mkL f l k).1.length = l.length
  | [], _ => rfl
  | x :: r, k => by simp [mkL, mkL_len r]
theorem mkL_cnt {α : Type} {f : α → Int → α × Int} (c : Nat) (hf : ∀ (x : α) (k : Int), 0 ≤ k → k + c ≤ 4611686018427387904 → (f x k).2 = k + c) : ∀ (l : List α) (k : Int), 0 ≤ k → k + (c * l.length : Nat) ≤ 4611686018427387904 → (mkL f l k).2 = k + (c * l.length : Nat)
  | [], k, _, _ => by simp [mkL]
  | x :: r, k, h0, h1 => by
    have e : c * (x :: r).length = c + c * r.length := by simp [Nat.mul_add]; omega
    rw [e] at h1 ⊢
    have h2 := hf x k h0 (by omega)
    simp only [mkL]
    rw [h2, mkL_cnt c hf r (k + c) (by omega) (by omega)]
    omega
theorem hdL_mk {α : Type} {f : α → Int → α × Int} {h : α → Int → Option Int} (hm : ∀ x k, h (f x k).1 k = some (f x k).2) : ∀ (l : List α) (k : Int), hdL h (mkL f l k).1 k = some (mkL f l k).2
  | [], _ => rfl
  | x :: r, k => by simp [mkL, hdL, hm, hdL_mk hm r]
theorem mk_step {α : Type} (f : α → Int → α × Int) {a b b' : List α} {i : Nat} {ei : α} {l k : Int} (e' : α) (l' : Int) (hi : b[i]? = some ei) (hlen : b.length = a.length) (hdr : b.drop i = a.drop i) (hr : (b.take i ++ (mkL f (a.drop i) l).1, (mkL f (a.drop i) l).2) = mkL f a k)
    (hb : b' = b.set i e') (hf : f ei l = (e', l')) (hl : l' ≤ 9223372036854775807) : i + 1 ≤ b'.length ∧ l' ≤ 9223372036854775807 ∧ b'.length = a.length ∧ b'.drop (i + 1) = a.drop (i + 1) ∧ (b'.take (i + 1) ++ (mkL f (a.drop (i + 1)) l').1, (mkL f (a.drop (i + 1)) l').2) = mkL f a k := by
  have hlt : i < b.length := (List.getElem?_eq_some_iff.1 hi).1
  subst hb
  have h1 : b.drop i = ei :: b.drop (i + 1) := drop_get hi
  have h2 : a.drop (i + 1) = b.drop (i + 1) := by
    have := congrArg List.tail hdr
    simpa using this.symm
  refine ⟨by simp; omega, hl, by simp [hlen], ?_, ?_⟩
  · rw [List.drop_set_of_lt (by omega), h2]
  · rw [← hr, ← hdr, h1, h2]
    simp only [mkL, hf]
    have h3 : (b.set i e').take (i + 1) = b.take i ++ [e'] := by
      rw [List.take_succ_eq_append_getElem (by simp; omega)]
      simp [List.take_set_of_le]
    rw [h3]
    simp
theorem mtext_dgs {k : Int} (h : ¬ k ≤ 0) : mtext k = ⟨#[109]⟩ ++ dgs k.toNat ⟨#[]⟩ := by simp [mtext, h]
theorem dgs_step {n : Int} {out : ByteArray} (h : n > 0) : dgs n.toNat out = dgs (Int.tdiv n 10).toNat (bytesOf [IntKind.u8.wrap (IntKind.i64.wrap (48 + Int.tmod n 10))] ++ out) := by
  rw [dgs, dif_neg (by omega)]
  have e : ((n.toNat : Nat) : Int) = n := by omega
  rw [e]
  congr 1
  rw [Int.tdiv_eq_ediv_of_nonneg (by omega)]
  omega
theorem bytesOf_one (x : Int) : (bytesOf [x]).size = 1 := rfl
theorem mt_dec {n : Int} {s : Nat} (h0 : 0 ≤ n) (hp : n * 10 ^ s ≤ 9223372036854775807) (h : decide (n > 0) = true) : (IntKind.i64.wrap (Int.tdiv n 10)).toNat < n.toNat := by
  have hn : n > 0 := by simpa using h
  have hpos : (0 : Int) < 10 ^ s := Int.pow_pos (by omega)
  have : n * 1 ≤ n * 10 ^ s := Int.mul_le_mul_of_nonneg_left (by omega) (by omega)
  rw [IntKind.wrap_i64, Int.tdiv_eq_ediv_of_nonneg h0]
  omega
theorem mt_step {n k : Int} {out : ByteArray} (h0 : 0 ≤ n) (hp : n * 10 ^ out.size ≤ 9223372036854775807) (hr : dgs n.toNat out = dgs k.toNat ⟨#[]⟩) (h : decide (n > 0) = true) :
    0 ≤ IntKind.i64.wrap (Int.tdiv n 10) ∧ (bytesOf [IntKind.u8.wrap (IntKind.i64.wrap (48 + Int.tmod n 10))] ++ out).size ≤ 60 ∧
      IntKind.i64.wrap (Int.tdiv n 10) * 10 ^ (bytesOf [IntKind.u8.wrap (IntKind.i64.wrap (48 + Int.tmod n 10))] ++ out).size ≤ 9223372036854775807 ∧
      dgs (IntKind.i64.wrap (Int.tdiv n 10)).toNat (bytesOf [IntKind.u8.wrap (IntKind.i64.wrap (48 + Int.tmod n 10))] ++ out) = dgs k.toNat ⟨#[]⟩ := by
  have hn : n > 0 := by simpa using h
  have hpos : (0 : Int) < 10 ^ out.size := Int.pow_pos (by omega)
  have hle : (10 : Int) ^ out.size ≤ 9223372036854775807 := by
    have : (10 : Int) ^ out.size * 1 ≤ 10 ^ out.size * n := Int.mul_le_mul_of_nonneg_left (by omega) (by omega)
    rw [Int.mul_comm (10 ^ out.size) n] at this
    omega
  have hs : out.size < 19 := by
    rcases Nat.lt_or_ge out.size 19 with h1 | h1
    · exact h1
    · exfalso
      have h2 : (10 : Nat) ^ 19 ≤ 10 ^ out.size := Nat.pow_le_pow_right (by omega) h1
      have h3 : ((10 ^ out.size : Nat) : Int) ≤ 9223372036854775807 := by simpa using hle
      omega
  have hnM : n ≤ 9223372036854775807 := by
    have : n * 1 ≤ n * 10 ^ out.size := Int.mul_le_mul_of_nonneg_left (by omega) (by omega)
    omega
  have hw : IntKind.i64.wrap (Int.tdiv n 10) = n / 10 := by
    rw [IntKind.wrap_i64, Int.tdiv_eq_ediv_of_nonneg h0]
    omega
  have hsz : (bytesOf [IntKind.u8.wrap (IntKind.i64.wrap (48 + Int.tmod n 10))] ++ out).size = out.size + 1 := by
    rw [ByteArray.size_append, bytesOf_one]
    omega
  rw [hw, hsz]
  refine ⟨by omega, by omega, ?_, ?_⟩
  · rw [Int.pow_succ, Int.mul_comm (10 ^ out.size) 10, ← Int.mul_assoc]
    have : n / 10 * 10 * 10 ^ out.size ≤ n * 10 ^ out.size := Int.mul_le_mul_of_nonneg_right (by omega) (by omega)
    omega
  · rw [← hr, dgs_step hn, Int.tdiv_eq_ediv_of_nonneg h0]
structure Late where
  num : Int
  text : ByteArray
def Late.c (e : Late) : List T := [.v (.int .i64 e.num), .v (.string e.text)]
theorem Late.len (e : Late) : e.c.length = 2 := rfl
def Late.z : Late := ⟨0, ⟨#[]⟩⟩
def Late.vs (e : Late) : List Value := [.int .i64 e.num, .string e.text]
def eqLate (x y : Late) : Bool := x.num == y.num && (x.text.toList == y.text.toList)
theorem eqLate_refl (x : Late) : eqLate x x = true := by simp [eqLate]
def mkELate (x : Late) (k : Int) : Late × Int := ((⟨(mkI x.num k).1, (mkS x.text (mkI x.num k).2).1⟩ : Late), (mkS x.text (mkI x.num k).2).2)
def hdELate (x : Late) (k0 : Int) : Option Int := match hdI x.num k0 with | none => none | some k1 => match hdS x.text k1 with | none => none | some k2 => some k2
theorem hdELate_le : HdLe hdELate := by
  intro x k k9 h0 h
  unfold hdELate at h
  cases e0 : hdI x.num k with
  | none => rw [e0] at h; cases h
  | some k1 =>
  rw [e0] at h; simp only [] at h
  have h1 := hdI_le _ _ _ h0 e0
  cases e1 : hdS x.text k1 with
  | none => rw [e1] at h; cases h
  | some k2 =>
  rw [e1] at h; simp only [] at h
  have h2 := hdS_le _ _ _ h1 e1
  cases h; exact h2
theorem mkELate_le (x : Late) (k : Int) : (mkELate x k).2 ≤ 9223372036854775807 := by
  simp only [mkELate, mkI, mkB, mkS, inc]; first | exact wrap_le _ | (apply mkL_le)
theorem mkELate_cnt (x : Late) (k : Int) (h0 : 0 ≤ k) (h1 : k + 2 ≤ 4611686018427387904) : (mkELate x k).2 = k + 2 := by
  simp only [mkELate, mkI, mkB, mkS, inc, IntKind.wrap_i64]; omega
theorem hdELate_mk (x : Late) (k : Int) : hdELate (mkELate x k).1 k = some (mkELate x k).2 := by
  simp [hdELate, mkELate, mkI, mkB, mkS, hdI, hdB, hdS]
def szLate (e : Late) (left : Int) : Int := if IntKind.i64.wrap (left - e.text.size) < 0 then -1 else IntKind.i64.wrap (left - e.text.size)
structure Stream where
  state : Int
  iss : Int
  una : Int
  rcv : Int
  wait : ByteArray
  sent : Int
  fin : Int
  peerFin : Bool
  in_ : ByteArray
  late : List Late
  owe : Bool
  due : Int
  times : Int
def Stream.c (e : Stream) : List T := [.v (.int .i64 e.state), .v (.int .i64 e.iss), .v (.int .i64 e.una), .v (.int .i64 e.rcv), .v (.string e.wait), .v (.int .i64 e.sent), .v (.int .i64 e.fin), .v (.bool e.peerFin), .v (.string e.in_), sl 2 Late.c e.late, .v (.bool e.owe), .v (.int .i64 e.due), .v (.int .i64 e.times)]
theorem Stream.len (e : Stream) : e.c.length = 13 := rfl
def Stream.z : Stream := ⟨0, 0, 0, 0, ⟨#[]⟩, 0, 0, false, ⟨#[]⟩, [], false, 0, 0⟩
def eqStream (x y : Stream) : Bool := x.state == y.state && (x.iss == y.iss && (x.una == y.una && (x.rcv == y.rcv && (x.wait.toList == y.wait.toList && (x.sent == y.sent && (x.fin == y.fin && (x.peerFin == y.peerFin && (x.in_.toList == y.in_.toList && ((eqS eqLate) x.late y.late && (x.owe == y.owe && (x.due == y.due && (x.times == y.times))))))))))))
theorem eqStream_refl (x : Stream) : eqStream x x = true := by simp [eqStream, eqS_refl eqLate_refl]
def mkVStream (x : Stream) (k : Int) : Stream × Int := ((⟨x.state, x.iss, x.una, x.rcv, x.wait, x.sent, x.fin, x.peerFin, x.in_, ((mkL mkELate) x.late k).1, x.owe, x.due, x.times⟩ : Stream), ((mkL mkELate) x.late k).2)
def hdVStream (x : Stream) (k0 : Int) : Option Int := match (hdN (hdL hdELate)) x.late k0 with | none => none | some k1 => some k1
theorem hdVStream_le : HdLe hdVStream := by
  intro x k k9 h0 h
  unfold hdVStream at h
  cases e0 : (hdN (hdL hdELate)) x.late k with
  | none => rw [e0] at h; cases h
  | some k1 =>
  rw [e0] at h; simp only [] at h
  have h1 := (hdN_le (hdL_le hdELate_le)) _ _ _ h0 e0
  cases h; exact h1
theorem mkVStream_le (x : Stream) (k : Int) (hk : k ≤ 9223372036854775807) : (mkVStream x k).2 ≤ 9223372036854775807 := by
  simp only [mkVStream]; repeat (first | exact hk | apply mkL_le | apply mkI_le | apply mkS_le | apply mkB_le | apply mkELate_le)
def szStream (e : Stream) (left : Int) : Int := if IntKind.i64.wrap (left - e.wait.size) < 0 then -1 else if IntKind.i64.wrap ((IntKind.i64.wrap (left - e.wait.size)) - e.in_.size) < 0 then -1 else if szS szLate e.late ((IntKind.i64.wrap ((IntKind.i64.wrap (left - e.wait.size)) - e.in_.size))) < 0 then -1 else szS szLate e.late ((IntKind.i64.wrap ((IntKind.i64.wrap (left - e.wait.size)) - e.in_.size)))
structure Seg where
  num : Int
  ack : Int
  flags : Int
  body : ByteArray
def Seg.c (e : Seg) : List T := [.v (.int .i64 e.num), .v (.int .i64 e.ack), .v (.int .i64 e.flags), .v (.string e.body)]
theorem Seg.len (e : Seg) : e.c.length = 4 := rfl
def Seg.z : Seg := ⟨0, 0, 0, ⟨#[]⟩⟩
def Seg.vs (e : Seg) : List Value := [.int .i64 e.num, .int .i64 e.ack, .int .i64 e.flags, .string e.body]
def eqSeg (x y : Seg) : Bool := x.num == y.num && (x.ack == y.ack && (x.flags == y.flags && (x.body.toList == y.body.toList)))
theorem eqSeg_refl (x : Seg) : eqSeg x x = true := by simp [eqSeg]
def szSeg (e : Seg) (left : Int) : Int := if IntKind.i64.wrap (left - e.body.size) < 0 then -1 else IntKind.i64.wrap (left - e.body.size)
structure Bits where
  from_ : Int
  id : Int
  texts : List ByteArray
  ats : List Int
  total : Int
  until_ : Int
def Bits.c (e : Bits) : List T := [.v (.int .i64 e.from_), .v (.int .i64 e.id), sl 1 cS e.texts, sl 1 cI e.ats, .v (.int .i64 e.total), .v (.int .i64 e.until_)]
theorem Bits.len (e : Bits) : e.c.length = 6 := rfl
def Bits.z : Bits := ⟨0, 0, [], [], 0, 0⟩
def eqBits (x y : Bits) : Bool := x.from_ == y.from_ && (x.id == y.id && ((eqS eqStr) x.texts y.texts && ((eqS eqI) x.ats y.ats && (x.total == y.total && (x.until_ == y.until_)))))
theorem eqBits_refl (x : Bits) : eqBits x x = true := by simp [eqBits, eqS_refl eqI_refl, eqS_refl eqStr_refl]
structure Turn where
  kind : Int
  end_ : Int
  at_ : Int
def Turn.c (e : Turn) : List T := [.v (.int .i64 e.kind), .v (.int .i64 e.end_), .v (.int .i64 e.at_)]
theorem Turn.len (e : Turn) : e.c.length = 3 := rfl
def Turn.z : Turn := ⟨0, 0, 0⟩
def Turn.vs (e : Turn) : List Value := [.int .i64 e.kind, .int .i64 e.end_, .int .i64 e.at_]
def eqTurn (x y : Turn) : Bool := x.kind == y.kind && (x.end_ == y.end_ && (x.at_ == y.at_))
theorem eqTurn_refl (x : Turn) : eqTurn x x = true := by simp [eqTurn]
structure l01Cur where
  b : List Int
  i : Int
  h : Int
def l01Cur.c (e : l01Cur) : List T := [sl 1 cU e.b, .v (.int .i64 e.i), .v (.int .i64 e.h)]
theorem l01Cur.len (e : l01Cur) : e.c.length = 3 := rfl
def l01Cur.z : l01Cur := ⟨[], 0, 0⟩
def eql01Cur (x y : l01Cur) : Bool := (eqS eqI) x.b y.b && (x.i == y.i && (x.h == y.h))
theorem eql01Cur_refl (x : l01Cur) : eql01Cur x x = true := by simp [eql01Cur, eqS_refl eqI_refl]
structure Cell where
  to : Int
  from_ : Int
  kind : Int
  body : ByteArray
def Cell.c (e : Cell) : List T := [.v (.int .i64 e.to), .v (.int .i64 e.from_), .v (.int .i64 e.kind), .v (.string e.body)]
theorem Cell.len (e : Cell) : e.c.length = 4 := rfl
def Cell.z : Cell := ⟨0, 0, 0, ⟨#[]⟩⟩
def Cell.vs (e : Cell) : List Value := [.int .i64 e.to, .int .i64 e.from_, .int .i64 e.kind, .string e.body]
def eqCell (x y : Cell) : Bool := x.to == y.to && (x.from_ == y.from_ && (x.kind == y.kind && (x.body.toList == y.body.toList)))
theorem eqCell_refl (x : Cell) : eqCell x x = true := by simp [eqCell]
structure Dgram where
  from_ : Int
  to : Int
  id : Int
  at_ : Int
  more : Bool
  body : ByteArray
def Dgram.c (e : Dgram) : List T := [.v (.int .i64 e.from_), .v (.int .i64 e.to), .v (.int .i64 e.id), .v (.int .i64 e.at_), .v (.bool e.more), .v (.string e.body)]
theorem Dgram.len (e : Dgram) : e.c.length = 6 := rfl
def Dgram.z : Dgram := ⟨0, 0, 0, 0, false, ⟨#[]⟩⟩
def Dgram.vs (e : Dgram) : List Value := [.int .i64 e.from_, .int .i64 e.to, .int .i64 e.id, .int .i64 e.at_, .bool e.more, .string e.body]
def eqDgram (x y : Dgram) : Bool := x.from_ == y.from_ && (x.to == y.to && (x.id == y.id && (x.at_ == y.at_ && (x.more == y.more && (x.body.toList == y.body.toList)))))
theorem eqDgram_refl (x : Dgram) : eqDgram x x = true := by simp [eqDgram]
structure scan where
  text : ByteArray
  at_ : Int
  bad : Bool
def scan.c (e : scan) : List T := [.v (.string e.text), .v (.int .i64 e.at_), .v (.bool e.bad)]
theorem scan.len (e : scan) : e.c.length = 3 := rfl
def scan.z : scan := ⟨⟨#[]⟩, 0, false⟩
def scan.vs (e : scan) : List Value := [.string e.text, .int .i64 e.at_, .bool e.bad]
def eqscan (x y : scan) : Bool := x.text.toList == y.text.toList && (x.at_ == y.at_ && (x.bad == y.bad))
theorem eqscan_refl (x : scan) : eqscan x x = true := by simp [eqscan]
def okToLate (e : Late) : Prop := e.text.size ≤ 1048576
def okToStream (e : Stream) : Prop := e.wait.size ≤ 1048576 ∧ e.in_.size ≤ 1048576 ∧ okSl okToLate e.late
def okToSeg (e : Seg) : Prop := e.body.size ≤ 1048576
def okToBits (e : Bits) : Prop := okSl okStr e.texts ∧ okSl (fun _ => True) e.ats
def okTol01Cur (e : l01Cur) : Prop := okSl (fun _ => True) e.b
def okToCell (e : Cell) : Prop := e.body.size ≤ 1048576
def okToDgram (e : Dgram) : Prop := e.body.size ≤ 1048576
def okToscan (e : scan) : Prop := e.text.size ≤ 1048576
def okLate (e : Late) : Prop := okI e.num ∧ okS e.text
def okStream (e : Stream) : Prop := okI e.state ∧ okI e.iss ∧ okI e.una ∧ okI e.rcv ∧ okS e.wait ∧ okI e.sent ∧ okI e.fin ∧ okB e.peerFin ∧ okS e.in_ ∧ (okL okLate) e.late ∧ okB e.owe ∧ okI e.due ∧ okI e.times
def okSeg (e : Seg) : Prop := okI e.num ∧ okI e.ack ∧ okI e.flags ∧ okS e.body
def okBits (e : Bits) : Prop := okI e.from_ ∧ okI e.id ∧ (okL okS) e.texts ∧ (okL okI) e.ats ∧ okI e.total ∧ okI e.until_
def okTurn (e : Turn) : Prop := okI e.kind ∧ okI e.end_ ∧ okI e.at_
def okl01Cur (e : l01Cur) : Prop := (okL okI) e.b ∧ okI e.i ∧ okI e.h
def okCell (e : Cell) : Prop := okI e.to ∧ okI e.from_ ∧ okI e.kind ∧ okS e.body
def okDgram (e : Dgram) : Prop := okI e.from_ ∧ okI e.to ∧ okI e.id ∧ okI e.at_ ∧ okB e.more ∧ okS e.body
def okscan (e : scan) : Prop := okS e.text ∧ okI e.at_ ∧ okB e.bad
theorem szLate_ok : SzOk szLate okLate okToLate := by
  intro e l hk h0 h1 hs
  unfold szLate at hs ⊢
  by_cases c0 : IntKind.i64.wrap (l - e.text.size) < 0
  · rw [if_pos c0] at hs; omega
  rw [if_neg c0] at hs ⊢
  have p0 := szStr_ok e.text (l) hk.2 (by omega) (by omega) (by show 0 ≤ IntKind.i64.wrap (l - e.text.size); omega)
  have q0 : IntKind.i64.wrap (l - e.text.size) ≤ l := p0.2
  exact ⟨p0.1, by omega⟩
theorem szStream_ok : SzOk szStream okStream okToStream := by
  intro e l hk h0 h1 hs
  unfold szStream at hs ⊢
  by_cases c0 : IntKind.i64.wrap (l - e.wait.size) < 0
  · rw [if_pos c0] at hs; omega
  rw [if_neg c0] at hs ⊢
  have p0 := szStr_ok e.wait (l) hk.2.2.2.2.1 (by omega) (by omega) (by show 0 ≤ IntKind.i64.wrap (l - e.wait.size); omega)
  have q0 : IntKind.i64.wrap (l - e.wait.size) ≤ l := p0.2
  by_cases c1 : IntKind.i64.wrap ((IntKind.i64.wrap (l - e.wait.size)) - e.in_.size) < 0
  · rw [if_pos c1] at hs; omega
  rw [if_neg c1] at hs ⊢
  have p1 := szStr_ok e.in_ ((IntKind.i64.wrap (l - e.wait.size))) hk.2.2.2.2.2.2.2.2.1 (by omega) (by omega) (by show 0 ≤ IntKind.i64.wrap ((IntKind.i64.wrap (l - e.wait.size)) - e.in_.size); omega)
  have q1 : IntKind.i64.wrap ((IntKind.i64.wrap (l - e.wait.size)) - e.in_.size) ≤ (IntKind.i64.wrap (l - e.wait.size)) := p1.2
  by_cases c2 : szS szLate e.late ((IntKind.i64.wrap ((IntKind.i64.wrap (l - e.wait.size)) - e.in_.size))) < 0
  · rw [if_pos c2] at hs; omega
  rw [if_neg c2] at hs ⊢
  have p2 := (szS_ok szLate_ok) e.late ((IntKind.i64.wrap ((IntKind.i64.wrap (l - e.wait.size)) - e.in_.size))) hk.2.2.2.2.2.2.2.2.2.1 (by omega) (by omega) (by show 0 ≤ szS szLate e.late ((IntKind.i64.wrap ((IntKind.i64.wrap (l - e.wait.size)) - e.in_.size))); omega)
  have q2 : szS szLate e.late ((IntKind.i64.wrap ((IntKind.i64.wrap (l - e.wait.size)) - e.in_.size))) ≤ (IntKind.i64.wrap ((IntKind.i64.wrap (l - e.wait.size)) - e.in_.size)) := p2.2
  exact ⟨⟨p0.1, p1.1, p2.1⟩, by omega⟩
theorem szSeg_ok : SzOk szSeg okSeg okToSeg := by
  intro e l hk h0 h1 hs
  unfold szSeg at hs ⊢
  by_cases c0 : IntKind.i64.wrap (l - e.body.size) < 0
  · rw [if_pos c0] at hs; omega
  rw [if_neg c0] at hs ⊢
  have p0 := szStr_ok e.body (l) hk.2.2.2 (by omega) (by omega) (by show 0 ≤ IntKind.i64.wrap (l - e.body.size); omega)
  have q0 : IntKind.i64.wrap (l - e.body.size) ≤ l := p0.2
  exact ⟨p0.1, by omega⟩
def inR (n x y : Int) : Bool := decide (n ≥ x) && decide (n ≤ y)
theorem ba_ext {x y : ByteArray} (h : x.toList = y.toList) : x = y := by
  rw [ByteArray.toList_eq, ByteArray.toList_eq] at h
  exact ByteArray.ext (Array.ext' h)
/-! ### lists -/
def idxF {α : Type} (p : α → Bool) (a : List α) : Int := match a.findIdx? p with | none => -1 | some i => (i : Int)
theorem findIdx_at {α : Type} {p : α → Bool} : ∀ {a : List α} {i : Nat} {e : α}, (a.take i).any p = false → a[i]? = some e → p e = true → a.findIdx? p = some i
  | [], i, e, _, h, _ => by simp at h
  | x :: r, 0, e, _, h, hp => by
    simp at h
    subst h
    simp [List.findIdx?_cons, hp]
  | x :: r, i + 1, e, ha, h, hp => by
    simp only [List.take_succ_cons, List.any_cons, Bool.or_eq_false_iff] at ha
    have := findIdx_at (a := r) ha.2 (by simpa using h) hp
    simp [List.findIdx?_cons, ha.1, this]
theorem idxF_at {α : Type} {p : α → Bool} {a : List α} {i : Nat} {e : α} (ha : (a.take i).any p = false) (h : a[i]? = some e) (hp : p e = true) : (i : Int) = idxF p a := by
  simp [idxF, findIdx_at ha h hp]
theorem idxF_no {α : Type} {p : α → Bool} {a : List α} {i : Nat} (ha : (a.take i).any p = false) (hi : a.length ≤ i) : -1 = idxF p a := by
  rw [List.take_of_length_le hi] at ha
  have : a.findIdx? p = none := by
    rw [List.findIdx?_eq_none_iff]
    intro x hx
    have := List.any_eq_false.1 ha x hx
    simpa using this
  simp [idxF, this]
theorem any_snoc {α : Type} {p : α → Bool} {a : List α} {i : Nat} {e : α} (ha : (a.take i).any p = false) (h : a[i]? = some e) (hp : p e = false) : (a.take (i + 1)).any p = false := by
  rw [take_snoc h, List.any_append, ha]
  simp [hp]
theorem getD_mem {α : Type} {l : List α} {j : Nat} {z : α} (h : j < l.length) : l.getD j z ∈ l := by
  rw [List.getD_eq_getElem?_getD, List.getElem?_eq_getElem h]
  exact List.getElem_mem h
theorem all_snoc {α : Type} {p : α → Bool} {a : List α} {i : Nat} {e : α} (ha : (a.take i).all p = true) (h : a[i]? = some e) (hp : p e = true) : (a.take (i + 1)).all p = true := by
  rw [take_snoc h, List.all_append, ha]
  simp [hp]
theorem all_not {α : Type} {p : α → Bool} {a : List α} {i : Nat} {e : α} (h : a[i]? = some e) (hp : p e = false) : a.all p = false := by
  rw [List.all_eq_false]
  exact ⟨e, List.mem_of_getElem? h, by simp [hp]⟩
/-! ### numbers that turn -/
theorem andI_low (x : Int) : andI x 65535 = x % 65536 := by
  unfold andI
  have h1 : (BitVec.ofInt 64 x &&& BitVec.ofInt 64 65535).toNat = (x % 65536).toNat := by
    rw [BitVec.toNat_and, BitVec.toNat_ofInt, BitVec.toNat_ofInt]
    have : ((65535 : Int) % ((2 ^ 64 : Nat) : Int)).toNat = 2 ^ 16 - 1 := by decide
    rw [this, Nat.and_two_pow_sub_one_eq_mod]
    have : ((2 ^ 64 : Nat) : Int) = 18446744073709551616 := by decide
    rw [this]
    omega
  rw [h1, IntKind.wrap_i64]
  omega
def addNum (a n : Int) : Int := (a + n) % 65536
def gap (a b : Int) : Int := (b - a) % 65536
theorem andI_wrap (x : Int) : andI (IntKind.i64.wrap x) 65535 = x % 65536 := by
  rw [andI_low, IntKind.wrap_i64]
  omega
theorem gap_impl (a b : Int) : addNum b (IntKind.i64.wrap (0 - a)) = gap a b := by
  unfold addNum gap
  rw [IntKind.wrap_i64]
  omega
theorem gap_in (a b : Int) : 0 ≤ gap a b ∧ gap a b < 65536 := by
  unfold gap
  omega
theorem addNum_in (a n : Int) : inR (addNum a n) 0 65535 = true := by
  unfold addNum inR
  simp
  omega
def isWord (n : Int) : Bool := inR n 0 65535
def hasB (f k : Int) : Bool := Int.tmod (IntKind.i64.wrap (Int.tdiv f k)) 2 == 1
theorem bits_in {f : Int} (h : inR f 0 7 = true) : (andI f 1 == 0) = !hasB f 1 ∧ (andI f 2 == 0) = !hasB f 2 ∧ (andI f 4 == 0) = !hasB f 4 := by
  simp only [inR, Bool.and_eq_true, decide_eq_true_eq] at h
  have : f = 0 ∨ f = 1 ∨ f = 2 ∨ f = 3 ∨ f = 4 ∨ f = 5 ∨ f = 6 ∨ f = 7 := by omega
  rcases this with rfl | rfl | rfl | rfl | rfl | rfl | rfl | rfl <;> decide
/-! ### streams -/
def emp (s : ByteArray) : Bool := s.toList == (⟨#[]⟩ : ByteArray).toList
def segOk (s : Seg) : Bool := isWord s.num && isWord s.ack && inR s.flags 0 7 && decide ((s.body.size : Int) ≤ 8) && (emp s.body || !hasB s.flags 1) && (s.ack == 0 || hasB s.flags 2)
def lateOk (l : Late) : Bool := inR (l.text.size : Int) 1 8 && isWord l.num
def streamOk (x : Stream) : Bool :=
  x.late.all lateOk && inR x.state 0 4 && isWord x.iss && isWord x.una && isWord x.rcv && decide ((x.wait.size : Int) ≤ 200) &&
  inR x.fin 0 3 && (!(x.fin == 2) || x.sent == (x.wait.size : Int)) && (!(x.fin == 3) || emp x.wait) && decide ((x.in_.size : Int) ≤ 1000) && decide ((x.late.length : Int) ≤ 8) &&
  inR x.sent 0 (mnI (x.wait.size : Int) 24) && inR x.due 0 1000000000 && inR x.times 0 12
def againN (x : Stream) (now : Int) : Stream := { x with times := mnI (IntKind.i64.wrap (x.times + 1)) 12, due := IntKind.i64.wrap (now + mnI 64 (shlI 1 (mnI (IntKind.i64.wrap (x.times + 1)) 12))) }
def resetN (x : Stream) : Stream := { x with due := 0, times := 0 }
def flagN (b : Bool) : Int := if b then 1 else 0
def ackedN (x : Stream) (ack : Int) : Stream :=
  if !(inR (gap x.una ack) 1 (IntKind.i64.wrap (x.sent + flagN (x.fin == 2)))) then x else
  { x with fin := if gap x.una ack > x.sent then 3 else x.fin, wait := x.wait.extract (mnI (gap x.una ack) x.sent).toNat (x.wait.size : Int).toNat, sent := IntKind.i64.wrap (x.sent - mnI (gap x.una ack) x.sent), una := ack, times := 0 }
def takeN (x : Stream) (num : Int) (text : ByteArray) : Stream :=
  if gap num x.rcv < (text.size : Int) then { x with in_ := x.in_ ++ text.extract (gap num x.rcv).toNat (text.size : Int).toNat, rcv := addNum x.rcv (IntKind.i64.wrap ((text.size : Int) - gap num x.rcv)) } else x
/-- What lies behind Rcv, or at it. -/
def covers (rcv : Int) (l : Late) : Bool := decide (gap l.num rcv < 32768)
def drain : Nat → Stream → Stream
  | 0, x => x
  | n + 1, x => match x.late.findIdx? (covers x.rcv) with
    | none => x
    | some k => drain n (takeN { x with late := x.late.eraseIdx k } (x.late.getD k Late.z).num (x.late.getD k Late.z).text)
def partT (x : Stream) (num : Int) (text : ByteArray) : Stream :=
  if gap num x.rcv < 32768 then drain 9 (takeN x num text) else
  if gap x.rcv num < 64 && decide ((x.late.length : Int) < 8) && !(x.late.any fun l => l.num == num) then drain 9 { x with late := x.late ++ [⟨num, text⟩] } else drain 9 x
def partN (x : Stream) (s : Seg) : Stream := partT x s.num s.body
theorem takeN_late (x : Stream) (num : Int) (text : ByteArray) : (takeN x num text).late = x.late := by
  unfold takeN
  split <;> rfl
theorem takeN_no {x : Stream} {num : Int} {text : ByteArray} (ht : text.size ≤ 8) (h : ¬ gap num x.rcv < 32768) : takeN x num text = x := by
  unfold takeN
  rw [if_neg (by omega)]
theorem takeN_in (x : Stream) (num : Int) (text : ByteArray) : (takeN x num text).in_.size ≤ x.in_.size + text.size := by
  unfold takeN
  split
  · simp only [ByteArray.size_append, ByteArray.size_extract]
    omega
  · simp
theorem takeN_sent (x : Stream) (num : Int) (text : ByteArray) : (takeN x num text).sent = x.sent ∧ (takeN x num text).wait = x.wait := by
  unfold takeN
  split <;> exact ⟨rfl, rfl⟩
theorem takeN_set (x : Stream) (num : Int) (text : ByteArray) (L : List Late) : takeN { x with late := L } num text = { takeN x num text with late := L } := by
  unfold takeN
  simp only []
  split <;> rfl
def partOk (x : Stream) : Prop := x.in_.size + 8 * x.late.length ≤ 2000 ∧ x.late.length ≤ 9 ∧ ∀ l ∈ x.late, l.text.size ≤ 8
def partIn (x : Stream) : Prop := x.in_.size ≤ 1000 ∧ x.late.length ≤ 8 ∧ ∀ l ∈ x.late, l.text.size ≤ 8
theorem partIn.a {x : Stream} (h : partIn x) {num : Int} {text : ByteArray} (ht : text.size ≤ 8) : partOk (takeN x num text) := by
  have := takeN_in x num text
  refine ⟨?_, ?_, ?_⟩
  · rw [takeN_late]
    have := h.1
    have := h.2.1
    omega
  · rw [takeN_late]
    have := h.2.1
    omega
  · rw [takeN_late]
    exact h.2.2
theorem partIn.b {x : Stream} (h : partIn x) {num : Int} {text : ByteArray} (ht : text.size ≤ 8) : partOk { takeN x num text with late := (takeN x num text).late ++ [⟨num, text⟩] } := by
  have := takeN_in x num text
  refine ⟨?_, ?_, ?_⟩
  · simp only [takeN_late, List.length_append, List.length_singleton]
    have := h.1
    have := h.2.1
    omega
  · simp only [takeN_late, List.length_append, List.length_singleton]
    have := h.2.1
    omega
  · simp only [takeN_late]
    intro l hl
    rcases List.mem_append.1 hl with hl | hl
    · exact h.2.2 l hl
    · obtain rfl := List.mem_singleton.1 hl
      exact ht
def partV (x : Stream) (num : Int) (text : ByteArray) : Bool :=
  (!decide (gap num x.rcv < 32768)) && decide (gap (takeN x num text).rcv num < 64) && decide (((takeN x num text).late.length : Int) < 8) && !((takeN x num text).late.any fun l => l.num == num)
theorem partT_yes {x : Stream} {num : Int} {text : ByteArray} (ht : text.size ≤ 8) (h : partV x num text = true) : partT x num text = drain 9 { takeN x num text with late := (takeN x num text).late ++ [⟨num, text⟩] } := by
  simp only [partV, Bool.and_eq_true, Bool.not_eq_true', decide_eq_false_iff_not] at h
  have hn := h.1.1.1
  rw [takeN_no ht hn] at h ⊢
  rw [partT, if_neg hn, if_pos]
  simp only [Bool.and_eq_true, Bool.not_eq_true']
  exact ⟨⟨h.1.1.2, h.1.2⟩, h.2⟩
theorem partT_no {x : Stream} {num : Int} {text : ByteArray} (ht : text.size ≤ 8) (h : partV x num text = false) : partT x num text = drain 9 (takeN x num text) := by
  by_cases hn : gap num x.rcv < 32768
  · rw [partT, if_pos hn]
  · rw [partV, takeN_no ht hn] at h
    rw [partT, if_neg hn, takeN_no ht hn, if_neg]
    simpa [hn, and_assoc] using h
structure DrP (y0 : Stream) (n i : Nat) (y : Stream) : Prop where
  le : y.late.length ≤ n
  n9 : n ≤ 9
  hi : i ≤ y.late.length
  no : (y.late.take i).any (covers y.rcv) = false
  eq : drain n y = drain 9 y0
  ok : partOk y
theorem DrP.init {y : Stream} (h : partOk y) : DrP y 9 0 y := ⟨h.2.1, by omega, by omega, by simp, rfl, h⟩
theorem DrP.len {y0 y : Stream} {n i : Nat} (h : DrP y0 n i y) : y.late.length ≤ maxLen := by
  have := h.ok.2.1
  simp only [maxLen]
  omega
theorem DrP.text {y0 y : Stream} {n i : Nat} {e : Late} (h : DrP y0 n i y) (he : y.late[i]? = some e) : e.text.size ≤ 8 ∧ y.in_.size ≤ 2000 :=
  ⟨h.ok.2.2 e (List.mem_of_getElem? he), by have := h.ok.1; omega⟩
theorem DrP.stay {y0 y : Stream} {n i : Nat} {e : Late} (h : DrP y0 n i y) (he : y.late[i]? = some e) (hc : ¬ gap e.num y.rcv < 32768) : DrP y0 n (i + 1) (takeN y e.num e.text) := by
  rw [takeN_no (h.text he).1 hc]
  refine ⟨h.le, h.n9, (List.getElem?_eq_some_iff.1 he).1, ?_, h.eq, h.ok⟩
  exact any_snoc h.no he (by simpa [covers] using hc)
theorem DrP.go {y0 y : Stream} {n i : Nat} {e : Late} (h : DrP y0 n i y) (he : y.late[i]? = some e) (hc : gap e.num y.rcv < 32768) :
    DrP y0 (n - 1) 0 { takeN y e.num e.text with late := (takeN y e.num e.text).late.take i ++ (takeN y e.num e.text).late.drop (i + 1) } := by
  have hlt := (List.getElem?_eq_some_iff.1 he).1
  have hf : y.late.findIdx? (covers y.rcv) = some i := findIdx_at h.no he (by simpa [covers] using hc)
  obtain ⟨m, rfl⟩ : ∃ m, n = m + 1 := ⟨n - 1, by have := h.le; omega⟩
  have hd : y.late.getD i Late.z = e := by simp [List.getD_eq_getElem?_getD, he]
  have hl : (y.late.take i ++ y.late.drop (i + 1)).length = y.late.length - 1 := by simp; omega
  have h1 := h.ok
  have h2 := takeN_in y e.num e.text
  have h3 := (h.text he).1
  rw [takeN_late]
  refine ⟨?_, by have := h.n9; omega, by omega, by simp, ?_, ?_⟩
  · simp only [hl]
    have := h.le
    omega
  · rw [← h.eq, drain]
    simp only [hf, hd]
    rw [List.eraseIdx_eq_take_drop_succ]
    exact congrArg (drain m) (takeN_set y e.num e.text _).symm
  · refine ⟨?_, ?_, fun l hl' => ?_⟩
    · simp only [hl]
      have := h1.1
      omega
    · simp only [hl]
      have := h1.2.1
      omega
    · have : l ∈ y.late := by
        rcases List.mem_append.1 hl' with h | h
        · exact List.mem_of_mem_take h
        · exact List.mem_of_mem_drop h
      exact h1.2.2 l this
theorem DrP.fin {y0 y : Stream} {n i : Nat} (h : DrP y0 n i y) (hi : y.late.length ≤ i) : y = drain 9 y0 := by
  rw [← h.eq]
  cases n with
  | zero => rfl
  | succ n =>
    have : y.late.findIdx? (covers y.rcv) = none := by
      rw [List.findIdx?_eq_none_iff]
      intro x hx
      have h1 := h.no
      rw [List.take_of_length_le hi] at h1
      simpa using List.any_eq_false.1 h1 x hx
    simp [drain, this]
theorem DrP.mu {y : Stream} {n i : Nat} {e : Late} {y0 : Stream} (h : DrP y0 n i y) (he : y.late[i]? = some e) : 100 * (n - 1) + (((takeN y e.num e.text).late.take i ++ (takeN y e.num e.text).late.drop (i + 1)).length - 0) < 100 * n + (y.late.length - i) := by
  have hlt := (List.getElem?_eq_some_iff.1 he).1
  have := h.le
  have := h.n9
  rw [takeN_late]
  simp
  omega
theorem wrap_pred {n : Nat} (h : n ≤ maxLen) : IntKind.i64.wrap ((n : Int) - 1) = (n : Int) - 1 := by
  rw [IntKind.wrap_i64]
  simp only [maxLen] at h
  omega
theorem wrap_pp {i n : Nat} (h1 : 0 < i) (h2 : i ≤ n) (h : n ≤ maxLen) : IntKind.i64.wrap ((i : Int) - 1 - 1) = ((i - 1 : Nat) : Int) - 1 := by
  rw [IntKind.wrap_i64]
  simp only [maxLen] at h
  omega
def preT (x : Stream) (num : Int) (text : ByteArray) : Stream :=
  if gap num x.rcv < 32768 then takeN x num text else
  if gap x.rcv num < 64 && decide ((x.late.length : Int) < 8) && !(x.late.any fun l => l.num == num) then { x with late := x.late ++ [⟨num, text⟩] } else x
theorem partT_pre (x : Stream) (num : Int) (text : ByteArray) : partT x num text = drain 9 (preT x num text) := by
  unfold partT preT
  split
  · rfl
  · split <;> rfl
theorem preT_ok {x : Stream} (h : partIn x) {num : Int} {text : ByteArray} (ht : text.size ≤ 8) : partOk (preT x num text) := by
  unfold preT
  split
  · exact h.a ht
  · rename_i hn
    split
    · have := h.b (num := num) ht
      rw [takeN_no ht hn] at this
      exact this
    · have := h.a (num := num) ht
      rw [takeN_no ht hn] at this
      exact this
def kF (p : Late → Bool) (l : List Late) (i : Nat) : Int := match (l.drop i).findIdx? p with | none => -1 | some q => ((i + q : Nat) : Int)
theorem kF_end (p : Late → Bool) (l : List Late) : (-1 : Int) = kF p l l.length := by simp [kF]
theorem kF_yes {p : Late → Bool} {l : List Late} {i : Nat} {e : Late} (hi : 0 < i) (he : l[i - 1]? = some e) (h : p e = true) : (i : Int) - 1 = kF p l (i - 1) := by
  rw [kF, drop_get he]
  simp [List.findIdx?_cons, h]
  omega
theorem kF_no {p : Late → Bool} {l : List Late} {i : Nat} {e : Late} (hi : 0 < i) (he : l[i - 1]? = some e) (h : p e = false) : kF p l i = kF p l (i - 1) := by
  rw [kF, kF, drop_get he]
  have : i - 1 + 1 = i := by omega
  rw [this]
  simp only [List.findIdx?_cons, h]
  cases (l.drop i).findIdx? p with
  | none => rfl
  | some q => simp; omega
theorem kF_neg {p : Late → Bool} {l : List Late} (h : kF p l 0 < 0) : l.findIdx? p = none := by
  unfold kF at h
  rw [List.drop_zero] at h
  split at h
  · assumption
  · omega
theorem kF_pos {p : Late → Bool} {l : List Late} {k : Int} (hk : k = kF p l 0) (h : ¬ k < 0) : ∃ q : Nat, k = (q : Int) ∧ l.findIdx? p = some q ∧ q < l.length := by
  unfold kF at hk
  rw [List.drop_zero] at hk
  split at hk
  · omega
  · rename_i q hq
    have h1 := hq
    rw [List.findIdx?_eq_some_iff_getElem] at h1
    exact ⟨q, by simpa using hk, hq, h1.1⟩
structure SpP (y0 : Stream) (r : Nat) (y : Stream) : Prop where
  r9 : r ≤ 9
  eq : drain (9 - r) y = drain 9 y0
  ok : partOk y
theorem SpP.init {y : Stream} (h : partOk y) : SpP y 0 y := ⟨by omega, rfl, h⟩
theorem SpP.len {y0 y : Stream} {r : Nat} (h : SpP y0 r y) : y.late.length ≤ maxLen := by
  have := h.ok.2.1
  simp only [maxLen]
  omega
theorem SpP.stop {y0 y : Stream} {r : Nat} (h : SpP y0 r y) (hf : y.late.findIdx? (covers y.rcv) = none) : y = drain 9 y0 := by
  rw [← h.eq]
  cases 9 - r with
  | zero => rfl
  | succ n => simp [drain, hf]
theorem SpP.fin {y0 y : Stream} {r : Nat} (h : SpP y0 r y) (hr : 9 ≤ r) : y = drain 9 y0 := by
  rw [← h.eq, show 9 - r = 0 by omega]
  rfl
theorem SpP.go {y0 y : Stream} {r q : Nat} {e : Late} (h : SpP y0 r y) (hr : r < 9) (hf : y.late.findIdx? (covers y.rcv) = some q) (he : y.late[q]? = some e) :
    SpP y0 (r + 1) (takeN { y with late := ([] ++ y.late.take q) ++ y.late.drop (q + 1) } e.num e.text) := by
  have hlt := (List.getElem?_eq_some_iff.1 he).1
  have hd : y.late.getD q Late.z = e := by simp [List.getD_eq_getElem?_getD, he]
  have hl : (y.late.take q ++ y.late.drop (q + 1)).length = y.late.length - 1 := by simp; omega
  have h1 := h.ok
  have h3 := h1.2.2 e (List.mem_of_getElem? he)
  have h2 := takeN_in { y with late := ([] ++ y.late.take q) ++ y.late.drop (q + 1) } e.num e.text
  refine ⟨by omega, ?_, ?_⟩
  · rw [← h.eq, show 9 - r = (9 - (r + 1)) + 1 by omega, drain]
    simp only [hf, hd, List.nil_append]
    rw [List.eraseIdx_eq_take_drop_succ]
  · refine ⟨?_, ?_, fun l hl' => ?_⟩
    · rw [takeN_late]
      simp only [List.nil_append, hl] at h2 ⊢
      have := h1.1
      omega
    · rw [takeN_late]
      simp only [List.nil_append, hl]
      have := h1.2.1
      omega
    · rw [takeN_late] at hl'
      have : l ∈ y.late := by
        rcases List.mem_append.1 hl' with h | h
        · exact List.mem_of_mem_take (by simpa using h)
        · exact List.mem_of_mem_drop h
      exact h1.2.2 l this
theorem addNum_spec (a n : Int) : addNum a n = if Int.tmod (IntKind.i64.wrap (Int.tmod a 65536 + Int.tmod n 65536)) 65536 < 0 then IntKind.i64.wrap (Int.tmod (IntKind.i64.wrap (Int.tmod a 65536 + Int.tmod n 65536)) 65536 + 65536) else Int.tmod (IntKind.i64.wrap (Int.tmod a 65536 + Int.tmod n 65536)) 65536 := by
  have h1 := Int.tmod_def a 65536
  have hA : -65536 < Int.tmod a 65536 ∧ Int.tmod a 65536 < 65536 ∧ (Int.tmod a 65536 - a) % 65536 = 0 := by
    rcases Int.lt_or_le a 0 with h | h
    · have : Int.tmod a 65536 = -Int.tmod (-a) 65536 := by rw [Int.neg_tmod]; omega
      rw [this, Int.tmod_eq_emod_of_nonneg (by omega)]
      omega
    · rw [Int.tmod_eq_emod_of_nonneg h]
      omega
  have hN : -65536 < Int.tmod n 65536 ∧ Int.tmod n 65536 < 65536 ∧ (Int.tmod n 65536 - n) % 65536 = 0 := by
    rcases Int.lt_or_le n 0 with h | h
    · have : Int.tmod n 65536 = -Int.tmod (-n) 65536 := by rw [Int.neg_tmod]; omega
      rw [this, Int.tmod_eq_emod_of_nonneg (by omega)]
      omega
    · rw [Int.tmod_eq_emod_of_nonneg h]
      omega
  clear h1
  generalize Int.tmod a 65536 = a' at *
  generalize Int.tmod n 65536 = n' at *
  have hw : IntKind.i64.wrap (a' + n') = a' + n' := by rw [IntKind.wrap_i64]; omega
  rw [hw]
  have hS : -65536 < Int.tmod (a' + n') 65536 ∧ Int.tmod (a' + n') 65536 < 65536 ∧ (Int.tmod (a' + n') 65536 - (a' + n')) % 65536 = 0 := by
    rcases Int.lt_or_le (a' + n') 0 with h | h
    · have : Int.tmod (a' + n') 65536 = -Int.tmod (-(a' + n')) 65536 := by rw [Int.neg_tmod]; omega
      rw [this, Int.tmod_eq_emod_of_nonneg (by omega)]
      omega
    · rw [Int.tmod_eq_emod_of_nonneg h]
      omega
  generalize Int.tmod (a' + n') 65536 = c at *
  have hw2 : IntKind.i64.wrap (c + 65536) = c + 65536 := by rw [IntKind.wrap_i64]; omega
  rw [hw2]
  unfold addNum
  split <;> omega
theorem gap_spec (a b : Int) : addNum (Int.tmod b 65536) (IntKind.i64.wrap (0 - Int.tmod a 65536)) = gap a b := by
  have hA : -65536 < Int.tmod a 65536 ∧ Int.tmod a 65536 < 65536 ∧ (Int.tmod a 65536 - a) % 65536 = 0 := by
    rcases Int.lt_or_le a 0 with h | h
    · have : Int.tmod a 65536 = -Int.tmod (-a) 65536 := by rw [Int.neg_tmod]; omega
      rw [this, Int.tmod_eq_emod_of_nonneg (by omega)]
      omega
    · rw [Int.tmod_eq_emod_of_nonneg h]
      omega
  have hB : -65536 < Int.tmod b 65536 ∧ Int.tmod b 65536 < 65536 ∧ (Int.tmod b 65536 - b) % 65536 = 0 := by
    rcases Int.lt_or_le b 0 with h | h
    · have : Int.tmod b 65536 = -Int.tmod (-b) 65536 := by rw [Int.neg_tmod]; omega
      rw [this, Int.tmod_eq_emod_of_nonneg (by omega)]
      omega
    · rw [Int.tmod_eq_emod_of_nonneg h]
      omega
  generalize Int.tmod a 65536 = a' at *
  generalize Int.tmod b 65536 = b' at *
  have hw : IntKind.i64.wrap (0 - a') = -a' := by rw [IntKind.wrap_i64]; omega
  rw [hw]
  unfold addNum gap
  omega
def finN (x : Stream) (s : Seg) : Stream :=
  if addNum s.num (s.body.size : Int) == x.rcv && !x.peerFin then { x with owe := true, peerFin := true, rcv := addNum x.rcv 1 } else { x with owe := true }
def hearOpenN (x : Stream) (s : Seg) : Stream :=
  let a := if hasB s.flags 2 then ackedN x s.ack else x
  let b := if emp s.body then a else partN { a with owe := true } s
  if hasB s.flags 4 then finN b s else b
def heardN (x : Stream) (s : Seg) : Stream := if hasB s.flags 1 then { x with owe := true } else hearOpenN x s
def hearN (x : Stream) (s : Seg) : Stream :=
  if x.state == 1 then (if hasB s.flags 1 && !hasB s.flags 2 then { x with rcv := addNum s.num 1, state := 3 } else x) else
  if x.state == 2 then (if hasB s.flags 1 && hasB s.flags 2 && s.ack == addNum x.iss 1 then resetN { x with rcv := addNum s.num 1, una := addNum x.iss 1, state := 4, owe := true } else x) else
  if x.state == 3 then (if hasB s.flags 1 then resetN x else if hasB s.flags 2 && s.ack == addNum x.iss 1 then hearOpenN (resetN { x with una := addNum x.iss 1, state := 4 }) s else x) else
  if x.state == 4 then (if hasB s.flags 1 then { x with owe := true } else hearOpenN x s) else x
theorem hearN_heard (x : Stream) (s : Seg) : hearN x s =
  if x.state == 1 then (if hasB s.flags 1 && !hasB s.flags 2 then { x with rcv := addNum s.num 1, state := 3 } else x) else
  if x.state == 2 then (if hasB s.flags 1 && hasB s.flags 2 && s.ack == addNum x.iss 1 then { x with rcv := addNum s.num 1, una := s.ack, state := 4, owe := true, due := 0, times := 0 } else x) else
  if x.state == 3 then (if hasB s.flags 1 then { x with due := 0, times := 0 } else if hasB s.flags 2 && s.ack == addNum x.iss 1 then heardN { x with una := s.ack, state := 4, due := 0, times := 0 } s else x) else
  if x.state == 4 then heardN x s else x := by
  unfold hearN heardN resetN
  cases h1 : hasB s.flags 1 <;> cases h2 : hasB s.flags 2 <;> cases h3 : (s.ack == addNum x.iss 1) <;> simp
  all_goals (simp at h3; simp [h3])
def hear (x : Stream) (s : Seg) : Stream :=
  if !streamOk x || !segOk s then x else if decide (((hearN x s).in_.size : Int) > 1000) then x else hearN x s
def sentOk (x : Stream) : Prop := 0 ≤ x.sent ∧ x.sent ≤ (x.wait.size : Int) ∧ x.sent ≤ 24
theorem streamOk_all {x : Stream} (h : streamOk x = true) : 0 ≤ x.sent ∧ x.sent ≤ (x.wait.size : Int) ∧ x.sent ≤ 24 ∧ x.wait.size ≤ 200 ∧ 0 ≤ x.times ∧ x.times ≤ 12 ∧ 0 ≤ x.due ∧ x.due ≤ 1000000000 ∧ x.in_.size ≤ 1000 ∧ x.late.length ≤ 8 := by
  unfold streamOk inR mnI at h
  simp only [Bool.and_eq_true, decide_eq_true_eq] at h
  omega
theorem streamOk_sent {x : Stream} (h : streamOk x = true) : sentOk x := ⟨(streamOk_all h).1, (streamOk_all h).2.1, (streamOk_all h).2.2.1⟩
theorem streamOk_part {x : Stream} (h : streamOk x = true) : partIn x := by
  have h1 := streamOk_all h
  refine ⟨by omega, by omega, fun l hl => ?_⟩
  unfold streamOk at h
  simp only [Bool.and_eq_true] at h
  have h2 := h.1.1.1.1.1.1.1.1.1.1.1.1.1
  have := List.all_eq_true.1 h2 l hl
  simp [lateOk, inR] at this
  omega
theorem segOk_body {s : Seg} (h : segOk s = true) : s.body.size ≤ 8 := by
  unfold segOk at h
  simp only [Bool.and_eq_true, decide_eq_true_eq] at h
  omega
theorem ackedN_part {x : Stream} (h : partIn x) (a : Int) : partIn (ackedN x a) := by
  unfold ackedN
  split
  · exact h
  · exact h
theorem sentOk.w {x : Stream} (h : sentOk x) : IntKind.i64.wrap (x.sent + 0) = x.sent ∧ IntKind.i64.wrap (x.sent + 1) = x.sent + 1 := by
  unfold sentOk at h
  rw [IntKind.wrap_i64, IntKind.wrap_i64]
  omega
theorem ack_slice {x : Stream} {g m : Int} (hx : sentOk x) (h : inR g 1 m = true) : 0 ≤ mnI g x.sent ∧ mnI g x.sent ≤ (x.wait.size : Int) ∧ (x.wait.size : Int) ≤ (x.wait.size : Int) := by
  unfold inR at h
  unfold sentOk at hx
  unfold mnI
  simp only [Bool.and_eq_true, decide_eq_true_eq] at h
  split <;> omega
theorem segOk_flags {s : Seg} (h : segOk s = true) : inR s.flags 0 7 = true := by
  unfold segOk at h
  simp only [Bool.and_eq_true] at h
  exact h.1.1.1.2
/-! ### marks of a stream -/
theorem hdN_some {α : Type} {f : α → Int → Option Int} {x : α} {k k' : Int} (h : f x k = some k') (hp : 0 ≤ k') : hdN f x k = some k' := by
  simp only [hdN, h]
  exact if_neg (by omega)
theorem mkVStream_facts {x : Stream} (hl : x.late.length ≤ 1048576) : 0 ≤ (mkVStream x 1).2 ∧ (hdVStream (mkVStream x 1).1 1).getD (-1) = (mkVStream x 1).2 := by
  have c1 := mkL_cnt 2 (fun x k => mkELate_cnt x k) x.late 1 (by omega) (by omega)
  have e1 := hdN_some (hdL_mk hdELate_mk x.late 1) (by omega)
  refine ⟨by simp only [mkVStream]; omega, ?_⟩
  simp only [hdVStream, mkVStream, e1]
  rfl
theorem drain_len : ∀ (n : Nat) (y : Stream), (drain n y).late.length ≤ y.late.length
  | 0, y => Nat.le_refl _
  | n + 1, y => by
    rw [drain]
    split
    · exact Nat.le_refl _
    · refine Nat.le_trans (drain_len n _) ?_
      rw [takeN_late]
      exact List.length_eraseIdx_le _ _
theorem partT_len (x : Stream) (num : Int) (text : ByteArray) : (partT x num text).late.length ≤ x.late.length + 1 := by
  unfold partT
  split
  · refine Nat.le_trans (drain_len _ _) ?_
    rw [takeN_late]
    omega
  · split
    · refine Nat.le_trans (drain_len _ _) ?_
      simp
    · exact Nat.le_trans (drain_len _ _) (by omega)
theorem ackedN_len (x : Stream) (a : Int) : (ackedN x a).late = x.late := by
  unfold ackedN
  split <;> rfl
theorem hearOpenN_len (x : Stream) (s : Seg) : (hearOpenN x s).late.length ≤ x.late.length + 1 := by
  have hf : ∀ y : Stream, (finN y s).late = y.late := fun y => by
    unfold finN
    split <;> rfl
  have ha : ∀ y : Stream, (if hasB s.flags 2 then ackedN y s.ack else y).late = y.late := fun y => by
    split
    · exact ackedN_len _ _
    · rfl
  have hb : ∀ y : Stream, (if emp s.body then y else partN { y with owe := true } s).late.length ≤ y.late.length + 1 := fun y => by
    split
    · omega
    · exact partT_len _ _ _
  unfold hearOpenN
  simp only []
  have h1 := hb (if hasB s.flags 2 then ackedN x s.ack else x)
  have h0 := congrArg List.length (ha x)
  split
  · rw [hf]
    omega
  · omega
theorem hearN_len (x : Stream) (s : Seg) : (hearN x s).late.length ≤ x.late.length + 1 := by
  unfold hearN resetN
  repeat' split
  all_goals first | (simp only []; omega) | exact hearOpenN_len _ _ | omega
theorem hear_len {x : Stream} (h : x.late.length ≤ 1048576) (s : Seg) : (hear x s).late.length ≤ 1048576 := by
  unfold hear
  split
  · exact h
  · rename_i hn
    split
    · exact h
    · have h1 := hearN_len x s
      have h2 : streamOk x = true := by simp at hn; exact hn.1
      have := streamOk_all h2
      omega
/-! ### what is sent -/
def segK (x : Stream) : Int := mnI (mnI 8 (IntKind.i64.wrap ((x.wait.size : Int) - x.sent))) (IntKind.i64.wrap (24 - x.sent))
def segOne (x : Stream) : Seg := ⟨addNum x.una x.sent, x.rcv, 2, x.wait.extract x.sent.toNat (IntKind.i64.wrap (x.sent + segK x)).toNat⟩
def segStep (x : Stream) : Stream := { x with sent := IntKind.i64.wrap (x.sent + segK x) }
def segGo (x : Stream) : Bool := decide (x.sent < (x.wait.size : Int)) && decide (x.sent < 24)
def segLoop : Nat → Stream → List Seg → Stream × List Seg
  | 0, x, l => (x, l)
  | n + 1, x, l => if segGo x then segLoop n (segStep x) (l ++ [segOne x]) else (x, l)
def pushOk (x : Stream) : Prop := 0 ≤ x.sent ∧ x.sent ≤ (x.wait.size : Int) ∧ x.sent ≤ 24 ∧ x.wait.size ≤ 200 ∧ 0 ≤ x.times ∧ x.times ≤ 12
theorem segK_in {x : Stream} (h : pushOk x) (hg : segGo x = true) : 1 ≤ segK x ∧ segK x ≤ 8 ∧ x.sent + segK x ≤ (x.wait.size : Int) ∧ x.sent + segK x ≤ 24 ∧ (segK x = 8 ∨ x.sent + segK x = (x.wait.size : Int) ∨ x.sent + segK x = 24) := by
  unfold pushOk at h
  unfold segGo at hg
  simp only [Bool.and_eq_true, decide_eq_true_eq] at hg
  unfold segK mnI
  simp only [IntKind.wrap_i64]
  split <;> split <;> omega
structure LoopP (x0 : Stream) (n : Nat) (y : Stream) (l : List Seg) : Prop where
  ok : pushOk y
  le : n ≤ 4
  far : 8 * (4 - n : Int) ≤ y.sent ∨ y.sent = (y.wait.size : Int) ∨ y.sent = 24
  len : l.length ≤ 4 - n
  eq : segLoop n y l = segLoop 4 x0 []
theorem LoopP.init {x : Stream} (h : pushOk x) : LoopP x 4 x [] := ⟨h, by omega, .inl (by have := h.1; omega), by simp, rfl⟩
theorem LoopP.slice {x0 y : Stream} {n : Nat} {l : List Seg} (h : LoopP x0 n y l) (hg : segGo y = true) : 0 ≤ y.sent ∧ y.sent ≤ IntKind.i64.wrap (y.sent + segK y) ∧ IntKind.i64.wrap (y.sent + segK y) ≤ (y.wait.size : Int) := by
  have h1 := segK_in h.ok hg
  have h2 := h.ok
  unfold pushOk at h2
  rw [IntKind.wrap_i64]
  omega
theorem LoopP.pos {x0 y : Stream} {n : Nat} {l : List Seg} (h : LoopP x0 n y l) (hg : segGo y = true) : 0 < n := by
  have h2 := h.far
  have h3 := h.le
  unfold segGo at hg
  simp only [Bool.and_eq_true, decide_eq_true_eq] at hg
  omega
theorem LoopP.step {x0 y : Stream} {n : Nat} {l : List Seg} (h : LoopP x0 n y l) (hg : segGo y = true) : LoopP x0 (n - 1) (segStep y) (l ++ [segOne y]) := by
  obtain ⟨m, rfl⟩ : ∃ m, n = m + 1 := ⟨n - 1, by have := h.pos hg; omega⟩
  have h1 := segK_in h.ok hg
  have h2 := h.ok
  have h3 := h.le
  have h4 := h.far
  have h5 := h.len
  have h6 := h.eq
  have hw : (segStep y).sent = y.sent + segK y := by
    unfold pushOk at h2
    simp only [segStep, IntKind.wrap_i64]
    omega
  have hs : (segStep y).wait = y.wait := rfl
  have ht : (segStep y).times = y.times := rfl
  refine ⟨?_, by omega, ?_, by simp; omega, ?_⟩
  · unfold pushOk at h2 ⊢
    rw [hw, hs, ht]
    omega
  · rw [hw, hs]
    simp only [Nat.add_sub_cancel]
    unfold segGo at hg
    simp only [Bool.and_eq_true, decide_eq_true_eq] at hg
    omega
  · rw [← h6, segLoop, if_pos hg]
    rfl
theorem LoopP.fin {x0 y : Stream} {n : Nat} {l : List Seg} (h : LoopP x0 n y l) (hg : segGo y = false) : segLoop 4 x0 [] = (y, l) := by
  rw [← h.eq]
  cases n with
  | zero => rfl
  | succ n => rw [segLoop, if_neg (by rw [hg]; simp)]
def backN (x : Stream) (due : Bool) : Stream :=
  if due && (decide (x.sent > 0) || x.fin == 2) then { x with sent := 0, fin := if x.fin == 2 then 1 else x.fin } else x
theorem backN_ok {x : Stream} (h : pushOk x) (due : Bool) : pushOk (backN x due) := by
  unfold backN
  split
  · unfold pushOk at h ⊢
    simp only []
    omega
  · exact h
theorem streamOk_push {x : Stream} (h : streamOk x = true) : pushOk x := by
  have := streamOk_all h
  unfold pushOk
  omega
def finSeg (p : Stream × List Seg) : Stream × List Seg :=
  if p.1.fin == 1 && p.1.sent == (p.1.wait.size : Int) then ({ p.1 with fin := 2 }, p.2 ++ [⟨addNum p.1.una p.1.sent, p.1.rcv, 6, ⟨#[]⟩⟩]) else p
def oweSeg (now : Int) (p : Stream × List Seg) : Stream × List Seg :=
  if p.2.length > 0 then ({ againN p.1 now with owe := false }, p.2) else
  if p.1.owe then ({ p.1 with owe := false }, p.2 ++ [⟨addNum p.1.una (IntKind.i64.wrap (p.1.sent + flagN (p.1.fin == 2))), p.1.rcv, 2, ⟨#[]⟩⟩]) else p
def pushOpenN (x : Stream) (now : Int) (due : Bool) : Stream × List Seg := oweSeg now (finSeg (segLoop 4 (backN x due) []))
def pushN (x : Stream) (now : Int) : Stream × List Seg :=
  if !streamOk x || !inR now 0 999999900 then (x, []) else
  if x.state == 2 || x.state == 3 then
    if !(decide (x.due ≤ now) && decide (x.times < 12)) then (x, []) else
    (againN x now, [if x.state == 2 then ⟨x.iss, 0, 1, ⟨#[]⟩⟩ else ⟨x.iss, x.rcv, 3, ⟨#[]⟩⟩])
  else if x.state == 4 then pushOpenN x now (decide (x.due ≤ now) && decide (x.times < 12)) else (x, [])
def streamNew (iss : Int) (ask : Bool) : Stream × Bool :=
  if isWord iss then ({ Stream.z with state := if ask then 2 else 1, iss := iss, una := iss }, true) else (Stream.z, false)
theorem take_min {α : Type} {l : List α} {i n : Nat} (h1 : i ≤ l.length) (h2 : i ≤ n) (h3 : i < l.length → n ≤ i) : l.take i = l.take n := by
  rcases Nat.lt_or_ge i l.length with h | h
  · rw [show i = n from Nat.le_antisymm h2 (h3 h)]
  · rw [List.take_of_length_le h, List.take_of_length_le (by omega)]
/-! ### what is drawn -/
def hashStep (h c : Int) : Int := andI (IntKind.i64.wrap (IntKind.i64.wrap (IntKind.i64.wrap (h * 131) + IntKind.i64.wrap c) + 7)) 1073741823
def cur0 (code : List Int) : l01Cur := ⟨code, 0, (code.take 4000).foldl hashStep (IntKind.i64.wrap (37401 + (code.length : Int)))⟩
def byteH (c : l01Cur) : Int := IntKind.i64.wrap (IntKind.i64.wrap (c.h * 6364136223846793005) + 1442695040888963407)
def byteX (c : l01Cur) : Int := andI (xorI (shrI (byteH c) 33) (shrI (byteH c) 45)) 255
def byteN (c : l01Cur) : Int × l01Cur :=
  if c.i < (c.b.length : Int) then (andI (IntKind.i64.wrap (byteX c + IntKind.i64.wrap (c.b.getD c.i.toNat 0))) 255, ⟨c.b, IntKind.i64.wrap (c.i + 1), byteH c⟩) else (byteX c, ⟨c.b, c.i, byteH c⟩)
def curOk (c : l01Cur) : Prop := 0 ≤ c.i ∧ c.i ≤ (c.b.length : Int) ∧ c.b.length ≤ maxLen
theorem byteN_ok {c : l01Cur} (h : curOk c) : curOk (byteN c).2 := by
  obtain ⟨h1, h2, h3⟩ := h
  simp only [maxLen] at h3
  unfold byteN
  split
  · refine ⟨?_, ?_, h3⟩ <;> (simp only []; rw [IntKind.wrap_i64]; omega)
  · exact ⟨h1, h2, h3⟩
theorem andI255 (x : Int) : 0 ≤ andI x 255 ∧ andI x 255 ≤ 255 := by
  unfold andI
  have h1 : (BitVec.ofInt 64 x &&& BitVec.ofInt 64 255).toNat ≤ 255 := by
    rw [BitVec.toNat_and]
    have : (BitVec.ofInt 64 255).toNat = 2 ^ 8 - 1 := by decide
    rw [this, Nat.and_two_pow_sub_one_eq_mod]
    omega
  rw [IntKind.wrap_i64]
  omega
theorem byteN_in (c : l01Cur) : 0 ≤ (byteN c).1 ∧ (byteN c).1 ≤ 255 := by
  unfold byteN
  split
  · exact andI255 _
  · exact andI255 _
def belowN (c : l01Cur) (n : Int) : Int × l01Cur :=
  if n ≤ 0 then (0, c) else if n ≤ 256 then (Int.tmod (byteN c).1 n, (byteN c).2) else
  (Int.tmod (IntKind.i64.wrap (IntKind.i64.wrap (IntKind.i64.wrap (IntKind.i64.wrap ((byteN c).1 * 16777216) + IntKind.i64.wrap ((byteN (byteN c).2).1 * 65536)) + IntKind.i64.wrap ((byteN (byteN (byteN c).2).2).1 * 256)) + (byteN (byteN (byteN (byteN c).2).2).2).1)) n,
    (byteN (byteN (byteN (byteN c).2).2).2).2)
theorem belowN_ok {c : l01Cur} (h : curOk c) (n : Int) : curOk (belowN c n).2 := by
  unfold belowN
  split
  · exact h
  · split
    · exact byteN_ok h
    · exact byteN_ok (byteN_ok (byteN_ok (byteN_ok h)))
theorem belowN_in (c : l01Cur) {n : Int} (h : 0 < n) : 0 ≤ (belowN c n).1 ∧ (belowN c n).1 < n := by
  unfold belowN
  rw [if_neg (by omega)]
  split
  · have := byteN_in c
    exact ⟨Int.tmod_nonneg _ this.1, Int.tmod_lt_of_pos _ h⟩
  · have h1 := byteN_in c
    have h2 := byteN_in (byteN c).2
    have h3 := byteN_in (byteN (byteN c).2).2
    have h4 := byteN_in (byteN (byteN (byteN c).2).2).2
    generalize (byteN c).1 = a at *
    generalize (byteN (byteN c).2).1 = b at *
    generalize (byteN (byteN (byteN c).2).2).1 = d at *
    generalize (byteN (byteN (byteN (byteN c).2).2).2).1 = e at *
    refine ⟨Int.tmod_nonneg _ ?_, Int.tmod_lt_of_pos _ h⟩
    simp only [IntKind.wrap_i64]
    omega
def places : Nat → l01Cur → List Int × l01Cur
  | 0, c => ([], c)
  | n + 1, c => ((belowN c 10000).1 :: (places n (belowN c 10000).2).1, (places n (belowN c 10000).2).2)
theorem places_len : ∀ (n : Nat) (c : l01Cur), (places n c).1.length = n
  | 0, _ => rfl
  | n + 1, c => by simp [places, places_len n]
theorem places_in : ∀ (n : Nat) (c : l01Cur), ∀ x ∈ (places n c).1, 0 ≤ x ∧ x < 10000
  | 0, _, x, h => by simp [places] at h
  | n + 1, c, x, h => by
    simp only [places, List.mem_cons] at h
    rcases h with rfl | h
    · exact belowN_in c (by omega)
    · exact places_in n _ x h
def drawPlaces (code : List Int) : List Int := (places 12 (byteN (cur0 code)).2).1
theorem cur0_ok {code : List Int} (h : code.length ≤ maxLen) : curOk (byteN (cur0 code)).2 ∧ curOk (cur0 code) := by
  have : curOk (cur0 code) := ⟨by simp [cur0], by simp [cur0], h⟩
  exact ⟨byteN_ok this, this⟩
def PlP (code : List Int) (i : Nat) (l : List Int) (c : l01Cur) : Prop := curOk c ∧ l.length = i ∧ i ≤ 12 ∧ l ++ (places (12 - i) c).1 = drawPlaces code
theorem PlP.init {code : List Int} (h : code.length ≤ maxLen) : PlP code 0 [] (byteN (cur0 code)).2 := ⟨(cur0_ok h).1, rfl, by omega, rfl⟩
theorem PlP.step {code l : List Int} {i : Nat} {c : l01Cur} (h : PlP code i l c) (hi : i < 12) : PlP code (i + 1) (l ++ [(belowN c 10000).1]) (belowN c 10000).2 := by
  obtain ⟨h1, h2, h3, h4⟩ := h
  refine ⟨belowN_ok h1 _, by simp [h2], by omega, ?_⟩
  rw [← h4, show 12 - i = (12 - (i + 1)) + 1 by omega, places]
  simp
theorem PlP.fin {code l : List Int} {i : Nat} {c : l01Cur} (h : PlP code i l c) (hi : 12 ≤ i) : l = drawPlaces code := by
  obtain ⟨h1, h2, h3, h4⟩ := h
  rw [← h4, show 12 - i = 0 by omega]
  simp [places]
/-! ### the greeting -/
def E0 : ByteArray := ⟨#[]⟩
def sA0 (a : Int) : Stream := ⟨2, a, a, 0, ⟨#[]⟩, 0, 0, false, ⟨#[]⟩, [], false, 0, 0⟩
def sA1 (a : Int) : Stream := ⟨2, a, a, 0, ⟨#[]⟩, 0, 0, false, ⟨#[]⟩, [], false, 3, 1⟩
def seg1 (a : Int) : Seg := ⟨a, 0, 1, ⟨#[]⟩⟩
def sB0 (b : Int) : Stream := ⟨1, b, b, 0, ⟨#[]⟩, 0, 0, false, ⟨#[]⟩, [], false, 0, 0⟩
def sB1 (a b : Int) : Stream := ⟨3, b, b, addNum a 1, ⟨#[]⟩, 0, 0, false, ⟨#[]⟩, [], false, 0, 0⟩
def sB2 (a b : Int) : Stream := ⟨3, b, b, addNum a 1, ⟨#[]⟩, 0, 0, false, ⟨#[]⟩, [], false, 3, 1⟩
def seg2 (a b : Int) : Seg := ⟨b, addNum a 1, 3, ⟨#[]⟩⟩
def sA2 (a b : Int) : Stream := ⟨4, a, addNum a 1, addNum b 1, ⟨#[]⟩, 0, 0, false, ⟨#[]⟩, [], true, 0, 0⟩
def sA3 (a b : Int) : Stream := ⟨4, a, addNum a 1, addNum b 1, ⟨#[]⟩, 0, 0, false, ⟨#[]⟩, [], false, 0, 0⟩
def seg3 (a b : Int) : Seg := ⟨addNum (addNum a 1) 0, addNum b 1, 2, ⟨#[]⟩⟩
def sB3 (a b : Int) : Stream := ⟨4, b, addNum b 1, addNum a 1, ⟨#[]⟩, 0, 0, false, ⟨#[]⟩, [], false, 0, 0⟩
theorem addNum_word (a n : Int) : isWord (addNum a n) = true := addNum_in a n
theorem streamNew_a {a : Int} (ha : isWord a = true) : streamNew a true = (sA0 a, true) := by
  simp [streamNew, ha, sA0, Stream.z]
theorem streamNew_b {b : Int} (hb : isWord b = true) : streamNew b false = (sB0 b, true) := by
  simp [streamNew, hb, sB0, Stream.z]
theorem ok_plain {q i u r d t : Int} {o : Bool} (h1 : inR q 0 4 = true) (h2 : isWord i = true) (h3 : isWord u = true) (h4 : isWord r = true) (h5 : inR d 0 1000000000 = true) (h6 : inR t 0 12 = true) :
    streamOk ⟨q, i, u, r, ⟨#[]⟩, 0, 0, false, ⟨#[]⟩, [], o, d, t⟩ = true := by
  simp only [streamOk, h1, h2, h3, h4, h5, h6]
  rfl
theorem push_a0 {a : Int} (ha : isWord a = true) : pushN (sA0 a) 1 = (sA1 a, [seg1 a]) := by
  have h : streamOk (sA0 a) = true := ok_plain (by decide) ha ha (by decide) (by decide) (by decide)
  rw [pushN, h]
  rfl
theorem push_b0 {b : Int} (hb : isWord b = true) : pushN (sB0 b) 1 = (sB0 b, []) := by
  have h : streamOk (sB0 b) = true := ok_plain (by decide) hb hb (by decide) (by decide) (by decide)
  rw [pushN, h]
  rfl
theorem segOk_1 {a : Int} (ha : isWord a = true) : segOk (seg1 a) = true := by
  simp [segOk, seg1, ha, emp]
  exact ⟨⟨by decide, by decide⟩, rfl⟩
theorem segOk_2 {a b : Int} (hb : isWord b = true) : segOk (seg2 a b) = true := by
  simp only [segOk, seg2, hb, addNum_word]
  have h : hasB 3 2 = true := by decide
  rw [h]
  simp [emp, inR]
  rfl
theorem segOk_3 {a b : Int} : segOk (seg3 a b) = true := by
  simp only [segOk, seg3, addNum_word]
  have h : hasB 2 2 = true := by decide
  rw [h]
  simp [emp, inR]
  rfl
theorem hear_b0 {a b : Int} (ha : isWord a = true) (hb : isWord b = true) : hear (sB0 b) (seg1 a) = sB1 a b := by
  have h : streamOk (sB0 b) = true := ok_plain (by decide) hb hb (by decide) (by decide) (by decide)
  rw [hear, h, segOk_1 ha]
  rfl
theorem push_b1 {a b : Int} (hb : isWord b = true) : pushN (sB1 a b) 1 = (sB2 a b, [seg2 a b]) := by
  have h : streamOk (sB1 a b) = true := ok_plain (by decide) hb hb (addNum_word a 1) (by decide) (by decide)
  rw [pushN, h]
  rfl
theorem hear_a1 {a b : Int} (ha : isWord a = true) (hb : isWord b = true) : hear (sA1 a) (seg2 a b) = sA2 a b := by
  have h : streamOk (sA1 a) = true := ok_plain (by decide) ha ha (by decide) (by decide) (by decide)
  have e : hearN (sA1 a) (seg2 a b) = sA2 a b := by
    have h1 : hasB 3 1 = true := by decide
    have h2 : hasB 3 2 = true := by decide
    simp [hearN, sA1, seg2, h1, h2, sA2, resetN]
  rw [hear, h, segOk_2 hb, e]
  rfl
theorem push_a2 {a b : Int} (ha : isWord a = true) : pushN (sA2 a b) 1 = (sA3 a b, [seg3 a b]) := by
  have h : streamOk (sA2 a b) = true := ok_plain (by decide) ha (addNum_word a 1) (addNum_word b 1) (by decide) (by decide)
  rw [pushN, h]
  rfl
theorem hear_b2 {a b : Int} (hb : isWord b = true) : hear (sB2 a b) (seg3 a b) = sB3 a b := by
  have h : streamOk (sB2 a b) = true := ok_plain (by decide) hb hb (addNum_word a 1) (by decide) (by decide)
  have e : hearN (sB2 a b) (seg3 a b) = sB3 a b := by
    have h1 : hasB 2 1 = false := by decide
    have h2 : hasB 2 2 = true := by decide
    have h4 : hasB 2 4 = false := by decide
    have hg : gap (addNum b 1) (addNum b 1) = 0 := by simp [gap]
    have hn : inR 0 1 (IntKind.i64.wrap (0 + flagN (0 == 2))) = false := by decide
    simp [hearN, sB2, seg3, h1, h2, h4, sB3, resetN, hearOpenN, ackedN, hg, hn, emp]
    intro hh
    exact absurd hh (by decide)
  rw [hear, h, segOk_3, e]
  rfl
def A0 (code : List Int) : Int := Int.tmod (IntKind.i64.wrap ((drawPlaces code).getD 0 0 * 7)) 65536
def B0 (code : List Int) : Int := Int.tmod (IntKind.i64.wrap ((drawPlaces code).getD 1 0 * 11)) 65536
theorem draw_at (code : List Int) (i : Nat) : 0 ≤ (drawPlaces code).getD i 0 ∧ (drawPlaces code).getD i 0 < 10000 := by
  rw [List.getD_eq_getElem?_getD]
  cases h : (drawPlaces code)[i]? with
  | none => simp
  | some x => exact places_in 12 _ x (List.mem_of_getElem? h)
theorem A0_in (code : List Int) : isWord (A0 code) = true := by
  have := draw_at code 0
  unfold A0
  have hw : IntKind.i64.wrap ((drawPlaces code).getD 0 0 * 7) = (drawPlaces code).getD 0 0 * 7 := by rw [IntKind.wrap_i64]; omega
  rw [hw, Int.tmod_eq_emod_of_nonneg (by omega)]
  simp [isWord, inR]
  omega
theorem B0_in (code : List Int) : isWord (B0 code) = true := by
  have := draw_at code 1
  unfold B0
  have hw : IntKind.i64.wrap ((drawPlaces code).getD 1 0 * 11) = (drawPlaces code).getD 1 0 * 11 := by rw [IntKind.wrap_i64]; omega
  rw [hw, Int.tmod_eq_emod_of_nonneg (by omega)]
  simp [isWord, inR]
  omega
theorem draw_len (code : List Int) : (drawPlaces code).length = 12 := places_len 12 _
end Go.Proofs.Ytkfjkmklmjcngaa.Y
