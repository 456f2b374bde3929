import Derived.Test.YtbiocicogminlaaEng16
import Derived.Test.YtbiocicogminlaaEng32
import Derived.Laws.Strings
namespace Go.Proofs.Ytbiocicogminlaa.Y
open Go Go.RowKit Go.Eng

def szL {α : Type} (f : α → Int → Int) : List α → Int → Int
  | [], l => l
  | x :: r, l => if f x l < 0 then -1 else szL f r (f x l)
def szS {α : Type} (f : α → Int → Int) (a : List α) (left : Int) : Int :=
  if IntKind.i64.wrap (left - a.length) < 0 then -1 else szL f a (IntKind.i64.wrap (left - a.length))
def szI {α : Type} (a : List α) (left : Int) : Int :=
  if IntKind.i64.wrap (left - a.length) < 0 then -1 else IntKind.i64.wrap (left - a.length)
def szStr (s : ByteArray) (left : Int) : Int := IntKind.i64.wrap (left - s.size)
def okSl {α : Type} (ok : α → Prop) (l : List α) : Prop := l.length ≤ 1048576 ∧ ∀ x ∈ l, ok x
def eqI (x y : Int) : Bool := x == y
theorem eqI_refl (x : Int) : eqI x x = true := by simp [eqI]
def eqB (x y : Bool) : Bool := x == y
theorem eqB_refl (x : Bool) : eqB x x = true := by simp [eqB]
def eqStr (x y : ByteArray) : Bool := x.toList == y.toList
theorem eqStr_refl (x : ByteArray) : eqStr x x = true := by simp [eqStr]
def eqS {α : Type} (f : α → α → Bool) : List α → List α → Bool
  | [], [] => true
  | x :: r, y :: s => if f x y then eqS f r s else false
  | _, _ => false
theorem eqS_refl {α : Type} {f : α → α → Bool} (h : ∀ x, f x x = true) : ∀ a : List α, eqS f a a = true
  | [] => rfl
  | x :: r => by rw [eqS, h x, if_pos rfl, eqS_refl h r]
theorem szS_len {α : Type} {f : α → Int → Int} {a : List α} (hl : a.length ≤ maxLen) (h : 0 ≤ szS f a 1048576) : a.length ≤ 1048576 := by
  unfold szS at h
  split at h
  · omega
  · rename_i h2
    rw [IntKind.wrap_i64] at h2
    simp only [maxLen] at hl
    omega
theorem eqS_ne {α : Type} {f : α → α → Bool} : ∀ {a b : List α}, a.length ≠ b.length → eqS f a b = false
  | [], [], h => absurd rfl h
  | [], _ :: _, _ => rfl
  | _ :: _, [], _ => rfl
  | x :: r, y :: s, h => by
    simp only [eqS]
    rw [eqS_ne (by simpa using h)]
    simp
def pairs {α : Type} (bad : α → α → Bool) : List α → List α → Bool
  | _, [] => true
  | pre, x :: r => if pre.any (bad x) then false else pairs bad (pre ++ [x]) r
def pairsW {α : Type} (bad : α → α → Bool) (a : List α) : List α → Bool
  | [] => true
  | x :: r => if a.any (bad x) then false else pairsW bad a r
theorem take_snoc {α : Type} {l : List α} {i : Nat} {e : α} (h : l[i]? = some e) : l.take (i + 1) = l.take i ++ [e] := by
  obtain ⟨h1, h2⟩ := List.getElem?_eq_some_iff.1 h
  rw [List.take_succ_eq_append_getElem h1, h2]
/-- What is sized without falling under zero is short enough, and lowers the count. -/
def SzOk {α : Type} (f : α → Int → Int) (fit ok : α → Prop) : Prop := ∀ x l, fit x → 0 ≤ l → l ≤ 1048576 → 0 ≤ f x l → ok x ∧ f x l ≤ l
theorem wrapSub {n : Nat} {l : Int} (hn : n ≤ maxLen) (h0 : 0 ≤ l) (h1 : l ≤ 1048576) : IntKind.i64.wrap (l - n) = l - n := by
  rw [IntKind.wrap_i64]
  simp only [maxLen] at hn
  omega
def okStr (s : ByteArray) : Prop := s.size ≤ 1048576
theorem szStr_ok : SzOk szStr okS okStr := by
  intro s l hk h0 h1 hs
  unfold szStr at hs ⊢
  rw [wrapSub hk h0 h1] at hs ⊢
  exact ⟨by unfold okStr; omega, by omega⟩
theorem szI_ok {α : Type} {fit : α → Prop} : SzOk (szI : List α → Int → Int) (okL fit) (okSl (fun _ => True)) := by
  intro a l hk h0 h1 hs
  unfold szI at hs ⊢
  rw [wrapSub hk.1 h0 h1] at hs ⊢
  split at hs
  · omega
  · rename_i hc
    rw [if_neg hc]
    exact ⟨⟨by omega, fun _ _ => trivial⟩, by omega⟩
theorem szL_ok {α : Type} {f : α → Int → Int} {fit ok : α → Prop} (h : SzOk f fit ok) : ∀ (a : List α) (l : Int), (∀ x ∈ a, fit x) → 0 ≤ l → l ≤ 1048576 → 0 ≤ szL f a l → (∀ x ∈ a, ok x) ∧ szL f a l ≤ l
  | [], l, _, _, _, _ => ⟨by simp, by simp [szL]⟩
  | x :: r, l, hf, h0, h1, hs => by
    simp only [szL] at hs ⊢
    split at hs
    · omega
    · rename_i hc
      rw [if_neg hc]
      have p := h x l (hf x (by simp)) h0 h1 (by omega)
      have q := szL_ok h r (f x l) (fun y hy => hf y (by simp [hy])) (by omega) (by omega) hs
      refine ⟨fun y hy => ?_, by omega⟩
      rcases List.mem_cons.1 hy with rfl | hy
      · exact p.1
      · exact q.1 y hy
theorem szS_ok {α : Type} {f : α → Int → Int} {fit ok : α → Prop} (h : SzOk f fit ok) : SzOk (szS f) (okL fit) (okSl ok) := by
  intro a l hk h0 h1 hs
  unfold szS at hs ⊢
  rw [wrapSub hk.1 h0 h1] at hs ⊢
  split at hs
  · omega
  · rename_i hc
    rw [if_neg hc]
    have p := szL_ok h a (l - a.length) hk.2 (by omega) (by omega) hs
    exact ⟨⟨by omega, p.1⟩, by omega⟩
/-! ### marks -/
theorem wrap_le (x : Int) : IntKind.i64.wrap x ≤ 9223372036854775807 := by
  rw [IntKind.wrap_i64]; omega
def inc (k : Int) : Int := IntKind.i64.wrap (k + 1)
def dgs (n : Nat) (out : ByteArray) : ByteArray :=
  if h : n = 0 then out else dgs (n / 10) (bytesOf [IntKind.u8.wrap (IntKind.i64.wrap (48 + Int.tmod (n : Int) 10))] ++ out)
termination_by n
decreasing_by omega
def mtext (k : Int) : ByteArray := if k ≤ 0 then ⟨#[109, 48]⟩ else ⟨#[109]⟩ ++ dgs k.toNat ⟨#[]⟩
def mkI (_x : Int) (k : Int) : Int × Int := (k, inc k)
def mkB (_x : Bool) (k : Int) : Bool × Int := (Int.tmod k 3 == 0, inc k)
def mkS (_x : ByteArray) (k : Int) : ByteArray × Int := (mtext k, inc k)
def mkL {α : Type} (f : α → Int → α × Int) : List α → Int → List α × Int
  | [], k => ([], k)
  | x :: r, k => ((f x k).1 :: (mkL f r (f x k).2).1, (mkL f r (f x k).2).2)
def hdI (x k : Int) : Option Int := if x == k then some (inc k) else none
def hdB (x : Bool) (k : Int) : Option Int := if x == (Int.tmod k 3 == 0) then some (inc k) else none
def hdS (x : ByteArray) (k : Int) : Option Int := if x.toList == (mtext k).toList then some (inc k) else none
def hdL {α : Type} (f : α → Int → Option Int) : List α → Int → Option Int
  | [], k => some k
  | x :: r, k => match f x k with | none => none | some k' => hdL f r k'
def hdN {α : Type} (f : α → Int → Option Int) (x : α) (k : Int) : Option Int := match f x k with | none => none | some k' => if k' < 0 then none else some k'
def HdLe {α : Type} (f : α → Int → Option Int) : Prop := ∀ (x : α) (k k' : Int), k ≤ 9223372036854775807 → f x k = some k' → k' ≤ 9223372036854775807
theorem hdI_le : HdLe hdI := by
  intro x k k' _ h
  unfold hdI at h
  split at h
  · cases h; exact wrap_le _
  · cases h
theorem hdB_le : HdLe hdB := by
  intro x k k' _ h
  unfold hdB at h
  split at h
  · cases h; exact wrap_le _
  · cases h
theorem hdS_le : HdLe hdS := by
  intro x k k' _ h
  unfold hdS at h
  split at h
  · cases h; exact wrap_le _
  · cases h
theorem hdL_le {α : Type} {f : α → Int → Option Int} (hf : HdLe f) : HdLe (hdL f) := by
  intro l
  induction l with
  | nil => intro k k' h0 h; simp only [hdL] at h; cases h; exact h0
  | cons x r ih =>
    intro k k' h0 h
    simp only [hdL] at h
    cases e : f x k with
    | none => rw [e] at h; cases h
    | some k1 => rw [e] at h; exact ih k1 k' (hf x k k1 h0 e) h
theorem hdN_le {α : Type} {f : α → Int → Option Int} (hf : HdLe f) : HdLe (hdN f) := by
  intro x k k' h0 h
  unfold hdN at h
  cases e : f x k with
  | none => rw [e] at h; cases h
  | some k1 =>
    rw [e] at h
    simp only [] at h
    split at h
    · cases h
    · cases h; exact hf x k _ h0 e
theorem leD {α : Type} {f : α → Int → Option Int} {x : α} {k : Int} (hf : HdLe f) (hk : k ≤ 9223372036854775807) : (f x k).getD (-1) ≤ 9223372036854775807 := by
  cases e : f x k with
  | none => decide
  | some k1 => exact hf x k k1 hk e
theorem hdN_ok {α : Type} {f : α → Int → Option Int} {x : α} {k : Int} (h : 0 ≤ (f x k).getD (-1)) : hdN f x k = some ((f x k).getD (-1)) := by
  unfold hdN
  cases e : f x k with
  | none => rw [e] at h; simp at h
  | some k1 => rw [e] at h; simp at h; simp; omega
theorem hdN_bad {α : Type} {f : α → Int → Option Int} {x : α} {k : Int} (h : (f x k).getD (-1) < 0) : hdN f x k = none := by
  unfold hdN
  cases e : f x k with
  | none => rfl
  | some k1 => rw [e] at h; simp at h; simp; omega
theorem mkI_le (x k : Int) : (mkI x k).2 ≤ 9223372036854775807 := wrap_le _
theorem mkB_le (x : Bool) (k : Int) : (mkB x k).2 ≤ 9223372036854775807 := wrap_le _
theorem mkS_le (x : ByteArray) (k : Int) : (mkS x k).2 ≤ 9223372036854775807 := wrap_le _
theorem mkL_le {α : Type} {f : α → Int → α × Int} (hf : ∀ x k, (f x k).2 ≤ 9223372036854775807) : ∀ (l : List α) (k : Int), k ≤ 9223372036854775807 → (mkL f l k).2 ≤ 9223372036854775807
  | [], _, h => h
  | x :: r, k, _ => mkL_le hf r _ (hf x k)
theorem mkL_len {α : Type} {f : α → Int → α × Int} : ∀ (l : List α) (k : Int), (mkL f l k).1.length = l.length
  | [], _ => rfl
  | x :: r, k => by simp [mkL, mkL_len r]
theorem mkL_cnt {α : Type} {f : α → Int → α × Int} (c : Nat) (hf : ∀ (x : α) (k : Int), 0 ≤ k → k + c ≤ 4611686018427387904 → (f x k).2 = k + c) : ∀ (l : List α) (k : Int), 0 ≤ k → k + (c * l.length : Nat) ≤ 4611686018427387904 → (mkL f l k).2 = k + (c * l.length : Nat)
  | [], k, _, _ => by simp [mkL]
  | x :: r, k, h0, h1 => by
    have e : c * (x :: r).length = c + c * r.length := by simp [Nat.mul_add]; omega
    rw [e] at h1 ⊢
    have h2 := hf x k h0 (by omega)
    simp only [mkL]
    rw [h2, mkL_cnt c hf r (k + c) (by omega) (by omega)]
    omega
theorem hdL_mk {α : Type} {f : α → Int → α × Int} {h : α → Int → Option Int} (hm : ∀ x k, h (f x k).1 k = some (f x k).2) : ∀ (l : List α) (k : Int), hdL h (mkL f l k).1 k = some (mkL f l k).2
  | [], _ => rfl
  | x :: r, k => by simp [mkL, hdL, hm, hdL_mk hm r]
theorem mk_step {α : Type} (f : α → Int → α × Int) {a b b' : List α} {i : Nat} {ei : α} {l k : Int} (e' : α) (l' : Int) (hi : b[i]? = some ei) (hlen : b.length = a.length) (hdr : b.drop i = a.drop i) (hr : (b.take i ++ (mkL f (a.drop i) l).1, (mkL f (a.drop i) l).2) = mkL f a k)
    (hb : b' = b.set i e') (hf : f ei l = (e', l')) (hl : l' ≤ 9223372036854775807) : i + 1 ≤ b'.length ∧ l' ≤ 9223372036854775807 ∧ b'.length = a.length ∧ b'.drop (i + 1) = a.drop (i + 1) ∧ (b'.take (i + 1) ++ (mkL f (a.drop (i + 1)) l').1, (mkL f (a.drop (i + 1)) l').2) = mkL f a k := by
  have hlt : i < b.length := (List.getElem?_eq_some_iff.1 hi).1
  subst hb
  have h1 : b.drop i = ei :: b.drop (i + 1) := drop_get hi
  have h2 : a.drop (i + 1) = b.drop (i + 1) := by
    have := congrArg List.tail hdr
    simpa using this.symm
  refine ⟨by simp; omega, hl, by simp [hlen], ?_, ?_⟩
  · rw [List.drop_set_of_lt (by omega), h2]
  · rw [← hr, ← hdr, h1, h2]
    simp only [mkL, hf]
    have h3 : (b.set i e').take (i + 1) = b.take i ++ [e'] := by
      rw [List.take_succ_eq_append_getElem (by simp; omega)]
      simp [List.take_set_of_le]
    rw [h3]
    simp
theorem mtext_dgs {k : Int} (h : ¬ k ≤ 0) : mtext k = ⟨#[109]⟩ ++ dgs k.toNat ⟨#[]⟩ := by simp [mtext, h]
theorem dgs_step {n : Int} {out : ByteArray} (h : n > 0) : dgs n.toNat out = dgs (Int.tdiv n 10).toNat (bytesOf [IntKind.u8.wrap (IntKind.i64.wrap (48 + Int.tmod n 10))] ++ out) := by
  rw [dgs, dif_neg (by omega)]
  have e : ((n.toNat : Nat) : Int) = n := by omega
  rw [e]
  congr 1
  rw [Int.tdiv_eq_ediv_of_nonneg (by omega)]
  omega
theorem bytesOf_one (x : Int) : (bytesOf [x]).size = 1 := rfl
theorem mt_dec {n : Int} {s : Nat} (h0 : 0 ≤ n) (hp : n * 10 ^ s ≤ 9223372036854775807) (h : decide (n > 0) = true) : (IntKind.i64.wrap (Int.tdiv n 10)).toNat < n.toNat := by
  have hn : n > 0 := by simpa using h
  have hpos : (0 : Int) < 10 ^ s := Int.pow_pos (by omega)
  have : n * 1 ≤ n * 10 ^ s := Int.mul_le_mul_of_nonneg_left (by omega) (by omega)
  rw [IntKind.wrap_i64, Int.tdiv_eq_ediv_of_nonneg h0]
  omega
theorem mt_step {n k : Int} {out : ByteArray} (h0 : 0 ≤ n) (hp : n * 10 ^ out.size ≤ 9223372036854775807) (hr : dgs n.toNat out = dgs k.toNat ⟨#[]⟩) (h : decide (n > 0) = true) :
    0 ≤ IntKind.i64.wrap (Int.tdiv n 10) ∧ (bytesOf [IntKind.u8.wrap (IntKind.i64.wrap (48 + Int.tmod n 10))] ++ out).size ≤ 60 ∧
      IntKind.i64.wrap (Int.tdiv n 10) * 10 ^ (bytesOf [IntKind.u8.wrap (IntKind.i64.wrap (48 + Int.tmod n 10))] ++ out).size ≤ 9223372036854775807 ∧
      dgs (IntKind.i64.wrap (Int.tdiv n 10)).toNat (bytesOf [IntKind.u8.wrap (IntKind.i64.wrap (48 + Int.tmod n 10))] ++ out) = dgs k.toNat ⟨#[]⟩ := by
  have hn : n > 0 := by simpa using h
  have hpos : (0 : Int) < 10 ^ out.size := Int.pow_pos (by omega)
  have hle : (10 : Int) ^ out.size ≤ 9223372036854775807 := by
    have : (10 : Int) ^ out.size * 1 ≤ 10 ^ out.size * n := Int.mul_le_mul_of_nonneg_left (by omega) (by omega)
    rw [Int.mul_comm (10 ^ out.size) n] at this
    omega
  have hs : out.size < 19 := by
    rcases Nat.lt_or_ge out.size 19 with h1 | h1
    · exact h1
    · exfalso
      have h2 : (10 : Nat) ^ 19 ≤ 10 ^ out.size := Nat.pow_le_pow_right (by omega) h1
      have h3 : ((10 ^ out.size : Nat) : Int) ≤ 9223372036854775807 := by simpa using hle
      omega
  have hnM : n ≤ 9223372036854775807 := by
    have : n * 1 ≤ n * 10 ^ out.size := Int.mul_le_mul_of_nonneg_left (by omega) (by omega)
    omega
  have hw : IntKind.i64.wrap (Int.tdiv n 10) = n / 10 := by
    rw [IntKind.wrap_i64, Int.tdiv_eq_ediv_of_nonneg h0]
    omega
  have hsz : (bytesOf [IntKind.u8.wrap (IntKind.i64.wrap (48 + Int.tmod n 10))] ++ out).size = out.size + 1 := by
    rw [ByteArray.size_append, bytesOf_one]
    omega
  rw [hw, hsz]
  refine ⟨by omega, by omega, ?_, ?_⟩
  · rw [Int.pow_succ, Int.mul_comm (10 ^ out.size) 10, ← Int.mul_assoc]
    have : n / 10 * 10 * 10 ^ out.size ≤ n * 10 ^ out.size := Int.mul_le_mul_of_nonneg_right (by omega) (by omega)
    omega
  · rw [← hr, dgs_step hn, Int.tdiv_eq_ediv_of_nonneg h0]
structure Entry where
  term_ : Int
  kind : Int
  data : ByteArray
def Entry.c (e : Entry) : List T := [.v (.int .i64 e.term_), .v (.int .i64 e.kind), .v (.string e.data)]
theorem Entry.len (e : Entry) : e.c.length = 3 := rfl
def Entry.z : Entry := ⟨0, 0, ⟨#[]⟩⟩
def Entry.vs (e : Entry) : List Value := [.int .i64 e.term_, .int .i64 e.kind, .string e.data]
def eqEntry (x y : Entry) : Bool := x.term_ == y.term_ && (x.kind == y.kind && (x.data.toList == y.data.toList))
theorem eqEntry_refl (x : Entry) : eqEntry x x = true := by simp [eqEntry]
def mkEEntry (x : Entry) (k : Int) : Entry × Int := ((⟨(mkI x.term_ k).1, (mkI x.kind (mkI x.term_ k).2).1, (mkS x.data (mkI x.kind (mkI x.term_ k).2).2).1⟩ : Entry), (mkS x.data (mkI x.kind (mkI x.term_ k).2).2).2)
def hdEEntry (x : Entry) (k0 : Int) : Option Int := match hdI x.term_ k0 with | none => none | some k1 => match hdI x.kind k1 with | none => none | some k2 => match hdS x.data k2 with | none => none | some k3 => some k3
theorem hdEEntry_le : HdLe hdEEntry := by
  intro x k k9 h0 h
  unfold hdEEntry at h
  cases e0 : hdI x.term_ k with
  | none => rw [e0] at h; cases h
  | some k1 =>
  rw [e0] at h; simp only [] at h
  have h1 := hdI_le _ _ _ h0 e0
  cases e1 : hdI x.kind k1 with
  | none => rw [e1] at h; cases h
  | some k2 =>
  rw [e1] at h; simp only [] at h
  have h2 := hdI_le _ _ _ h1 e1
  cases e2 : hdS x.data k2 with
  | none => rw [e2] at h; cases h
  | some k3 =>
  rw [e2] at h; simp only [] at h
  have h3 := hdS_le _ _ _ h2 e2
  cases h; exact h3
theorem mkEEntry_le (x : Entry) (k : Int) : (mkEEntry x k).2 ≤ 9223372036854775807 := by
  simp only [mkEEntry, mkI, mkB, mkS, inc]; first | exact wrap_le _ | (apply mkL_le)
theorem mkEEntry_cnt (x : Entry) (k : Int) (h0 : 0 ≤ k) (h1 : k + 3 ≤ 4611686018427387904) : (mkEEntry x k).2 = k + 3 := by
  simp only [mkEEntry, mkI, mkB, mkS, inc, IntKind.wrap_i64]; omega
theorem hdEEntry_mk (x : Entry) (k : Int) : hdEEntry (mkEEntry x k).1 k = some (mkEEntry x k).2 := by
  simp [hdEEntry, mkEEntry, mkI, mkB, mkS, hdI, hdB, hdS]
def szEntry (e : Entry) (left : Int) : Int := if IntKind.i64.wrap (left - e.data.size) < 0 then -1 else IntKind.i64.wrap (left - e.data.size)
structure Log where
  start : Int
  startTerm : Int
  entries : List Entry
def Log.c (e : Log) : List T := [.v (.int .i64 e.start), .v (.int .i64 e.startTerm), sl 3 Entry.c e.entries]
theorem Log.len (e : Log) : e.c.length = 3 := rfl
def Log.z : Log := ⟨0, 0, []⟩
def eqLog (x y : Log) : Bool := x.start == y.start && (x.startTerm == y.startTerm && ((eqS eqEntry) x.entries y.entries))
theorem eqLog_refl (x : Log) : eqLog x x = true := by simp [eqLog, eqS_refl eqEntry_refl]
def mkVLog (x : Log) (k : Int) : Log × Int := ((⟨x.start, x.startTerm, ((mkL mkEEntry) x.entries k).1⟩ : Log), ((mkL mkEEntry) x.entries k).2)
def hdVLog (x : Log) (k0 : Int) : Option Int := match (hdN (hdL hdEEntry)) x.entries k0 with | none => none | some k1 => some k1
theorem hdVLog_le : HdLe hdVLog := by
  intro x k k9 h0 h
  unfold hdVLog at h
  cases e0 : (hdN (hdL hdEEntry)) x.entries k with
  | none => rw [e0] at h; cases h
  | some k1 =>
  rw [e0] at h; simp only [] at h
  have h1 := (hdN_le (hdL_le hdEEntry_le)) _ _ _ h0 e0
  cases h; exact h1
theorem mkVLog_le (x : Log) (k : Int) (hk : k ≤ 9223372036854775807) : (mkVLog x k).2 ≤ 9223372036854775807 := by
  simp only [mkVLog]; repeat (first | exact hk | apply mkL_le | apply mkI_le | apply mkS_le | apply mkB_le | apply mkEEntry_le | apply mkEPeer_le | apply mkEApplied_le | apply mkVNode_le)
def szLog (e : Log) (left : Int) : Int := if szS szEntry e.entries (left) < 0 then -1 else szS szEntry e.entries (left)
structure Peer where
  id : Int
  next : Int
  match_ : Int
  sent : Int
def Peer.c (e : Peer) : List T := [.v (.int .i64 e.id), .v (.int .i64 e.next), .v (.int .i64 e.match_), .v (.int .i64 e.sent)]
theorem Peer.len (e : Peer) : e.c.length = 4 := rfl
def Peer.z : Peer := ⟨0, 0, 0, 0⟩
def Peer.vs (e : Peer) : List Value := [.int .i64 e.id, .int .i64 e.next, .int .i64 e.match_, .int .i64 e.sent]
def eqPeer (x y : Peer) : Bool := x.id == y.id && (x.next == y.next && (x.match_ == y.match_ && (x.sent == y.sent)))
theorem eqPeer_refl (x : Peer) : eqPeer x x = true := by simp [eqPeer]
def mkEPeer (x : Peer) (k : Int) : Peer × Int := ((⟨(mkI x.id k).1, (mkI x.next (mkI x.id k).2).1, (mkI x.match_ (mkI x.next (mkI x.id k).2).2).1, (mkI x.sent (mkI x.match_ (mkI x.next (mkI x.id k).2).2).2).1⟩ : Peer), (mkI x.sent (mkI x.match_ (mkI x.next (mkI x.id k).2).2).2).2)
def hdEPeer (x : Peer) (k0 : Int) : Option Int := match hdI x.id k0 with | none => none | some k1 => match hdI x.next k1 with | none => none | some k2 => match hdI x.match_ k2 with | none => none | some k3 => match hdI x.sent k3 with | none => none | some k4 => some k4
theorem hdEPeer_le : HdLe hdEPeer := by
  intro x k k9 h0 h
  unfold hdEPeer at h
  cases e0 : hdI x.id k with
  | none => rw [e0] at h; cases h
  | some k1 =>
  rw [e0] at h; simp only [] at h
  have h1 := hdI_le _ _ _ h0 e0
  cases e1 : hdI x.next k1 with
  | none => rw [e1] at h; cases h
  | some k2 =>
  rw [e1] at h; simp only [] at h
  have h2 := hdI_le _ _ _ h1 e1
  cases e2 : hdI x.match_ k2 with
  | none => rw [e2] at h; cases h
  | some k3 =>
  rw [e2] at h; simp only [] at h
  have h3 := hdI_le _ _ _ h2 e2
  cases e3 : hdI x.sent k3 with
  | none => rw [e3] at h; cases h
  | some k4 =>
  rw [e3] at h; simp only [] at h
  have h4 := hdI_le _ _ _ h3 e3
  cases h; exact h4
theorem mkEPeer_le (x : Peer) (k : Int) : (mkEPeer x k).2 ≤ 9223372036854775807 := by
  simp only [mkEPeer, mkI, mkB, mkS, inc]; first | exact wrap_le _ | (apply mkL_le)
theorem mkEPeer_cnt (x : Peer) (k : Int) (h0 : 0 ≤ k) (h1 : k + 4 ≤ 4611686018427387904) : (mkEPeer x k).2 = k + 4 := by
  simp only [mkEPeer, mkI, mkB, mkS, inc, IntKind.wrap_i64]; omega
theorem hdEPeer_mk (x : Peer) (k : Int) : hdEPeer (mkEPeer x k).1 k = some (mkEPeer x k).2 := by
  simp [hdEPeer, mkEPeer, mkI, mkB, mkS, hdI, hdB, hdS]
structure Node where
  id : Int
  term_ : Int
  vote : Int
  role : Int
  lead : Int
  conf : List Int
  log : Log
  commit : Int
  clock : Int
  limit : Int
  votes : List Int
  peers : List Peer
def Node.c (e : Node) : List T := [.v (.int .i64 e.id), .v (.int .i64 e.term_), .v (.int .i64 e.vote), .v (.int .i64 e.role), .v (.int .i64 e.lead), sl 1 cI e.conf, .v (.int .i64 e.log.start), .v (.int .i64 e.log.startTerm), sl 3 Entry.c e.log.entries, .v (.int .i64 e.commit), .v (.int .i64 e.clock), .v (.int .i64 e.limit), sl 1 cI e.votes, sl 4 Peer.c e.peers]
theorem Node.len (e : Node) : e.c.length = 14 := rfl
def Node.z : Node := ⟨0, 0, 0, 0, 0, [], Log.z, 0, 0, 0, [], []⟩
def eqNode (x y : Node) : Bool := x.id == y.id && (x.term_ == y.term_ && (x.vote == y.vote && (x.role == y.role && (x.lead == y.lead && ((eqS eqI) x.conf y.conf && (eqLog x.log y.log && (x.commit == y.commit && (x.clock == y.clock && (x.limit == y.limit && ((eqS eqI) x.votes y.votes && ((eqS eqPeer) x.peers y.peers)))))))))))
theorem eqNode_refl (x : Node) : eqNode x x = true := by simp [eqNode, eqS_refl eqI_refl, eqS_refl eqPeer_refl, eqLog_refl]
def mkVNode (x : Node) (k : Int) : Node × Int := ((⟨x.id, x.term_, x.vote, x.role, x.lead, ((mkL mkI) x.conf k).1, (mkVLog x.log ((mkL mkI) x.conf k).2).1, x.commit, x.clock, x.limit, ((mkL mkI) x.votes (mkVLog x.log ((mkL mkI) x.conf k).2).2).1, ((mkL mkEPeer) x.peers ((mkL mkI) x.votes (mkVLog x.log ((mkL mkI) x.conf k).2).2).2).1⟩ : Node), ((mkL mkEPeer) x.peers ((mkL mkI) x.votes (mkVLog x.log ((mkL mkI) x.conf k).2).2).2).2)
def hdVNode (x : Node) (k0 : Int) : Option Int := match (hdN (hdL hdI)) x.conf k0 with | none => none | some k1 => match (hdN hdVLog) x.log k1 with | none => none | some k2 => match (hdN (hdL hdI)) x.votes k2 with | none => none | some k3 => match (hdN (hdL hdEPeer)) x.peers k3 with | none => none | some k4 => some k4
theorem hdVNode_le : HdLe hdVNode := by
  intro x k k9 h0 h
  unfold hdVNode at h
  cases e0 : (hdN (hdL hdI)) x.conf k with
  | none => rw [e0] at h; cases h
  | some k1 =>
  rw [e0] at h; simp only [] at h
  have h1 := (hdN_le (hdL_le hdI_le)) _ _ _ h0 e0
  cases e1 : (hdN hdVLog) x.log k1 with
  | none => rw [e1] at h; cases h
  | some k2 =>
  rw [e1] at h; simp only [] at h
  have h2 := (hdN_le hdVLog_le) _ _ _ h1 e1
  cases e2 : (hdN (hdL hdI)) x.votes k2 with
  | none => rw [e2] at h; cases h
  | some k3 =>
  rw [e2] at h; simp only [] at h
  have h3 := (hdN_le (hdL_le hdI_le)) _ _ _ h2 e2
  cases e3 : (hdN (hdL hdEPeer)) x.peers k3 with
  | none => rw [e3] at h; cases h
  | some k4 =>
  rw [e3] at h; simp only [] at h
  have h4 := (hdN_le (hdL_le hdEPeer_le)) _ _ _ h3 e3
  cases h; exact h4
theorem mkVNode_le (x : Node) (k : Int) (hk : k ≤ 9223372036854775807) : (mkVNode x k).2 ≤ 9223372036854775807 := by
  simp only [mkVNode]; repeat (first | exact hk | apply mkL_le | apply mkI_le | apply mkS_le | apply mkB_le | apply mkEEntry_le | apply mkEPeer_le | apply mkEApplied_le | apply mkVLog_le)
def szNode (e : Node) (left : Int) : Int := if szI e.conf (left) < 0 then -1 else if szLog e.log ((szI e.conf (left))) < 0 then -1 else if szI e.votes ((szLog e.log ((szI e.conf (left))))) < 0 then -1 else if szI e.peers ((szI e.votes ((szLog e.log ((szI e.conf (left))))))) < 0 then -1 else szI e.peers ((szI e.votes ((szLog e.log ((szI e.conf (left)))))))
structure Applied where
  node : Int
  term_ : Int
  index : Int
  entry : Entry
def Applied.c (e : Applied) : List T := [.v (.int .i64 e.node), .v (.int .i64 e.term_), .v (.int .i64 e.index), .v (.int .i64 e.entry.term_), .v (.int .i64 e.entry.kind), .v (.string e.entry.data)]
theorem Applied.len (e : Applied) : e.c.length = 6 := rfl
def Applied.z : Applied := ⟨0, 0, 0, Entry.z⟩
def Applied.vs (e : Applied) : List Value := [.int .i64 e.node, .int .i64 e.term_, .int .i64 e.index, .int .i64 e.entry.term_, .int .i64 e.entry.kind, .string e.entry.data]
def eqApplied (x y : Applied) : Bool := x.node == y.node && (x.term_ == y.term_ && (x.index == y.index && (eqEntry x.entry y.entry)))
theorem eqApplied_refl (x : Applied) : eqApplied x x = true := by simp [eqApplied, eqEntry_refl]
def mkEApplied (x : Applied) (k : Int) : Applied × Int := ((⟨(mkI x.node k).1, (mkI x.term_ (mkI x.node k).2).1, (mkI x.index (mkI x.term_ (mkI x.node k).2).2).1, (⟨(mkI x.entry.term_ (mkI x.index (mkI x.term_ (mkI x.node k).2).2).2).1, (mkI x.entry.kind (mkI x.entry.term_ (mkI x.index (mkI x.term_ (mkI x.node k).2).2).2).2).1, (mkS x.entry.data (mkI x.entry.kind (mkI x.entry.term_ (mkI x.index (mkI x.term_ (mkI x.node k).2).2).2).2).2).1⟩ : Entry)⟩ : Applied), (mkS x.entry.data (mkI x.entry.kind (mkI x.entry.term_ (mkI x.index (mkI x.term_ (mkI x.node k).2).2).2).2).2).2)
def hdEApplied (x : Applied) (k0 : Int) : Option Int := match hdI x.node k0 with | none => none | some k1 => match hdI x.term_ k1 with | none => none | some k2 => match hdI x.index k2 with | none => none | some k3 => match hdI x.entry.term_ k3 with | none => none | some k4 => match hdI x.entry.kind k4 with | none => none | some k5 => match hdS x.entry.data k5 with | none => none | some k6 => some k6
theorem hdEApplied_le : HdLe hdEApplied := by
  intro x k k9 h0 h
  unfold hdEApplied at h
  cases e0 : hdI x.node k with
  | none => rw [e0] at h; cases h
  | some k1 =>
  rw [e0] at h; simp only [] at h
  have h1 := hdI_le _ _ _ h0 e0
  cases e1 : hdI x.term_ k1 with
  | none => rw [e1] at h; cases h
  | some k2 =>
  rw [e1] at h; simp only [] at h
  have h2 := hdI_le _ _ _ h1 e1
  cases e2 : hdI x.index k2 with
  | none => rw [e2] at h; cases h
  | some k3 =>
  rw [e2] at h; simp only [] at h
  have h3 := hdI_le _ _ _ h2 e2
  cases e3 : hdI x.entry.term_ k3 with
  | none => rw [e3] at h; cases h
  | some k4 =>
  rw [e3] at h; simp only [] at h
  have h4 := hdI_le _ _ _ h3 e3
  cases e4 : hdI x.entry.kind k4 with
  | none => rw [e4] at h; cases h
  | some k5 =>
  rw [e4] at h; simp only [] at h
  have h5 := hdI_le _ _ _ h4 e4
  cases e5 : hdS x.entry.data k5 with
  | none => rw [e5] at h; cases h
  | some k6 =>
  rw [e5] at h; simp only [] at h
  have h6 := hdS_le _ _ _ h5 e5
  cases h; exact h6
theorem mkEApplied_le (x : Applied) (k : Int) : (mkEApplied x k).2 ≤ 9223372036854775807 := by
  simp only [mkEApplied, mkI, mkB, mkS, inc]; first | exact wrap_le _ | (apply mkL_le)
theorem mkEApplied_cnt (x : Applied) (k : Int) (h0 : 0 ≤ k) (h1 : k + 6 ≤ 4611686018427387904) : (mkEApplied x k).2 = k + 6 := by
  simp only [mkEApplied, mkI, mkB, mkS, inc, IntKind.wrap_i64]; omega
theorem hdEApplied_mk (x : Applied) (k : Int) : hdEApplied (mkEApplied x k).1 k = some (mkEApplied x k).2 := by
  simp [hdEApplied, mkEApplied, mkI, mkB, mkS, hdI, hdB, hdS]
def szApplied (e : Applied) (left : Int) : Int := if szEntry e.entry (left) < 0 then -1 else szEntry e.entry (left)
def okToEntry (e : Entry) : Prop := e.data.size ≤ 1048576
def okToLog (e : Log) : Prop := okSl okToEntry e.entries
def okToNode (e : Node) : Prop := okSl (fun _ => True) e.conf ∧ okToLog e.log ∧ okSl (fun _ => True) e.votes ∧ okSl (fun _ => True) e.peers
def okToApplied (e : Applied) : Prop := okToEntry e.entry
def okEntry (e : Entry) : Prop := okI e.term_ ∧ okI e.kind ∧ okS e.data
def okLog (e : Log) : Prop := okI e.start ∧ okI e.startTerm ∧ (okL okEntry) e.entries
def okPeer (e : Peer) : Prop := okI e.id ∧ okI e.next ∧ okI e.match_ ∧ okI e.sent
def okNode (e : Node) : Prop := okI e.id ∧ okI e.term_ ∧ okI e.vote ∧ okI e.role ∧ okI e.lead ∧ (okL okI) e.conf ∧ okLog e.log ∧ okI e.commit ∧ okI e.clock ∧ okI e.limit ∧ (okL okI) e.votes ∧ (okL okPeer) e.peers
def okApplied (e : Applied) : Prop := okI e.node ∧ okI e.term_ ∧ okI e.index ∧ okEntry e.entry
theorem szEntry_ok : SzOk szEntry okEntry okToEntry := by
  intro e l hk h0 h1 hs
  unfold szEntry at hs ⊢
  by_cases c0 : IntKind.i64.wrap (l - e.data.size) < 0
  · rw [if_pos c0] at hs; omega
  rw [if_neg c0] at hs ⊢
  have p0 := szStr_ok e.data (l) hk.2.2 (by omega) (by omega) (by show 0 ≤ IntKind.i64.wrap (l - e.data.size); omega)
  have q0 : IntKind.i64.wrap (l - e.data.size) ≤ l := p0.2
  exact ⟨p0.1, by omega⟩
theorem szLog_ok : SzOk szLog okLog okToLog := by
  intro e l hk h0 h1 hs
  unfold szLog at hs ⊢
  by_cases c0 : szS szEntry e.entries (l) < 0
  · rw [if_pos c0] at hs; omega
  rw [if_neg c0] at hs ⊢
  have p0 := (szS_ok szEntry_ok) e.entries (l) hk.2.2 (by omega) (by omega) (by show 0 ≤ szS szEntry e.entries (l); omega)
  have q0 : szS szEntry e.entries (l) ≤ l := p0.2
  exact ⟨p0.1, by omega⟩
theorem szNode_ok : SzOk szNode okNode okToNode := by
  intro e l hk h0 h1 hs
  unfold szNode at hs ⊢
  by_cases c0 : szI e.conf (l) < 0
  · rw [if_pos c0] at hs; omega
  rw [if_neg c0] at hs ⊢
  have p0 := szI_ok e.conf (l) hk.2.2.2.2.2.1 (by omega) (by omega) (by show 0 ≤ szI e.conf (l); omega)
  have q0 : szI e.conf (l) ≤ l := p0.2
  by_cases c1 : szLog e.log ((szI e.conf (l))) < 0
  · rw [if_pos c1] at hs; omega
  rw [if_neg c1] at hs ⊢
  have p1 := szLog_ok e.log ((szI e.conf (l))) hk.2.2.2.2.2.2.1 (by omega) (by omega) (by show 0 ≤ szLog e.log ((szI e.conf (l))); omega)
  have q1 : szLog e.log ((szI e.conf (l))) ≤ (szI e.conf (l)) := p1.2
  by_cases c2 : szI e.votes ((szLog e.log ((szI e.conf (l))))) < 0
  · rw [if_pos c2] at hs; omega
  rw [if_neg c2] at hs ⊢
  have p2 := szI_ok e.votes ((szLog e.log ((szI e.conf (l))))) hk.2.2.2.2.2.2.2.2.2.2.1 (by omega) (by omega) (by show 0 ≤ szI e.votes ((szLog e.log ((szI e.conf (l))))); omega)
  have q2 : szI e.votes ((szLog e.log ((szI e.conf (l))))) ≤ (szLog e.log ((szI e.conf (l)))) := p2.2
  by_cases c3 : szI e.peers ((szI e.votes ((szLog e.log ((szI e.conf (l))))))) < 0
  · rw [if_pos c3] at hs; omega
  rw [if_neg c3] at hs ⊢
  have p3 := szI_ok e.peers ((szI e.votes ((szLog e.log ((szI e.conf (l))))))) hk.2.2.2.2.2.2.2.2.2.2.2 (by omega) (by omega) (by show 0 ≤ szI e.peers ((szI e.votes ((szLog e.log ((szI e.conf (l))))))); omega)
  have q3 : szI e.peers ((szI e.votes ((szLog e.log ((szI e.conf (l))))))) ≤ (szI e.votes ((szLog e.log ((szI e.conf (l)))))) := p3.2
  exact ⟨⟨p0.1, p1.1, p2.1, p3.1⟩, by omega⟩
theorem szApplied_ok : SzOk szApplied okApplied okToApplied := by
  intro e l hk h0 h1 hs
  unfold szApplied at hs ⊢
  by_cases c0 : szEntry e.entry (l) < 0
  · rw [if_pos c0] at hs; omega
  rw [if_neg c0] at hs ⊢
  have p0 := szEntry_ok e.entry (l) hk.2.2.2 (by omega) (by omega) (by show 0 ≤ szEntry e.entry (l); omega)
  have q0 : szEntry e.entry (l) ≤ l := p0.2
  exact ⟨p0.1, by omega⟩
def badApplied (x y : Applied) : Bool := x.index == y.index && !eqEntry x.entry y.entry
def inR (n x y : Int) : Bool := decide (n ≥ x) && decide (n ≤ y)
def riseOk (lo hi : Int) : Option Int → List Int → Bool
  | _, [] => true
  | p, x :: r => if !(inR x lo hi) || (match p with | none => false | some q => decide (q ≥ x)) then false else riseOk lo hi (some x) r
theorem riseOk_cons (lo hi : Int) (p : Option Int) (x : Int) (r : List Int) : riseOk lo hi p (x :: r) = if !(inR x lo hi) || (match p with | none => false | some q => decide (q ≥ x)) then false else riseOk lo hi (some x) r := by
  cases p <;> rfl
theorem riseOk_nil (lo hi : Int) (p : Option Int) : riseOk lo hi p [] = true := by
  cases p <;> rfl
def prevI (a : List Int) (i : Nat) : Option Int := if i = 0 then none else some (a.getD (i - 1) 0)
theorem prevI_succ {a : List Int} {i : Nat} {e : Int} (h : a[i]? = some e) : prevI a (i + 1) = some e := by
  simp [prevI, List.getD_eq_getElem?_getD, h]
def confOk (a : List Int) : Bool := inR (a.length : Int) 1 4 && riseOk 1 4 none a
theorem confOk_pos {a : List Int} (h : confOk a = true) : 0 < a.length := by
  simp [confOk, inR] at h
  omega
theorem riseOk_len : ∀ (a : List Int) (q : Int), riseOk 1 4 (some q) a = true → (a.length : Int) ≤ max 0 (4 - q)
  | [], q, _ => by simp; omega
  | x :: r, q, h => by
    rw [riseOk] at h
    split at h
    · cases h
    · rename_i hc
      have ih := riseOk_len r x h
      simp [inR] at hc
      simp only [List.length_cons]
      omega
theorem confOk_impl (a : List Int) : (decide ((a.length : Int) > 0) && riseOk 1 4 none a) = confOk a := by
  unfold confOk inR
  cases a with
  | nil => simp
  | cons x r =>
    cases hr : riseOk 1 4 none (x :: r) with
    | false => simp
    | true =>
      rw [riseOk] at hr
      split at hr
      · cases hr
      · rename_i hc
        have ih := riseOk_len r x hr
        simp [inR] at hc
        simp
        omega
def confFits (n : Int) (a : List Int) : Bool := confOk a && decide (a.getD (a.length - 1) 0 ≤ n)
/-! ### Entries -/
theorem ba_ext {x y : ByteArray} (h : x.toList = y.toList) : x = y := by
  rw [ByteArray.toList_eq, ByteArray.toList_eq] at h
  exact ByteArray.ext (Array.ext' h)
theorem eqEntry_eq {x y : Entry} (h : eqEntry x y = true) : x = y := by
  cases x; cases y
  simp [eqEntry] at h
  obtain ⟨rfl, rfl, h⟩ := h
  rw [ba_ext h]
def GoodE (a : List Applied) (out : List Entry) : Prop := ∀ (j : Nat) (e : Entry), out[j]? = some e → ∃ x ∈ a, x.index = (j : Int) + 1 ∧ x.entry = e
def FinE (a : List Applied) (out : List Entry) : Prop := ∀ x ∈ a, x.index ≠ (out.length : Int) + 1
open Classical in
noncomputable def ents (a : List Applied) : List Entry := if h : pairs badApplied [] a = true ∧ ∃ out, GoodE a out ∧ FinE a out then h.2.choose else []
theorem good_nil (a : List Applied) : GoodE a [] := by intro j e h; simp at h
theorem good_snoc {a : List Applied} {out : List Entry} (h : GoodE a out) {x : Applied} (hx : x ∈ a) (hi : x.index = (out.length : Int) + 1) : GoodE a (out ++ [x.entry]) := by
  intro j e he
  rcases Nat.lt_or_ge j out.length with hj | hj
  · rw [List.getElem?_append_left hj] at he
    exact h j e he
  · rw [List.getElem?_append_right hj] at he
    have h0 : j - out.length = 0 := by
      rcases Nat.eq_zero_or_pos (j - out.length) with h0 | h0
      · exact h0
      · rw [List.getElem?_eq_none (by simp; omega)] at he; cases he
    rw [h0] at he
    simp at he
    exact ⟨x, hx, by omega, he⟩
theorem nodup_len : ∀ {l1 l2 : List Int}, l1.Nodup → (∀ x ∈ l1, x ∈ l2) → l1.length ≤ l2.length
  | [], _, _, _ => by simp
  | x :: r, l2, h, hs => by
    rw [List.nodup_cons] at h
    have hx := hs x (by simp)
    have := nodup_len (l2 := l2.erase x) h.2 (fun y hy => (List.mem_erase_of_ne (fun e => h.1 (by rw [← e]; exact hy))).2 (hs y (by simp [hy])))
    rw [List.length_erase_of_mem hx] at this
    have := List.length_pos_of_mem hx
    simp
    omega
theorem good_len {a : List Applied} {out : List Entry} (h : GoodE a out) : out.length ≤ a.length := by
  have := nodup_len (l1 := (List.range out.length).map (fun (j : Nat) => (j : Int) + 1)) (l2 := a.map (·.index)) ?_ ?_
  · simpa using this
  · refine List.Pairwise.map _ (fun x y hxy => ?_) List.nodup_range
    omega
  · intro x hx
    simp only [List.mem_map, List.mem_range] at hx
    obtain ⟨j, hj, rfl⟩ := hx
    obtain ⟨y, hy, hyi, _⟩ := h j _ (List.getElem?_eq_getElem hj)
    exact List.mem_map.2 ⟨y, hy, hyi⟩
theorem pairs_pw {α : Type} {bad : α → α → Bool} : ∀ {r pre : List α}, pairs bad pre r = true → (∀ y ∈ r, ∀ x ∈ pre, bad y x = false) ∧ r.Pairwise (fun x y => bad y x = false)
  | [], pre, _ => by simp
  | x :: r, pre, h => by
    rw [pairs] at h
    split at h
    · cases h
    · rename_i hc
      obtain ⟨h1, h2⟩ := pairs_pw h
      have hp : ∀ z ∈ pre, bad x z = false := by simpa using hc
      refine ⟨fun y hy z hz => ?_, List.pairwise_cons.2 ⟨fun y hy => h1 y hy x (by simp), h2⟩⟩
      rcases List.mem_cons.1 hy with rfl | hy
      · exact hp z hz
      · exact h1 y hy z (by simp [hz])
theorem same_of {a : List Applied} (h : pairs badApplied [] a = true) {x y : Applied} (hx : x ∈ a) (hy : y ∈ a) (he : x.index = y.index) : x.entry = y.entry := by
  have hp := (pairs_pw h).2
  have key : ∀ {l : List Applied}, l.Pairwise (fun x y => badApplied y x = false) → ∀ x ∈ l, ∀ y ∈ l, x.index = y.index → x.entry = y.entry := by
    intro l hl
    induction hl with
    | nil => intro x hx; simp at hx
    | cons h1 h2 ih =>
      rename_i z l
      intro x hx y hy he
      have hb : ∀ y ∈ l, z.index = y.index → z.entry = y.entry := fun y hy e => by
        have := h1 y hy
        simp [badApplied, e] at this
        exact (eqEntry_eq this).symm
      rcases List.mem_cons.1 hx with hx | hx <;> rcases List.mem_cons.1 hy with hy | hy
      · rw [hx, hy]
      · rw [hx]; exact hb y hy (hx ▸ he)
      · rw [hy]; exact (hb x hx (hy ▸ he.symm)).symm
      · exact ih x hx y hy he
  exact key hp x hx y hy he
theorem good_uniq {a : List Applied} (hs : pairs badApplied [] a = true) {o1 o2 : List Entry} (g1 : GoodE a o1) (f1 : FinE a o1) (g2 : GoodE a o2) (f2 : FinE a o2) : o1 = o2 := by
  have key : ∀ {o1 o2 : List Entry}, FinE a o1 → GoodE a o2 → o2.length ≤ o1.length := fun {o1 o2} f g => by
    rcases Nat.lt_or_ge o1.length o2.length with h | h
    · obtain ⟨x, hx, hi, _⟩ := g o1.length _ (List.getElem?_eq_getElem h)
      exact absurd hi (f x hx)
    · exact h
  have hl : o1.length = o2.length := Nat.le_antisymm (key f2 g1) (key f1 g2)
  refine List.ext_getElem hl (fun j h1 h2 => ?_)
  obtain ⟨x, hx, hi, he⟩ := g1 j _ (List.getElem?_eq_getElem h1)
  obtain ⟨y, hy, hi', he'⟩ := g2 j _ (List.getElem?_eq_getElem h2)
  rw [← he, ← he', same_of hs hx hy (by omega)]
theorem ents_eq {a : List Applied} {out : List Entry} (hs : pairs badApplied [] a = true) (g : GoodE a out) (f : FinE a out) : out = ents a := by
  unfold ents
  rw [dif_pos ⟨hs, out, g, f⟩]
  have := (show ∃ out, GoodE a out ∧ FinE a out from ⟨out, g, f⟩).choose_spec
  exact good_uniq hs g f this.1 this.2
theorem ents_no {a : List Applied} (hs : pairs badApplied [] a = false) : ents a = [] := by
  unfold ents
  rw [dif_neg (by simp [hs])]
theorem fin_no {a : List Applied} {out : List Entry} (h : ∀ x ∈ a, x.index ≠ (out.length : Int) + 1) : FinE a out := h
theorem wrap_len {n : Nat} (h : n ≤ 1048576) : IntKind.i64.wrap ((n : Int) + 1) = (n : Int) + 1 := by
  rw [IntKind.wrap_i64]; omega
theorem mem_take_snoc {α : Type} {l : List α} {i : Nat} {e x : α} (h : l[i]? = some e) (hx : x ∈ l.take (i + 1)) : x ∈ l.take i ∨ x = e := by
  rw [take_snoc h] at hx
  simpa using hx
def EntP (a : List Applied) (out : List Entry) (k : Nat) (f2 : Bool) (out2 : List Entry) : Prop :=
  k ≤ a.length ∧ GoodE a out2 ∧ (f2 = false → out2 = out ∧ ∀ x ∈ a.take k, x.index ≠ (out.length : Int) + 1) ∧ (f2 = true → out.length < out2.length)
theorem EntP.init {a : List Applied} {out : List Entry} (hg : GoodE a out) : EntP a out 0 false out := ⟨by omega, hg, fun _ => ⟨rfl, by simp⟩, by simp⟩
theorem EntP.yes {a : List Applied} {out out2 : List Entry} {k : Nat} {f2 : Bool} {ek : Applied} (hm : a.length ≤ 1048576) (h : EntP a out k f2 out2) (hek : a[k]? = some ek) (hi : (ek.index == IntKind.i64.wrap ((out2.length : Int) + 1)) = true) : EntP a out (k + 1) true (out2 ++ [ek.entry]) := by
  obtain ⟨h1, h2, h3, h4⟩ := h
  have hl := good_len h2
  have hk : k < a.length := (List.getElem?_eq_some_iff.1 hek).1
  rw [wrap_len (by omega)] at hi
  refine ⟨by omega, good_snoc h2 (List.mem_of_getElem? hek) (by simpa using hi), by simp, fun _ => ?_⟩
  cases f2 with
  | false => simp [(h3 rfl).1]
  | true => have := h4 rfl; simp; omega
theorem EntP.no {a : List Applied} {out out2 : List Entry} {k : Nat} {f2 : Bool} {ek : Applied} (hm : a.length ≤ 1048576) (h : EntP a out k f2 out2) (hek : a[k]? = some ek) (hi : (ek.index == IntKind.i64.wrap ((out2.length : Int) + 1)) = false) : EntP a out (k + 1) f2 out2 := by
  obtain ⟨h1, h2, h3, h4⟩ := h
  have hl := good_len h2
  have hk : k < a.length := (List.getElem?_eq_some_iff.1 hek).1
  rw [wrap_len (by omega)] at hi
  refine ⟨by omega, h2, fun hf => ?_, h4⟩
  obtain ⟨rfl, h5⟩ := h3 hf
  refine ⟨rfl, fun x hx => ?_⟩
  rcases mem_take_snoc hek hx with hx | rfl
  · exact h5 x hx
  · simpa using hi
theorem EntP.fin {a : List Applied} {out out2 : List Entry} {k : Nat} {f2 : Bool} (h : EntP a out k f2 out2) (hk : a.length ≤ k) : f2 = false → FinE a out2 := fun hf => by
  obtain ⟨h1, h2, h3, h4⟩ := h
  obtain ⟨rfl, h5⟩ := h3 hf
  rw [List.take_of_length_le hk] at h5
  exact h5
theorem EntP.fin2 {a : List Applied} {out out2 : List Entry} {k : Nat} {f2 v : Bool} (h : EntP a out k f2 out2) (hv : v = (decide ((k : Int) < (a.length : Int)) && (!f2))) (hn : v = false) : f2 = false → FinE a out2 := fun hf => by
  subst hf
  rw [hv] at hn
  simp at hn
  exact h.fin hn rfl
theorem EntP.dec {a : List Applied} {out out2 : List Entry} {k : Nat} {f f2 : Bool} (h : EntP a out k f2 out2) (hol : out.length ≤ a.length) (hf : f = true) : 2 * (a.length - out2.length) + (if f2 = true then 1 else 0) < 2 * (a.length - out.length) + (if f = true then 1 else 0) := by
  obtain ⟨h1, h2, h3, h4⟩ := h
  have hl := good_len h2
  subst hf
  cases f2 with
  | false => simp [(h3 rfl).1]
  | true => have := h4 rfl; simp; omega
theorem ents_len (a : List Applied) : (ents a).length ≤ a.length := by
  unfold ents
  split
  · rename_i h
    exact good_len h.2.choose_spec.1
  · simp
theorem mkEApplied_pos (a : List Applied) (h : a.length ≤ 1048576) : 0 ≤ (mkL mkEApplied a 1).2 := by
  rw [mkL_cnt 6 (fun x k => mkEApplied_cnt x k) a 1 (by omega) (by omega)]
  omega
theorem mkEEntry_pos (a : List Entry) (h : a.length ≤ 1048576) : 0 ≤ (mkL mkEEntry a 1).2 := by
  rw [mkL_cnt 3 (fun x k => mkEEntry_cnt x k) a 1 (by omega) (by omega)]
  omega
theorem hdEEntry_all (a : List Entry) : (hdL hdEEntry (mkL mkEEntry a 1).1 1).getD (-1) = (mkL mkEEntry a 1).2 := by
  rw [hdL_mk hdEEntry_mk]
  rfl

/-! ### confs, entries, logs -/
def bys (s : ByteArray) (n : Nat) : List Int := (List.range n).map fun i => IntKind.i64.wrap (bat s i)
theorem bys_succ (s : ByteArray) (n : Nat) : bys s (n + 1) = bys s n ++ [IntKind.i64.wrap (bat s n)] := by simp [bys, List.range_succ]
theorem bys_len (s : ByteArray) (n : Nat) : (bys s n).length = n := by simp [bys]
def readConf (s : ByteArray) : List Int × Bool := if confOk (bys s s.size) then (bys s s.size, true) else ([], false)
theorem confOk_len {a : List Int} (h : confOk a = true) : a.length ≤ 4 := by
  simp [confOk, inR] at h
  omega
theorem rc_no {s : ByteArray} {i : Nat} (hi : i = s.size ∨ (5 ≤ i ∧ i ≤ s.size)) (h : (!(((bys s i).length : Int) == (s.size : Int)) || !confOk (bys s i)) = true) : readConf s = ([], false) := by
  unfold readConf
  split
  · rename_i hc
    exfalso
    rcases hi with rfl | ⟨h1, h2⟩
    · simp [bys_len, hc] at h
    · have := confOk_len hc
      rw [bys_len] at this
      omega
  · rfl
theorem rc_yes {s : ByteArray} {i : Nat} (h : (!(((bys s i).length : Int) == (s.size : Int)) || !confOk (bys s i)) = false) : readConf s = (bys s i, true) := by
  simp [bys_len] at h
  obtain ⟨h1, h2⟩ := h
  have : i = s.size := by omega
  subst this
  simp [readConf, h2]
theorem rc_exit {s : ByteArray} {i : Nat} {v : Bool} (h5 : i ≤ 5) (hs : i ≤ s.size) (hv : v = (decide ((i : Int) < (s.size : Int)) && decide ((i : Int) ≤ 4))) (hn : v = false) : i = s.size ∨ (5 ≤ i ∧ i ≤ s.size) := by
  rw [hv] at hn
  simp at hn
  omega
def entOk (e : Entry) : Bool := inR e.term_ 0 100000 && (if e.kind == 1 then e.data.toList == (⟨#[]⟩ : ByteArray).toList else if e.kind == 2 then (readConf e.data).2 else (e.kind == 3 && decide ((e.data.size : Int) ≤ 120)))
def termsOk : Int → List Entry → Bool
  | _, [] => true
  | t, e :: r => if !entOk e || decide (e.term_ < t) then false else termsOk e.term_ r
def logOk (l : Log) : Bool := inR l.start 0 1000000 && (inR l.startTerm 0 100000 && (decide ((l.entries.length : Int) ≤ 60) && (decide (IntKind.i64.wrap (l.start + (l.entries.length : Int)) ≤ 1000000) && termsOk l.startTerm l.entries)))
def logLast (l : Log) : Int × Int := if l.entries.length = 0 then (l.start, l.startTerm) else (IntKind.i64.wrap (l.start + (l.entries.length : Int)), (l.entries.getD (l.entries.length - 1) Entry.z).term_)
/-! ### lists -/
def idxF {α : Type} (p : α → Bool) (a : List α) : Int := match a.findIdx? p with | none => -1 | some i => (i : Int)
theorem findIdx_at {α : Type} {p : α → Bool} : ∀ {a : List α} {i : Nat} {e : α}, (a.take i).any p = false → a[i]? = some e → p e = true → a.findIdx? p = some i
  | [], i, e, _, h, _ => by simp at h
  | x :: r, 0, e, _, h, hp => by
    simp at h
    subst h
    simp [List.findIdx?_cons, hp]
  | x :: r, i + 1, e, ha, h, hp => by
    simp only [List.take_succ_cons, List.any_cons, Bool.or_eq_false_iff] at ha
    have := findIdx_at (a := r) ha.2 (by simpa using h) hp
    simp [List.findIdx?_cons, ha.1, this]
theorem idxF_at {α : Type} {p : α → Bool} {a : List α} {i : Nat} {e : α} (ha : (a.take i).any p = false) (h : a[i]? = some e) (hp : p e = true) : (i : Int) = idxF p a := by
  simp [idxF, findIdx_at ha h hp]
theorem idxF_no {α : Type} {p : α → Bool} {a : List α} {i : Nat} (ha : (a.take i).any p = false) (hi : a.length ≤ i) : -1 = idxF p a := by
  rw [List.take_of_length_le hi] at ha
  have : a.findIdx? p = none := by
    rw [List.findIdx?_eq_none_iff]
    intro x hx
    have := List.any_eq_false.1 ha x hx
    simpa using this
  simp [idxF, this]
theorem any_snoc {α : Type} {p : α → Bool} {a : List α} {i : Nat} {e : α} (ha : (a.take i).any p = false) (h : a[i]? = some e) (hp : p e = false) : (a.take (i + 1)).any p = false := by
  rw [take_snoc h, List.any_append, ha]
  simp [hp]
theorem idxF_none {α : Type} {p : α → Bool} {a : List α} (h : (idxF p a == -1) = true) : a = a.filter (fun x => !p x) := by
  unfold idxF at h
  cases hf : a.findIdx? p with
  | some i => rw [hf] at h; simp at h
  | none =>
    rw [List.findIdx?_eq_none_iff] at hf
    symm
    rw [List.filter_eq_self]
    intro x hx
    simp [hf x hx]
theorem idxF_some {α : Type} {p : α → Bool} {a : List α} (h : (idxF p a == -1) = false) : ∃ m : Nat, idxF p a = (m : Int) ∧ m < a.length ∧ a.take m = (a.take (m + 1)).filter (fun x => !p x) := by
  unfold idxF at h ⊢
  cases hf : a.findIdx? p with
  | none => rw [hf] at h; simp at h
  | some i =>
    rw [List.findIdx?_eq_some_iff_getElem] at hf
    obtain ⟨h1, h2, h3⟩ := hf
    refine ⟨i, rfl, h1, ?_⟩
    rw [List.take_succ_eq_append_getElem h1, List.filter_append]
    simp [h2]
    symm
    rw [List.filter_eq_self]
    intro x hx
    obtain ⟨j, hj, rfl⟩ := List.getElem_of_mem hx
    simp at hj
    have := h3 j (by omega)
    simpa using this
structure DelP (p : Int → Bool) (a : List Int) (i j : Nat) (b : List Int) : Prop where
  lt : i < j
  le : j ≤ a.length
  len : b.length = a.length
  tk : b.take i = (a.take j).filter (fun x => !p x)
  dr : b.drop j = a.drop j
theorem DelP.elem {p : Int → Bool} {a b : List Int} {i j : Nat} {e : Int} (h : DelP p a i j b) (hb : b[j]? = some e) : a[j]? = some e := by
  have h1 := congrArg (·[0]?) h.dr
  simp at h1
  rw [← h1, hb]
theorem DelP.keep {p : Int → Bool} {a b : List Int} {i j : Nat} {e : Int} (h : DelP p a i j b) (hb : b[j]? = some e) (hp : (!p e) = true) : DelP p a (i + 1) (j + 1) (b.set i e) := by
  have hj : j < b.length := (List.getElem?_eq_some_iff.1 hb).1
  have hl := h.lt
  have hle := h.le
  have hlen := h.len
  refine ⟨by omega, by omega, by simp [hlen], ?_, ?_⟩
  · rw [take_snoc (h.elem hb), List.filter_append, ← h.tk, List.take_succ_eq_append_getElem (by simp; omega)]
    simp [List.take_set_of_le, hp]
  · rw [List.drop_set_of_lt (by omega)]
    have := congrArg List.tail h.dr
    simpa using this
theorem DelP.skip {p : Int → Bool} {a b : List Int} {i j : Nat} {e : Int} (h : DelP p a i j b) (hb : b[j]? = some e) (hp : (!p e) = false) : DelP p a i (j + 1) b := by
  have hj : j < b.length := (List.getElem?_eq_some_iff.1 hb).1
  have hl := h.lt
  have hle := h.le
  have hlen := h.len
  refine ⟨by omega, by omega, hlen, ?_, ?_⟩
  · rw [take_snoc (h.elem hb), List.filter_append, ← h.tk]
    simp [hp]
  · have := congrArg List.tail h.dr
    simpa using this
theorem DelP.fin {p : Int → Bool} {a b c : List Int} {i j : Nat} (h : DelP p a i j b) (hj : b.length ≤ j) : (b.take i ++ c).take i = a.filter (fun x => !p x) := by
  have hl := h.lt
  have hle := h.le
  have hlen := h.len
  rw [List.take_append_of_le_length (by simp; omega), List.take_take, Nat.min_self, h.tk, List.take_of_length_le (by omega)]
/-! ### the conf of a node -/
def lcGo (start idx : Int) (es : List Entry) : Nat → Option (Int × List Int)
  | 0 => none
  | i + 1 => if (readConf (es.getD i Entry.z).data).2 && ((es.getD i Entry.z).kind == 2 && decide (IntKind.i64.wrap (IntKind.i64.wrap (start + (i : Int)) + 1) ≤ idx)) then some (IntKind.i64.wrap (IntKind.i64.wrap (start + (i : Int)) + 1), (readConf (es.getD i Entry.z).data).1) else lcGo start idx es i
def lastC (n : Node) (idx : Int) : Int × List Int := (lcGo n.log.start idx n.log.entries n.log.entries.length).getD (-1, n.conf)
def cfGo (start idx : Int) : Nat → List Entry → List Int → List Int
  | _, [], out => out
  | i, e :: r, out => if IntKind.i64.wrap (IntKind.i64.wrap (start + 1) + (i : Int)) ≤ idx then cfGo start idx (i + 1) r (if e.kind == 2 && (readConf e.data).2 then (readConf e.data).1 else out) else out
def confAtS (n : Node) (idx : Int) : List Int := cfGo n.log.start idx 0 n.log.entries n.conf
def others (c : List Int) (id : Int) : List Int := c.filter (fun x => !(x == id))
def pkOk (last : Int) (p : Peer) : Bool := inR p.next 1 (IntKind.i64.wrap (last + 1)) && (inR p.match_ 0 (IntKind.i64.wrap (p.next - 1)) && inR p.sent 0 20000)
def pkGo (last : Int) : List Peer → List Int → Bool
  | p :: ps, o :: os => if !(p.id == o) || !pkOk last p then false else pkGo last ps os
  | _, _ => true
def peersOkB (n : Node) : Bool := n.peers.all (pkOk (logLast n.log).1) && eqS eqI (n.peers.map (·.id)) (others (lastC n (logLast n.log).1).2 n.id)
theorem cf_step {start idx : Int} {k : Nat} {e : Entry} {r : List Entry} {out o2 : List Int} (h : IntKind.i64.wrap (IntKind.i64.wrap (start + 1) + (k : Int)) ≤ idx) (ho : o2 = if e.kind == 2 && (readConf e.data).2 then (readConf e.data).1 else out) : cfGo start idx (k + 1) r o2 = cfGo start idx k (e :: r) out := by
  rw [cfGo, if_pos h, ho]
theorem cf_stop {start idx : Int} {k : Nat} {es : List Entry} {out : List Int} {v : Bool} (hv : v = (decide ((k : Int) < (es.length : Int)) && decide (IntKind.i64.wrap (IntKind.i64.wrap (start + 1) + (k : Int)) ≤ idx))) (h : v = false) : out = cfGo start idx k (es.drop k) out := by
  rw [hv] at h
  cases hd : es.drop k with
  | nil => rfl
  | cons e r =>
    have hl : k < es.length := by
      rcases Nat.lt_or_ge k es.length with h1 | h1
      · exact h1
      · rw [List.drop_eq_nil_of_le h1] at hd; cases hd
    have h1 : ¬ IntKind.i64.wrap (IntKind.i64.wrap (start + 1) + (k : Int)) ≤ idx := by
      intro hc
      have : (k : Int) < (es.length : Int) := by omega
      simp [this, hc] at h
    rw [cfGo, if_neg h1]
theorem lc_at {start idx : Int} {es : List Entry} {i : Nat} (h0 : 0 < i) : lcGo start idx es i =
    if (((readConf (es.getD (i - 1) Entry.z).data).2 && ((es.getD (i - 1) Entry.z).kind == 2)) && decide (IntKind.i64.wrap (IntKind.i64.wrap (start + ((i : Int) - 1)) + 1) ≤ idx)) = true then some (IntKind.i64.wrap (IntKind.i64.wrap (start + ((i : Int) - 1)) + 1), (readConf (es.getD (i - 1) Entry.z).data).1) else lcGo start idx es (i - 1) := by
  obtain ⟨j, rfl⟩ : ∃ j, i = j + 1 := ⟨i - 1, by omega⟩
  have e : ((j + 1 : Nat) : Int) - 1 = (j : Int) := by omega
  rw [lcGo, Nat.add_sub_cancel, e, Bool.and_assoc]
theorem wrap_pred {n : Nat} (h : n ≤ maxLen) : IntKind.i64.wrap ((n : Int) - 1) = (n : Int) - 1 := by
  rw [IntKind.wrap_i64]
  simp only [maxLen] at h
  omega
theorem wrap_pp {i n : Nat} (h : 0 < i) (hb : i ≤ n) (hl : n ≤ maxLen) : IntKind.i64.wrap ((i : Int) - 1 - 1) = ((i - 1 : Nat) : Int) - 1 := by
  rw [IntKind.wrap_i64]
  simp only [maxLen] at hl
  omega
theorem getD_mem {α : Type} {l : List α} {j : Nat} {z : α} (h : j < l.length) : l.getD j z ∈ l := by
  rw [List.getD_eq_getElem?_getD, List.getElem?_eq_getElem h]
  exact List.getElem_mem h
theorem all_snoc {α : Type} {p : α → Bool} {a : List α} {i : Nat} {e : α} (ha : (a.take i).all p = true) (h : a[i]? = some e) (hp : p e = true) : (a.take (i + 1)).all p = true := by
  rw [take_snoc h, List.all_append, ha]
  simp [hp]
theorem all_not {α : Type} {p : α → Bool} {a : List α} {i : Nat} {e : α} (h : a[i]? = some e) (hp : p e = false) : a.all p = false := by
  rw [List.all_eq_false]
  exact ⟨e, List.mem_of_getElem? h, by simp [hp]⟩
def nodeOk (n : Node) : Bool :=
  if !(inR n.id 1 4) || (!(confOk n.conf) || (!(logOk n.log) || (!(inR n.term_ 0 100000) || (!(inR n.vote 0 4) || (decide (n.term_ < (logLast n.log).2) || (!(inR n.lead 0 4) || (!(inR n.commit n.log.start (logLast n.log).1) || (!(inR n.clock 0 20) || (!(inR n.limit 1 20) || !(riseOk 1 4 none n.votes)))))))))) then false
  else if n.role == 0 then ((n.votes.length : Int) == 0) && ((n.peers.length : Int) == 0)
  else if n.role == 1 then ((n.peers.length : Int) == 0)
  else (n.role == 2) && (((n.votes.length : Int) == 0) && peersOkB n)
theorem readConf_len (s : ByteArray) : (readConf s).1.length ≤ 4 := by
  unfold readConf
  split
  · rename_i h; exact confOk_len h
  · simp
theorem lcGo_len {start idx : Int} {es : List Entry} : ∀ (i : Nat) (x : Int × List Int), lcGo start idx es i = some x → x.2.length ≤ 4
  | 0, x, h => by simp [lcGo] at h
  | i + 1, x, h => by
    rw [lcGo] at h
    split at h
    · cases h; exact readConf_len _
    · exact lcGo_len i x h
theorem lastC_len {n : Node} (hok : okToNode n) (idx : Int) : (lastC n idx).2.length ≤ 1048576 := by
  unfold lastC
  cases h : lcGo n.log.start idx n.log.entries n.log.entries.length with
  | none => exact hok.1.1
  | some x => have := lcGo_len _ x h; simp; omega
theorem cfGo_len {start idx : Int} : ∀ (es : List Entry) (k : Nat) (out : List Int), out.length ≤ 1048576 → (cfGo start idx k es out).length ≤ 1048576
  | [], _, _, h => h
  | e :: r, k, out, h => by
    rw [cfGo]
    split
    · refine cfGo_len r (k + 1) _ ?_
      split
      · have := readConf_len e.data; omega
      · exact h
    · exact h
theorem confAtS_len {n : Node} (hok : okToNode n) (idx : Int) : (confAtS n idx).length ≤ 1048576 := cfGo_len _ _ _ hok.1.1
theorem others_len (c : List Int) (id : Int) : (others c id).length ≤ c.length := List.length_filter_le _ _
def cfStep (out : List Int) (e : Entry) : List Int := if e.kind == 2 && (readConf e.data).2 then (readConf e.data).1 else out
theorem cfGo_all {s : Int} (h0 : 0 ≤ s) (h1 : s ≤ 1000000) : ∀ (es : List Entry) (k : Nat) (out : List Int), k + es.length ≤ 60 → cfGo s 1000060 k es out = es.foldl cfStep out
  | [], _, _, _ => rfl
  | e :: r, k, out, h => by
    simp only [List.length_cons] at h
    rw [cfGo, if_pos (by rw [IntKind.wrap_i64, IntKind.wrap_i64]; omega), cfGo_all h0 h1 r (k + 1) _ (by omega)]
    rfl
theorem lcGo_all {s idx : Int} {es : List Entry} {c : List Int} (h0 : 0 ≤ s) (h1 : s ≤ 1000000) (hl : es.length ≤ 60) (hi : idx = s + (es.length : Int)) : ∀ i : Nat, i ≤ es.length → ((lcGo s idx es i).getD (-1, c)).2 = (es.take i).foldl cfStep c
  | 0, _ => by simp [lcGo]
  | i + 1, h => by
    have ih := lcGo_all (c := c) h0 h1 hl hi i (by omega)
    have hw : IntKind.i64.wrap (IntKind.i64.wrap (s + (i : Int)) + 1) ≤ idx := by rw [IntKind.wrap_i64, IntKind.wrap_i64]; omega
    have hg : es[i]? = some (es.getD i Entry.z) := getD_some (by omega)
    rw [take_snoc hg, List.foldl_append, ← ih, lcGo]
    simp only [List.foldl_cons, List.foldl_nil, cfStep]
    by_cases hk : ((es.getD i Entry.z).kind == 2 && (readConf (es.getD i Entry.z).data).2) = true
    · rw [if_pos hk, if_pos]
      · rfl
      · simp only [Bool.and_eq_true] at hk ⊢
        exact ⟨hk.2, hk.1, by simpa using hw⟩
    · rw [if_neg hk, if_neg]
      intro hc
      simp only [Bool.and_eq_true] at hc
      exact hk (by rw [hc.1, hc.2.1]; rfl)
theorem logOk_facts {l : Log} (h : logOk l = true) : 0 ≤ l.start ∧ l.start ≤ 1000000 ∧ l.entries.length ≤ 60 ∧ (logLast l).1 = l.start + (l.entries.length : Int) ∧ l.start + (l.entries.length : Int) ≤ 1000000 := by
  simp only [logOk, inR, Bool.and_eq_true, decide_eq_true_eq] at h
  obtain ⟨h1, h2, h3, h4, h5⟩ := h
  have hw : IntKind.i64.wrap (l.start + (l.entries.length : Int)) = l.start + (l.entries.length : Int) := by rw [IntKind.wrap_i64]; omega
  refine ⟨by omega, by omega, by omega, ?_, by omega⟩
  unfold logLast
  split
  · simp_all
  · exact hw
theorem conf_eq {n : Node} (hl : logOk n.log = true) : confAtS n 1000060 = (lastC n (logLast n.log).1).2 := by
  obtain ⟨h1, h2, h3, h4, h5⟩ := logOk_facts hl
  rw [confAtS, cfGo_all h1 h2 _ _ _ (by omega), lastC, lcGo_all h1 h2 h3 h4 _ (Nat.le_refl _), List.take_length]
theorem pk_eq {last : Int} : ∀ (ps : List Peer) (os : List Int), ps.length = os.length → pkGo last ps os = (ps.all (pkOk last) && eqS eqI (ps.map (·.id)) os)
  | [], [], _ => rfl
  | p :: ps, o :: os, h => by
    rw [pkGo, pk_eq ps os (by simpa using h)]
    simp only [List.all_cons, List.map_cons, eqS, eqI]
    by_cases h1 : (p.id == o) = true <;> by_cases h2 : pkOk last p = true <;> simp [h1, h2]
  | [], _ :: _, h => by simp at h
  | _ :: _, [], h => by simp at h
theorem peersOkB_eq {n : Node} (hl : logOk n.log = true) (hlen : n.peers.length = (others (confAtS n 1000060) n.id).length) : peersOkB n = pkGo (logLast n.log).1 n.peers (others (confAtS n 1000060) n.id) := by
  rw [pk_eq _ _ hlen, conf_eq hl]
  rfl
theorem peersOkB_ne {n : Node} (hl : logOk n.log = true) (hlen : n.peers.length ≠ (others (confAtS n 1000060) n.id).length) : peersOkB n = false := by
  unfold peersOkB
  rw [← conf_eq hl, eqS_ne (by simpa using hlen)]
  simp
theorem nodeOk_role {n : Node} (h : ¬ inR n.role 0 2 = true) : nodeOk n = false := by
  simp only [inR, Bool.and_eq_true, decide_eq_true_eq] at h
  have h0 : (n.role == 0) = false := by simp; omega
  have h1 : (n.role == 1) = false := by simp; omega
  have h2 : (n.role == 2) = false := by simp; omega
  simp [nodeOk, h0, h1, h2]
theorem role_of {r : Int} (h : inR r 0 2 = true) : r = 0 ∨ r = 1 ∨ r = 2 := by
  simp only [inR, Bool.and_eq_true, decide_eq_true_eq] at h
  omega
theorem nodeOk_low {n : Node} (hA : (!inR n.id 1 4 || !confOk n.conf || !logOk n.log || !inR n.term_ 0 100000 || !inR n.vote 0 4 || !inR n.lead 0 4 || !inR n.role 0 2) = false)
    (hB : (decide (n.term_ < (logLast n.log).2) || !inR n.commit n.log.start (logLast n.log).1 || !inR n.clock 0 20 || !inR n.limit 1 20 || !riseOk 1 4 none n.votes || decide ((n.votes.length : Int) > 0) && n.role != 1) = false)
    (h2 : (n.role == 2) = false) (hz : n.peers.length = 0) : nodeOk n = true := by
  simp only [Bool.or_eq_false_iff, Bool.not_eq_false'] at hA hB
  obtain ⟨⟨⟨⟨⟨⟨a1, a2⟩, a3⟩, a4⟩, a5⟩, a6⟩, a7⟩ := hA
  obtain ⟨⟨⟨⟨⟨b1, b2⟩, b3⟩, b4⟩, b5⟩, b6⟩ := hB
  unfold nodeOk
  rw [if_neg (by simp only [a1, a2, a3, a4, a5, a6, b1, b2, b3, b4, b5]; simp)]
  have h2' : n.role ≠ 2 := by simpa using h2
  rcases role_of a7 with h | h | h
  · have hv : n.votes.length = 0 := by
      rw [h] at b6
      simp at b6
      simpa using b6
    rw [if_pos (by simp [h]), hv, hz]
    rfl
  · rw [if_neg (by simp [h]), if_pos (by simp [h]), hz]
    rfl
  · exact absurd h h2'
def logTerm (l : Log) (i : Int) : Int := if i == l.start then l.startTerm else if decide (i < l.start) || decide (i > l.start + (l.entries.length : Int)) then -1 else (l.entries.getD (i - l.start - 1).toNat Entry.z).term_
theorem lt_at {l : Log} {i : Int} (h : (i == l.start) = true) : l.startTerm = logTerm l i := by simp [logTerm, h]
theorem lt_out {l : Log} {i : Int} (h : (i == l.start) = false) (ho : i < l.start ∨ i > l.start + (l.entries.length : Int)) : -1 = logTerm l i := by
  have : (decide (i < l.start) || decide (i > l.start + (l.entries.length : Int))) = true := by simpa using ho
  simp only [logTerm, h, this]
  rfl
theorem lt_in {l : Log} {i : Int} (h : (i == l.start) = false) (hA : l.start < i ∧ i ≤ l.start + (l.entries.length : Int)) : (l.entries.getD (i - l.start - 1).toNat Entry.z).term_ = logTerm l i := by
  have : (decide (i < l.start) || decide (i > l.start + (l.entries.length : Int))) = false := by simp; omega
  simp only [logTerm, h, this]
  rfl
theorem logOk_hs {l : Log} (h : logOk l = true) : 0 ≤ l.start ∧ l.start ≤ 1000000 ∧ l.entries.length ≤ 60 := by
  obtain ⟨h1, h2, h3, _⟩ := logOk_facts h
  exact ⟨h1, h2, h3⟩
theorem termsOk_all : ∀ {es : List Entry} {t : Int}, termsOk t es = true → ∀ e ∈ es, entOk e = true
  | [], _, _, e, he => by simp at he
  | x :: r, t, h, e, he => by
    rw [termsOk] at h
    split at h
    · cases h
    · rename_i hc
      simp at hc
      rcases List.mem_cons.1 he with rfl | he
      · exact hc.1
      · exact termsOk_all h e he
theorem logTerm_pos {l : Log} {b : Int} (h : logOk l = true) (hb : l.start ≤ b ∧ b ≤ l.start + (l.entries.length : Int)) : 0 ≤ logTerm l b := by
  simp only [logOk, Bool.and_eq_true] at h
  obtain ⟨h1, h2, h3, h4, h5⟩ := h
  by_cases he : (b == l.start) = true
  · rw [← lt_at he]
    simp only [inR, Bool.and_eq_true, decide_eq_true_eq] at h2
    omega
  · have he' : (b == l.start) = false := by simpa using he
    have hne : b ≠ l.start := by simpa using he
    rw [← lt_in he' ⟨by omega, hb.2⟩]
    have hm := termsOk_all h5 _ (getD_mem (l := l.entries) (j := (b - l.start - 1).toNat) (z := Entry.z) (by omega))
    simp only [entOk, inR, Bool.and_eq_true, decide_eq_true_eq] at hm
    omega
def logBehind (l : Log) (b t : Int) : Log := ⟨b, t, if logOk l && (inR b l.start (l.start + (l.entries.length : Int)) && (logTerm l b == t)) then l.entries.drop (b - l.start).toNat else []⟩
theorem lb_yes {l : Log} {b t : Int} (h1 : logOk l = true) (h2 : l.start ≤ b ∧ b ≤ l.start + (l.entries.length : Int)) (h3 : (logTerm l b == t) = true) : logBehind l b t = ⟨b, t, l.entries.drop (b - l.start).toNat⟩ := by
  have : inR b l.start (l.start + (l.entries.length : Int)) = true := by simp [inR, h2]
  simp [logBehind, h1, this, h3]
theorem lb_no {l : Log} {b t : Int} (h : (logOk l && (inR b l.start (l.start + (l.entries.length : Int)) && (logTerm l b == t))) = false) : logBehind l b t = ⟨b, t, []⟩ := by
  simp [logBehind, h]
theorem lb_impl {l : Log} {b t : Int} (h1 : logOk l = true) : ((logTerm l b == t) && decide (t ≥ 0)) = (inR b l.start (l.start + (l.entries.length : Int)) && (logTerm l b == t)) := by
  by_cases hr : l.start ≤ b ∧ b ≤ l.start + (l.entries.length : Int)
  · have h2 : inR b l.start (l.start + (l.entries.length : Int)) = true := by simp [inR, hr]
    have hp := logTerm_pos h1 hr
    rw [h2]
    by_cases ht : logTerm l b = t
    · subst ht; simp [hp]
    · simp [ht]
  · have h2 : inR b l.start (l.start + (l.entries.length : Int)) = false := by simp [inR]; omega
    have hs := logOk_hs h1
    have : -1 = logTerm l b := lt_out (by simp; omega) (by omega)
    rw [h2, ← this]
    by_cases ht : (-1 : Int) = t
    · subst ht; simp
    · simp [ht]
/-! ### new nodes -/
def nodeOf (id : Int) (conf : List Int) : Node := ⟨id, 0, 0, 0, 0, conf, ⟨0, 0, []⟩, 0, 0, 20, [], []⟩
def nodeNew (id : Int) (conf : List Int) : Node × Bool := if nodeOk (nodeOf id conf) then (nodeOf id conf, true) else (Node.z, false)
theorem okNodeOf {id : Int} {conf : List Int} (h : conf.length ≤ 1048576) : okToNode (nodeOf id conf) := ⟨⟨h, by simp⟩, ⟨by simp [nodeOf], by simp [nodeOf]⟩, ⟨by simp [nodeOf], by simp⟩, ⟨by simp [nodeOf], by simp⟩⟩
theorem okNodeZ : okToNode Node.z := ⟨⟨by simp [Node.z], by simp⟩, ⟨by simp [Node.z, Log.z], by simp [Node.z, Log.z]⟩, ⟨by simp [Node.z], by simp⟩, ⟨by simp [Node.z], by simp⟩⟩
theorem okNodeNew {id : Int} {conf : List Int} (h : conf.length ≤ 1048576) : okToNode (nodeNew id conf).1 := by
  unfold nodeNew
  split
  · exact okNodeOf h
  · exact okNodeZ
/-! ### a node's marks -/
theorem mkI_cnt (x k : Int) (h0 : 0 ≤ k) (h1 : k + (1 : Nat) ≤ 4611686018427387904) : (mkI x k).2 = k + (1 : Nat) := by
  simp only [mkI, inc, IntKind.wrap_i64]; omega
theorem hdI_mk (x k : Int) : hdI (mkI x k).1 k = some (mkI x k).2 := by simp [hdI, mkI]
theorem hdN_some {α : Type} {f : α → Int → Option Int} {x : α} {k k' : Int} (h : f x k = some k') (hp : 0 ≤ k') : hdN f x k = some k' := by
  simp only [hdN, h]
  exact if_neg (by omega)
theorem mkVNode_facts {n : Node} (hok : okToNode n) : 0 ≤ (mkVNode n 1).2 ∧ (hdVNode (mkVNode n 1).1 1).getD (-1) = (mkVNode n 1).2 := by
  have l1 := hok.1.1
  have l2 := hok.2.1.1
  have l3 := hok.2.2.1.1
  have l4 := hok.2.2.2.1
  have c1 := mkL_cnt 1 mkI_cnt n.conf 1 (by omega) (by omega)
  have c2 := mkL_cnt 3 (fun x k => mkEEntry_cnt x k) n.log.entries (mkL mkI n.conf 1).2 (by omega) (by omega)
  have c3 := mkL_cnt 1 mkI_cnt n.votes (mkL mkEEntry n.log.entries (mkL mkI n.conf 1).2).2 (by omega) (by omega)
  have c4 := mkL_cnt 4 (fun x k => mkEPeer_cnt x k) n.peers (mkL mkI n.votes (mkL mkEEntry n.log.entries (mkL mkI n.conf 1).2).2).2 (by omega) (by omega)
  refine ⟨by simp only [mkVNode, mkVLog]; omega, ?_⟩
  have e1 := hdN_some (hdL_mk hdI_mk n.conf 1) (by omega)
  have e2 := hdN_some (hdL_mk hdEEntry_mk n.log.entries (mkL mkI n.conf 1).2) (by omega)
  have e3 := hdN_some (hdL_mk hdI_mk n.votes (mkL mkEEntry n.log.entries (mkL mkI n.conf 1).2).2) (by omega)
  have e4 := hdN_some (hdL_mk hdEPeer_mk n.peers (mkL mkI n.votes (mkL mkEEntry n.log.entries (mkL mkI n.conf 1).2).2).2) (by omega)
  have e5 : hdVLog (mkVLog n.log (mkL mkI n.conf 1).2).1 (mkL mkI n.conf 1).2 = some (mkL mkEEntry n.log.entries (mkL mkI n.conf 1).2).2 := by
    simp only [hdVLog, mkVLog, e2]
  have e6 := hdN_some e5 (by omega)
  simp only [hdVNode, mkVNode, e1]
  rw [show (mkVLog n.log (mkL mkI n.conf 1).2).2 = (mkL mkEEntry n.log.entries (mkL mkI n.conf 1).2).2 from rfl]
  simp only [e6, e3, e4]
  rfl
theorem mkIS_pos {a : List Int} (h : a.length ≤ 1048576) : 0 ≤ (mkL mkI a 1).2 := by
  have := mkL_cnt 1 mkI_cnt a 1 (by omega) (by omega)
  omega
theorem lb_spec {l : Log} {b t : Int} : (logOk l && inR b l.start (IntKind.i64.wrap (l.start + (l.entries.length : Int))) && (logTerm l b == t)) = (logOk l && (inR b l.start (l.start + (l.entries.length : Int)) && (logTerm l b == t))) := by
  cases h : logOk l with
  | false => simp
  | true =>
    have hs := logOk_hs h
    have : IntKind.i64.wrap (l.start + (l.entries.length : Int)) = l.start + (l.entries.length : Int) := by rw [IntKind.wrap_i64]; omega
    rw [this, Bool.and_assoc]
theorem lb_impl2 {l : Log} {b t : Int} : (logOk l && (logTerm l b == t) && decide (t ≥ 0)) = (logOk l && (inR b l.start (l.start + (l.entries.length : Int)) && (logTerm l b == t))) := by
  cases h : logOk l with
  | false => simp
  | true => rw [← lb_impl h, Bool.and_assoc]
theorem nodeOk_facts {n : Node} (h : nodeOk n = true) : confOk n.conf = true ∧ logOk n.log = true ∧ inR n.commit n.log.start (logLast n.log).1 = true ∧ inR n.id 1 4 = true := by
  unfold nodeOk at h
  split at h
  · cases h
  · rename_i hc
    simp only [Bool.or_eq_true, Bool.not_eq_true', not_or] at hc
    obtain ⟨a1, a2, a3, a4, a5, a6, a7, a8, _⟩ := hc
    exact ⟨by simpa using a2, by simpa using a3, by simpa using a8, by simpa using a1⟩
theorem cfGo_take {s idx : Int} (h0 : 0 ≤ s) (h1 : s ≤ 1000000) : ∀ (es : List Entry) (k : Nat) (out : List Int), k + es.length ≤ 60 → cfGo s idx k es out = (es.take (idx - s - k).toNat).foldl cfStep out
  | [], _, _, _ => by simp [cfGo]
  | e :: r, k, out, h => by
    simp only [List.length_cons] at h
    have hw : IntKind.i64.wrap (IntKind.i64.wrap (s + 1) + (k : Int)) = s + 1 + k := by rw [IntKind.wrap_i64, IntKind.wrap_i64]; omega
    rw [cfGo, hw]
    by_cases hc : s + 1 + (k : Int) ≤ idx
    · have e1 : (idx - s - k).toNat = (idx - s - ((k + 1 : Nat) : Int)).toNat + 1 := by omega
      rw [if_pos hc, cfGo_take h0 h1 r (k + 1) _ (by omega), e1, List.take_succ_cons, List.foldl_cons]
      rfl
    · have e1 : (idx - s - k).toNat = 0 := by omega
      rw [if_neg hc, e1]
      rfl
theorem lcGo_take {s idx : Int} {es : List Entry} {c : List Int} (h0 : 0 ≤ s) (h1 : s ≤ 1000000) (hl : es.length ≤ 60) : ∀ i : Nat, i ≤ es.length → ((lcGo s idx es i).getD (-1, c)).2 = (es.take (min i (idx - s).toNat)).foldl cfStep c
  | 0, _ => by simp [lcGo]
  | i + 1, h => by
    have ih := lcGo_take (c := c) (idx := idx) h0 h1 hl i (by omega)
    have hw : IntKind.i64.wrap (IntKind.i64.wrap (s + (i : Int)) + 1) = s + i + 1 := by rw [IntKind.wrap_i64, IntKind.wrap_i64]; omega
    rw [lcGo, hw]
    by_cases hc : s + (i : Int) + 1 ≤ idx
    · have hg : es[i]? = some (es.getD i Entry.z) := getD_some (by omega)
      have e1 : min (i + 1) (idx - s).toNat = i + 1 := by omega
      have e2 : min i (idx - s).toNat = i := by omega
      rw [e2] at ih
      rw [e1, take_snoc hg, List.foldl_append, ← ih]
      simp only [List.foldl_cons, List.foldl_nil, cfStep]
      by_cases hk : ((es.getD i Entry.z).kind == 2 && (readConf (es.getD i Entry.z).data).2) = true
      · rw [if_pos hk, if_pos]
        · rfl
        · simp only [Bool.and_eq_true] at hk ⊢
          exact ⟨hk.2, hk.1, by simpa using hc⟩
      · rw [if_neg hk, if_neg]
        intro hc2
        simp only [Bool.and_eq_true] at hc2
        exact hk (by rw [hc2.1, hc2.2.1]; rfl)
    · have e1 : min (i + 1) (idx - s).toNat = min i (idx - s).toNat := by omega
      rw [e1, ← ih, if_neg]
      simp [hc]
theorem conf_at_eq {n : Node} {i : Int} (hl : logOk n.log = true) (hi : i ≤ n.log.start + (n.log.entries.length : Int)) : (lastC n i).2 = confAtS n i := by
  obtain ⟨h1, h2, h3, h4, h5⟩ := logOk_facts hl
  have e : min n.log.entries.length (i - n.log.start).toNat = (i - n.log.start).toNat := by omega
  have e2 : (i - n.log.start - ((0 : Nat) : Int)).toNat = (i - n.log.start).toNat := by simp
  rw [confAtS, cfGo_take h1 h2 _ _ _ (by omega), lastC, lcGo_take h1 h2 h3 _ (Nat.le_refl _), e, e2]
def settle (n : Node) (i : Int) : Node × Bool := if nodeOk n && inR i n.log.start n.commit then (⟨n.id, n.term_, n.vote, n.role, n.lead, confAtS n i, logBehind n.log i (logTerm n.log i), n.commit, n.clock, n.limit, n.votes, n.peers⟩, true) else (Node.z, false)
theorem settle_in {n : Node} {i : Int} (hn : nodeOk n = true) (hin : inR i n.log.start n.commit = true) : logOk n.log = true ∧ (0 ≤ n.log.start ∧ n.log.start ≤ 1000000 ∧ n.log.entries.length ≤ 60) ∧ i ≤ 9223372036854775807 ∧ i ≤ n.log.start + (n.log.entries.length : Int) := by
  obtain ⟨_, hl, hc, _⟩ := nodeOk_facts hn
  obtain ⟨h1, h2, h3, h4, h5⟩ := logOk_facts hl
  simp only [inR, Bool.and_eq_true, decide_eq_true_eq] at hc hin
  exact ⟨hl, ⟨h1, h2, h3⟩, by omega, by omega⟩
theorem settle_yes {n : Node} {i : Int} (hn : nodeOk n = true) (hin : inR i n.log.start n.commit = true) : settle n i = (⟨n.id, n.term_, n.vote, n.role, n.lead, confAtS n i, logBehind n.log i (logTerm n.log i), n.commit, n.clock, n.limit, n.votes, n.peers⟩, true) := by simp [settle, hn, hin]
theorem settle_no {n : Node} {i : Int} (h : (!nodeOk n || !inR i n.log.start n.commit) = true) : settle n i = (Node.z, false) := by
  unfold settle
  rw [if_neg]
  intro hc
  simp only [Bool.and_eq_true] at hc
  simp [hc] at h
theorem okBehind {l : Log} (h : okToLog l) (b t : Int) : okToLog (logBehind l b t) := by
  unfold logBehind
  refine ⟨?_, fun x hx => ?_⟩
  · have := h.1
    simp only []
    split
    · rw [List.length_drop]; omega
    · simp
  · simp only [] at hx
    split at hx
    · exact h.2 x (List.mem_of_mem_drop hx)
    · simp at hx
theorem okSettle {n : Node} (h : okToNode n) (i : Int) : okToNode (settle n i).1 := by
  unfold settle
  split
  · exact ⟨⟨confAtS_len h i, by simp⟩, okBehind h.2.1 _ _, h.2.2.1, h.2.2.2⟩
  · exact okNodeZ
end Go.Proofs.Ytbiocicogminlaa.Y
