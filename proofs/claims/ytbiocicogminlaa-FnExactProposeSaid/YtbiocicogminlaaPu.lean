import Derived.Test.YtbiocicogminlaaEng16
import Derived.Test.YtbiocicogminlaaEng40
import Derived.Laws.Strings
namespace Go.Proofs.Ytbiocicogminlaa.Y
open Go Go.RowKit Go.Eng

def szL {α : Type} (f : α → Int → Int) : List α → Int → Int
  | [], l => l
  | x :: r, l => if f x l < 0 then -1 else szL f r (f x l)
def szS {α : Type} (f : α → Int → Int) (a : List α) (left : Int) : Int :=
  if IntKind.i64.wrap (left - a.length) < 0 then -1 else szL f a (IntKind.i64.wrap (left - a.length))
def szI {α : Type} (a : List α) (left : Int) : Int :=
  if IntKind.i64.wrap (left - a.length) < 0 then -1 else IntKind.i64.wrap (left - a.length)
def szStr (s : ByteArray) (left : Int) : Int := IntKind.i64.wrap (left - s.size)
def okSl {α : Type} (ok : α → Prop) (l : List α) : Prop := l.length ≤ 1048576 ∧ ∀ x ∈ l, ok x
def eqI (x y : Int) : Bool := x == y
theorem eqI_refl (x : Int) : eqI x x = true := by simp [eqI]
def eqB (x y : Bool) : Bool := x == y
def eqStr (x y : ByteArray) : Bool := x.toList == y.toList
def eqS {α : Type} (f : α → α → Bool) : List α → List α → Bool
  | [], [] => true
  | x :: r, y :: s => if f x y then eqS f r s else false
  | _, _ => false
theorem eqS_refl {α : Type} {f : α → α → Bool} (h : ∀ x, f x x = true) : ∀ a : List α, eqS f a a = true
  | [] => rfl
  | x :: r => by rw [eqS, h x, if_pos rfl, eqS_refl h r]
theorem eqS_ne {α : Type} {f : α → α → Bool} : ∀ {a b : List α}, a.length ≠ b.length → eqS f a b = false
  | [], [], h => absurd rfl h
  | [], _ :: _, _ => rfl
  | _ :: _, [], _ => rfl
  | x :: r, y :: s, h => by
    simp only [eqS]
    rw [eqS_ne (by simpa using h)]
    simp
theorem take_snoc {α : Type} {l : List α} {i : Nat} {e : α} (h : l[i]? = some e) : l.take (i + 1) = l.take i ++ [e] := by
  obtain ⟨h1, h2⟩ := List.getElem?_eq_some_iff.1 h
  rw [List.take_succ_eq_append_getElem h1, h2]
def SzOk {α : Type} (f : α → Int → Int) (fit ok : α → Prop) : Prop := ∀ x l, fit x → 0 ≤ l → l ≤ 1048576 → 0 ≤ f x l → ok x ∧ f x l ≤ l
theorem wrapSub {n : Nat} {l : Int} (hn : n ≤ maxLen) (h0 : 0 ≤ l) (h1 : l ≤ 1048576) : IntKind.i64.wrap (l - n) = l - n := by
  rw [IntKind.wrap_i64]
  simp only [maxLen] at hn
  omega
def okStr (s : ByteArray) : Prop := s.size ≤ 1048576
theorem szStr_ok : SzOk szStr okS okStr := by
  intro s l hk h0 h1 hs
  unfold szStr at hs ⊢
  rw [wrapSub hk h0 h1] at hs ⊢
  exact ⟨by unfold okStr; omega, by omega⟩
theorem szI_ok {α : Type} {fit : α → Prop} : SzOk (szI : List α → Int → Int) (okL fit) (okSl (fun _ => True)) := by
  intro a l hk h0 h1 hs
  unfold szI at hs ⊢
  rw [wrapSub hk.1 h0 h1] at hs ⊢
  split at hs
  · omega
  · rename_i hc
    rw [if_neg hc]
    exact ⟨⟨by omega, fun _ _ => trivial⟩, by omega⟩
theorem szL_ok {α : Type} {f : α → Int → Int} {fit ok : α → Prop} (h : SzOk f fit ok) : ∀ (a : List α) (l : Int), (∀ x ∈ a, fit x) → 0 ≤ l → l ≤ 1048576 → 0 ≤ szL f a l → (∀ x ∈ a, ok x) ∧ szL f a l ≤ l
  | [], l, _, _, _, _ => ⟨by simp, by simp [szL]⟩
  | x :: r, l, hf, h0, h1, hs => by
    simp only [szL] at hs ⊢
    split at hs
    · omega
    · rename_i hc
      rw [if_neg hc]
      have p := h x l (hf x (by simp)) h0 h1 (by omega)
      have q := szL_ok h r (f x l) (fun y hy => hf y (by simp [hy])) (by omega) (by omega) hs
      refine ⟨fun y hy => ?_, by omega⟩
      rcases List.mem_cons.1 hy with rfl | hy
      · exact p.1
      · exact q.1 y hy
theorem szS_ok {α : Type} {f : α → Int → Int} {fit ok : α → Prop} (h : SzOk f fit ok) : SzOk (szS f) (okL fit) (okSl ok) := by
  intro a l hk h0 h1 hs
  unfold szS at hs ⊢
  rw [wrapSub hk.1 h0 h1] at hs ⊢
  split at hs
  · omega
  · rename_i hc
    rw [if_neg hc]
    have p := szL_ok h a (l - a.length) hk.2 (by omega) (by omega) hs
    exact ⟨⟨by omega, p.1⟩, by omega⟩
theorem wrap_le (x : Int) : IntKind.i64.wrap x ≤ 9223372036854775807 := by
  rw [IntKind.wrap_i64]; omega
def inc (k : Int) : Int := IntKind.i64.wrap (k + 1)
def dgs (n : Nat) (out : ByteArray) : ByteArray :=
  if h : n = 0 then out else dgs (n / 10) (bytesOf [IntKind.u8.wrap (IntKind.i64.wrap (48 + Int.tmod (n : Int) 10))] ++ out)
termination_by n
decreasing_by omega
def mtext (k : Int) : ByteArray := if k ≤ 0 then ⟨#[109, 48]⟩ else ⟨#[109]⟩ ++ dgs k.toNat ⟨#[]⟩
def mkI (_x : Int) (k : Int) : Int × Int := (k, inc k)
def mkB (_x : Bool) (k : Int) : Bool × Int := (Int.tmod k 3 == 0, inc k)
def mkS (_x : ByteArray) (k : Int) : ByteArray × Int := (mtext k, inc k)
def mkL {α : Type} (f : α → Int → α × Int) : List α → Int → List α × Int
  | [], k => ([], k)
  | x :: r, k => ((f x k).1 :: (mkL f r (f x k).2).1, (mkL f r (f x k).2).2)
def hdI (x k : Int) : Option Int := if x == k then some (inc k) else none
def hdB (x : Bool) (k : Int) : Option Int := if x == (Int.tmod k 3 == 0) then some (inc k) else none
def hdS (x : ByteArray) (k : Int) : Option Int := if x.toList == (mtext k).toList then some (inc k) else none
def hdL {α : Type} (f : α → Int → Option Int) : List α → Int → Option Int
  | [], k => some k
  | x :: r, k => match f x k with | none => none | some k' => hdL f r k'
def hdN {α : Type} (f : α → Int → Option Int) (x : α) (k : Int) : Option Int := match f x k with | none => none | some k' => if k' < 0 then none else some k'
def HdLe {α : Type} (f : α → Int → Option Int) : Prop := ∀ (x : α) (k k' : Int), k ≤ 9223372036854775807 → f x k = some k' → k' ≤ 9223372036854775807
theorem hdI_le : HdLe hdI := by
  intro x k k' _ h
  unfold hdI at h
  split at h
  · cases h; exact wrap_le _
  · cases h
theorem hdB_le : HdLe hdB := by
  intro x k k' _ h
  unfold hdB at h
  split at h
  · cases h; exact wrap_le _
  · cases h
theorem hdS_le : HdLe hdS := by
  intro x k k' _ h
  unfold hdS at h
  split at h
  · cases h; exact wrap_le _
  · cases h
theorem hdL_le {α : Type} {f : α → Int → Option Int} (hf : HdLe f) : HdLe (hdL f) := by
  intro l
  induction l with
  | nil => intro k k' h0 h; simp only [hdL] at h; cases h; exact h0
  | cons x r ih =>
    intro k k' h0 h
    simp only [hdL] at h
    cases e : f x k with
    | none => rw [e] at h; cases h
    | some k1 => rw [e] at h; exact ih k1 k' (hf x k k1 h0 e) h
theorem hdN_le {α : Type} {f : α → Int → Option Int} (hf : HdLe f) : HdLe (hdN f) := by
  intro x k k' h0 h
  unfold hdN at h
  cases e : f x k with
  | none => rw [e] at h; cases h
  | some k1 =>
    rw [e] at h
    simp only [] at h
    split at h
    · cases h
    · cases h; exact hf x k _ h0 e
theorem leD {α : Type} {f : α → Int → Option Int} {x : α} {k : Int} (hf : HdLe f) (hk : k ≤ 9223372036854775807) : (f x k).getD (-1) ≤ 9223372036854775807 := by
  cases e : f x k with
  | none => decide
  | some k1 => exact hf x k k1 hk e
theorem hdN_ok {α : Type} {f : α → Int → Option Int} {x : α} {k : Int} (h : 0 ≤ (f x k).getD (-1)) : hdN f x k = some ((f x k).getD (-1)) := by
  unfold hdN
  cases e : f x k with
  | none => rw [e] at h; simp at h
  | some k1 => rw [e] at h; simp at h; simp; omega
theorem hdN_bad {α : Type} {f : α → Int → Option Int} {x : α} {k : Int} (h : (f x k).getD (-1) < 0) : hdN f x k = none := by
  unfold hdN
  cases e : f x k with
  | none => rfl
  | some k1 => rw [e] at h; simp at h; simp; omega
theorem mkI_le (x k : Int) : (mkI x k).2 ≤ 9223372036854775807 := wrap_le _
theorem mkB_le (x : Bool) (k : Int) : (mkB x k).2 ≤ 9223372036854775807 := wrap_le _
theorem mkS_le (x : ByteArray) (k : Int) : (mkS x k).2 ≤ 9223372036854775807 := wrap_le _
theorem mkL_le {α : Type} {f : α → Int → α × Int} (hf : ∀ x k, (f x k).2 ≤ 9223372036854775807) : ∀ (l : List α) (k : Int), k ≤ 9223372036854775807 → (mkL f l k).2 ≤ 9223372036854775807
  | [], _, h => h
  | x :: r, k, _ => mkL_le hf r _ (hf x k)
theorem mkL_cnt {α : Type} {f : α → Int → α × Int} (c : Nat) (hf : ∀ (x : α) (k : Int), 0 ≤ k → k + c ≤ 4611686018427387904 → (f x k).2 = k + c) : ∀ (l : List α) (k : Int), 0 ≤ k → k + (c * l.length : Nat) ≤ 4611686018427387904 → (mkL f l k).2 = k + (c * l.length : Nat)
  | [], k, _, _ => by simp [mkL]
  | x :: r, k, h0, h1 => by
    have e : c * (x :: r).length = c + c * r.length := by simp [Nat.mul_add]; omega
    rw [e] at h1 ⊢
    have h2 := hf x k h0 (by omega)
    simp only [mkL]
    rw [h2, mkL_cnt c hf r (k + c) (by omega) (by omega)]
    omega
theorem hdL_mk {α : Type} {f : α → Int → α × Int} {h : α → Int → Option Int} (hm : ∀ x k, h (f x k).1 k = some (f x k).2) : ∀ (l : List α) (k : Int), hdL h (mkL f l k).1 k = some (mkL f l k).2
  | [], _ => rfl
  | x :: r, k => by simp [mkL, hdL, hm, hdL_mk hm r]
theorem mk_step {α : Type} (f : α → Int → α × Int) {a b b' : List α} {i : Nat} {ei : α} {l k : Int} (e' : α) (l' : Int) (hi : b[i]? = some ei) (hlen : b.length = a.length) (hdr : b.drop i = a.drop i) (hr : (b.take i ++ (mkL f (a.drop i) l).1, (mkL f (a.drop i) l).2) = mkL f a k)
    (hb : b' = b.set i e') (hf : f ei l = (e', l')) (hl : l' ≤ 9223372036854775807) : i + 1 ≤ b'.length ∧ l' ≤ 9223372036854775807 ∧ b'.length = a.length ∧ b'.drop (i + 1) = a.drop (i + 1) ∧ (b'.take (i + 1) ++ (mkL f (a.drop (i + 1)) l').1, (mkL f (a.drop (i + 1)) l').2) = mkL f a k := by
  have hlt : i < b.length := (List.getElem?_eq_some_iff.1 hi).1
  subst hb
  have h1 : b.drop i = ei :: b.drop (i + 1) := drop_get hi
  have h2 : a.drop (i + 1) = b.drop (i + 1) := by
    have := congrArg List.tail hdr
    simpa using this.symm
  refine ⟨by simp; omega, hl, by simp [hlen], ?_, ?_⟩
  · rw [List.drop_set_of_lt (by omega), h2]
  · rw [← hr, ← hdr, h1, h2]
    simp only [mkL, hf]
    have h3 : (b.set i e').take (i + 1) = b.take i ++ [e'] := by
      rw [List.take_succ_eq_append_getElem (by simp; omega)]
      simp [List.take_set_of_le]
    rw [h3]
    simp
theorem mtext_dgs {k : Int} (h : ¬ k ≤ 0) : mtext k = ⟨#[109]⟩ ++ dgs k.toNat ⟨#[]⟩ := by simp [mtext, h]
theorem dgs_step {n : Int} {out : ByteArray} (h : n > 0) : dgs n.toNat out = dgs (Int.tdiv n 10).toNat (bytesOf [IntKind.u8.wrap (IntKind.i64.wrap (48 + Int.tmod n 10))] ++ out) := by
  rw [dgs, dif_neg (by omega)]
  have e : ((n.toNat : Nat) : Int) = n := by omega
  rw [e]
  congr 1
  rw [Int.tdiv_eq_ediv_of_nonneg (by omega)]
  omega
theorem bytesOf_one (x : Int) : (bytesOf [x]).size = 1 := rfl
theorem mt_dec {n : Int} {s : Nat} (h0 : 0 ≤ n) (hp : n * 10 ^ s ≤ 9223372036854775807) (h : decide (n > 0) = true) : (IntKind.i64.wrap (Int.tdiv n 10)).toNat < n.toNat := by
  have hn : n > 0 := by simpa using h
  have hpos : (0 : Int) < 10 ^ s := Int.pow_pos (by omega)
  have : n * 1 ≤ n * 10 ^ s := Int.mul_le_mul_of_nonneg_left (by omega) (by omega)
  rw [IntKind.wrap_i64, Int.tdiv_eq_ediv_of_nonneg h0]
  omega
theorem mt_step {n k : Int} {out : ByteArray} (h0 : 0 ≤ n) (hp : n * 10 ^ out.size ≤ 9223372036854775807) (hr : dgs n.toNat out = dgs k.toNat ⟨#[]⟩) (h : decide (n > 0) = true) :
    0 ≤ IntKind.i64.wrap (Int.tdiv n 10) ∧ (bytesOf [IntKind.u8.wrap (IntKind.i64.wrap (48 + Int.tmod n 10))] ++ out).size ≤ 60 ∧
      IntKind.i64.wrap (Int.tdiv n 10) * 10 ^ (bytesOf [IntKind.u8.wrap (IntKind.i64.wrap (48 + Int.tmod n 10))] ++ out).size ≤ 9223372036854775807 ∧
      dgs (IntKind.i64.wrap (Int.tdiv n 10)).toNat (bytesOf [IntKind.u8.wrap (IntKind.i64.wrap (48 + Int.tmod n 10))] ++ out) = dgs k.toNat ⟨#[]⟩ := by
  have hn : n > 0 := by simpa using h
  have hpos : (0 : Int) < 10 ^ out.size := Int.pow_pos (by omega)
  have hle : (10 : Int) ^ out.size ≤ 9223372036854775807 := by
    have : (10 : Int) ^ out.size * 1 ≤ 10 ^ out.size * n := Int.mul_le_mul_of_nonneg_left (by omega) (by omega)
    rw [Int.mul_comm (10 ^ out.size) n] at this
    omega
  have hs : out.size < 19 := by
    rcases Nat.lt_or_ge out.size 19 with h1 | h1
    · exact h1
    · exfalso
      have h2 : (10 : Nat) ^ 19 ≤ 10 ^ out.size := Nat.pow_le_pow_right (by omega) h1
      have h3 : ((10 ^ out.size : Nat) : Int) ≤ 9223372036854775807 := by simpa using hle
      omega
  have hnM : n ≤ 9223372036854775807 := by
    have : n * 1 ≤ n * 10 ^ out.size := Int.mul_le_mul_of_nonneg_left (by omega) (by omega)
    omega
  have hw : IntKind.i64.wrap (Int.tdiv n 10) = n / 10 := by
    rw [IntKind.wrap_i64, Int.tdiv_eq_ediv_of_nonneg h0]
    omega
  have hsz : (bytesOf [IntKind.u8.wrap (IntKind.i64.wrap (48 + Int.tmod n 10))] ++ out).size = out.size + 1 := by
    rw [ByteArray.size_append, bytesOf_one]
    omega
  rw [hw, hsz]
  refine ⟨by omega, by omega, ?_, ?_⟩
  · rw [Int.pow_succ, Int.mul_comm (10 ^ out.size) 10, ← Int.mul_assoc]
    have : n / 10 * 10 * 10 ^ out.size ≤ n * 10 ^ out.size := Int.mul_le_mul_of_nonneg_right (by omega) (by omega)
    omega
  · rw [← hr, dgs_step hn, Int.tdiv_eq_ediv_of_nonneg h0]
structure Entry where
  term_ : Int
  kind : Int
  data : ByteArray
def Entry.c (e : Entry) : List T := [.v (.int .i64 e.term_), .v (.int .i64 e.kind), .v (.string e.data)]
theorem Entry.len (e : Entry) : e.c.length = 3 := rfl
def Entry.z : Entry := ⟨0, 0, ⟨#[]⟩⟩
def Entry.vs (e : Entry) : List Value := [.int .i64 e.term_, .int .i64 e.kind, .string e.data]
def eqEntry (x y : Entry) : Bool := x.term_ == y.term_ && (x.kind == y.kind && (x.data.toList == y.data.toList))
theorem eqEntry_refl (x : Entry) : eqEntry x x = true := by simp [eqEntry]
def mkEEntry (x : Entry) (k : Int) : Entry × Int := ((⟨(mkI x.term_ k).1, (mkI x.kind (mkI x.term_ k).2).1, (mkS x.data (mkI x.kind (mkI x.term_ k).2).2).1⟩ : Entry), (mkS x.data (mkI x.kind (mkI x.term_ k).2).2).2)
def hdEEntry (x : Entry) (k0 : Int) : Option Int := match hdI x.term_ k0 with | none => none | some k1 => match hdI x.kind k1 with | none => none | some k2 => match hdS x.data k2 with | none => none | some k3 => some k3
theorem hdEEntry_le : HdLe hdEEntry := by
  intro x k k9 h0 h
  unfold hdEEntry at h
  cases e0 : hdI x.term_ k with
  | none => rw [e0] at h; cases h
  | some k1 =>
  rw [e0] at h; simp only [] at h
  have h1 := hdI_le _ _ _ h0 e0
  cases e1 : hdI x.kind k1 with
  | none => rw [e1] at h; cases h
  | some k2 =>
  rw [e1] at h; simp only [] at h
  have h2 := hdI_le _ _ _ h1 e1
  cases e2 : hdS x.data k2 with
  | none => rw [e2] at h; cases h
  | some k3 =>
  rw [e2] at h; simp only [] at h
  have h3 := hdS_le _ _ _ h2 e2
  cases h; exact h3
theorem mkEEntry_le (x : Entry) (k : Int) : (mkEEntry x k).2 ≤ 9223372036854775807 := by
  simp only [mkEEntry, mkI, mkB, mkS, inc]; first | exact wrap_le _ | (apply mkL_le)
theorem mkEEntry_cnt (x : Entry) (k : Int) (h0 : 0 ≤ k) (h1 : k + 3 ≤ 4611686018427387904) : (mkEEntry x k).2 = k + 3 := by
  simp only [mkEEntry, mkI, mkB, mkS, inc, IntKind.wrap_i64]; omega
theorem hdEEntry_mk (x : Entry) (k : Int) : hdEEntry (mkEEntry x k).1 k = some (mkEEntry x k).2 := by
  simp [hdEEntry, mkEEntry, mkI, mkB, mkS, hdI, hdB, hdS]
def szEntry (e : Entry) (left : Int) : Int := if IntKind.i64.wrap (left - e.data.size) < 0 then -1 else IntKind.i64.wrap (left - e.data.size)
structure Log where
  start : Int
  startTerm : Int
  entries : List Entry
def Log.c (e : Log) : List T := [.v (.int .i64 e.start), .v (.int .i64 e.startTerm), sl 3 Entry.c e.entries]
theorem Log.len (e : Log) : e.c.length = 3 := rfl
def Log.z : Log := ⟨0, 0, []⟩
def eqLog (x y : Log) : Bool := x.start == y.start && (x.startTerm == y.startTerm && ((eqS eqEntry) x.entries y.entries))
theorem eqLog_refl (x : Log) : eqLog x x = true := by simp [eqLog, eqS_refl eqEntry_refl]
def mkVLog (x : Log) (k : Int) : Log × Int := ((⟨x.start, x.startTerm, ((mkL mkEEntry) x.entries k).1⟩ : Log), ((mkL mkEEntry) x.entries k).2)
def hdVLog (x : Log) (k0 : Int) : Option Int := match (hdN (hdL hdEEntry)) x.entries k0 with | none => none | some k1 => some k1
theorem hdVLog_le : HdLe hdVLog := by
  intro x k k9 h0 h
  unfold hdVLog at h
  cases e0 : (hdN (hdL hdEEntry)) x.entries k with
  | none => rw [e0] at h; cases h
  | some k1 =>
  rw [e0] at h; simp only [] at h
  have h1 := (hdN_le (hdL_le hdEEntry_le)) _ _ _ h0 e0
  cases h; exact h1
theorem mkVLog_le (x : Log) (k : Int) (hk : k ≤ 9223372036854775807) : (mkVLog x k).2 ≤ 9223372036854775807 := by
  simp only [mkVLog]; repeat (first | exact hk | apply mkL_le | apply mkI_le | apply mkS_le | apply mkB_le | apply mkEEntry_le | apply mkEPeer_le | apply mkEMessage_le | apply mkVNode_le)
def szLog (e : Log) (left : Int) : Int := if szS szEntry e.entries (left) < 0 then -1 else szS szEntry e.entries (left)
structure Peer where
  id : Int
  next : Int
  match_ : Int
  sent : Int
def Peer.c (e : Peer) : List T := [.v (.int .i64 e.id), .v (.int .i64 e.next), .v (.int .i64 e.match_), .v (.int .i64 e.sent)]
theorem Peer.len (e : Peer) : e.c.length = 4 := rfl
def Peer.z : Peer := ⟨0, 0, 0, 0⟩
def Peer.vs (e : Peer) : List Value := [.int .i64 e.id, .int .i64 e.next, .int .i64 e.match_, .int .i64 e.sent]
def eqPeer (x y : Peer) : Bool := x.id == y.id && (x.next == y.next && (x.match_ == y.match_ && (x.sent == y.sent)))
theorem eqPeer_refl (x : Peer) : eqPeer x x = true := by simp [eqPeer]
def mkEPeer (x : Peer) (k : Int) : Peer × Int := ((⟨(mkI x.id k).1, (mkI x.next (mkI x.id k).2).1, (mkI x.match_ (mkI x.next (mkI x.id k).2).2).1, (mkI x.sent (mkI x.match_ (mkI x.next (mkI x.id k).2).2).2).1⟩ : Peer), (mkI x.sent (mkI x.match_ (mkI x.next (mkI x.id k).2).2).2).2)
def hdEPeer (x : Peer) (k0 : Int) : Option Int := match hdI x.id k0 with | none => none | some k1 => match hdI x.next k1 with | none => none | some k2 => match hdI x.match_ k2 with | none => none | some k3 => match hdI x.sent k3 with | none => none | some k4 => some k4
theorem hdEPeer_le : HdLe hdEPeer := by
  intro x k k9 h0 h
  unfold hdEPeer at h
  cases e0 : hdI x.id k with
  | none => rw [e0] at h; cases h
  | some k1 =>
  rw [e0] at h; simp only [] at h
  have h1 := hdI_le _ _ _ h0 e0
  cases e1 : hdI x.next k1 with
  | none => rw [e1] at h; cases h
  | some k2 =>
  rw [e1] at h; simp only [] at h
  have h2 := hdI_le _ _ _ h1 e1
  cases e2 : hdI x.match_ k2 with
  | none => rw [e2] at h; cases h
  | some k3 =>
  rw [e2] at h; simp only [] at h
  have h3 := hdI_le _ _ _ h2 e2
  cases e3 : hdI x.sent k3 with
  | none => rw [e3] at h; cases h
  | some k4 =>
  rw [e3] at h; simp only [] at h
  have h4 := hdI_le _ _ _ h3 e3
  cases h; exact h4
theorem mkEPeer_le (x : Peer) (k : Int) : (mkEPeer x k).2 ≤ 9223372036854775807 := by
  simp only [mkEPeer, mkI, mkB, mkS, inc]; first | exact wrap_le _ | (apply mkL_le)
theorem mkEPeer_cnt (x : Peer) (k : Int) (h0 : 0 ≤ k) (h1 : k + 4 ≤ 4611686018427387904) : (mkEPeer x k).2 = k + 4 := by
  simp only [mkEPeer, mkI, mkB, mkS, inc, IntKind.wrap_i64]; omega
theorem hdEPeer_mk (x : Peer) (k : Int) : hdEPeer (mkEPeer x k).1 k = some (mkEPeer x k).2 := by
  simp [hdEPeer, mkEPeer, mkI, mkB, mkS, hdI, hdB, hdS]
structure Node where
  id : Int
  term_ : Int
  vote : Int
  role : Int
  lead : Int
  conf : List Int
  log : Log
  commit : Int
  clock : Int
  limit : Int
  votes : List Int
  peers : List Peer
def Node.c (e : Node) : List T := [.v (.int .i64 e.id), .v (.int .i64 e.term_), .v (.int .i64 e.vote), .v (.int .i64 e.role), .v (.int .i64 e.lead), sl 1 cI e.conf, .v (.int .i64 e.log.start), .v (.int .i64 e.log.startTerm), sl 3 Entry.c e.log.entries, .v (.int .i64 e.commit), .v (.int .i64 e.clock), .v (.int .i64 e.limit), sl 1 cI e.votes, sl 4 Peer.c e.peers]
theorem Node.len (e : Node) : e.c.length = 14 := rfl
def Node.z : Node := ⟨0, 0, 0, 0, 0, [], Log.z, 0, 0, 0, [], []⟩
def eqNode (x y : Node) : Bool := x.id == y.id && (x.term_ == y.term_ && (x.vote == y.vote && (x.role == y.role && (x.lead == y.lead && ((eqS eqI) x.conf y.conf && (eqLog x.log y.log && (x.commit == y.commit && (x.clock == y.clock && (x.limit == y.limit && ((eqS eqI) x.votes y.votes && ((eqS eqPeer) x.peers y.peers)))))))))))
theorem eqNode_refl (x : Node) : eqNode x x = true := by simp [eqNode, eqS_refl eqI_refl, eqS_refl eqPeer_refl, eqLog_refl]
def mkVNode (x : Node) (k : Int) : Node × Int := ((⟨x.id, x.term_, x.vote, x.role, x.lead, ((mkL mkI) x.conf k).1, (mkVLog x.log ((mkL mkI) x.conf k).2).1, x.commit, x.clock, x.limit, ((mkL mkI) x.votes (mkVLog x.log ((mkL mkI) x.conf k).2).2).1, ((mkL mkEPeer) x.peers ((mkL mkI) x.votes (mkVLog x.log ((mkL mkI) x.conf k).2).2).2).1⟩ : Node), ((mkL mkEPeer) x.peers ((mkL mkI) x.votes (mkVLog x.log ((mkL mkI) x.conf k).2).2).2).2)
def hdVNode (x : Node) (k0 : Int) : Option Int := match (hdN (hdL hdI)) x.conf k0 with | none => none | some k1 => match (hdN hdVLog) x.log k1 with | none => none | some k2 => match (hdN (hdL hdI)) x.votes k2 with | none => none | some k3 => match (hdN (hdL hdEPeer)) x.peers k3 with | none => none | some k4 => some k4
theorem hdVNode_le : HdLe hdVNode := by
  intro x k k9 h0 h
  unfold hdVNode at h
  cases e0 : (hdN (hdL hdI)) x.conf k with
  | none => rw [e0] at h; cases h
  | some k1 =>
  rw [e0] at h; simp only [] at h
  have h1 := (hdN_le (hdL_le hdI_le)) _ _ _ h0 e0
  cases e1 : (hdN hdVLog) x.log k1 with
  | none => rw [e1] at h; cases h
  | some k2 =>
  rw [e1] at h; simp only [] at h
  have h2 := (hdN_le hdVLog_le) _ _ _ h1 e1
  cases e2 : (hdN (hdL hdI)) x.votes k2 with
  | none => rw [e2] at h; cases h
  | some k3 =>
  rw [e2] at h; simp only [] at h
  have h3 := (hdN_le (hdL_le hdI_le)) _ _ _ h2 e2
  cases e3 : (hdN (hdL hdEPeer)) x.peers k3 with
  | none => rw [e3] at h; cases h
  | some k4 =>
  rw [e3] at h; simp only [] at h
  have h4 := (hdN_le (hdL_le hdEPeer_le)) _ _ _ h3 e3
  cases h; exact h4
theorem mkVNode_le (x : Node) (k : Int) (hk : k ≤ 9223372036854775807) : (mkVNode x k).2 ≤ 9223372036854775807 := by
  simp only [mkVNode]; repeat (first | exact hk | apply mkL_le | apply mkI_le | apply mkS_le | apply mkB_le | apply mkEEntry_le | apply mkEPeer_le | apply mkEMessage_le | apply mkVLog_le)
def szNode (e : Node) (left : Int) : Int := if szI e.conf (left) < 0 then -1 else if szLog e.log ((szI e.conf (left))) < 0 then -1 else if szI e.votes ((szLog e.log ((szI e.conf (left))))) < 0 then -1 else if szI e.peers ((szI e.votes ((szLog e.log ((szI e.conf (left))))))) < 0 then -1 else szI e.peers ((szI e.votes ((szLog e.log ((szI e.conf (left)))))))
structure Applied where
  node : Int
  term_ : Int
  index : Int
  entry : Entry
def Applied.c (e : Applied) : List T := [.v (.int .i64 e.node), .v (.int .i64 e.term_), .v (.int .i64 e.index), .v (.int .i64 e.entry.term_), .v (.int .i64 e.entry.kind), .v (.string e.entry.data)]
theorem Applied.len (e : Applied) : e.c.length = 6 := rfl
def Applied.z : Applied := ⟨0, 0, 0, Entry.z⟩
def Applied.vs (e : Applied) : List Value := [.int .i64 e.node, .int .i64 e.term_, .int .i64 e.index, .int .i64 e.entry.term_, .int .i64 e.entry.kind, .string e.entry.data]
structure Message where
  kind : Int
  from_ : Int
  to : Int
  term_ : Int
  index : Int
  logTerm : Int
  commit : Int
  ok : Bool
  entries : List Entry
  conf : List Int
  data : ByteArray
  last : Bool
def Message.c (e : Message) : List T := [.v (.int .i64 e.kind), .v (.int .i64 e.from_), .v (.int .i64 e.to), .v (.int .i64 e.term_), .v (.int .i64 e.index), .v (.int .i64 e.logTerm), .v (.int .i64 e.commit), .v (.bool e.ok), sl 3 Entry.c e.entries, sl 1 cI e.conf, .v (.string e.data), .v (.bool e.last)]
theorem Message.len (e : Message) : e.c.length = 12 := rfl
def Message.z : Message := ⟨0, 0, 0, 0, 0, 0, 0, false, [], [], ⟨#[]⟩, false⟩
def eqMessage (x y : Message) : Bool := x.kind == y.kind && (x.from_ == y.from_ && (x.to == y.to && (x.term_ == y.term_ && (x.index == y.index && (x.logTerm == y.logTerm && (x.commit == y.commit && (x.ok == y.ok && ((eqS eqEntry) x.entries y.entries && ((eqS eqI) x.conf y.conf && (x.data.toList == y.data.toList && (x.last == y.last)))))))))))
theorem eqMessage_refl (x : Message) : eqMessage x x = true := by simp [eqMessage, eqS_refl eqEntry_refl, eqS_refl eqI_refl]
def mkEMessage (x : Message) (k : Int) : Message × Int := ((⟨(mkI x.kind k).1, (mkI x.from_ (mkI x.kind k).2).1, (mkI x.to (mkI x.from_ (mkI x.kind k).2).2).1, (mkI x.term_ (mkI x.to (mkI x.from_ (mkI x.kind k).2).2).2).1, (mkI x.index (mkI x.term_ (mkI x.to (mkI x.from_ (mkI x.kind k).2).2).2).2).1, (mkI x.logTerm (mkI x.index (mkI x.term_ (mkI x.to (mkI x.from_ (mkI x.kind k).2).2).2).2).2).1, (mkI x.commit (mkI x.logTerm (mkI x.index (mkI x.term_ (mkI x.to (mkI x.from_ (mkI x.kind k).2).2).2).2).2).2).1, (mkB x.ok (mkI x.commit (mkI x.logTerm (mkI x.index (mkI x.term_ (mkI x.to (mkI x.from_ (mkI x.kind k).2).2).2).2).2).2).2).1, ((mkL mkEEntry) x.entries (mkB x.ok (mkI x.commit (mkI x.logTerm (mkI x.index (mkI x.term_ (mkI x.to (mkI x.from_ (mkI x.kind k).2).2).2).2).2).2).2).2).1, ((mkL mkI) x.conf ((mkL mkEEntry) x.entries (mkB x.ok (mkI x.commit (mkI x.logTerm (mkI x.index (mkI x.term_ (mkI x.to (mkI x.from_ (mkI x.kind k).2).2).2).2).2).2).2).2).2).1, (mkS x.data ((mkL mkI) x.conf ((mkL mkEEntry) x.entries (mkB x.ok (mkI x.commit (mkI x.logTerm (mkI x.index (mkI x.term_ (mkI x.to (mkI x.from_ (mkI x.kind k).2).2).2).2).2).2).2).2).2).2).1, (mkB x.last (mkS x.data ((mkL mkI) x.conf ((mkL mkEEntry) x.entries (mkB x.ok (mkI x.commit (mkI x.logTerm (mkI x.index (mkI x.term_ (mkI x.to (mkI x.from_ (mkI x.kind k).2).2).2).2).2).2).2).2).2).2).2).1⟩ : Message), (mkB x.last (mkS x.data ((mkL mkI) x.conf ((mkL mkEEntry) x.entries (mkB x.ok (mkI x.commit (mkI x.logTerm (mkI x.index (mkI x.term_ (mkI x.to (mkI x.from_ (mkI x.kind k).2).2).2).2).2).2).2).2).2).2).2).2)
def hdEMessage (x : Message) (k0 : Int) : Option Int := match hdI x.kind k0 with | none => none | some k1 => match hdI x.from_ k1 with | none => none | some k2 => match hdI x.to k2 with | none => none | some k3 => match hdI x.term_ k3 with | none => none | some k4 => match hdI x.index k4 with | none => none | some k5 => match hdI x.logTerm k5 with | none => none | some k6 => match hdI x.commit k6 with | none => none | some k7 => match hdB x.ok k7 with | none => none | some k8 => match (hdN (hdL hdEEntry)) x.entries k8 with | none => none | some k9 => match (hdN (hdL hdI)) x.conf k9 with | none => none | some k10 => match hdS x.data k10 with | none => none | some k11 => match hdB x.last k11 with | none => none | some k12 => some k12
theorem hdEMessage_le : HdLe hdEMessage := by
  intro x k k9 h0 h
  unfold hdEMessage at h
  cases e0 : hdI x.kind k with
  | none => rw [e0] at h; cases h
  | some k1 =>
  rw [e0] at h; simp only [] at h
  have h1 := hdI_le _ _ _ h0 e0
  cases e1 : hdI x.from_ k1 with
  | none => rw [e1] at h; cases h
  | some k2 =>
  rw [e1] at h; simp only [] at h
  have h2 := hdI_le _ _ _ h1 e1
  cases e2 : hdI x.to k2 with
  | none => rw [e2] at h; cases h
  | some k3 =>
  rw [e2] at h; simp only [] at h
  have h3 := hdI_le _ _ _ h2 e2
  cases e3 : hdI x.term_ k3 with
  | none => rw [e3] at h; cases h
  | some k4 =>
  rw [e3] at h; simp only [] at h
  have h4 := hdI_le _ _ _ h3 e3
  cases e4 : hdI x.index k4 with
  | none => rw [e4] at h; cases h
  | some k5 =>
  rw [e4] at h; simp only [] at h
  have h5 := hdI_le _ _ _ h4 e4
  cases e5 : hdI x.logTerm k5 with
  | none => rw [e5] at h; cases h
  | some k6 =>
  rw [e5] at h; simp only [] at h
  have h6 := hdI_le _ _ _ h5 e5
  cases e6 : hdI x.commit k6 with
  | none => rw [e6] at h; cases h
  | some k7 =>
  rw [e6] at h; simp only [] at h
  have h7 := hdI_le _ _ _ h6 e6
  cases e7 : hdB x.ok k7 with
  | none => rw [e7] at h; cases h
  | some k8 =>
  rw [e7] at h; simp only [] at h
  have h8 := hdB_le _ _ _ h7 e7
  cases e8 : (hdN (hdL hdEEntry)) x.entries k8 with
  | none => rw [e8] at h; cases h
  | some k9 =>
  rw [e8] at h; simp only [] at h
  have h9 := (hdN_le (hdL_le hdEEntry_le)) _ _ _ h8 e8
  cases e9 : (hdN (hdL hdI)) x.conf k9 with
  | none => rw [e9] at h; cases h
  | some k10 =>
  rw [e9] at h; simp only [] at h
  have h10 := (hdN_le (hdL_le hdI_le)) _ _ _ h9 e9
  cases e10 : hdS x.data k10 with
  | none => rw [e10] at h; cases h
  | some k11 =>
  rw [e10] at h; simp only [] at h
  have h11 := hdS_le _ _ _ h10 e10
  cases e11 : hdB x.last k11 with
  | none => rw [e11] at h; cases h
  | some k12 =>
  rw [e11] at h; simp only [] at h
  have h12 := hdB_le _ _ _ h11 e11
  cases h; exact h12
theorem mkEMessage_le (x : Message) (k : Int) : (mkEMessage x k).2 ≤ 9223372036854775807 := by
  simp only [mkEMessage, mkI, mkB, mkS, inc]; first | exact wrap_le _ | (apply mkL_le)
structure l18Run where
  n : Node
  told : List Message
def l18Run.c (e : l18Run) : List T := [.v (.int .i64 e.n.id), .v (.int .i64 e.n.term_), .v (.int .i64 e.n.vote), .v (.int .i64 e.n.role), .v (.int .i64 e.n.lead), sl 1 cI e.n.conf, .v (.int .i64 e.n.log.start), .v (.int .i64 e.n.log.startTerm), sl 3 Entry.c e.n.log.entries, .v (.int .i64 e.n.commit), .v (.int .i64 e.n.clock), .v (.int .i64 e.n.limit), sl 1 cI e.n.votes, sl 4 Peer.c e.n.peers, sl 12 Message.c e.told]
theorem l18Run.len (e : l18Run) : e.c.length = 15 := rfl
def l18Run.z : l18Run := ⟨Node.z, []⟩
structure l01Cur where
  b : List Int
  i : Int
  h : Int
def l01Cur.c (e : l01Cur) : List T := [sl 1 cU e.b, .v (.int .i64 e.i), .v (.int .i64 e.h)]
theorem l01Cur.len (e : l01Cur) : e.c.length = 3 := rfl
def l01Cur.z : l01Cur := ⟨[], 0, 0⟩
def okToEntry (e : Entry) : Prop := e.data.size ≤ 1048576
def okToLog (e : Log) : Prop := okSl okToEntry e.entries
def okToNode (e : Node) : Prop := okSl (fun _ => True) e.conf ∧ okToLog e.log ∧ okSl (fun _ => True) e.votes ∧ okSl (fun _ => True) e.peers
def okEntry (e : Entry) : Prop := okI e.term_ ∧ okI e.kind ∧ okS e.data
def okLog (e : Log) : Prop := okI e.start ∧ okI e.startTerm ∧ (okL okEntry) e.entries
def okPeer (e : Peer) : Prop := okI e.id ∧ okI e.next ∧ okI e.match_ ∧ okI e.sent
def okNode (e : Node) : Prop := okI e.id ∧ okI e.term_ ∧ okI e.vote ∧ okI e.role ∧ okI e.lead ∧ (okL okI) e.conf ∧ okLog e.log ∧ okI e.commit ∧ okI e.clock ∧ okI e.limit ∧ (okL okI) e.votes ∧ (okL okPeer) e.peers
theorem szEntry_ok : SzOk szEntry okEntry okToEntry := by
  intro e l hk h0 h1 hs
  unfold szEntry at hs ⊢
  by_cases c0 : IntKind.i64.wrap (l - e.data.size) < 0
  · rw [if_pos c0] at hs; omega
  rw [if_neg c0] at hs ⊢
  have p0 := szStr_ok e.data (l) hk.2.2 (by omega) (by omega) (by show 0 ≤ IntKind.i64.wrap (l - e.data.size); omega)
  have q0 : IntKind.i64.wrap (l - e.data.size) ≤ l := p0.2
  exact ⟨p0.1, by omega⟩
theorem szLog_ok : SzOk szLog okLog okToLog := by
  intro e l hk h0 h1 hs
  unfold szLog at hs ⊢
  by_cases c0 : szS szEntry e.entries (l) < 0
  · rw [if_pos c0] at hs; omega
  rw [if_neg c0] at hs ⊢
  have p0 := (szS_ok szEntry_ok) e.entries (l) hk.2.2 (by omega) (by omega) (by show 0 ≤ szS szEntry e.entries (l); omega)
  have q0 : szS szEntry e.entries (l) ≤ l := p0.2
  exact ⟨p0.1, by omega⟩
theorem szNode_ok : SzOk szNode okNode okToNode := by
  intro e l hk h0 h1 hs
  unfold szNode at hs ⊢
  by_cases c0 : szI e.conf (l) < 0
  · rw [if_pos c0] at hs; omega
  rw [if_neg c0] at hs ⊢
  have p0 := szI_ok e.conf (l) hk.2.2.2.2.2.1 (by omega) (by omega) (by show 0 ≤ szI e.conf (l); omega)
  have q0 : szI e.conf (l) ≤ l := p0.2
  by_cases c1 : szLog e.log ((szI e.conf (l))) < 0
  · rw [if_pos c1] at hs; omega
  rw [if_neg c1] at hs ⊢
  have p1 := szLog_ok e.log ((szI e.conf (l))) hk.2.2.2.2.2.2.1 (by omega) (by omega) (by show 0 ≤ szLog e.log ((szI e.conf (l))); omega)
  have q1 : szLog e.log ((szI e.conf (l))) ≤ (szI e.conf (l)) := p1.2
  by_cases c2 : szI e.votes ((szLog e.log ((szI e.conf (l))))) < 0
  · rw [if_pos c2] at hs; omega
  rw [if_neg c2] at hs ⊢
  have p2 := szI_ok e.votes ((szLog e.log ((szI e.conf (l))))) hk.2.2.2.2.2.2.2.2.2.2.1 (by omega) (by omega) (by show 0 ≤ szI e.votes ((szLog e.log ((szI e.conf (l))))); omega)
  have q2 : szI e.votes ((szLog e.log ((szI e.conf (l))))) ≤ (szLog e.log ((szI e.conf (l)))) := p2.2
  by_cases c3 : szI e.peers ((szI e.votes ((szLog e.log ((szI e.conf (l))))))) < 0
  · rw [if_pos c3] at hs; omega
  rw [if_neg c3] at hs ⊢
  have p3 := szI_ok e.peers ((szI e.votes ((szLog e.log ((szI e.conf (l))))))) hk.2.2.2.2.2.2.2.2.2.2.2 (by omega) (by omega) (by show 0 ≤ szI e.peers ((szI e.votes ((szLog e.log ((szI e.conf (l))))))); omega)
  have q3 : szI e.peers ((szI e.votes ((szLog e.log ((szI e.conf (l))))))) ≤ (szI e.votes ((szLog e.log ((szI e.conf (l)))))) := p3.2
  exact ⟨⟨p0.1, p1.1, p2.1, p3.1⟩, by omega⟩
def inR (n x y : Int) : Bool := decide (n ≥ x) && decide (n ≤ y)
def riseOk (lo hi : Int) : Option Int → List Int → Bool
  | _, [] => true
  | p, x :: r => if !(inR x lo hi) || (match p with | none => false | some q => decide (q ≥ x)) then false else riseOk lo hi (some x) r
theorem riseOk_cons (lo hi : Int) (p : Option Int) (x : Int) (r : List Int) : riseOk lo hi p (x :: r) = if !(inR x lo hi) || (match p with | none => false | some q => decide (q ≥ x)) then false else riseOk lo hi (some x) r := by
  cases p <;> rfl
theorem riseOk_nil (lo hi : Int) (p : Option Int) : riseOk lo hi p [] = true := by
  cases p <;> rfl
def prevI (a : List Int) (i : Nat) : Option Int := if i = 0 then none else some (a.getD (i - 1) 0)
theorem prevI_succ {a : List Int} {i : Nat} {e : Int} (h : a[i]? = some e) : prevI a (i + 1) = some e := by
  simp [prevI, List.getD_eq_getElem?_getD, h]
def confOk (a : List Int) : Bool := inR (a.length : Int) 1 4 && riseOk 1 4 none a
theorem riseOk_len : ∀ (a : List Int) (q : Int), riseOk 1 4 (some q) a = true → (a.length : Int) ≤ max 0 (4 - q)
  | [], q, _ => by simp; omega
  | x :: r, q, h => by
    rw [riseOk] at h
    split at h
    · cases h
    · rename_i hc
      have ih := riseOk_len r x h
      simp [inR] at hc
      simp only [List.length_cons]
      omega
theorem confOk_impl (a : List Int) : (decide ((a.length : Int) > 0) && riseOk 1 4 none a) = confOk a := by
  unfold confOk inR
  cases a with
  | nil => simp
  | cons x r =>
    cases hr : riseOk 1 4 none (x :: r) with
    | false => simp
    | true =>
      rw [riseOk] at hr
      split at hr
      · cases hr
      · rename_i hc
        have ih := riseOk_len r x hr
        simp [inR] at hc
        simp
        omega
def GoodE (a : List Applied) (out : List Entry) : Prop := ∀ (j : Nat) (e : Entry), out[j]? = some e → ∃ x ∈ a, x.index = (j : Int) + 1 ∧ x.entry = e
def FinE (a : List Applied) (out : List Entry) : Prop := ∀ x ∈ a, x.index ≠ (out.length : Int) + 1
open Classical in
theorem good_snoc {a : List Applied} {out : List Entry} (h : GoodE a out) {x : Applied} (hx : x ∈ a) (hi : x.index = (out.length : Int) + 1) : GoodE a (out ++ [x.entry]) := by
  intro j e he
  rcases Nat.lt_or_ge j out.length with hj | hj
  · rw [List.getElem?_append_left hj] at he
    exact h j e he
  · rw [List.getElem?_append_right hj] at he
    have h0 : j - out.length = 0 := by
      rcases Nat.eq_zero_or_pos (j - out.length) with h0 | h0
      · exact h0
      · rw [List.getElem?_eq_none (by simp; omega)] at he; cases he
    rw [h0] at he
    simp at he
    exact ⟨x, hx, by omega, he⟩
theorem nodup_len : ∀ {l1 l2 : List Int}, l1.Nodup → (∀ x ∈ l1, x ∈ l2) → l1.length ≤ l2.length
  | [], _, _, _ => by simp
  | x :: r, l2, h, hs => by
    rw [List.nodup_cons] at h
    have hx := hs x (by simp)
    have := nodup_len (l2 := l2.erase x) h.2 (fun y hy => (List.mem_erase_of_ne (fun e => h.1 (by rw [← e]; exact hy))).2 (hs y (by simp [hy])))
    rw [List.length_erase_of_mem hx] at this
    have := List.length_pos_of_mem hx
    simp
    omega
theorem good_len {a : List Applied} {out : List Entry} (h : GoodE a out) : out.length ≤ a.length := by
  have := nodup_len (l1 := (List.range out.length).map (fun (j : Nat) => (j : Int) + 1)) (l2 := a.map (·.index)) ?_ ?_
  · simpa using this
  · refine List.Pairwise.map _ (fun x y hxy => ?_) List.nodup_range
    omega
  · intro x hx
    simp only [List.mem_map, List.mem_range] at hx
    obtain ⟨j, hj, rfl⟩ := hx
    obtain ⟨y, hy, hyi, _⟩ := h j _ (List.getElem?_eq_getElem hj)
    exact List.mem_map.2 ⟨y, hy, hyi⟩
theorem wrap_len {n : Nat} (h : n ≤ 1048576) : IntKind.i64.wrap ((n : Int) + 1) = (n : Int) + 1 := by
  rw [IntKind.wrap_i64]; omega
theorem mem_take_snoc {α : Type} {l : List α} {i : Nat} {e x : α} (h : l[i]? = some e) (hx : x ∈ l.take (i + 1)) : x ∈ l.take i ∨ x = e := by
  rw [take_snoc h] at hx
  simpa using hx
def EntP (a : List Applied) (out : List Entry) (k : Nat) (f2 : Bool) (out2 : List Entry) : Prop :=
  k ≤ a.length ∧ GoodE a out2 ∧ (f2 = false → out2 = out ∧ ∀ x ∈ a.take k, x.index ≠ (out.length : Int) + 1) ∧ (f2 = true → out.length < out2.length)
theorem EntP.init {a : List Applied} {out : List Entry} (hg : GoodE a out) : EntP a out 0 false out := ⟨by omega, hg, fun _ => ⟨rfl, by simp⟩, by simp⟩
theorem EntP.yes {a : List Applied} {out out2 : List Entry} {k : Nat} {f2 : Bool} {ek : Applied} (hm : a.length ≤ 1048576) (h : EntP a out k f2 out2) (hek : a[k]? = some ek) (hi : (ek.index == IntKind.i64.wrap ((out2.length : Int) + 1)) = true) : EntP a out (k + 1) true (out2 ++ [ek.entry]) := by
  obtain ⟨h1, h2, h3, h4⟩ := h
  have hl := good_len h2
  have hk : k < a.length := (List.getElem?_eq_some_iff.1 hek).1
  rw [wrap_len (by omega)] at hi
  refine ⟨by omega, good_snoc h2 (List.mem_of_getElem? hek) (by simpa using hi), by simp, fun _ => ?_⟩
  cases f2 with
  | false => simp [(h3 rfl).1]
  | true => have := h4 rfl; simp; omega
theorem EntP.no {a : List Applied} {out out2 : List Entry} {k : Nat} {f2 : Bool} {ek : Applied} (hm : a.length ≤ 1048576) (h : EntP a out k f2 out2) (hek : a[k]? = some ek) (hi : (ek.index == IntKind.i64.wrap ((out2.length : Int) + 1)) = false) : EntP a out (k + 1) f2 out2 := by
  obtain ⟨h1, h2, h3, h4⟩ := h
  have hl := good_len h2
  have hk : k < a.length := (List.getElem?_eq_some_iff.1 hek).1
  rw [wrap_len (by omega)] at hi
  refine ⟨by omega, h2, fun hf => ?_, h4⟩
  obtain ⟨rfl, h5⟩ := h3 hf
  refine ⟨rfl, fun x hx => ?_⟩
  rcases mem_take_snoc hek hx with hx | rfl
  · exact h5 x hx
  · simpa using hi
theorem EntP.fin {a : List Applied} {out out2 : List Entry} {k : Nat} {f2 : Bool} (h : EntP a out k f2 out2) (hk : a.length ≤ k) : f2 = false → FinE a out2 := fun hf => by
  obtain ⟨h1, h2, h3, h4⟩ := h
  obtain ⟨rfl, h5⟩ := h3 hf
  rw [List.take_of_length_le hk] at h5
  exact h5
theorem EntP.dec {a : List Applied} {out out2 : List Entry} {k : Nat} {f f2 : Bool} (h : EntP a out k f2 out2) (hol : out.length ≤ a.length) (hf : f = true) : 2 * (a.length - out2.length) + (if f2 = true then 1 else 0) < 2 * (a.length - out.length) + (if f = true then 1 else 0) := by
  obtain ⟨h1, h2, h3, h4⟩ := h
  have hl := good_len h2
  subst hf
  cases f2 with
  | false => simp [(h3 rfl).1]
  | true => have := h4 rfl; simp; omega
def bys (s : ByteArray) (n : Nat) : List Int := (List.range n).map fun i => IntKind.i64.wrap (bat s i)
theorem bys_succ (s : ByteArray) (n : Nat) : bys s (n + 1) = bys s n ++ [IntKind.i64.wrap (bat s n)] := by simp [bys, List.range_succ]
theorem bys_len (s : ByteArray) (n : Nat) : (bys s n).length = n := by simp [bys]
def readConf (s : ByteArray) : List Int × Bool := if confOk (bys s s.size) then (bys s s.size, true) else ([], false)
theorem confOk_len {a : List Int} (h : confOk a = true) : a.length ≤ 4 := by
  simp [confOk, inR] at h
  omega
theorem rc_no {s : ByteArray} {i : Nat} (hi : i = s.size ∨ (5 ≤ i ∧ i ≤ s.size)) (h : (!(((bys s i).length : Int) == (s.size : Int)) || !confOk (bys s i)) = true) : readConf s = ([], false) := by
  unfold readConf
  split
  · rename_i hc
    exfalso
    rcases hi with rfl | ⟨h1, h2⟩
    · simp [bys_len, hc] at h
    · have := confOk_len hc
      rw [bys_len] at this
      omega
  · rfl
theorem rc_yes {s : ByteArray} {i : Nat} (h : (!(((bys s i).length : Int) == (s.size : Int)) || !confOk (bys s i)) = false) : readConf s = (bys s i, true) := by
  simp [bys_len] at h
  obtain ⟨h1, h2⟩ := h
  have : i = s.size := by omega
  subst this
  simp [readConf, h2]
theorem rc_exit {s : ByteArray} {i : Nat} {v : Bool} (h5 : i ≤ 5) (hs : i ≤ s.size) (hv : v = (decide ((i : Int) < (s.size : Int)) && decide ((i : Int) ≤ 4))) (hn : v = false) : i = s.size ∨ (5 ≤ i ∧ i ≤ s.size) := by
  rw [hv] at hn
  simp at hn
  omega
def entOk (e : Entry) : Bool := inR e.term_ 0 100000 && (if e.kind == 1 then e.data.toList == (⟨#[]⟩ : ByteArray).toList else if e.kind == 2 then (readConf e.data).2 else (e.kind == 3 && decide ((e.data.size : Int) ≤ 120)))
def termsOk : Int → List Entry → Bool
  | _, [] => true
  | t, e :: r => if !entOk e || decide (e.term_ < t) then false else termsOk e.term_ r
def logOk (l : Log) : Bool := inR l.start 0 1000000 && (inR l.startTerm 0 100000 && (decide ((l.entries.length : Int) ≤ 60) && (decide (IntKind.i64.wrap (l.start + (l.entries.length : Int)) ≤ 1000000) && termsOk l.startTerm l.entries)))
def logLast (l : Log) : Int × Int := if l.entries.length = 0 then (l.start, l.startTerm) else (IntKind.i64.wrap (l.start + (l.entries.length : Int)), (l.entries.getD (l.entries.length - 1) Entry.z).term_)
def idxF {α : Type} (p : α → Bool) (a : List α) : Int := match a.findIdx? p with | none => -1 | some i => (i : Int)
theorem findIdx_at {α : Type} {p : α → Bool} : ∀ {a : List α} {i : Nat} {e : α}, (a.take i).any p = false → a[i]? = some e → p e = true → a.findIdx? p = some i
  | [], i, e, _, h, _ => by simp at h
  | x :: r, 0, e, _, h, hp => by
    simp at h
    subst h
    simp [List.findIdx?_cons, hp]
  | x :: r, i + 1, e, ha, h, hp => by
    simp only [List.take_succ_cons, List.any_cons, Bool.or_eq_false_iff] at ha
    have := findIdx_at (a := r) ha.2 (by simpa using h) hp
    simp [List.findIdx?_cons, ha.1, this]
theorem idxF_at {α : Type} {p : α → Bool} {a : List α} {i : Nat} {e : α} (ha : (a.take i).any p = false) (h : a[i]? = some e) (hp : p e = true) : (i : Int) = idxF p a := by
  simp [idxF, findIdx_at ha h hp]
theorem idxF_no {α : Type} {p : α → Bool} {a : List α} {i : Nat} (ha : (a.take i).any p = false) (hi : a.length ≤ i) : -1 = idxF p a := by
  rw [List.take_of_length_le hi] at ha
  have : a.findIdx? p = none := by
    rw [List.findIdx?_eq_none_iff]
    intro x hx
    have := List.any_eq_false.1 ha x hx
    simpa using this
  simp [idxF, this]
theorem any_snoc {α : Type} {p : α → Bool} {a : List α} {i : Nat} {e : α} (ha : (a.take i).any p = false) (h : a[i]? = some e) (hp : p e = false) : (a.take (i + 1)).any p = false := by
  rw [take_snoc h, List.any_append, ha]
  simp [hp]
theorem idxF_none {α : Type} {p : α → Bool} {a : List α} (h : (idxF p a == -1) = true) : a = a.filter (fun x => !p x) := by
  unfold idxF at h
  cases hf : a.findIdx? p with
  | some i => rw [hf] at h; simp at h
  | none =>
    rw [List.findIdx?_eq_none_iff] at hf
    symm
    rw [List.filter_eq_self]
    intro x hx
    simp [hf x hx]
theorem idxF_some {α : Type} {p : α → Bool} {a : List α} (h : (idxF p a == -1) = false) : ∃ m : Nat, idxF p a = (m : Int) ∧ m < a.length ∧ a.take m = (a.take (m + 1)).filter (fun x => !p x) := by
  unfold idxF at h ⊢
  cases hf : a.findIdx? p with
  | none => rw [hf] at h; simp at h
  | some i =>
    rw [List.findIdx?_eq_some_iff_getElem] at hf
    obtain ⟨h1, h2, h3⟩ := hf
    refine ⟨i, rfl, h1, ?_⟩
    rw [List.take_succ_eq_append_getElem h1, List.filter_append]
    simp [h2]
    symm
    rw [List.filter_eq_self]
    intro x hx
    obtain ⟨j, hj, rfl⟩ := List.getElem_of_mem hx
    simp at hj
    have := h3 j (by omega)
    simpa using this
structure DelP (p : Int → Bool) (a : List Int) (i j : Nat) (b : List Int) : Prop where
  lt : i < j
  le : j ≤ a.length
  len : b.length = a.length
  tk : b.take i = (a.take j).filter (fun x => !p x)
  dr : b.drop j = a.drop j
theorem DelP.elem {p : Int → Bool} {a b : List Int} {i j : Nat} {e : Int} (h : DelP p a i j b) (hb : b[j]? = some e) : a[j]? = some e := by
  have h1 := congrArg (·[0]?) h.dr
  simp at h1
  rw [← h1, hb]
theorem DelP.keep {p : Int → Bool} {a b : List Int} {i j : Nat} {e : Int} (h : DelP p a i j b) (hb : b[j]? = some e) (hp : (!p e) = true) : DelP p a (i + 1) (j + 1) (b.set i e) := by
  have hj : j < b.length := (List.getElem?_eq_some_iff.1 hb).1
  have hl := h.lt
  have hle := h.le
  have hlen := h.len
  refine ⟨by omega, by omega, by simp [hlen], ?_, ?_⟩
  · rw [take_snoc (h.elem hb), List.filter_append, ← h.tk, List.take_succ_eq_append_getElem (by simp; omega)]
    simp [List.take_set_of_le, hp]
  · rw [List.drop_set_of_lt (by omega)]
    have := congrArg List.tail h.dr
    simpa using this
theorem DelP.skip {p : Int → Bool} {a b : List Int} {i j : Nat} {e : Int} (h : DelP p a i j b) (hb : b[j]? = some e) (hp : (!p e) = false) : DelP p a i (j + 1) b := by
  have hj : j < b.length := (List.getElem?_eq_some_iff.1 hb).1
  have hl := h.lt
  have hle := h.le
  have hlen := h.len
  refine ⟨by omega, by omega, hlen, ?_, ?_⟩
  · rw [take_snoc (h.elem hb), List.filter_append, ← h.tk]
    simp [hp]
  · have := congrArg List.tail h.dr
    simpa using this
theorem DelP.fin {p : Int → Bool} {a b c : List Int} {i j : Nat} (h : DelP p a i j b) (hj : b.length ≤ j) : (b.take i ++ c).take i = a.filter (fun x => !p x) := by
  have hl := h.lt
  have hle := h.le
  have hlen := h.len
  rw [List.take_append_of_le_length (by simp; omega), List.take_take, Nat.min_self, h.tk, List.take_of_length_le (by omega)]
def lcGo (start idx : Int) (es : List Entry) : Nat → Option (Int × List Int)
  | 0 => none
  | i + 1 => if (readConf (es.getD i Entry.z).data).2 && ((es.getD i Entry.z).kind == 2 && decide (IntKind.i64.wrap (IntKind.i64.wrap (start + (i : Int)) + 1) ≤ idx)) then some (IntKind.i64.wrap (IntKind.i64.wrap (start + (i : Int)) + 1), (readConf (es.getD i Entry.z).data).1) else lcGo start idx es i
def lastC (n : Node) (idx : Int) : Int × List Int := (lcGo n.log.start idx n.log.entries n.log.entries.length).getD (-1, n.conf)
def cfGo (start idx : Int) : Nat → List Entry → List Int → List Int
  | _, [], out => out
  | i, e :: r, out => if IntKind.i64.wrap (IntKind.i64.wrap (start + 1) + (i : Int)) ≤ idx then cfGo start idx (i + 1) r (if e.kind == 2 && (readConf e.data).2 then (readConf e.data).1 else out) else out
def confAtS (n : Node) (idx : Int) : List Int := cfGo n.log.start idx 0 n.log.entries n.conf
def others (c : List Int) (id : Int) : List Int := c.filter (fun x => !(x == id))
def pkOk (last : Int) (p : Peer) : Bool := inR p.next 1 (IntKind.i64.wrap (last + 1)) && (inR p.match_ 0 (IntKind.i64.wrap (p.next - 1)) && inR p.sent 0 20000)
def pkGo (last : Int) : List Peer → List Int → Bool
  | p :: ps, o :: os => if !(p.id == o) || !pkOk last p then false else pkGo last ps os
  | _, _ => true
def peersOkB (n : Node) : Bool := n.peers.all (pkOk (logLast n.log).1) && eqS eqI (n.peers.map (·.id)) (others (lastC n (logLast n.log).1).2 n.id)
theorem cf_step {start idx : Int} {k : Nat} {e : Entry} {r : List Entry} {out o2 : List Int} (h : IntKind.i64.wrap (IntKind.i64.wrap (start + 1) + (k : Int)) ≤ idx) (ho : o2 = if e.kind == 2 && (readConf e.data).2 then (readConf e.data).1 else out) : cfGo start idx (k + 1) r o2 = cfGo start idx k (e :: r) out := by
  rw [cfGo, if_pos h, ho]
theorem cf_stop {start idx : Int} {k : Nat} {es : List Entry} {out : List Int} {v : Bool} (hv : v = (decide ((k : Int) < (es.length : Int)) && decide (IntKind.i64.wrap (IntKind.i64.wrap (start + 1) + (k : Int)) ≤ idx))) (h : v = false) : out = cfGo start idx k (es.drop k) out := by
  rw [hv] at h
  cases hd : es.drop k with
  | nil => rfl
  | cons e r =>
    have hl : k < es.length := by
      rcases Nat.lt_or_ge k es.length with h1 | h1
      · exact h1
      · rw [List.drop_eq_nil_of_le h1] at hd; cases hd
    have h1 : ¬ IntKind.i64.wrap (IntKind.i64.wrap (start + 1) + (k : Int)) ≤ idx := by
      intro hc
      have : (k : Int) < (es.length : Int) := by omega
      simp [this, hc] at h
    rw [cfGo, if_neg h1]
theorem lc_at {start idx : Int} {es : List Entry} {i : Nat} (h0 : 0 < i) : lcGo start idx es i =
    if (((readConf (es.getD (i - 1) Entry.z).data).2 && ((es.getD (i - 1) Entry.z).kind == 2)) && decide (IntKind.i64.wrap (IntKind.i64.wrap (start + ((i : Int) - 1)) + 1) ≤ idx)) = true then some (IntKind.i64.wrap (IntKind.i64.wrap (start + ((i : Int) - 1)) + 1), (readConf (es.getD (i - 1) Entry.z).data).1) else lcGo start idx es (i - 1) := by
  obtain ⟨j, rfl⟩ : ∃ j, i = j + 1 := ⟨i - 1, by omega⟩
  have e : ((j + 1 : Nat) : Int) - 1 = (j : Int) := by omega
  rw [lcGo, Nat.add_sub_cancel, e, Bool.and_assoc]
theorem wrap_pred {n : Nat} (h : n ≤ maxLen) : IntKind.i64.wrap ((n : Int) - 1) = (n : Int) - 1 := by
  rw [IntKind.wrap_i64]
  simp only [maxLen] at h
  omega
theorem wrap_pp {i n : Nat} (h : 0 < i) (hb : i ≤ n) (hl : n ≤ maxLen) : IntKind.i64.wrap ((i : Int) - 1 - 1) = ((i - 1 : Nat) : Int) - 1 := by
  rw [IntKind.wrap_i64]
  simp only [maxLen] at hl
  omega
theorem getD_mem {α : Type} {l : List α} {j : Nat} {z : α} (h : j < l.length) : l.getD j z ∈ l := by
  rw [List.getD_eq_getElem?_getD, List.getElem?_eq_getElem h]
  exact List.getElem_mem h
theorem all_snoc {α : Type} {p : α → Bool} {a : List α} {i : Nat} {e : α} (ha : (a.take i).all p = true) (h : a[i]? = some e) (hp : p e = true) : (a.take (i + 1)).all p = true := by
  rw [take_snoc h, List.all_append, ha]
  simp [hp]
theorem all_not {α : Type} {p : α → Bool} {a : List α} {i : Nat} {e : α} (h : a[i]? = some e) (hp : p e = false) : a.all p = false := by
  rw [List.all_eq_false]
  exact ⟨e, List.mem_of_getElem? h, by simp [hp]⟩
def nodeOk (n : Node) : Bool :=
  if !(inR n.id 1 4) || (!(confOk n.conf) || (!(logOk n.log) || (!(inR n.term_ 0 100000) || (!(inR n.vote 0 4) || (decide (n.term_ < (logLast n.log).2) || (!(inR n.lead 0 4) || (!(inR n.commit n.log.start (logLast n.log).1) || (!(inR n.clock 0 20) || (!(inR n.limit 1 20) || !(riseOk 1 4 none n.votes)))))))))) then false
  else if n.role == 0 then ((n.votes.length : Int) == 0) && ((n.peers.length : Int) == 0)
  else if n.role == 1 then ((n.peers.length : Int) == 0)
  else (n.role == 2) && (((n.votes.length : Int) == 0) && peersOkB n)
theorem readConf_len (s : ByteArray) : (readConf s).1.length ≤ 4 := by
  unfold readConf
  split
  · rename_i h; exact confOk_len h
  · simp
theorem lcGo_len {start idx : Int} {es : List Entry} : ∀ (i : Nat) (x : Int × List Int), lcGo start idx es i = some x → x.2.length ≤ 4
  | 0, x, h => by simp [lcGo] at h
  | i + 1, x, h => by
    rw [lcGo] at h
    split at h
    · cases h; exact readConf_len _
    · exact lcGo_len i x h
theorem lastC_len {n : Node} (hok : okToNode n) (idx : Int) : (lastC n idx).2.length ≤ 1048576 := by
  unfold lastC
  cases h : lcGo n.log.start idx n.log.entries n.log.entries.length with
  | none => exact hok.1.1
  | some x => have := lcGo_len _ x h; simp; omega
theorem cfGo_len {start idx : Int} : ∀ (es : List Entry) (k : Nat) (out : List Int), out.length ≤ 1048576 → (cfGo start idx k es out).length ≤ 1048576
  | [], _, _, h => h
  | e :: r, k, out, h => by
    rw [cfGo]
    split
    · refine cfGo_len r (k + 1) _ ?_
      split
      · have := readConf_len e.data; omega
      · exact h
    · exact h
theorem confAtS_len {n : Node} (hok : okToNode n) (idx : Int) : (confAtS n idx).length ≤ 1048576 := cfGo_len _ _ _ hok.1.1
theorem others_len (c : List Int) (id : Int) : (others c id).length ≤ c.length := List.length_filter_le _ _
def cfStep (out : List Int) (e : Entry) : List Int := if e.kind == 2 && (readConf e.data).2 then (readConf e.data).1 else out
theorem cfGo_all {s : Int} (h0 : 0 ≤ s) (h1 : s ≤ 1000000) : ∀ (es : List Entry) (k : Nat) (out : List Int), k + es.length ≤ 60 → cfGo s 1000060 k es out = es.foldl cfStep out
  | [], _, _, _ => rfl
  | e :: r, k, out, h => by
    simp only [List.length_cons] at h
    rw [cfGo, if_pos (by rw [IntKind.wrap_i64, IntKind.wrap_i64]; omega), cfGo_all h0 h1 r (k + 1) _ (by omega)]
    rfl
theorem lcGo_all {s idx : Int} {es : List Entry} {c : List Int} (h0 : 0 ≤ s) (h1 : s ≤ 1000000) (hl : es.length ≤ 60) (hi : idx = s + (es.length : Int)) : ∀ i : Nat, i ≤ es.length → ((lcGo s idx es i).getD (-1, c)).2 = (es.take i).foldl cfStep c
  | 0, _ => by simp [lcGo]
  | i + 1, h => by
    have ih := lcGo_all (c := c) h0 h1 hl hi i (by omega)
    have hw : IntKind.i64.wrap (IntKind.i64.wrap (s + (i : Int)) + 1) ≤ idx := by rw [IntKind.wrap_i64, IntKind.wrap_i64]; omega
    have hg : es[i]? = some (es.getD i Entry.z) := getD_some (by omega)
    rw [take_snoc hg, List.foldl_append, ← ih, lcGo]
    simp only [List.foldl_cons, List.foldl_nil, cfStep]
    by_cases hk : ((es.getD i Entry.z).kind == 2 && (readConf (es.getD i Entry.z).data).2) = true
    · rw [if_pos hk, if_pos]
      · rfl
      · simp only [Bool.and_eq_true] at hk ⊢
        exact ⟨hk.2, hk.1, by simpa using hw⟩
    · rw [if_neg hk, if_neg]
      intro hc
      simp only [Bool.and_eq_true] at hc
      exact hk (by rw [hc.1, hc.2.1]; rfl)
theorem logOk_facts {l : Log} (h : logOk l = true) : 0 ≤ l.start ∧ l.start ≤ 1000000 ∧ l.entries.length ≤ 60 ∧ (logLast l).1 = l.start + (l.entries.length : Int) ∧ l.start + (l.entries.length : Int) ≤ 1000000 := by
  simp only [logOk, inR, Bool.and_eq_true, decide_eq_true_eq] at h
  obtain ⟨h1, h2, h3, h4, h5⟩ := h
  have hw : IntKind.i64.wrap (l.start + (l.entries.length : Int)) = l.start + (l.entries.length : Int) := by rw [IntKind.wrap_i64]; omega
  refine ⟨by omega, by omega, by omega, ?_, by omega⟩
  unfold logLast
  split
  · simp_all
  · exact hw
theorem conf_eq {n : Node} (hl : logOk n.log = true) : confAtS n 1000060 = (lastC n (logLast n.log).1).2 := by
  obtain ⟨h1, h2, h3, h4, h5⟩ := logOk_facts hl
  rw [confAtS, cfGo_all h1 h2 _ _ _ (by omega), lastC, lcGo_all h1 h2 h3 h4 _ (Nat.le_refl _), List.take_length]
theorem pk_eq {last : Int} : ∀ (ps : List Peer) (os : List Int), ps.length = os.length → pkGo last ps os = (ps.all (pkOk last) && eqS eqI (ps.map (·.id)) os)
  | [], [], _ => rfl
  | p :: ps, o :: os, h => by
    rw [pkGo, pk_eq ps os (by simpa using h)]
    simp only [List.all_cons, List.map_cons, eqS, eqI]
    by_cases h1 : (p.id == o) = true <;> by_cases h2 : pkOk last p = true <;> simp [h1, h2]
  | [], _ :: _, h => by simp at h
  | _ :: _, [], h => by simp at h
theorem peersOkB_eq {n : Node} (hl : logOk n.log = true) (hlen : n.peers.length = (others (confAtS n 1000060) n.id).length) : peersOkB n = pkGo (logLast n.log).1 n.peers (others (confAtS n 1000060) n.id) := by
  rw [pk_eq _ _ hlen, conf_eq hl]
  rfl
theorem peersOkB_ne {n : Node} (hl : logOk n.log = true) (hlen : n.peers.length ≠ (others (confAtS n 1000060) n.id).length) : peersOkB n = false := by
  unfold peersOkB
  rw [← conf_eq hl, eqS_ne (by simpa using hlen)]
  simp
theorem nodeOk_role {n : Node} (h : ¬ inR n.role 0 2 = true) : nodeOk n = false := by
  simp only [inR, Bool.and_eq_true, decide_eq_true_eq] at h
  have h0 : (n.role == 0) = false := by simp; omega
  have h1 : (n.role == 1) = false := by simp; omega
  have h2 : (n.role == 2) = false := by simp; omega
  simp [nodeOk, h0, h1, h2]
theorem role_of {r : Int} (h : inR r 0 2 = true) : r = 0 ∨ r = 1 ∨ r = 2 := by
  simp only [inR, Bool.and_eq_true, decide_eq_true_eq] at h
  omega
theorem nodeOk_low {n : Node} (hA : (!inR n.id 1 4 || !confOk n.conf || !logOk n.log || !inR n.term_ 0 100000 || !inR n.vote 0 4 || !inR n.lead 0 4 || !inR n.role 0 2) = false)
    (hB : (decide (n.term_ < (logLast n.log).2) || !inR n.commit n.log.start (logLast n.log).1 || !inR n.clock 0 20 || !inR n.limit 1 20 || !riseOk 1 4 none n.votes || decide ((n.votes.length : Int) > 0) && n.role != 1) = false)
    (h2 : (n.role == 2) = false) (hz : n.peers.length = 0) : nodeOk n = true := by
  simp only [Bool.or_eq_false_iff, Bool.not_eq_false'] at hA hB
  obtain ⟨⟨⟨⟨⟨⟨a1, a2⟩, a3⟩, a4⟩, a5⟩, a6⟩, a7⟩ := hA
  obtain ⟨⟨⟨⟨⟨b1, b2⟩, b3⟩, b4⟩, b5⟩, b6⟩ := hB
  unfold nodeOk
  rw [if_neg (by simp only [a1, a2, a3, a4, a5, a6, b1, b2, b3, b4, b5]; simp)]
  have h2' : n.role ≠ 2 := by simpa using h2
  rcases role_of a7 with h | h | h
  · have hv : n.votes.length = 0 := by
      rw [h] at b6
      simp at b6
      simpa using b6
    rw [if_pos (by simp [h]), hv, hz]
    rfl
  · rw [if_neg (by simp [h]), if_pos (by simp [h]), hz]
    rfl
  · exact absurd h h2'
def logTerm (l : Log) (i : Int) : Int := if i == l.start then l.startTerm else if decide (i < l.start) || decide (i > l.start + (l.entries.length : Int)) then -1 else (l.entries.getD (i - l.start - 1).toNat Entry.z).term_
theorem lt_at {l : Log} {i : Int} (h : (i == l.start) = true) : l.startTerm = logTerm l i := by simp [logTerm, h]
theorem lt_out {l : Log} {i : Int} (h : (i == l.start) = false) (ho : i < l.start ∨ i > l.start + (l.entries.length : Int)) : -1 = logTerm l i := by
  have : (decide (i < l.start) || decide (i > l.start + (l.entries.length : Int))) = true := by simpa using ho
  simp only [logTerm, h, this]
  rfl
theorem lt_in {l : Log} {i : Int} (h : (i == l.start) = false) (hA : l.start < i ∧ i ≤ l.start + (l.entries.length : Int)) : (l.entries.getD (i - l.start - 1).toNat Entry.z).term_ = logTerm l i := by
  have : (decide (i < l.start) || decide (i > l.start + (l.entries.length : Int))) = false := by simp; omega
  simp only [logTerm, h, this]
  rfl
theorem logOk_hs {l : Log} (h : logOk l = true) : 0 ≤ l.start ∧ l.start ≤ 1000000 ∧ l.entries.length ≤ 60 := by
  obtain ⟨h1, h2, h3, _⟩ := logOk_facts h
  exact ⟨h1, h2, h3⟩
theorem okNodeZ : okToNode Node.z := ⟨⟨by simp [Node.z], by simp⟩, ⟨by simp [Node.z, Log.z], by simp [Node.z, Log.z]⟩, ⟨by simp [Node.z], by simp⟩, ⟨by simp [Node.z], by simp⟩⟩
theorem mkI_cnt (x k : Int) (h0 : 0 ≤ k) (h1 : k + (1 : Nat) ≤ 4611686018427387904) : (mkI x k).2 = k + (1 : Nat) := by
  simp only [mkI, inc, IntKind.wrap_i64]; omega
theorem hdI_mk (x k : Int) : hdI (mkI x k).1 k = some (mkI x k).2 := by simp [hdI, mkI]
theorem hdN_some {α : Type} {f : α → Int → Option Int} {x : α} {k k' : Int} (h : f x k = some k') (hp : 0 ≤ k') : hdN f x k = some k' := by
  simp only [hdN, h]
  exact if_neg (by omega)
theorem mkVNode_facts {n : Node} (hok : okToNode n) : 0 ≤ (mkVNode n 1).2 ∧ (hdVNode (mkVNode n 1).1 1).getD (-1) = (mkVNode n 1).2 := by
  have l1 := hok.1.1
  have l2 := hok.2.1.1
  have l3 := hok.2.2.1.1
  have l4 := hok.2.2.2.1
  have c1 := mkL_cnt 1 mkI_cnt n.conf 1 (by omega) (by omega)
  have c2 := mkL_cnt 3 (fun x k => mkEEntry_cnt x k) n.log.entries (mkL mkI n.conf 1).2 (by omega) (by omega)
  have c3 := mkL_cnt 1 mkI_cnt n.votes (mkL mkEEntry n.log.entries (mkL mkI n.conf 1).2).2 (by omega) (by omega)
  have c4 := mkL_cnt 4 (fun x k => mkEPeer_cnt x k) n.peers (mkL mkI n.votes (mkL mkEEntry n.log.entries (mkL mkI n.conf 1).2).2).2 (by omega) (by omega)
  refine ⟨by simp only [mkVNode, mkVLog]; omega, ?_⟩
  have e1 := hdN_some (hdL_mk hdI_mk n.conf 1) (by omega)
  have e2 := hdN_some (hdL_mk hdEEntry_mk n.log.entries (mkL mkI n.conf 1).2) (by omega)
  have e3 := hdN_some (hdL_mk hdI_mk n.votes (mkL mkEEntry n.log.entries (mkL mkI n.conf 1).2).2) (by omega)
  have e4 := hdN_some (hdL_mk hdEPeer_mk n.peers (mkL mkI n.votes (mkL mkEEntry n.log.entries (mkL mkI n.conf 1).2).2).2) (by omega)
  have e5 : hdVLog (mkVLog n.log (mkL mkI n.conf 1).2).1 (mkL mkI n.conf 1).2 = some (mkL mkEEntry n.log.entries (mkL mkI n.conf 1).2).2 := by
    simp only [hdVLog, mkVLog, e2]
  have e6 := hdN_some e5 (by omega)
  simp only [hdVNode, mkVNode, e1]
  rw [show (mkVLog n.log (mkL mkI n.conf 1).2).2 = (mkL mkEEntry n.log.entries (mkL mkI n.conf 1).2).2 from rfl]
  simp only [e6, e3, e4]
  rfl
theorem nodeOk_facts {n : Node} (h : nodeOk n = true) : confOk n.conf = true ∧ logOk n.log = true ∧ inR n.commit n.log.start (logLast n.log).1 = true ∧ inR n.id 1 4 = true := by
  unfold nodeOk at h
  split at h
  · cases h
  · rename_i hc
    simp only [Bool.or_eq_true, Bool.not_eq_true', not_or] at hc
    obtain ⟨a1, a2, a3, a4, a5, a6, a7, a8, _⟩ := hc
    exact ⟨by simpa using a2, by simpa using a3, by simpa using a8, by simpa using a1⟩
def hasI (a : List Int) (n : Int) : Bool := a.any (fun y => y == n)
theorem hasI_idx (a : List Int) (n : Int) : decide (idxF (fun y => n == y) a ≥ 0) = hasI a n := by
  have e : (fun y : Int => y == n) = (fun y => n == y) := by
    funext y
    by_cases h : y = n
    · subst h; rfl
    · rw [show (y == n) = false by simpa using h, show (n == y) = false by simpa using Ne.symm h]
  unfold hasI idxF
  rw [e]
  cases h : a.findIdx? (fun y => n == y) with
  | none =>
    rw [List.findIdx?_eq_none_iff] at h
    symm
    simp only []
    rw [show decide ((-1 : Int) ≥ 0) = false from rfl, List.any_eq_false]
    intro x hx
    simp [h x hx]
  | some i =>
    rw [List.findIdx?_eq_some_iff_getElem] at h
    obtain ⟨h1, h2, _⟩ := h
    have : decide ((i : Int) ≥ 0) = true := by simp
    simp only [this]
    symm
    rw [List.any_eq_true]
    exact ⟨a[i], List.getElem_mem h1, h2⟩
theorem hasI_at {a : List Int} {i : Nat} {e n : Int} (h : a[i]? = some e) (hp : (e == n) = true) : hasI a n = true := by
  unfold hasI
  rw [List.any_eq_true]
  exact ⟨e, List.mem_of_getElem? h, hp⟩
theorem hasI_no {a : List Int} {i : Nat} {n : Int} (h : (a.take i).any (fun y => y == n) = false) (hi : a.length ≤ i) : hasI a n = false := by
  rw [List.take_of_length_le hi] at h
  exact h
def mostGo (l : List Int) : List Int → Int → Int
  | [], c => c
  | x :: r, c => mostGo l r (if hasI l x then IntKind.i64.wrap (c + 1) else c)
def most (conf l : List Int) : Bool := confOk conf && decide (IntKind.i64.wrap (2 * mostGo l conf 0) > (conf.length : Int))
def followN (n : Node) (l : Int) : Node := ⟨n.id, n.term_, n.vote, 0, l, n.conf, n.log, n.commit, n.clock, n.limit, [], []⟩
def msgN (n : Node) (k t : Int) : Message := ⟨k, n.id, t, n.term_, 0, 0, 0, false, [], [], ⟨#[]⟩, false⟩
def sendN (n : Node) (p : Peer) : Message :=
  if p.next ≤ n.log.start then ⟨5, n.id, p.id, n.term_, n.log.start, n.log.startTerm, p.sent, false, [], n.conf, ⟨#[]⟩, false⟩ else
  ⟨3, n.id, p.id, n.term_, IntKind.i64.wrap (p.next - 1), logTerm n.log (IntKind.i64.wrap (p.next - 1)), n.commit, false,
    (n.log.entries.drop (p.next - 1 - n.log.start).toNat).take (min 4 (n.log.entries.drop (p.next - 1 - n.log.start).toNat).length), [], ⟨#[]⟩, false⟩
def logB (l : Log) : Prop := 0 ≤ l.start ∧ l.start ≤ 1000000 ∧ l.entries.length ≤ 60
def peerB (l : Log) (p : Peer) : Prop := 1 ≤ p.next ∧ p.next ≤ l.start + (l.entries.length : Int) + 1
def votesAt (n : Node) (i : Int) : List Int := [n.id] ++ (n.peers.filter (fun p => decide (p.match_ ≥ i))).map (·.id)
def cGo (n : Node) (conf : List Int) : Nat → Int → Int → Int
  | 0, _, c => c
  | f + 1, i, c => if decide (i > c) && logTerm n.log i == n.term_ then cGo n conf f (IntKind.i64.wrap (i - 1)) (if most conf (votesAt n i) then i else c) else c
def confN (n : Node) : List Int := (lastC n (logLast n.log).1).2
def commitN (n : Node) : Node :=
  let c := cGo n (confN n) 70 (logLast n.log).1 n.commit
  let m : Node := { n with commit := c }
  if n.role == 2 && !hasI (confN n) n.id && decide ((lastC m (logLast n.log).1).1 ≤ c) then followN m 0 else m
theorem logLast_1 {l : Log} (h : logB l) : (logLast l).1 = l.start + (l.entries.length : Int) := by
  obtain ⟨h1, h2, h3⟩ := h
  unfold logLast
  split
  · rename_i h4
    simp [h4]
  · simp only [IntKind.wrap_i64]
    omega
theorem logTerm_low {l : Log} {i : Int} (h : i < l.start) : logTerm l i = -1 := by
  unfold logTerm
  have h1 : (i == l.start) = false := by simp; omega
  rw [h1]
  simp [h]
structure CmP (n : Node) (f : Nat) (i c : Int) : Prop where
  f70 : f ≤ 70
  at_ : i = (logLast n.log).1 - (70 - (f : Int))
  eq : cGo n (confN n) f i c = cGo n (confN n) 70 (logLast n.log).1 n.commit
theorem CmP.init (n : Node) : CmP n 70 (logLast n.log).1 n.commit := ⟨by omega, by omega, rfl⟩
theorem CmP.low {n : Node} {f : Nat} {i c : Int} (h : CmP n f i c) (hl : logB n.log) (ht : 0 ≤ n.term_) (hg : (decide (i > c) && logTerm n.log i == n.term_) = true) : n.log.start ≤ i ∧ 10 ≤ f ∧ IntKind.i64.wrap (i - 1) = i - 1 := by
  have h1 := h.at_
  have h2 := logLast_1 hl
  have h3 := hl.2.2
  have h4 := h.f70
  have h5 : n.log.start ≤ i := by
    rcases Int.lt_or_le i n.log.start with h6 | h6
    · simp only [Bool.and_eq_true, beq_iff_eq] at hg
      have := logTerm_low h6
      omega
    · exact h6
  have h7 := hl.1
  have h8 := hl.2.1
  refine ⟨h5, by omega, ?_⟩
  rw [IntKind.wrap_i64]
  omega
theorem CmP.step {n : Node} {f : Nat} {i c : Int} (h : CmP n f i c) (hl : logB n.log) (ht : 0 ≤ n.term_) (hg : (decide (i > c) && logTerm n.log i == n.term_) = true) : CmP n (f - 1) (IntKind.i64.wrap (i - 1)) (if most (confN n) (votesAt n i) then i else c) := by
  obtain ⟨h1, h2, h3⟩ := h.low hl ht hg
  obtain ⟨m, rfl⟩ : ∃ m, f = m + 1 := ⟨f - 1, by omega⟩
  have h4 := h.at_
  have h5 := h.f70
  refine ⟨by omega, by rw [h3]; omega, ?_⟩
  rw [← h.eq, cGo, if_pos hg]
  rfl
theorem CmP.yes {n : Node} {f : Nat} {i c : Int} (h : CmP n f i c) (hl : logB n.log) (ht : 0 ≤ n.term_) (hg : (decide (i > c) && logTerm n.log i == n.term_) = true) (hm : most (confN n) (votesAt n i) = true) : CmP n (f - 1) (IntKind.i64.wrap (i - 1)) i := by
  have := h.step hl ht hg
  rwa [if_pos hm] at this
theorem CmP.no {n : Node} {f : Nat} {i c : Int} (h : CmP n f i c) (hl : logB n.log) (ht : 0 ≤ n.term_) (hg : (decide (i > c) && logTerm n.log i == n.term_) = true) (hm : most (confN n) (votesAt n i) = false) : CmP n (f - 1) (IntKind.i64.wrap (i - 1)) c := by
  have := h.step hl ht hg
  rwa [if_neg (by rw [hm]; simp)] at this
theorem CmP.fin {n : Node} {f : Nat} {i c : Int} (h : CmP n f i c) (hg : (decide (i > c) && logTerm n.log i == n.term_) = false) : cGo n (confN n) 70 (logLast n.log).1 n.commit = c := by
  rw [← h.eq]
  cases f with
  | zero => rfl
  | succ f => rw [cGo, if_neg (by rw [hg]; simp)]
theorem votes_yes {ps : List Peer} {k : Nat} {e : Peer} {i : Int} {l : List Int} (h : ps[k]? = some e) (hm : decide (e.match_ ≥ i) = true) : l ++ ((ps.take k).filter (fun p => decide (p.match_ ≥ i))).map (·.id) ++ [e.id] = l ++ ((ps.take (k + 1)).filter (fun p => decide (p.match_ ≥ i))).map (·.id) := by
  rw [take_snoc h, List.filter_append]
  simp at hm
  simp [hm]
theorem votes_no {ps : List Peer} {k : Nat} {e : Peer} {i : Int} {l : List Int} (h : ps[k]? = some e) (hm : decide (e.match_ ≥ i) = false) : l ++ ((ps.take k).filter (fun p => decide (p.match_ ≥ i))).map (·.id) = l ++ ((ps.take (k + 1)).filter (fun p => decide (p.match_ ≥ i))).map (·.id) := by
  rw [take_snoc h, List.filter_append]
  simp at hm
  simp [hm]
theorem votes_len (ps : List Peer) (k : Nat) (i : Int) : (((ps.take k).filter (fun p => decide (p.match_ ≥ i))).map (·.id)).length ≤ ps.length := by
  rw [List.length_map]
  refine Nat.le_trans (List.length_filter_le _ _) ?_
  rw [List.length_take]
  omega
def room (l : Log) : Bool := decide ((l.entries.length : Int) < 60) && decide ((logLast l).1 < 1000000)
theorem commitN_log (n : Node) : (commitN n).log = n.log ∧ (commitN n).conf = n.conf ∧ ((commitN n).peers = n.peers ∨ (commitN n).peers = []) := by
  unfold commitN
  simp only []
  split
  · exact ⟨rfl, rfl, .inr rfl⟩
  · exact ⟨rfl, rfl, .inl rfl⟩
theorem lead_wrap {l : Log} (h : logB l) : IntKind.i64.wrap ((logLast l).1 + 1) = l.start + (l.entries.length : Int) + 1 := by
  rw [logLast_1 h, IntKind.wrap_i64]
  obtain ⟨h1, h2, h3⟩ := h
  omega
structure LeadOk (n m : Node) : Prop where
  log : logB m.log
  ok : okToNode m
  peers : ∀ p ∈ m.peers, peerB m.log p
theorem LeadOk.send {n m : Node} (h : LeadOk n m) : logB (commitN m).log ∧ (∀ p ∈ (commitN m).peers, peerB (commitN m).log p) ∧ (commitN m).conf.length ≤ 1048576 ∧ (commitN m).peers.length ≤ 1048576 := by
  obtain ⟨h1, h2, h3⟩ := commitN_log m
  rw [h1, h2]
  refine ⟨h.log, ?_, h.ok.1.1, ?_⟩
  · rcases h3 with h3 | h3 <;> rw [h3]
    · exact h.peers
    · intro p hp
      cases hp
  · rcases h3 with h3 | h3 <;> rw [h3]
    · exact h.ok.2.2.2.1
    · simp
theorem nodeOk_in {n : Node} (h : nodeOk n = true) : logOk n.log = true ∧ inR n.term_ 0 100000 = true ∧ (n.role = 2 → peersOkB n = true) := by
  unfold nodeOk at h
  split at h
  · cases h
  · rename_i h1
    simp only [Bool.or_eq_true, not_or, Bool.not_eq_true, Bool.not_eq_false'] at h1
    refine ⟨h1.2.2.1, h1.2.2.2.1, fun hr => ?_⟩
    rw [hr] at h
    have h2 : n.votes = [] ∧ peersOkB n = true := by simpa using h
    exact h2.2
theorem nodeOk_peers {n : Node} (h : nodeOk n = true) (hl : logB n.log) (hr : n.role = 2) : ∀ p ∈ n.peers, peerB n.log p := by
  intro p hp
  have h1 := (nodeOk_in h).2.2 hr
  unfold peersOkB at h1
  simp only [Bool.and_eq_true] at h1
  have h2 := List.all_eq_true.1 h1.1 p hp
  unfold pkOk inR at h2
  rw [lead_wrap hl] at h2
  simp only [Bool.and_eq_true, decide_eq_true_eq] at h2
  exact ⟨h2.1.1, h2.1.2⟩
def dst (a : List Int) (c x : Int) : Int := if hasI a x then c else IntKind.i64.wrap (c + 1)
def diffs (a b : List Int) (c : Int) : Int := b.foldl (dst a) c
def nextConf (was now : List Int) : Bool := IntKind.i64.wrap (diffs was now 0 + diffs now was 0) == 1
def mayTurn (n : Node) (data : ByteArray) : Bool :=
  (readConf data).2 && logTerm n.log n.commit == n.term_ && decide ((lastC n (logLast n.log).1).1 ≤ n.commit) && nextConf (confN n) (readConf data).1
def pickP (n : Node) (i : Int) : Peer := match n.peers.find? (fun p => p.id == i) with | none => ⟨i, IntKind.i64.wrap ((logLast n.log).1 + 1), 0, 0⟩ | some p => p
def newPeers (n : Node) (conf : List Int) : List Peer := (others conf n.id).map (pickP n)
theorem idxF_neg {α : Type} {p : α → Bool} {a : List α} (h : idxF p a < 0) : a.find? p = none := by
  unfold idxF at h
  split at h
  · rename_i hh
    rw [List.findIdx?_eq_none_iff] at hh
    rw [List.find?_eq_none]
    intro x hx
    simp [hh x hx]
  · omega
theorem idxF_find {α : Type} {p : α → Bool} {a : List α} (h : ¬ idxF p a < 0) : ∃ (q : Nat) (e : α), idxF p a = (q : Int) ∧ a[q]? = some e ∧ a.find? p = some e := by
  unfold idxF at h ⊢
  split at h
  · omega
  · rename_i q hq
    rw [List.findIdx?_eq_some_iff_getElem] at hq
    obtain ⟨h1, h2, h3⟩ := hq
    refine ⟨q, a[q], rfl, List.getElem?_eq_getElem h1, ?_⟩
    rw [List.find?_eq_some_iff_getElem]
    exact ⟨h2, q, h1, rfl, fun j hj => by simpa using h3 j hj⟩
def propS (n : Node) (kind : Int) (data : ByteArray) : Node :=
  let o : Node := { n with log := { n.log with entries := n.log.entries ++ [⟨n.term_, kind, data⟩] } }
  commitN (if kind == 2 then { o with peers := newPeers n (confN o) } else o)
def proposeN (n : Node) (kind : Int) (data : ByteArray) : Node × List Message × Int × Bool :=
  if !(nodeOk n && n.role == 2 && entOk ⟨n.term_, kind, data⟩ && room n.log) then (Node.z, [], 0, false) else
  if kind == 2 && !mayTurn n data then (Node.z, [], 0, false) else
  (propS n kind data, (propS n kind data).peers.map (sendN (propS n kind data)), IntKind.i64.wrap ((logLast n.log).1 + 1), true)
theorem prop_bad {n : Node} {k : Int} {d : ByteArray} (h : (nodeOk n && n.role == 2 && entOk ⟨n.term_, k, d⟩ && room n.log) = false) : proposeN n k d = (Node.z, [], 0, false) := by
  unfold proposeN
  rw [if_pos (by rw [h]; rfl)]
theorem prop_no {n : Node} {k : Int} {d : ByteArray} (h : (nodeOk n && n.role == 2 && entOk ⟨n.term_, k, d⟩ && room n.log) = true) (h2 : (k == 2 && !mayTurn n d) = true) : proposeN n k d = (Node.z, [], 0, false) := by
  unfold proposeN
  rw [if_neg (by rw [h]; simp), if_pos h2]
theorem prop_yes {n : Node} {k : Int} {d : ByteArray} (h : (nodeOk n && n.role == 2 && entOk ⟨n.term_, k, d⟩ && room n.log) = true) (h2 : (k == 2 && !mayTurn n d) = false) :
    proposeN n k d = (propS n k d, (propS n k d).peers.map (sendN (propS n k d)), IntKind.i64.wrap ((logLast n.log).1 + 1), true) := by
  unfold proposeN
  rw [if_neg (by rw [h]; simp), if_neg (by rw [h2]; simp)]
def outP (n : Node) (k : Int) (d : ByteArray) : Node := { n with log := { n.log with entries := n.log.entries ++ [⟨n.term_, k, d⟩] } }
theorem propS_conf {n : Node} {k : Int} {d : ByteArray} (h : (k == 2) = true) : propS n k d = commitN { outP n k d with peers := newPeers n (confN (outP n k d)) } := by
  unfold propS
  simp only [h, if_true]
  rfl
theorem propS_plain {n : Node} {k : Int} {d : ByteArray} (h : (k == 2) = false) : propS n k d = commitN (outP n k d) := by
  unfold propS
  simp only [h]
  rfl
theorem outP_ok {n : Node} {k : Int} {d : ByteArray} (h : okToNode n) (hr : n.log.entries.length < 60) (hd : d.size ≤ 1048576) : okToNode (outP n k d) := by
  refine ⟨h.1, ⟨by simp [outP]; omega, fun e he => ?_⟩, h.2.2⟩
  rcases List.mem_append.1 he with he | he
  · exact h.2.1.2 e he
  · obtain rfl := List.mem_singleton.1 he
    exact hd
theorem outP_log {n : Node} {k : Int} {d : ByteArray} (hl : logB n.log) (hr : n.log.entries.length < 60) : logB (outP n k d).log := ⟨hl.1, hl.2.1, by simp [outP]; omega⟩
theorem peerB_up {n : Node} {k : Int} {d : ByteArray} {p : Peer} (h : peerB n.log p) : peerB (outP n k d).log p := by
  refine ⟨h.1, ?_⟩
  have := h.2
  simp [outP]
  omega
theorem prop_ok1 {n : Node} {k : Int} {d : ByteArray} (hl : logB n.log) (h : okToNode n) (hr : n.log.entries.length < 60) (hd : d.size ≤ 1048576) (hp : ∀ p ∈ n.peers, peerB n.log p) : LeadOk n (outP n k d) :=
  ⟨outP_log hl hr, outP_ok h hr hd, fun p hm => peerB_up (hp p hm)⟩
theorem prop_ok2 {n : Node} {k : Int} {d : ByteArray} (hl : logB n.log) (h : okToNode n) (hr : n.log.entries.length < 60) (hd : d.size ≤ 1048576) (hp : ∀ p ∈ n.peers, peerB n.log p) : LeadOk n { outP n k d with peers := newPeers n (confN (outP n k d)) } := by
  have ho := outP_ok (k := k) (d := d) h hr hd
  refine ⟨outP_log hl hr, ⟨ho.1, ho.2.1, ho.2.2.1, ⟨?_, fun _ _ => trivial⟩⟩, fun p hm => ?_⟩
  · simp only [newPeers, List.length_map]
    exact Nat.le_trans (others_len _ _) (lastC_len ho _)
  · simp only [newPeers, List.mem_map] at hm
    obtain ⟨i, _, rfl⟩ := hm
    unfold pickP
    split
    · rw [lead_wrap hl]
      obtain ⟨h1, h2, h3⟩ := hl
      refine ⟨by simp only []; omega, ?_⟩
      simp [outP]
      omega
    · rename_i q hq
      exact peerB_up (hp q (List.mem_of_find?_eq_some hq))
def hashStep (h c : Int) : Int := andI (IntKind.i64.wrap (IntKind.i64.wrap (IntKind.i64.wrap (h * 131) + IntKind.i64.wrap c) + 7)) 1073741823
def cur0 (code : List Int) : l01Cur := ⟨code, 0, (code.take 4000).foldl hashStep (IntKind.i64.wrap (37401 + (code.length : Int)))⟩
def byteH (c : l01Cur) : Int := IntKind.i64.wrap (IntKind.i64.wrap (c.h * 6364136223846793005) + 1442695040888963407)
def byteX (c : l01Cur) : Int := andI (xorI (shrI (byteH c) 33) (shrI (byteH c) 45)) 255
def byteN (c : l01Cur) : Int × l01Cur :=
  if c.i < (c.b.length : Int) then (andI (IntKind.i64.wrap (byteX c + IntKind.i64.wrap (c.b.getD c.i.toNat 0))) 255, ⟨c.b, IntKind.i64.wrap (c.i + 1), byteH c⟩) else (byteX c, ⟨c.b, c.i, byteH c⟩)
def curOk (c : l01Cur) : Prop := 0 ≤ c.i ∧ c.i ≤ (c.b.length : Int) ∧ c.b.length ≤ maxLen
theorem byteN_ok {c : l01Cur} (h : curOk c) : curOk (byteN c).2 := by
  obtain ⟨h1, h2, h3⟩ := h
  simp only [maxLen] at h3
  unfold byteN
  split
  · refine ⟨?_, ?_, h3⟩ <;> (simp only []; rw [IntKind.wrap_i64]; omega)
  · exact ⟨h1, h2, h3⟩
def belowN (c : l01Cur) (n : Int) : Int × l01Cur :=
  if n ≤ 0 then (0, c) else if n ≤ 256 then (Int.tmod (byteN c).1 n, (byteN c).2) else
  (Int.tmod (IntKind.i64.wrap (IntKind.i64.wrap (IntKind.i64.wrap (IntKind.i64.wrap ((byteN c).1 * 16777216) + IntKind.i64.wrap ((byteN (byteN c).2).1 * 65536)) + IntKind.i64.wrap ((byteN (byteN (byteN c).2).2).1 * 256)) + (byteN (byteN (byteN (byteN c).2).2).2).1)) n,
    (byteN (byteN (byteN (byteN c).2).2).2).2)
theorem belowN_ok {c : l01Cur} (h : curOk c) (n : Int) : curOk (belowN c n).2 := by
  unfold belowN
  split
  · exact h
  · split
    · exact byteN_ok h
    · exact byteN_ok (byteN_ok (byteN_ok (byteN_ok h)))
def places : Nat → l01Cur → List Int × l01Cur
  | 0, c => ([], c)
  | n + 1, c => ((belowN c 10000).1 :: (places n (belowN c 10000).2).1, (places n (belowN c 10000).2).2)
def drawPlaces (code : List Int) : List Int := (places 12 (byteN (cur0 code)).2).1
theorem cur0_ok {code : List Int} (h : code.length ≤ maxLen) : curOk (byteN (cur0 code)).2 ∧ curOk (cur0 code) := by
  have : curOk (cur0 code) := ⟨by simp [cur0], by simp [cur0], h⟩
  exact ⟨byteN_ok this, this⟩
def PlP (code : List Int) (i : Nat) (l : List Int) (c : l01Cur) : Prop := curOk c ∧ l.length = i ∧ i ≤ 12 ∧ l ++ (places (12 - i) c).1 = drawPlaces code
theorem PlP.init {code : List Int} (h : code.length ≤ maxLen) : PlP code 0 [] (byteN (cur0 code)).2 := ⟨(cur0_ok h).1, rfl, by omega, rfl⟩
theorem PlP.step {code l : List Int} {i : Nat} {c : l01Cur} (h : PlP code i l c) (hi : i < 12) : PlP code (i + 1) (l ++ [(belowN c 10000).1]) (belowN c 10000).2 := by
  obtain ⟨h1, h2, h3, h4⟩ := h
  refine ⟨belowN_ok h1 _, by simp [h2], by omega, ?_⟩
  rw [← h4, show 12 - i = (12 - (i + 1)) + 1 by omega, places]
  simp
theorem PlP.fin {code l : List Int} {i : Nat} {c : l01Cur} (h : PlP code i l c) (hi : 12 ≤ i) : l = drawPlaces code := by
  obtain ⟨h1, h2, h3, h4⟩ := h
  rw [← h4, show 12 - i = 0 by omega]
  simp [places]
def n1 (i : Int) : Node := ⟨i, 0, 0, 0, 0, [i], ⟨0, 0, []⟩, 0, 0, 1, [], []⟩
def oth (i : Int) : Int := IntKind.i64.wrap (Int.tmod i 4 + 1)
def two (i : Int) : List Int := if decide (i > oth i) then [oth i, i] else [i, oth i]
def l18Run.m (e : l18Run) : List C := ((Node.c e.n).map .r) ++ [.w (sl 12 Message.c e.told)]
def tellM (n : Node) (m : Message) : Message := ⟨m.kind, n.id, m.to, n.term_, m.index, m.logTerm, m.commit, m.ok, m.entries, m.conf, m.data, m.last⟩
theorem send_low {n : Node} {p : Peer} (h : decide (p.next ≤ n.log.start) = true) : tellM n ⟨5, 0, p.id, 0, n.log.start, n.log.startTerm, p.sent, false, [], n.conf, ⟨#[]⟩, false⟩ = sendN n p := by
  unfold sendN
  rw [if_pos (by simpa using h)]
  rfl
abbrev sendK (n : Node) (p : Peer) : Nat := (p.next - 1 - n.log.start).toNat
abbrev sendL (n : Node) (p : Peer) : List Entry := n.log.entries.drop (sendK n p)
theorem send_k0 {n : Node} {p : Peer} (hl : logB n.log) (hp : peerB n.log p) (h : decide (p.next ≤ n.log.start) = false) : IntKind.i64.wrap ((IntKind.i64.wrap (p.next - n.log.start)) - 1) = ((sendK n p + 0 : Nat) : Int) ∧ sendK n p + (sendL n p).length = n.log.entries.length := by
  obtain ⟨h1, h2, h3⟩ := hl
  obtain ⟨h4, h5⟩ := hp
  have h6 : n.log.start < p.next := by simpa using h
  simp only [sendK, sendL, List.length_drop]
  constructor
  · rw [IntKind.wrap_i64, IntKind.wrap_i64]; omega
  · omega
theorem send_up {n : Node} {p : Peer} {j : Nat} (h : decide (p.next ≤ n.log.start) = false) (hj : j = min 4 (sendL n p).length) : tellM n ⟨3, 0, p.id, 0, IntKind.i64.wrap (p.next - 1), logTerm n.log (IntKind.i64.wrap (p.next - 1)), n.commit, false, (sendL n p).take j, [], ⟨#[]⟩, false⟩ = sendN n p := by
  unfold sendN
  rw [if_neg (by simpa using h), hj]
  rfl
structure ComOk (n : Node) : Prop where
  log : logB n.log
  low : n.log.start ≤ n.commit
  conf : ∀ e ∈ n.log.entries, e.kind = 2 → (readConf e.data).2 = true
  mono : ∀ (i j : Nat) (a b : Entry), i ≤ j → n.log.entries[i]? = some a → n.log.entries[j]? = some b → a.term_ = n.term_ → b.term_ = n.term_
def csGo (n : Node) (conf : List Int) : Nat → Int → Int → Int
  | 0, _, c => c
  | f + 1, i, c => if decide (i > c) then csGo n conf f (IntKind.i64.wrap (i - 1)) (if (logTerm n.log i == n.term_) && most conf (votesAt n i) then i else c) else c
theorem logTerm_in {l : Log} {i : Int} (h1 : l.start < i) (h2 : i ≤ l.start + (l.entries.length : Int)) : ∃ e, l.entries[(i - l.start - 1).toNat]? = some e ∧ logTerm l i = e.term_ := by
  refine ⟨_, getD_some (z := Entry.z) (by omega), ?_⟩
  unfold logTerm
  rw [show (i == l.start) = false by simp; omega, show (decide (i < l.start) || decide (i > l.start + (l.entries.length : Int))) = false by simp; omega]
  rfl
theorem ComOk.down {n : Node} (h : ComOk n) {i j : Int} (h1 : n.log.start < j) (h2 : j ≤ i) (h3 : i ≤ n.log.start + (n.log.entries.length : Int)) (ht : (logTerm n.log i == n.term_) = false) : (logTerm n.log j == n.term_) = false := by
  obtain ⟨a, ha, ha2⟩ := logTerm_in h1 (Int.le_trans h2 h3)
  obtain ⟨b, hb, hb2⟩ := logTerm_in (Int.lt_of_lt_of_le h1 h2) h3
  rw [hb2] at ht
  rw [ha2]
  by_cases he : a.term_ = n.term_
  · have := h.mono _ _ a b (by omega) ha hb he
    simp [this] at ht
  · simpa using he
theorem csGo_none {n : Node} {conf : List Int} {c : Int} (hc0 : -1000 ≤ c) : ∀ (f : Nat) (i : Int), -1000 ≤ i → i ≤ 1000100 → (∀ j, c < j → j ≤ i → (logTerm n.log j == n.term_) = false) → csGo n conf f i c = c
  | 0, _, _, _, _ => rfl
  | f + 1, i, h0, h1, h => by
    rw [csGo]
    split
    · rename_i hi
      have hi' : c < i := by simpa using hi
      rw [h i hi' (Int.le_refl _)]
      have hw : IntKind.i64.wrap (i - 1) = i - 1 := by rw [IntKind.wrap_i64]; omega
      simp only [Bool.false_and, Bool.false_eq_true, if_false]
      by_cases h2 : -1000 ≤ i - 1
      · rw [hw]
        exact csGo_none hc0 f (i - 1) h2 (by omega) (fun j hj hji => h j hj (by omega))
      · rw [hw]
        cases f with
        | zero => rfl
        | succ f => rw [csGo, if_neg (by simp; omega)]
    · rfl
theorem cs_eq {n : Node} (h : ComOk n) : ∀ (f : Nat) (i c : Int), n.log.start ≤ c → i ≤ n.log.start + (n.log.entries.length : Int) → -1000 ≤ i → csGo n (confN n) f i c = cGo n (confN n) f i c
  | 0, _, _, _, _, _ => rfl
  | f + 1, i, c, hc, hi, h0 => by
    have hl := h.log
    obtain ⟨l1, l2, l3⟩ := hl
    rw [csGo, cGo]
    by_cases hg : decide (i > c) = true
    · rw [if_pos hg]
      have hg' : c < i := by simpa using hg
      have hw : IntKind.i64.wrap (i - 1) = i - 1 := by rw [IntKind.wrap_i64]; omega
      by_cases ht : (logTerm n.log i == n.term_) = true
      · have hA : (decide (i > c) && logTerm n.log i == n.term_) = true := by rw [hg, ht]; rfl
        rw [if_pos hA, ht, hw]
        simp only [Bool.true_and]
        refine cs_eq h f (i - 1) _ ?_ (by omega) (by omega)
        split
        · omega
        · exact hc
      · have ht' : (logTerm n.log i == n.term_) = false := by simpa using ht
        have hA : ¬ (decide (i > c) && logTerm n.log i == n.term_) = true := by rw [ht']; simp
        rw [if_neg hA, ht', hw]
        simp only [Bool.false_and, Bool.false_eq_true, if_false]
        exact csGo_none (by omega) f (i - 1) (by omega) (by omega) (fun j hj hji => h.down (by omega) (by omega) hi ht')
    · have hA : ¬ (decide (i > c) && logTerm n.log i == n.term_) = true := by simp only [Bool.and_eq_true]; exact fun hh => hg hh.1
      rw [if_neg hg, if_neg hA]
def confIx (l : Log) : Nat → Int
  | 0 => l.start
  | i + 1 => if (l.entries.getD i Entry.z).kind == 2 then IntKind.i64.wrap (IntKind.i64.wrap (l.start + 1) + (i : Int)) else confIx l i
theorem confIx_yes {l : Log} {i : Nat} {e : Entry} (he : l.entries[i]? = some e) (h : (e.kind == 2) = true) : IntKind.i64.wrap (IntKind.i64.wrap (l.start + 1) + (i : Int)) = confIx l (i + 1) := by
  rw [confIx, List.getD_eq_getElem?_getD, he, Option.getD_some, if_pos h]
theorem confIx_no {l : Log} {i : Nat} {e : Entry} (he : l.entries[i]? = some e) (h : (e.kind == 2) = false) : confIx l i = confIx l (i + 1) := by
  rw [confIx, List.getD_eq_getElem?_getD, he, Option.getD_some, if_neg (by rw [h]; simp)]
theorem confIx_le {n : Node} (h : ComOk n) {c last : Int} (hc : n.log.start ≤ c) (hlast : last = n.log.start + (n.log.entries.length : Int)) : ∀ i : Nat, i ≤ n.log.entries.length →
    decide (confIx n.log i ≤ c) = decide (((lcGo n.log.start last n.log.entries i).getD (-1, n.conf)).1 ≤ c)
  | 0, _ => by
    obtain ⟨l1, l2, l3⟩ := h.log
    show decide (n.log.start ≤ c) = decide ((-1 : Int) ≤ c)
    rw [decide_eq_true (by omega : n.log.start ≤ c), decide_eq_true (by omega : (-1 : Int) ≤ c)]
  | i + 1, hi => by
    obtain ⟨l1, l2, l3⟩ := h.log
    have hg : n.log.entries[i]? = some (n.log.entries.getD i Entry.z) := getD_some (by omega)
    rw [confIx, lcGo]
    by_cases hk : ((n.log.entries.getD i Entry.z).kind == 2) = true
    · have hr := h.conf _ (List.mem_of_getElem? hg) (by simpa using hk)
      have hw : decide (IntKind.i64.wrap (IntKind.i64.wrap (n.log.start + (i : Int)) + 1) ≤ last) = true := by rw [IntKind.wrap_i64, IntKind.wrap_i64]; simp; omega
      rw [if_pos hk, if_pos (by rw [hr, hk, hw]; rfl), Option.getD_some]
      have e : IntKind.i64.wrap (IntKind.i64.wrap (n.log.start + 1) + (i : Int)) = IntKind.i64.wrap (IntKind.i64.wrap (n.log.start + (i : Int)) + 1) := by rw [IntKind.wrap_i64, IntKind.wrap_i64, IntKind.wrap_i64, IntKind.wrap_i64]; omega
      rw [e]
    · rw [if_neg hk, if_neg (by intro hh; simp only [Bool.and_eq_true] at hh; exact hk hh.2.1)]
      exact confIx_le h hc hlast i (by omega)
theorem conf_eqB {n : Node} (hl : logB n.log) : confAtS n 1000060 = confN n := by
  obtain ⟨h1, h2, h3⟩ := hl
  rw [confN, confAtS, cfGo_all h1 h2 _ _ _ (by omega), lastC, lcGo_all h1 h2 h3 (logLast_1 ⟨h1, h2, h3⟩) _ (Nat.le_refl _), List.take_length]
structure CsP (n : Node) (f : Nat) (i c : Int) : Prop where
  f70 : f ≤ 70
  at_ : i = (logLast n.log).1 - (70 - (f : Int))
  eq : csGo n (confN n) f i c = csGo n (confN n) 70 (logLast n.log).1 n.commit
  low : n.log.start ≤ c
theorem CsP.init {n : Node} (h : ComOk n) : CsP n 70 (logLast n.log).1 n.commit := ⟨by omega, by omega, rfl, h.low⟩
theorem CsP.lt {n : Node} {f : Nat} {i c : Int} (h : CsP n f i c) (hl : logB n.log) (hg : decide (i > c) = true) : 10 ≤ f ∧ n.log.start < i ∧ i ≤ n.log.start + (n.log.entries.length : Int) ∧ IntKind.i64.wrap (i - 1) = i - 1 := by
  have h1 := h.at_
  have h2 := logLast_1 hl
  have h3 := hl.2.2
  have h4 := h.f70
  have h5 := h.low
  have h6 : c < i := by simpa using hg
  have h7 := hl.1
  have h8 := hl.2.1
  refine ⟨by omega, by omega, by omega, ?_⟩
  rw [IntKind.wrap_i64]
  omega
theorem CsP.step {n : Node} {f : Nat} {i c : Int} (h : CsP n f i c) (hl : logB n.log) (hg : decide (i > c) = true) : CsP n (f - 1) (IntKind.i64.wrap (i - 1)) (if (logTerm n.log i == n.term_) && most (confN n) (votesAt n i) then i else c) := by
  obtain ⟨h1, h2, h2b, h3⟩ := h.lt hl hg
  obtain ⟨m, rfl⟩ : ∃ m, f = m + 1 := ⟨f - 1, by omega⟩
  have h4 := h.at_
  have h5 := h.f70
  refine ⟨by omega, by rw [h3]; omega, ?_, ?_⟩
  · rw [← h.eq, csGo, if_pos hg]
    rfl
  · have := h.low
    split <;> omega
theorem CsP.yes {n : Node} {f : Nat} {i c : Int} (h : CsP n f i c) (hl : logB n.log) (hg : decide (i > c) = true) (hm : ((logTerm n.log i == n.term_) && most (confN n) (votesAt n i)) = true) : CsP n (f - 1) (IntKind.i64.wrap (i - 1)) i := by
  have := h.step hl hg
  rwa [if_pos hm] at this
theorem CsP.no {n : Node} {f : Nat} {i c : Int} (h : CsP n f i c) (hl : logB n.log) (hg : decide (i > c) = true) (hm : ((logTerm n.log i == n.term_) && most (confN n) (votesAt n i)) = false) : CsP n (f - 1) (IntKind.i64.wrap (i - 1)) c := by
  have := h.step hl hg
  rwa [if_neg (by rw [hm]; simp)] at this
theorem CsP.fin {n : Node} {f : Nat} {i c : Int} (hn : ComOk n) (h : CsP n f i c) (hg : decide (i > c) = false) : cGo n (confN n) 70 (logLast n.log).1 n.commit = c := by
  have hl := hn.log
  rw [← cs_eq hn 70 _ _ hn.low (by rw [logLast_1 hl]; omega) (by rw [logLast_1 hl]; have := hl.1; omega), ← h.eq]
  cases f with
  | zero => rfl
  | succ f => rw [csGo, if_neg (by rw [hg]; simp)]
theorem com_eq {n : Node} {c : Int} (hn : ComOk n) (h : cGo n (confN n) 70 (logLast n.log).1 n.commit = c) (hc : n.log.start ≤ c) (v : Bool) (hv : v = ((n.role == 2) && !(hasI (confN n) n.id) && decide (confIx n.log n.log.entries.length ≤ c))) :
    commitN n = if v then followN { n with commit := c } 0 else { n with commit := c } := by
  have hl := hn.log
  have hx := confIx_le hn hc (logLast_1 hl) n.log.entries.length (Nat.le_refl _)
  rw [hv, hx]
  unfold commitN
  simp only [h]
  rfl
structure TermOk (n : Node) : Prop where
  low : n.log.start ≤ n.commit
  conf : ∀ e ∈ n.log.entries, e.kind = 2 → (readConf e.data).2 = true
  mono : ∀ (i j : Nat) (a b : Entry), i ≤ j → n.log.entries[i]? = some a → n.log.entries[j]? = some b → a.term_ = n.term_ → b.term_ = n.term_
theorem com_app' {n m : Node} {e : Entry} (hl : logB n.log) (h : TermOk n) (hr : n.log.entries.length < 60) (he : e.term_ = n.term_) (hk : e.kind = 2 → (readConf e.data).2 = true) (h1 : m.log = ⟨n.log.start, n.log.startTerm, n.log.entries ++ [e]⟩) (h2 : m.commit = n.commit) (h3 : m.term_ = n.term_) : ComOk m := by
  refine ⟨?_, by rw [h1, h2]; exact h.low, ?_, ?_⟩
  · rw [h1]
    exact ⟨hl.1, hl.2.1, by simp; omega⟩
  · rw [h1]
    intro x hx hk2
    rcases List.mem_append.1 hx with hx | hx
    · exact h.conf x hx hk2
    · obtain rfl := List.mem_singleton.1 hx
      exact hk hk2
  · rw [h1, h3]
    intro i j a b hij ha hb hat
    simp only [] at ha hb
    rcases Nat.lt_or_ge j n.log.entries.length with hj | hj
    · rw [List.getElem?_append_left hj] at hb
      rw [List.getElem?_append_left (by omega)] at ha
      exact h.mono i j a b hij ha hb hat
    · rw [List.getElem?_append_right hj] at hb
      have : b ∈ [e] := List.mem_of_getElem? hb
      rw [List.mem_singleton.1 this]
      exact he
theorem termsOk_up : ∀ {es : List Entry} {t : Int}, termsOk t es = true → (∀ e ∈ es, t ≤ e.term_ ∧ entOk e = true) ∧ ∀ (i j : Nat) (a b : Entry), i ≤ j → es[i]? = some a → es[j]? = some b → a.term_ ≤ b.term_
  | [], _, _ => ⟨fun _ h => (by cases h), fun i j a b _ h => (by simp at h)⟩
  | e :: r, t, h => by
    rw [termsOk] at h
    split at h
    · cases h
    · rename_i hc
      simp only [Bool.or_eq_true, not_or, Bool.not_eq_true, Bool.not_eq_false', decide_eq_true_eq] at hc
      obtain ⟨h1, h2⟩ := termsOk_up h
      have he : entOk e = true := by simpa using hc.1
      have ht : t ≤ e.term_ := by omega
      refine ⟨fun x hx => ?_, fun i j a b hij ha hb => ?_⟩
      · rcases List.mem_cons.1 hx with rfl | hx
        · exact ⟨ht, he⟩
        · have := h1 x hx
          exact ⟨by omega, this.2⟩
      · cases i with
        | zero =>
          simp at ha
          subst ha
          cases j with
          | zero => simp at hb; subst hb; omega
          | succ j => exact (h1 b (List.mem_of_getElem? (by simpa using hb))).1
        | succ i =>
          cases j with
          | zero => omega
          | succ j => exact h2 i j a b (by omega) (by simpa using ha) (by simpa using hb)
theorem nodeOk_terms {n : Node} (hn : nodeOk n = true) : (∀ e ∈ n.log.entries, e.term_ ≤ n.term_) ∧ (∀ e ∈ n.log.entries, e.kind = 2 → (readConf e.data).2 = true) ∧ (∀ (i j : Nat) (a b : Entry), i ≤ j → n.log.entries[i]? = some a → n.log.entries[j]? = some b → a.term_ ≤ b.term_) ∧ n.log.start ≤ n.commit := by
  have hlast : (logLast n.log).2 ≤ n.term_ := by
    unfold nodeOk at hn
    split at hn
    · cases hn
    · rename_i h1
      simp only [Bool.or_eq_true, not_or, Bool.not_eq_true, decide_eq_false_iff_not] at h1
      have := h1.2.2.2.2.2.1
      omega
  have hlo := (nodeOk_in hn).1
  have hcm := (nodeOk_facts hn).2.2.1
  simp only [logOk, inR, Bool.and_eq_true, decide_eq_true_eq] at hlo hcm
  obtain ⟨h1, h2⟩ := termsOk_up hlo.2.2.2.2
  refine ⟨fun e he => ?_, fun e he hk => ?_, h2, hcm.1⟩
  · obtain ⟨i, hi⟩ := List.getElem?_of_mem he
    have hlt : i < n.log.entries.length := (List.getElem?_eq_some_iff.1 hi).1
    have hg : n.log.entries[n.log.entries.length - 1]? = some (n.log.entries.getD (n.log.entries.length - 1) Entry.z) := getD_some (by omega)
    have := h2 i (n.log.entries.length - 1) e _ (by omega) hi hg
    unfold logLast at hlast
    rw [if_neg (by omega)] at hlast
    simp only [] at hlast
    omega
  · have := (h1 e he).2
    unfold entOk at this
    simp only [hk, Bool.and_eq_true] at this
    simpa using this.2
theorem term_here {n m : Node} (hn : nodeOk n = true) (h1 : m.log = n.log) (h2 : m.commit = n.commit) (h3 : m.term_ = n.term_) : TermOk m := by
  obtain ⟨a1, a2, a3, a4⟩ := nodeOk_terms hn
  refine ⟨by rw [h1, h2]; exact a4, by rw [h1]; exact a2, ?_⟩
  rw [h1, h3]
  intro i j a b hij ha hb hat
  have q1 := a1 b (List.mem_of_getElem? hb)
  have q2 := a3 i j a b hij ha hb
  omega
def okMs (l : List Message) : Prop := l.length ≤ 1048576 ∧ ∀ m ∈ l, m.entries.length ≤ 1048576 ∧ m.conf.length ≤ 1048576
theorem inc_eq {k : Int} (h0 : 0 ≤ k) (h1 : k ≤ 4611686018427387904) : inc k = k + 1 := by
  simp only [inc, IntKind.wrap_i64]; omega
theorem hdI_self (k : Int) : hdI k k = some (inc k) := by simp [hdI]
theorem hdB_self (k : Int) : hdB (Int.tmod k 3 == 0) k = some (inc k) := by simp [hdB]
theorem hdS_self (k : Int) : hdS (mtext k) k = some (inc k) := by simp [hdS]
theorem mkEMessage_facts {m : Message} (h : m.entries.length ≤ 1048576 ∧ m.conf.length ≤ 1048576) {k : Int} (h0 : 0 ≤ k) (h1 : k ≤ 4611686018000000000) :
    k ≤ (mkEMessage m k).2 ∧ (mkEMessage m k).2 ≤ k + 4200000 ∧ hdEMessage (mkEMessage m k).1 k = some (mkEMessage m k).2 := by
  obtain ⟨l1, l2⟩ := h
  obtain ⟨K, hK⟩ : ∃ z, z = inc (inc (inc (inc (inc (inc (inc (inc k))))))) := ⟨_, rfl⟩
  have hK8 : K = k + 8 := by
    rw [hK, inc_eq (k := k) (by omega) (by omega), inc_eq (k := k + 1) (by omega) (by omega), inc_eq (k := k + 1 + 1) (by omega) (by omega), inc_eq (k := k + 1 + 1 + 1) (by omega) (by omega), inc_eq (k := k + 1 + 1 + 1 + 1) (by omega) (by omega), inc_eq (k := k + 1 + 1 + 1 + 1 + 1) (by omega) (by omega),
      inc_eq (k := k + 1 + 1 + 1 + 1 + 1 + 1) (by omega) (by omega), inc_eq (k := k + 1 + 1 + 1 + 1 + 1 + 1 + 1) (by omega) (by omega)]
    omega
  have c1 := mkL_cnt 3 (fun x k => mkEEntry_cnt x k) m.entries K (by omega) (by omega)
  have e1 := hdN_some (hdL_mk hdEEntry_mk m.entries K) (by omega)
  obtain ⟨J, hJ⟩ : ∃ z, z = (mkL mkEEntry m.entries K).2 := ⟨_, rfl⟩
  rw [← hJ] at c1 e1
  have c2 := mkL_cnt 1 mkI_cnt m.conf J (by omega) (by omega)
  have e2 := hdN_some (hdL_mk hdI_mk m.conf J) (by omega)
  obtain ⟨M, hM⟩ : ∃ z, z = (mkL mkI m.conf J).2 := ⟨_, rfl⟩
  rw [← hM] at c2 e2
  have hM2 : inc (inc M) = M + 2 := by
    rw [inc_eq (k := M) (by omega) (by omega), inc_eq (k := M + 1) (by omega) (by omega)]
    omega
  have hm : (mkEMessage m k).2 = M + 2 := by
    simp only [mkEMessage, mkI, mkB, mkS]
    rw [← hK, ← hJ]
    rw [← hM2, hM]
  refine ⟨by omega, by omega, ?_⟩
  rw [hm]
  simp only [hdEMessage, mkEMessage, mkI, mkB, mkS, hdI_self, hdB_self, hdS_self]
  rw [← hK]
  simp only [e1]
  rw [← hJ]
  have e2' := e2
  simp only [e2']
  rw [← hM2]
  rw [← hM]
  simp only [hdS_self, hdB_self]
theorem mkMs_facts : ∀ {l : List Message} {k : Int}, (∀ m ∈ l, m.entries.length ≤ 1048576 ∧ m.conf.length ≤ 1048576) → 0 ≤ k → k + 4200000 * l.length ≤ 4611686018000000000 →
    0 ≤ (mkL mkEMessage l k).2 ∧ hdL hdEMessage (mkL mkEMessage l k).1 k = some (mkL mkEMessage l k).2
  | [], k, _, h0, _ => ⟨h0, rfl⟩
  | m :: r, k, h, h0, h1 => by
    simp only [List.length_cons] at h1
    obtain ⟨a1, a2, a3⟩ := mkEMessage_facts (h m (by simp)) h0 (by omega)
    obtain ⟨b1, b2⟩ := mkMs_facts (l := r) (k := (mkEMessage m k).2) (fun x hx => h x (by simp [hx])) (by omega) (by omega)
    simp only [mkL, hdL, a3]
    exact ⟨b1, b2⟩
theorem mkNM_facts {n : Node} {l : List Message} (hok : okToNode n) (h : okMs l) : 0 ≤ (mkVNode n 1).2 ∧ (hdVNode (mkVNode n 1).1 1).getD (-1) = (mkVNode n 1).2 ∧ 0 ≤ (mkL mkEMessage l (mkVNode n 1).2).2 ∧
    (hdL hdEMessage (mkL mkEMessage l (mkVNode n 1).2).1 (mkVNode n 1).2).getD (-1) = (mkL mkEMessage l (mkVNode n 1).2).2 := by
  obtain ⟨p1, p2⟩ := mkVNode_facts hok
  have hle : (mkVNode n 1).2 ≤ 100000000 := by
    have l1 := hok.1.1
    have l2 := hok.2.1.1
    have l3 := hok.2.2.1.1
    have l4 := hok.2.2.2.1
    have c1 := mkL_cnt 1 mkI_cnt n.conf 1 (by omega) (by omega)
    have c2 := mkL_cnt 3 (fun x k => mkEEntry_cnt x k) n.log.entries (mkL mkI n.conf 1).2 (by omega) (by omega)
    have c3 := mkL_cnt 1 mkI_cnt n.votes (mkL mkEEntry n.log.entries (mkL mkI n.conf 1).2).2 (by omega) (by omega)
    have c4 := mkL_cnt 4 (fun x k => mkEPeer_cnt x k) n.peers (mkL mkI n.votes (mkL mkEEntry n.log.entries (mkL mkI n.conf 1).2).2).2 (by omega) (by omega)
    simp only [mkVNode, mkVLog]
    omega
  have hl := h.1
  obtain ⟨q1, q2⟩ := mkMs_facts (l := l) (k := (mkVNode n 1).2) h.2 p1 (by omega)
  exact ⟨p1, p2, q1, by rw [q2]; rfl⟩
theorem okCommit {n : Node} (h : okToNode n) : okToNode (commitN n) := by
  unfold commitN
  simp only []
  split
  · exact ⟨h.1, h.2.1, ⟨by simp [followN], by simp [followN]⟩, ⟨by simp [followN], by simp [followN]⟩⟩
  · exact h
theorem okSends {n : Node} (h : okToNode n) : okMs (n.peers.map (sendN n)) := by
  refine ⟨by rw [List.length_map]; exact h.2.2.2.1, fun m hm => ?_⟩
  simp only [List.mem_map] at hm
  obtain ⟨p, _, rfl⟩ := hm
  unfold sendN
  split
  · exact ⟨by simp, h.1.1⟩
  · refine ⟨?_, by simp⟩
    simp only [List.length_take]
    omega
def nearD (a b : List Int) : Nat → Int
  | 0 => 0
  | i + 1 => if i = 0 then 0 else if (hasI a (i : Int) != hasI b (i : Int)) = true then IntKind.i64.wrap (nearD a b i + 1) else nearD a b i
def near (a b : List Int) : Bool := nearD a b 5 == 1
theorem nearD_yes {a b : List Int} {i : Nat} (hi : 1 ≤ i) (h : (hasI a (i : Int) != hasI b (i : Int)) = true) : IntKind.i64.wrap (nearD a b i + 1) = nearD a b (i + 1) := by
  rw [nearD, if_neg (by omega), if_pos h]
theorem nearD_no {a b : List Int} {i : Nat} (hi : 1 ≤ i) (h : (hasI a (i : Int) != hasI b (i : Int)) = false) : nearD a b i = nearD a b (i + 1) := by
  rw [nearD, if_neg (by omega), if_neg (by rw [h]; simp)]
def allConf : List (List Int) := [[1], [2], [3], [4], [1, 2], [1, 3], [1, 4], [2, 3], [2, 4], [3, 4], [1, 2, 3], [1, 2, 4], [1, 3, 4], [2, 3, 4], [1, 2, 3, 4]]
theorem near_all : ∀ a ∈ allConf, ∀ b ∈ allConf, near a b = nextConf a b := by decide +kernel
theorem confOk_mem {a : List Int} (h : confOk a = true) : a ∈ allConf := by
  have hl := confOk_len h
  simp only [confOk, inR, Bool.and_eq_true, decide_eq_true_eq] at h
  obtain ⟨h0, h⟩ := h
  match a, hl, h0, h with
  | [], _, h0, _ => simp at h0
  | [x], _, _, h =>
    simp only [riseOk, inR] at h
    simp at h
    have : x = 1 ∨ x = 2 ∨ x = 3 ∨ x = 4 := by omega
    rcases this with rfl | rfl | rfl | rfl <;> decide
  | [x, y], _, _, h =>
    simp only [riseOk, inR] at h
    simp at h
    have hx : x = 1 ∨ x = 2 ∨ x = 3 := by omega
    have hy : y = 2 ∨ y = 3 ∨ y = 4 := by omega
    rcases hx with rfl | rfl | rfl <;> rcases hy with rfl | rfl | rfl <;> first | decide | (exfalso; omega)
  | [x, y, z], _, _, h =>
    simp only [riseOk, inR] at h
    simp at h
    have hx : x = 1 ∨ x = 2 := by omega
    have hy : y = 2 ∨ y = 3 := by omega
    have hz : z = 3 ∨ z = 4 := by omega
    rcases hx with rfl | rfl <;> rcases hy with rfl | rfl <;> rcases hz with rfl | rfl <;> first | decide | (exfalso; omega)
  | [x, y, z, u], _, _, h =>
    simp only [riseOk, inR] at h
    simp at h
    have hx : x = 1 := by omega
    have hy : y = 2 := by omega
    have hz : z = 3 := by omega
    have hu : u = 4 := by omega
    subst hx hy hz hu
    decide
  | _ :: _ :: _ :: _ :: _ :: _, hl, _, _ => simp at hl
theorem near_eq {a b : List Int} (ha : confOk a = true) (hb : confOk b = true) : near a b = nextConf a b := near_all a (confOk_mem ha) b (confOk_mem hb)
theorem readConf_ok {s : ByteArray} (h : (readConf s).2 = true) : confOk (readConf s).1 = true := by
  unfold readConf at h ⊢
  split
  · assumption
  · rename_i hc
    rw [if_neg hc] at h
    cases h
theorem lcGo_ok {start idx : Int} {es : List Entry} : ∀ (i : Nat) (x : Int × List Int), lcGo start idx es i = some x → confOk x.2 = true
  | 0, x, h => by simp [lcGo] at h
  | i + 1, x, h => by
    rw [lcGo] at h
    split at h
    · rename_i hc
      simp only [Bool.and_eq_true] at hc
      cases h
      exact readConf_ok hc.1
    · exact lcGo_ok i x h
theorem confN_ok {n : Node} (h : confOk n.conf = true) : confOk (confN n) = true := by
  unfold confN lastC
  cases hq : lcGo n.log.start (logLast n.log).1 n.log.entries n.log.entries.length with
  | none => exact h
  | some x => exact lcGo_ok _ x hq
theorem nodup_all : ∀ a ∈ allConf, a.Nodup := by decide +kernel
theorem eqS_eqI : ∀ {a b : List Int}, eqS eqI a b = true → a = b
  | [], [], _ => rfl
  | x :: r, y :: s, h => by
    rw [eqS] at h
    split at h
    · rename_i hx
      simp only [eqI, beq_iff_eq] at hx
      rw [hx, eqS_eqI h]
    · cases h
  | [], _ :: _, h => by simp [eqS] at h
  | _ :: _, [], h => by simp [eqS] at h
theorem peers_ids {n : Node} (hn : nodeOk n = true) (hr : n.role = 2) : n.peers.map (·.id) = others (confN n) n.id ∧ (n.peers.map (·.id)).Nodup := by
  have h1 := (nodeOk_in hn).2.2 hr
  unfold peersOkB at h1
  simp only [Bool.and_eq_true] at h1
  have h2 := eqS_eqI h1.2
  refine ⟨h2, ?_⟩
  rw [h2]
  exact (nodup_all _ (confOk_mem (confN_ok (n := n) (nodeOk_facts hn).1))).sublist List.filter_sublist
def pickF (ps : List Peer) (i nx : Int) (k : Nat) : Peer := (ps.take k).foldl (fun p q => if q.id == i then q else p) ⟨i, nx, 0, 0⟩
theorem pickF_yes {ps : List Peer} {i nx : Int} {k : Nat} {e : Peer} (he : ps[k]? = some e) (h : (e.id == i) = true) : pickF ps i nx (k + 1) = e := by
  rw [pickF, take_snoc he, List.foldl_append, List.foldl_cons, List.foldl_nil, if_pos h]
theorem pickF_no {ps : List Peer} {i nx : Int} {k : Nat} {e : Peer} (he : ps[k]? = some e) (h : (e.id == i) = false) : pickF ps i nx (k + 1) = pickF ps i nx k := by
  rw [pickF, take_snoc he, List.foldl_append, List.foldl_cons, List.foldl_nil, if_neg (by rw [h]; simp)]
  rfl
theorem pick_none {i : Int} : ∀ (ps : List Peer) (d : Peer), (∀ p ∈ ps, (p.id == i) = false) → ps.foldl (fun p q => if q.id == i then q else p) d = d
  | [], _, _ => rfl
  | p :: r, d, h => by
    rw [List.foldl_cons, if_neg (by rw [h p (by simp)]; simp)]
    exact pick_none r d (fun q hq => h q (by simp [hq]))
theorem pick_find {i : Int} : ∀ (ps : List Peer) (d : Peer), (ps.map (·.id)).Nodup → ps.foldl (fun p q => if q.id == i then q else p) d = (ps.find? (fun p => p.id == i)).getD d
  | [], _, _ => rfl
  | p :: r, d, h => by
    simp only [List.map_cons, List.nodup_cons] at h
    rw [List.foldl_cons, List.find?_cons]
    cases hp : p.id == i with
    | true =>
      rw [if_pos rfl, pick_none]
      · rfl
      · intro q hq
        by_cases hq2 : q.id = i
        · exfalso
          refine h.1 ?_
          rw [show p.id = q.id by rw [hq2]; simpa using hp]
          exact List.mem_map.2 ⟨q, hq, rfl⟩
        · simpa using hq2
    | false =>
      rw [if_neg (by simp)]
      exact pick_find r d h.2
theorem pickF_all {n : Node} {i nx : Int} {k : Nat} (hk : n.peers.length ≤ k) (hd : (n.peers.map (·.id)).Nodup) (hx : nx = IntKind.i64.wrap ((logLast n.log).1 + 1)) : pickF n.peers i nx k = pickP n i := by
  rw [pickF, List.take_of_length_le hk, pick_find _ _ hd, pickP, ← hx]
  cases n.peers.find? (fun p => p.id == i) <;> rfl
theorem confAt_log' {n m : Node} (hc : m.conf = n.conf) (hs : m.log.start = n.log.start) {e : Entry} (hk : (e.kind == 2) = false) (hr : n.log.entries.length < 60) (he : m.log.entries = n.log.entries ++ [e]) (hl : logB n.log) : confAtS m 1000060 = confN n := by
  rw [← conf_eqB hl]
  obtain ⟨h1, h2, h3⟩ := hl
  have hm : m.log.entries.length ≤ 60 := by rw [he]; simp; omega
  rw [confAtS, confAtS, cfGo_all (by omega) (by omega) _ _ _ (by omega), cfGo_all h1 h2 _ _ _ (by omega), hc, he]
  rw [List.foldl_append, List.foldl_cons, List.foldl_nil, cfStep, if_neg]
  rw [hk]; simp
theorem pickP_self {n : Node} (hd : (n.peers.map (·.id)).Nodup) : ∀ p ∈ n.peers, pickP n p.id = p := by
  intro p hp
  unfold pickP
  have : n.peers.find? (fun q => q.id == p.id) = some p := by
    obtain ⟨l1, l2, h1⟩ := List.append_of_mem hp
    rw [h1] at hd ⊢
    rw [List.find?_append, List.find?_eq_none.2 ?_]
    · simp
    · intro q hq hh
      simp only [List.map_append, List.map_cons] at hd
      exact (List.nodup_append.1 hd).2.2 q.id (List.mem_map.2 ⟨q, hq, rfl⟩) p.id (by simp) (by simpa using hh)
  rw [this]
theorem newPeers_same {n : Node} {k : Int} {d : ByteArray} (hn : nodeOk n = true) (hl : logB n.log) (hr : n.role = 2) (h60 : n.log.entries.length < 60) (hk : (k == 2) = false) : newPeers n (confN (outP n k d)) = n.peers := by
  obtain ⟨h1, h2⟩ := peers_ids hn hr
  have hc : confN (outP n k d) = confN n := by
    rw [← conf_eqB (outP_log (k := k) (d := d) hl h60)]
    exact confAt_log' rfl rfl (e := ⟨n.term_, k, d⟩) hk h60 rfl hl
  rw [newPeers, hc, ← h1, List.map_map]
  conv => rhs; rw [← List.map_id n.peers]
  exact List.map_congr_left (fun p hp => pickP_self h2 p hp)
theorem propS_all {n : Node} {k : Int} {d : ByteArray} (hn : nodeOk n = true) (hl : logB n.log) (hr : n.role = 2) (h60 : n.log.entries.length < 60) : propS n k d = commitN { outP n k d with peers := newPeers n (confN (outP n k d)) } := by
  by_cases hk : (k == 2) = true
  · exact propS_conf hk
  · have hk' : (k == 2) = false := by simpa using hk
    rw [propS_plain hk', newPeers_same hn hl hr h60 hk']
    rfl
theorem com_here {n : Node} (hn : nodeOk n = true) : ComOk n := by
  have h := term_here (m := n) hn rfl rfl rfl
  exact ⟨logOk_hs (nodeOk_in hn).1, h.low, h.conf, h.mono⟩
theorem may_eq {n : Node} {d : ByteArray} (hn : nodeOk n = true) (hk : (readConf d).2 = true) : mayTurn n d = !((logTerm n.log n.commit != n.term_) || decide (confIx n.log n.log.entries.length > n.commit) || !near (confAtS n 1000060) (readConf d).1) := by
  have hc := com_here hn
  have hl := hc.log
  have h1 := confIx_le hc (c := n.commit) hc.low (logLast_1 hl) n.log.entries.length (Nat.le_refl _)
  rw [conf_eqB hl, near_eq (confN_ok (nodeOk_facts hn).1) (readConf_ok hk)]
  have h2 : decide (confIx n.log n.log.entries.length > n.commit) = !decide ((lastC n (logLast n.log).1).1 ≤ n.commit) := by
    rw [show (lastC n (logLast n.log).1).1 = ((lcGo n.log.start (logLast n.log).1 n.log.entries n.log.entries.length).getD (-1, n.conf)).1 from rfl, ← h1]
    by_cases hx : confIx n.log n.log.entries.length ≤ n.commit
    · rw [decide_eq_true hx, decide_eq_false (by omega)]; rfl
    · rw [decide_eq_false hx, decide_eq_true (by omega)]; rfl
  unfold mayTurn
  rw [hk, h2]
  cases hA : (logTerm n.log n.commit == n.term_) <;> cases decide ((lastC n (logLast n.log).1).1 ≤ n.commit) <;> cases nextConf (confN n) (readConf d).1 <;> simp [bne, hA]
theorem ent_conf {n : Node} {k : Int} {d : ByteArray} (he : entOk ⟨n.term_, k, d⟩ = true) (hk : k = 2) : (readConf d).2 = true := by
  subst hk
  simp only [entOk, Bool.and_eq_true] at he
  simpa using he.2
theorem com_prop {n : Node} {k : Int} {d : ByteArray} (hn : nodeOk n = true) (h60 : n.log.entries.length < 60) (he : entOk ⟨n.term_, k, d⟩ = true) (ps : List Peer) : ComOk { outP n k d with peers := ps } :=
  com_app' (e := ⟨n.term_, k, d⟩) (com_here hn).log (term_here hn rfl rfl rfl) h60 rfl (fun hk => ent_conf he hk) rfl rfl rfl
theorem prop_ix {n : Node} (hl : logB n.log) : IntKind.i64.wrap ((IntKind.i64.wrap (n.log.start + (n.log.entries.length : Int))) + 1) = IntKind.i64.wrap ((logLast n.log).1 + 1) := by
  rw [logLast_1 hl]
  obtain ⟨h1, h2, h3⟩ := hl
  rw [show IntKind.i64.wrap (n.log.start + (n.log.entries.length : Int)) = n.log.start + (n.log.entries.length : Int) from by rw [IntKind.wrap_i64]; omega]
theorem okPropose {n : Node} (h : okToNode n) (k : Int) {d : ByteArray} (hd : d.size ≤ 1048576) : okToNode (proposeN n k d).1 ∧ okMs (proposeN n k d).2.1 := by
  have h0 : okMs [] := ⟨by simp, fun m hm => by cases hm⟩
  by_cases hg : (nodeOk n && n.role == 2 && entOk ⟨n.term_, k, d⟩ && room n.log) = true
  · by_cases h2 : (k == 2 && !mayTurn n d) = true
    · rw [prop_no hg h2]
      exact ⟨okNodeZ, h0⟩
    · rw [prop_yes hg (by simpa using h2)]
      simp only [Bool.and_eq_true] at hg
      obtain ⟨⟨⟨hn, hr⟩, he⟩, hrm⟩ := hg
      have hr60 : n.log.entries.length < 60 := by unfold room at hrm; simp at hrm; omega
      have hl : logB n.log := logOk_hs (nodeOk_in hn).1
      have hr2 : n.role = 2 := by simpa using hr
      rw [propS_all hn hl hr2 hr60]
      have hok := okCommit (prop_ok2 (k := k) (d := d) hl h hr60 hd (nodeOk_peers hn hl hr2)).ok
      exact ⟨hok, okSends hok⟩
  · rw [prop_bad (by simpa using hg)]
    exact ⟨okNodeZ, h0⟩
theorem prop_v2 (n : Node) (kind : Int) (data : ByteArray) : (!(nodeOk n) || (n.role != 2) || !(entOk ⟨n.term_, kind, data⟩) || !(room n.log)) = !(nodeOk n && n.role == 2 && entOk ⟨n.term_, kind, data⟩ && room n.log) := by
  cases nodeOk n <;> cases h : (n.role == 2) <;> cases entOk ⟨n.term_, kind, data⟩ <;> cases room n.log <;> simp [bne, h]
end Go.Proofs.Ytbiocicogminlaa.Y
