import Derived.Sort.Walk0
import Derived.Test.YtmhnehgpmndiiaaGreatDoorAt
import Derived.Test.YtmhnehgpmndiiaaGreatDoorEng16
import Derived.Test.YtmhnehgpmndiiaaGreatDoorEng42
import Derived.Test.YtmhnehgpmndiiaaGreatDoorEng42
import Derived.Test.YtmhnehgpmndiiaaGreatDoorEng45
import Derived.Test.YtmhnehgpmndiiaaGreatDoorEng45
import Derived.Laws.Strings
namespace Go.Proofs.YtmhnehgpmndiiaaGreatDoor.Y
open Go Go.RowKit Go.Eng

def szL {α : Type} (f : α → Int → Int) : List α → Int → Int
  | [], l => l
  | x :: r, l => if f x l < 0 then -1 else szL f r (f x l)
def szS {α : Type} (f : α → Int → Int) (a : List α) (left : Int) : Int :=
  if IntKind.i64.wrap (left - a.length) < 0 then -1 else szL f a (IntKind.i64.wrap (left - a.length))
def szI {α : Type} (a : List α) (left : Int) : Int :=
  if IntKind.i64.wrap (left - a.length) < 0 then -1 else IntKind.i64.wrap (left - a.length)
def szStr (s : ByteArray) (left : Int) : Int := IntKind.i64.wrap (left - s.size)
def okSl {α : Type} (ok : α → Prop) (l : List α) : Prop := l.length ≤ 1048576 ∧ ∀ x ∈ l, ok x
def eqI (x y : Int) : Bool := x == y
theorem eqI_refl (x : Int) : eqI x x = true := by simp [eqI]
def eqB (x y : Bool) : Bool := x == y
def eqStr (x y : ByteArray) : Bool := x.toList == y.toList
def eqS {α : Type} (f : α → α → Bool) : List α → List α → Bool
  | [], [] => true
  | x :: r, y :: s => if f x y then eqS f r s else false
  | _, _ => false
theorem eqS_refl {α : Type} {f : α → α → Bool} (h : ∀ x, f x x = true) : ∀ a : List α, eqS f a a = true
  | [] => rfl
  | x :: r => by rw [eqS, h x, if_pos rfl, eqS_refl h r]
theorem eqS_ne {α : Type} {f : α → α → Bool} : ∀ {a b : List α}, a.length ≠ b.length → eqS f a b = false
  | [], [], h => absurd rfl h
  | [], _ :: _, _ => rfl
  | _ :: _, [], _ => rfl
  | x :: r, y :: s, h => by
    simp only [eqS]
    rw [eqS_ne (by simpa using h)]
    simp
theorem take_snoc {α : Type} {l : List α} {i : Nat} {e : α} (h : l[i]? = some e) : l.take (i + 1) = l.take i ++ [e] := by
  obtain ⟨h1, h2⟩ := List.getElem?_eq_some_iff.1 h
  rw [List.take_succ_eq_append_getElem h1, h2]
def SzOk {α : Type} (f : α → Int → Int) (fit ok : α → Prop) : Prop := ∀ x l, fit x → 0 ≤ l → l ≤ 1048576 → 0 ≤ f x l → ok x ∧ f x l ≤ l
theorem wrapSub {n : Nat} {l : Int} (hn : n ≤ maxLen) (h0 : 0 ≤ l) (h1 : l ≤ 1048576) : IntKind.i64.wrap (l - n) = l - n := by
  rw [IntKind.wrap_i64]
  simp only [maxLen] at hn
  omega
def okStr (s : ByteArray) : Prop := s.size ≤ 1048576
theorem szStr_ok : SzOk szStr okS okStr := by
  intro s l hk h0 h1 hs
  unfold szStr at hs ⊢
  rw [wrapSub hk h0 h1] at hs ⊢
  exact ⟨by unfold okStr; omega, by omega⟩
theorem szI_ok {α : Type} {fit : α → Prop} : SzOk (szI : List α → Int → Int) (okL fit) (okSl (fun _ => True)) := by
  intro a l hk h0 h1 hs
  unfold szI at hs ⊢
  rw [wrapSub hk.1 h0 h1] at hs ⊢
  split at hs
  · omega
  · rename_i hc
    rw [if_neg hc]
    exact ⟨⟨by omega, fun _ _ => trivial⟩, by omega⟩
theorem szL_ok {α : Type} {f : α → Int → Int} {fit ok : α → Prop} (h : SzOk f fit ok) : ∀ (a : List α) (l : Int), (∀ x ∈ a, fit x) → 0 ≤ l → l ≤ 1048576 → 0 ≤ szL f a l → (∀ x ∈ a, ok x) ∧ szL f a l ≤ l
  | [], l, _, _, _, _ => ⟨by simp, by simp [szL]⟩
  | x :: r, l, hf, h0, h1, hs => by
    simp only [szL] at hs ⊢
    split at hs
    · omega
    · rename_i hc
      rw [if_neg hc]
      have p := h x l (hf x (by simp)) h0 h1 (by omega)
      have q := szL_ok h r (f x l) (fun y hy => hf y (by simp [hy])) (by omega) (by omega) hs
      refine ⟨fun y hy => ?_, by omega⟩
      rcases List.mem_cons.1 hy with rfl | hy
      · exact p.1
      · exact q.1 y hy
theorem szS_ok {α : Type} {f : α → Int → Int} {fit ok : α → Prop} (h : SzOk f fit ok) : SzOk (szS f) (okL fit) (okSl ok) := by
  intro a l hk h0 h1 hs
  unfold szS at hs ⊢
  rw [wrapSub hk.1 h0 h1] at hs ⊢
  split at hs
  · omega
  · rename_i hc
    rw [if_neg hc]
    have p := szL_ok h a (l - a.length) hk.2 (by omega) (by omega) hs
    exact ⟨⟨by omega, p.1⟩, by omega⟩
theorem wrap_le (x : Int) : IntKind.i64.wrap x ≤ 9223372036854775807 := by
  rw [IntKind.wrap_i64]; omega
def inc (k : Int) : Int := IntKind.i64.wrap (k + 1)
def dgs (n : Nat) (out : ByteArray) : ByteArray :=
  if h : n = 0 then out else dgs (n / 10) (bytesOf [IntKind.u8.wrap (IntKind.i64.wrap (48 + Int.tmod (n : Int) 10))] ++ out)
termination_by n
decreasing_by omega
def mtext (k : Int) : ByteArray := if k ≤ 0 then ⟨#[109, 48]⟩ else ⟨#[109]⟩ ++ dgs k.toNat ⟨#[]⟩
def mkI (_x : Int) (k : Int) : Int × Int := (k, inc k)
def mkB (_x : Bool) (k : Int) : Bool × Int := (Int.tmod k 3 == 0, inc k)
def mkS (_x : ByteArray) (k : Int) : ByteArray × Int := (mtext k, inc k)
def mkL {α : Type} (f : α → Int → α × Int) : List α → Int → List α × Int
  | [], k => ([], k)
  | x :: r, k => ((f x k).1 :: (mkL f r (f x k).2).1, (mkL f r (f x k).2).2)
def hdI (x k : Int) : Option Int := if x == k then some (inc k) else none
def hdB (x : Bool) (k : Int) : Option Int := if x == (Int.tmod k 3 == 0) then some (inc k) else none
def hdS (x : ByteArray) (k : Int) : Option Int := if x.toList == (mtext k).toList then some (inc k) else none
def hdL {α : Type} (f : α → Int → Option Int) : List α → Int → Option Int
  | [], k => some k
  | x :: r, k => match f x k with | none => none | some k' => hdL f r k'
def hdN {α : Type} (f : α → Int → Option Int) (x : α) (k : Int) : Option Int := match f x k with | none => none | some k' => if k' < 0 then none else some k'
def HdLe {α : Type} (f : α → Int → Option Int) : Prop := ∀ (x : α) (k k' : Int), k ≤ 9223372036854775807 → f x k = some k' → k' ≤ 9223372036854775807
theorem hdI_le : HdLe hdI := by
  intro x k k' _ h
  unfold hdI at h
  split at h
  · cases h; exact wrap_le _
  · cases h
theorem hdB_le : HdLe hdB := by
  intro x k k' _ h
  unfold hdB at h
  split at h
  · cases h; exact wrap_le _
  · cases h
theorem hdS_le : HdLe hdS := by
  intro x k k' _ h
  unfold hdS at h
  split at h
  · cases h; exact wrap_le _
  · cases h
theorem hdL_le {α : Type} {f : α → Int → Option Int} (hf : HdLe f) : HdLe (hdL f) := by
  intro l
  induction l with
  | nil => intro k k' h0 h; simp only [hdL] at h; cases h; exact h0
  | cons x r ih =>
    intro k k' h0 h
    simp only [hdL] at h
    cases e : f x k with
    | none => rw [e] at h; cases h
    | some k1 => rw [e] at h; exact ih k1 k' (hf x k k1 h0 e) h
theorem hdN_le {α : Type} {f : α → Int → Option Int} (hf : HdLe f) : HdLe (hdN f) := by
  intro x k k' h0 h
  unfold hdN at h
  cases e : f x k with
  | none => rw [e] at h; cases h
  | some k1 =>
    rw [e] at h
    simp only [] at h
    split at h
    · cases h
    · cases h; exact hf x k _ h0 e
theorem leD {α : Type} {f : α → Int → Option Int} {x : α} {k : Int} (hf : HdLe f) (hk : k ≤ 9223372036854775807) : (f x k).getD (-1) ≤ 9223372036854775807 := by
  cases e : f x k with
  | none => decide
  | some k1 => exact hf x k k1 hk e
theorem hdN_ok {α : Type} {f : α → Int → Option Int} {x : α} {k : Int} (h : 0 ≤ (f x k).getD (-1)) : hdN f x k = some ((f x k).getD (-1)) := by
  unfold hdN
  cases e : f x k with
  | none => rw [e] at h; simp at h
  | some k1 => rw [e] at h; simp at h; simp; omega
theorem hdN_bad {α : Type} {f : α → Int → Option Int} {x : α} {k : Int} (h : (f x k).getD (-1) < 0) : hdN f x k = none := by
  unfold hdN
  cases e : f x k with
  | none => rfl
  | some k1 => rw [e] at h; simp at h; simp; omega
theorem mkI_le (x k : Int) : (mkI x k).2 ≤ 9223372036854775807 := wrap_le _
theorem mkB_le (x : Bool) (k : Int) : (mkB x k).2 ≤ 9223372036854775807 := wrap_le _
theorem mkS_le (x : ByteArray) (k : Int) : (mkS x k).2 ≤ 9223372036854775807 := wrap_le _
theorem mkL_le {α : Type} {f : α → Int → α × Int} (hf : ∀ x k, (f x k).2 ≤ 9223372036854775807) : ∀ (l : List α) (k : Int), k ≤ 9223372036854775807 → (mkL f l k).2 ≤ 9223372036854775807
  | [], _, h => h
  | x :: r, k, _ => mkL_le hf r _ (hf x k)
theorem mkL_cnt {α : Type} {f : α → Int → α × Int} (c : Nat) (hf : ∀ (x : α) (k : Int), 0 ≤ k → k + c ≤ 4611686018427387904 → (f x k).2 = k + c) : ∀ (l : List α) (k : Int), 0 ≤ k → k + (c * l.length : Nat) ≤ 4611686018427387904 → (mkL f l k).2 = k + (c * l.length : Nat)
  | [], k, _, _ => by simp [mkL]
  | x :: r, k, h0, h1 => by
    have e : c * (x :: r).length = c + c * r.length := by simp [Nat.mul_add]; omega
    rw [e] at h1 ⊢
    have h2 := hf x k h0 (by omega)
    simp only [mkL]
    rw [h2, mkL_cnt c hf r (k + c) (by omega) (by omega)]
    omega
theorem hdL_mk {α : Type} {f : α → Int → α × Int} {h : α → Int → Option Int} (hm : ∀ x k, h (f x k).1 k = some (f x k).2) : ∀ (l : List α) (k : Int), hdL h (mkL f l k).1 k = some (mkL f l k).2
  | [], _ => rfl
  | x :: r, k => by simp [mkL, hdL, hm, hdL_mk hm r]
theorem mk_step {α : Type} (f : α → Int → α × Int) {a b b' : List α} {i : Nat} {ei : α} {l k : Int} (e' : α) (l' : Int) (hi : b[i]? = some ei) (hlen : b.length = a.length) (hdr : b.drop i = a.drop i) (hr : (b.take i ++ (mkL f (a.drop i) l).1, (mkL f (a.drop i) l).2) = mkL f a k)
    (hb : b' = b.set i e') (hf : f ei l = (e', l')) (hl : l' ≤ 9223372036854775807) : i + 1 ≤ b'.length ∧ l' ≤ 9223372036854775807 ∧ b'.length = a.length ∧ b'.drop (i + 1) = a.drop (i + 1) ∧ (b'.take (i + 1) ++ (mkL f (a.drop (i + 1)) l').1, (mkL f (a.drop (i + 1)) l').2) = mkL f a k := by
  have hlt : i < b.length := (List.getElem?_eq_some_iff.1 hi).1
  subst hb
  have h1 : b.drop i = ei :: b.drop (i + 1) := drop_get hi
  have h2 : a.drop (i + 1) = b.drop (i + 1) := by
    have := congrArg List.tail hdr
    simpa using this.symm
  refine ⟨by simp; omega, hl, by simp [hlen], ?_, ?_⟩
  · rw [List.drop_set_of_lt (by omega), h2]
  · rw [← hr, ← hdr, h1, h2]
    simp only [mkL, hf]
    have h3 : (b.set i e').take (i + 1) = b.take i ++ [e'] := by
      rw [List.take_succ_eq_append_getElem (by simp; omega)]
      simp [List.take_set_of_le]
    rw [h3]
    simp
theorem mtext_dgs {k : Int} (h : ¬ k ≤ 0) : mtext k = ⟨#[109]⟩ ++ dgs k.toNat ⟨#[]⟩ := by simp [mtext, h]
theorem dgs_step {n : Int} {out : ByteArray} (h : n > 0) : dgs n.toNat out = dgs (Int.tdiv n 10).toNat (bytesOf [IntKind.u8.wrap (IntKind.i64.wrap (48 + Int.tmod n 10))] ++ out) := by
  rw [dgs, dif_neg (by omega)]
  have e : ((n.toNat : Nat) : Int) = n := by omega
  rw [e]
  congr 1
  rw [Int.tdiv_eq_ediv_of_nonneg (by omega)]
  omega
theorem bytesOf_one (x : Int) : (bytesOf [x]).size = 1 := rfl
theorem mt_dec {n : Int} {s : Nat} (h0 : 0 ≤ n) (hp : n * 10 ^ s ≤ 9223372036854775807) (h : decide (n > 0) = true) : (IntKind.i64.wrap (Int.tdiv n 10)).toNat < n.toNat := by
  have hn : n > 0 := by simpa using h
  have hpos : (0 : Int) < 10 ^ s := Int.pow_pos (by omega)
  have : n * 1 ≤ n * 10 ^ s := Int.mul_le_mul_of_nonneg_left (by omega) (by omega)
  rw [IntKind.wrap_i64, Int.tdiv_eq_ediv_of_nonneg h0]
  omega
theorem mt_step {n k : Int} {out : ByteArray} (h0 : 0 ≤ n) (hp : n * 10 ^ out.size ≤ 9223372036854775807) (hr : dgs n.toNat out = dgs k.toNat ⟨#[]⟩) (h : decide (n > 0) = true) :
    0 ≤ IntKind.i64.wrap (Int.tdiv n 10) ∧ (bytesOf [IntKind.u8.wrap (IntKind.i64.wrap (48 + Int.tmod n 10))] ++ out).size ≤ 60 ∧
      IntKind.i64.wrap (Int.tdiv n 10) * 10 ^ (bytesOf [IntKind.u8.wrap (IntKind.i64.wrap (48 + Int.tmod n 10))] ++ out).size ≤ 9223372036854775807 ∧
      dgs (IntKind.i64.wrap (Int.tdiv n 10)).toNat (bytesOf [IntKind.u8.wrap (IntKind.i64.wrap (48 + Int.tmod n 10))] ++ out) = dgs k.toNat ⟨#[]⟩ := by
  have hn : n > 0 := by simpa using h
  have hpos : (0 : Int) < 10 ^ out.size := Int.pow_pos (by omega)
  have hle : (10 : Int) ^ out.size ≤ 9223372036854775807 := by
    have : (10 : Int) ^ out.size * 1 ≤ 10 ^ out.size * n := Int.mul_le_mul_of_nonneg_left (by omega) (by omega)
    rw [Int.mul_comm (10 ^ out.size) n] at this
    omega
  have hs : out.size < 19 := by
    rcases Nat.lt_or_ge out.size 19 with h1 | h1
    · exact h1
    · exfalso
      have h2 : (10 : Nat) ^ 19 ≤ 10 ^ out.size := Nat.pow_le_pow_right (by omega) h1
      have h3 : ((10 ^ out.size : Nat) : Int) ≤ 9223372036854775807 := by simpa using hle
      omega
  have hnM : n ≤ 9223372036854775807 := by
    have : n * 1 ≤ n * 10 ^ out.size := Int.mul_le_mul_of_nonneg_left (by omega) (by omega)
    omega
  have hw : IntKind.i64.wrap (Int.tdiv n 10) = n / 10 := by
    rw [IntKind.wrap_i64, Int.tdiv_eq_ediv_of_nonneg h0]
    omega
  have hsz : (bytesOf [IntKind.u8.wrap (IntKind.i64.wrap (48 + Int.tmod n 10))] ++ out).size = out.size + 1 := by
    rw [ByteArray.size_append, bytesOf_one]
    omega
  rw [hw, hsz]
  refine ⟨by omega, by omega, ?_, ?_⟩
  · rw [Int.pow_succ, Int.mul_comm (10 ^ out.size) 10, ← Int.mul_assoc]
    have : n / 10 * 10 * 10 ^ out.size ≤ n * 10 ^ out.size := Int.mul_le_mul_of_nonneg_right (by omega) (by omega)
    omega
  · rw [← hr, dgs_step hn, Int.tdiv_eq_ediv_of_nonneg h0]
structure Entry where
  term_ : Int
  kind : Int
  data : ByteArray
def Entry.c (e : Entry) : List T := [.v (.int .i64 e.term_), .v (.int .i64 e.kind), .v (.string e.data)]
theorem Entry.len (e : Entry) : e.c.length = 3 := rfl
def Entry.z : Entry := ⟨0, 0, ⟨#[]⟩⟩
def Entry.vs (e : Entry) : List Value := [.int .i64 e.term_, .int .i64 e.kind, .string e.data]
def eqEntry (x y : Entry) : Bool := x.term_ == y.term_ && (x.kind == y.kind && (x.data.toList == y.data.toList))
theorem eqEntry_refl (x : Entry) : eqEntry x x = true := by simp [eqEntry]
def mkEEntry (x : Entry) (k : Int) : Entry × Int := ((⟨(mkI x.term_ k).1, (mkI x.kind (mkI x.term_ k).2).1, (mkS x.data (mkI x.kind (mkI x.term_ k).2).2).1⟩ : Entry), (mkS x.data (mkI x.kind (mkI x.term_ k).2).2).2)
theorem mkEEntry_le (x : Entry) (k : Int) : (mkEEntry x k).2 ≤ 9223372036854775807 := by
  simp only [mkEEntry, mkI, mkB, mkS, inc]; first | exact wrap_le _ | (apply mkL_le)
theorem mkEEntry_cnt (x : Entry) (k : Int) (h0 : 0 ≤ k) (h1 : k + 3 ≤ 4611686018427387904) : (mkEEntry x k).2 = k + 3 := by
  simp only [mkEEntry, mkI, mkB, mkS, inc, IntKind.wrap_i64]; omega
def szEntry (e : Entry) (left : Int) : Int := if IntKind.i64.wrap (left - e.data.size) < 0 then -1 else IntKind.i64.wrap (left - e.data.size)
structure Log where
  start : Int
  startTerm : Int
  entries : List Entry
def Log.c (e : Log) : List T := [.v (.int .i64 e.start), .v (.int .i64 e.startTerm), sl 3 Entry.c e.entries]
theorem Log.len (e : Log) : e.c.length = 3 := rfl
def Log.z : Log := ⟨0, 0, []⟩
def eqLog (x y : Log) : Bool := x.start == y.start && (x.startTerm == y.startTerm && ((eqS eqEntry) x.entries y.entries))
theorem eqLog_refl (x : Log) : eqLog x x = true := by simp [eqLog, eqS_refl eqEntry_refl]
def mkVLog (x : Log) (k : Int) : Log × Int := ((⟨x.start, x.startTerm, ((mkL mkEEntry) x.entries k).1⟩ : Log), ((mkL mkEEntry) x.entries k).2)
theorem mkVLog_le (x : Log) (k : Int) (hk : k ≤ 9223372036854775807) : (mkVLog x k).2 ≤ 9223372036854775807 := by
  simp only [mkVLog]; repeat (first | exact hk | apply mkL_le | apply mkI_le | apply mkS_le | apply mkB_le | apply mkEEntry_le | apply mkEPeer_le | apply mkEFile_le | apply mkESession_le | apply mkEItem_le | apply mkVNode_le | apply mkVDisk_le | apply mkVJournal_le | apply mkVKeep_le | apply mkVServer_le | apply mkVSnap_le)
def szLog (e : Log) (left : Int) : Int := if szS szEntry e.entries (left) < 0 then -1 else szS szEntry e.entries (left)
structure Peer where
  id : Int
  next : Int
  match_ : Int
  sent : Int
def Peer.c (e : Peer) : List T := [.v (.int .i64 e.id), .v (.int .i64 e.next), .v (.int .i64 e.match_), .v (.int .i64 e.sent)]
theorem Peer.len (e : Peer) : e.c.length = 4 := rfl
def Peer.z : Peer := ⟨0, 0, 0, 0⟩
def Peer.vs (e : Peer) : List Value := [.int .i64 e.id, .int .i64 e.next, .int .i64 e.match_, .int .i64 e.sent]
def eqPeer (x y : Peer) : Bool := x.id == y.id && (x.next == y.next && (x.match_ == y.match_ && (x.sent == y.sent)))
theorem eqPeer_refl (x : Peer) : eqPeer x x = true := by simp [eqPeer]
def mkEPeer (x : Peer) (k : Int) : Peer × Int := ((⟨(mkI x.id k).1, (mkI x.next (mkI x.id k).2).1, (mkI x.match_ (mkI x.next (mkI x.id k).2).2).1, (mkI x.sent (mkI x.match_ (mkI x.next (mkI x.id k).2).2).2).1⟩ : Peer), (mkI x.sent (mkI x.match_ (mkI x.next (mkI x.id k).2).2).2).2)
theorem mkEPeer_le (x : Peer) (k : Int) : (mkEPeer x k).2 ≤ 9223372036854775807 := by
  simp only [mkEPeer, mkI, mkB, mkS, inc]; first | exact wrap_le _ | (apply mkL_le)
theorem mkEPeer_cnt (x : Peer) (k : Int) (h0 : 0 ≤ k) (h1 : k + 4 ≤ 4611686018427387904) : (mkEPeer x k).2 = k + 4 := by
  simp only [mkEPeer, mkI, mkB, mkS, inc, IntKind.wrap_i64]; omega
structure Node where
  id : Int
  term_ : Int
  vote : Int
  role : Int
  lead : Int
  conf : List Int
  log : Log
  commit : Int
  clock : Int
  limit : Int
  votes : List Int
  peers : List Peer
def Node.c (e : Node) : List T := [.v (.int .i64 e.id), .v (.int .i64 e.term_), .v (.int .i64 e.vote), .v (.int .i64 e.role), .v (.int .i64 e.lead), sl 1 cI e.conf, .v (.int .i64 e.log.start), .v (.int .i64 e.log.startTerm), sl 3 Entry.c e.log.entries, .v (.int .i64 e.commit), .v (.int .i64 e.clock), .v (.int .i64 e.limit), sl 1 cI e.votes, sl 4 Peer.c e.peers]
theorem Node.len (e : Node) : e.c.length = 14 := rfl
def Node.z : Node := ⟨0, 0, 0, 0, 0, [], Log.z, 0, 0, 0, [], []⟩
def eqNode (x y : Node) : Bool := x.id == y.id && (x.term_ == y.term_ && (x.vote == y.vote && (x.role == y.role && (x.lead == y.lead && ((eqS eqI) x.conf y.conf && (eqLog x.log y.log && (x.commit == y.commit && (x.clock == y.clock && (x.limit == y.limit && ((eqS eqI) x.votes y.votes && ((eqS eqPeer) x.peers y.peers)))))))))))
theorem eqNode_refl (x : Node) : eqNode x x = true := by simp [eqNode, eqS_refl eqI_refl, eqS_refl eqPeer_refl, eqLog_refl]
def mkVNode (x : Node) (k : Int) : Node × Int := ((⟨x.id, x.term_, x.vote, x.role, x.lead, ((mkL mkI) x.conf k).1, (mkVLog x.log ((mkL mkI) x.conf k).2).1, x.commit, x.clock, x.limit, ((mkL mkI) x.votes (mkVLog x.log ((mkL mkI) x.conf k).2).2).1, ((mkL mkEPeer) x.peers ((mkL mkI) x.votes (mkVLog x.log ((mkL mkI) x.conf k).2).2).2).1⟩ : Node), ((mkL mkEPeer) x.peers ((mkL mkI) x.votes (mkVLog x.log ((mkL mkI) x.conf k).2).2).2).2)
theorem mkVNode_le (x : Node) (k : Int) (hk : k ≤ 9223372036854775807) : (mkVNode x k).2 ≤ 9223372036854775807 := by
  simp only [mkVNode]; repeat (first | exact hk | apply mkL_le | apply mkI_le | apply mkS_le | apply mkB_le | apply mkEEntry_le | apply mkEPeer_le | apply mkEFile_le | apply mkESession_le | apply mkEItem_le | apply mkVLog_le | apply mkVDisk_le | apply mkVJournal_le | apply mkVKeep_le | apply mkVServer_le | apply mkVSnap_le)
def szNode (e : Node) (left : Int) : Int := if szI e.conf (left) < 0 then -1 else if szLog e.log ((szI e.conf (left))) < 0 then -1 else if szI e.votes ((szLog e.log ((szI e.conf (left))))) < 0 then -1 else if szI e.peers ((szI e.votes ((szLog e.log ((szI e.conf (left))))))) < 0 then -1 else szI e.peers ((szI e.votes ((szLog e.log ((szI e.conf (left)))))))
structure File where
  name : ByteArray
  text : ByteArray
  kept : Int
def File.c (e : File) : List T := [.v (.string e.name), .v (.string e.text), .v (.int .i64 e.kept)]
theorem File.len (e : File) : e.c.length = 3 := rfl
def File.z : File := ⟨⟨#[]⟩, ⟨#[]⟩, 0⟩
def File.vs (e : File) : List Value := [.string e.name, .string e.text, .int .i64 e.kept]
def eqFile (x y : File) : Bool := x.name.toList == y.name.toList && (x.text.toList == y.text.toList && (x.kept == y.kept))
theorem eqFile_refl (x : File) : eqFile x x = true := by simp [eqFile]
def mkEFile (x : File) (k : Int) : File × Int := ((⟨(mkS x.name k).1, (mkS x.text (mkS x.name k).2).1, (mkI x.kept (mkS x.text (mkS x.name k).2).2).1⟩ : File), (mkI x.kept (mkS x.text (mkS x.name k).2).2).2)
theorem mkEFile_le (x : File) (k : Int) : (mkEFile x k).2 ≤ 9223372036854775807 := by
  simp only [mkEFile, mkI, mkB, mkS, inc]; first | exact wrap_le _ | (apply mkL_le)
theorem mkEFile_cnt (x : File) (k : Int) (h0 : 0 ≤ k) (h1 : k + 3 ≤ 4611686018427387904) : (mkEFile x k).2 = k + 3 := by
  simp only [mkEFile, mkI, mkB, mkS, inc, IntKind.wrap_i64]; omega
def szFile (e : File) (left : Int) : Int := if IntKind.i64.wrap (left - e.name.size) < 0 then -1 else if IntKind.i64.wrap ((IntKind.i64.wrap (left - e.name.size)) - e.text.size) < 0 then -1 else IntKind.i64.wrap ((IntKind.i64.wrap (left - e.name.size)) - e.text.size)
structure Disk where
  files : List File
def Disk.c (e : Disk) : List T := [sl 3 File.c e.files]
theorem Disk.len (e : Disk) : e.c.length = 1 := rfl
def Disk.z : Disk := ⟨[]⟩
def eqDisk (x y : Disk) : Bool := (eqS eqFile) x.files y.files
theorem eqDisk_refl (x : Disk) : eqDisk x x = true := by simp [eqDisk, eqS_refl eqFile_refl]
def mkVDisk (x : Disk) (k : Int) : Disk × Int := ((⟨((mkL mkEFile) x.files k).1⟩ : Disk), ((mkL mkEFile) x.files k).2)
theorem mkVDisk_le (x : Disk) (k : Int) (hk : k ≤ 9223372036854775807) : (mkVDisk x k).2 ≤ 9223372036854775807 := by
  simp only [mkVDisk]; repeat (first | exact hk | apply mkL_le | apply mkI_le | apply mkS_le | apply mkB_le | apply mkEEntry_le | apply mkEPeer_le | apply mkEFile_le | apply mkESession_le | apply mkEItem_le | apply mkVLog_le | apply mkVNode_le | apply mkVJournal_le | apply mkVKeep_le | apply mkVServer_le | apply mkVSnap_le)
def szDisk (e : Disk) (left : Int) : Int := if szS szFile e.files (left) < 0 then -1 else szS szFile e.files (left)
structure Journal where
  number : Int
  term_ : Int
  vote : Int
  log : Log
def Journal.c (e : Journal) : List T := [.v (.int .i64 e.number), .v (.int .i64 e.term_), .v (.int .i64 e.vote), .v (.int .i64 e.log.start), .v (.int .i64 e.log.startTerm), sl 3 Entry.c e.log.entries]
theorem Journal.len (e : Journal) : e.c.length = 6 := rfl
def Journal.z : Journal := ⟨0, 0, 0, Log.z⟩
def eqJournal (x y : Journal) : Bool := x.number == y.number && (x.term_ == y.term_ && (x.vote == y.vote && (eqLog x.log y.log)))
theorem eqJournal_refl (x : Journal) : eqJournal x x = true := by simp [eqJournal, eqLog_refl]
def mkVJournal (x : Journal) (k : Int) : Journal × Int := ((⟨x.number, x.term_, x.vote, (mkVLog x.log k).1⟩ : Journal), (mkVLog x.log k).2)
theorem mkVJournal_le (x : Journal) (k : Int) (hk : k ≤ 9223372036854775807) : (mkVJournal x k).2 ≤ 9223372036854775807 := by
  simp only [mkVJournal]; repeat (first | exact hk | apply mkL_le | apply mkI_le | apply mkS_le | apply mkB_le | apply mkEEntry_le | apply mkEPeer_le | apply mkEFile_le | apply mkESession_le | apply mkEItem_le | apply mkVLog_le | apply mkVNode_le | apply mkVDisk_le | apply mkVKeep_le | apply mkVServer_le | apply mkVSnap_le)
def szJournal (e : Journal) (left : Int) : Int := if szLog e.log (left) < 0 then -1 else szLog e.log (left)
structure Session where
  token : Int
  last : Int
  reply : ByteArray
def Session.c (e : Session) : List T := [.v (.int .i64 e.token), .v (.int .i64 e.last), .v (.string e.reply)]
theorem Session.len (e : Session) : e.c.length = 3 := rfl
def Session.z : Session := ⟨0, 0, ⟨#[]⟩⟩
def Session.vs (e : Session) : List Value := [.int .i64 e.token, .int .i64 e.last, .string e.reply]
def eqSession (x y : Session) : Bool := x.token == y.token && (x.last == y.last && (x.reply.toList == y.reply.toList))
theorem eqSession_refl (x : Session) : eqSession x x = true := by simp [eqSession]
def mkESession (x : Session) (k : Int) : Session × Int := ((⟨(mkI x.token k).1, (mkI x.last (mkI x.token k).2).1, (mkS x.reply (mkI x.last (mkI x.token k).2).2).1⟩ : Session), (mkS x.reply (mkI x.last (mkI x.token k).2).2).2)
theorem mkESession_le (x : Session) (k : Int) : (mkESession x k).2 ≤ 9223372036854775807 := by
  simp only [mkESession, mkI, mkB, mkS, inc]; first | exact wrap_le _ | (apply mkL_le)
theorem mkESession_cnt (x : Session) (k : Int) (h0 : 0 ≤ k) (h1 : k + 3 ≤ 4611686018427387904) : (mkESession x k).2 = k + 3 := by
  simp only [mkESession, mkI, mkB, mkS, inc, IntKind.wrap_i64]; omega
def szSession (e : Session) (left : Int) : Int := if IntKind.i64.wrap (left - e.reply.size) < 0 then -1 else IntKind.i64.wrap (left - e.reply.size)
structure Item where
  key : ByteArray
  val : ByteArray
  ver : Int
def Item.c (e : Item) : List T := [.v (.string e.key), .v (.string e.val), .v (.int .i64 e.ver)]
theorem Item.len (e : Item) : e.c.length = 3 := rfl
def Item.z : Item := ⟨⟨#[]⟩, ⟨#[]⟩, 0⟩
def Item.vs (e : Item) : List Value := [.string e.key, .string e.val, .int .i64 e.ver]
def eqItem (x y : Item) : Bool := x.key.toList == y.key.toList && (x.val.toList == y.val.toList && (x.ver == y.ver))
theorem eqItem_refl (x : Item) : eqItem x x = true := by simp [eqItem]
def mkEItem (x : Item) (k : Int) : Item × Int := ((⟨(mkS x.key k).1, (mkS x.val (mkS x.key k).2).1, (mkI x.ver (mkS x.val (mkS x.key k).2).2).1⟩ : Item), (mkI x.ver (mkS x.val (mkS x.key k).2).2).2)
theorem mkEItem_le (x : Item) (k : Int) : (mkEItem x k).2 ≤ 9223372036854775807 := by
  simp only [mkEItem, mkI, mkB, mkS, inc]; first | exact wrap_le _ | (apply mkL_le)
theorem mkEItem_cnt (x : Item) (k : Int) (h0 : 0 ≤ k) (h1 : k + 3 ≤ 4611686018427387904) : (mkEItem x k).2 = k + 3 := by
  simp only [mkEItem, mkI, mkB, mkS, inc, IntKind.wrap_i64]; omega
def szItem (e : Item) (left : Int) : Int := if IntKind.i64.wrap (left - e.key.size) < 0 then -1 else if IntKind.i64.wrap ((IntKind.i64.wrap (left - e.key.size)) - e.val.size) < 0 then -1 else IntKind.i64.wrap ((IntKind.i64.wrap (left - e.key.size)) - e.val.size)
structure Keep where
  sessions : List Session
  items : List Item
def Keep.c (e : Keep) : List T := [sl 3 Session.c e.sessions, sl 3 Item.c e.items]
theorem Keep.len (e : Keep) : e.c.length = 2 := rfl
def Keep.z : Keep := ⟨[], []⟩
def eqKeep (x y : Keep) : Bool := (eqS eqSession) x.sessions y.sessions && ((eqS eqItem) x.items y.items)
theorem eqKeep_refl (x : Keep) : eqKeep x x = true := by simp [eqKeep, eqS_refl eqItem_refl, eqS_refl eqSession_refl]
def mkVKeep (x : Keep) (k : Int) : Keep × Int := ((⟨((mkL mkESession) x.sessions k).1, ((mkL mkEItem) x.items ((mkL mkESession) x.sessions k).2).1⟩ : Keep), ((mkL mkEItem) x.items ((mkL mkESession) x.sessions k).2).2)
theorem mkVKeep_le (x : Keep) (k : Int) (hk : k ≤ 9223372036854775807) : (mkVKeep x k).2 ≤ 9223372036854775807 := by
  simp only [mkVKeep]; repeat (first | exact hk | apply mkL_le | apply mkI_le | apply mkS_le | apply mkB_le | apply mkEEntry_le | apply mkEPeer_le | apply mkEFile_le | apply mkESession_le | apply mkEItem_le | apply mkVLog_le | apply mkVNode_le | apply mkVDisk_le | apply mkVJournal_le | apply mkVServer_le | apply mkVSnap_le)
def szKeep (e : Keep) (left : Int) : Int := if szS szSession e.sessions (left) < 0 then -1 else if szS szItem e.items ((szS szSession e.sessions (left))) < 0 then -1 else szS szItem e.items ((szS szSession e.sessions (left)))
structure Server where
  node : Node
  disk : Disk
  journal : Journal
  keep : Keep
  applied : Int
  stage : ByteArray
  stageAt : Int
  stageTerm : Int
def Server.c (e : Server) : List T := [.v (.int .i64 e.node.id), .v (.int .i64 e.node.term_), .v (.int .i64 e.node.vote), .v (.int .i64 e.node.role), .v (.int .i64 e.node.lead), sl 1 cI e.node.conf, .v (.int .i64 e.node.log.start), .v (.int .i64 e.node.log.startTerm), sl 3 Entry.c e.node.log.entries, .v (.int .i64 e.node.commit), .v (.int .i64 e.node.clock), .v (.int .i64 e.node.limit), sl 1 cI e.node.votes, sl 4 Peer.c e.node.peers, sl 3 File.c e.disk.files, .v (.int .i64 e.journal.number), .v (.int .i64 e.journal.term_), .v (.int .i64 e.journal.vote), .v (.int .i64 e.journal.log.start), .v (.int .i64 e.journal.log.startTerm), sl 3 Entry.c e.journal.log.entries, sl 3 Session.c e.keep.sessions, sl 3 Item.c e.keep.items, .v (.int .i64 e.applied), .v (.string e.stage), .v (.int .i64 e.stageAt), .v (.int .i64 e.stageTerm)]
theorem Server.len (e : Server) : e.c.length = 27 := rfl
def Server.z : Server := ⟨Node.z, Disk.z, Journal.z, Keep.z, 0, ⟨#[]⟩, 0, 0⟩
def eqServer (x y : Server) : Bool := eqNode x.node y.node && (eqDisk x.disk y.disk && (eqJournal x.journal y.journal && (eqKeep x.keep y.keep && (x.applied == y.applied && (x.stage.toList == y.stage.toList && (x.stageAt == y.stageAt && (x.stageTerm == y.stageTerm)))))))
theorem eqServer_refl (x : Server) : eqServer x x = true := by simp [eqServer, eqDisk_refl, eqJournal_refl, eqKeep_refl, eqNode_refl]
def mkVServer (x : Server) (k : Int) : Server × Int := ((⟨(mkVNode x.node k).1, (mkVDisk x.disk (mkVNode x.node k).2).1, (mkVJournal x.journal (mkVDisk x.disk (mkVNode x.node k).2).2).1, (mkVKeep x.keep (mkVJournal x.journal (mkVDisk x.disk (mkVNode x.node k).2).2).2).1, x.applied, x.stage, x.stageAt, x.stageTerm⟩ : Server), (mkVKeep x.keep (mkVJournal x.journal (mkVDisk x.disk (mkVNode x.node k).2).2).2).2)
theorem mkVServer_le (x : Server) (k : Int) (hk : k ≤ 9223372036854775807) : (mkVServer x k).2 ≤ 9223372036854775807 := by
  simp only [mkVServer]; repeat (first | exact hk | apply mkL_le | apply mkI_le | apply mkS_le | apply mkB_le | apply mkEEntry_le | apply mkEPeer_le | apply mkEFile_le | apply mkESession_le | apply mkEItem_le | apply mkVLog_le | apply mkVNode_le | apply mkVDisk_le | apply mkVJournal_le | apply mkVKeep_le | apply mkVSnap_le)
def szServer (e : Server) (left : Int) : Int := if szNode e.node (left) < 0 then -1 else if szDisk e.disk ((szNode e.node (left))) < 0 then -1 else if szJournal e.journal ((szDisk e.disk ((szNode e.node (left))))) < 0 then -1 else if szKeep e.keep ((szJournal e.journal ((szDisk e.disk ((szNode e.node (left))))))) < 0 then -1 else if IntKind.i64.wrap ((szKeep e.keep ((szJournal e.journal ((szDisk e.disk ((szNode e.node (left)))))))) - e.stage.size) < 0 then -1 else IntKind.i64.wrap ((szKeep e.keep ((szJournal e.journal ((szDisk e.disk ((szNode e.node (left)))))))) - e.stage.size)
structure Snap where
  index : Int
  term_ : Int
  conf : List Int
  body : ByteArray
def Snap.c (e : Snap) : List T := [.v (.int .i64 e.index), .v (.int .i64 e.term_), sl 1 cI e.conf, .v (.string e.body)]
theorem Snap.len (e : Snap) : e.c.length = 4 := rfl
def Snap.z : Snap := ⟨0, 0, [], ⟨#[]⟩⟩
def eqSnap (x y : Snap) : Bool := x.index == y.index && (x.term_ == y.term_ && ((eqS eqI) x.conf y.conf && (x.body.toList == y.body.toList)))
theorem eqSnap_refl (x : Snap) : eqSnap x x = true := by simp [eqSnap, eqS_refl eqI_refl]
def mkVSnap (x : Snap) (k : Int) : Snap × Int := ((⟨x.index, x.term_, ((mkL mkI) x.conf k).1, x.body⟩ : Snap), ((mkL mkI) x.conf k).2)
def hdVSnap (x : Snap) (k0 : Int) : Option Int := match (hdN (hdL hdI)) x.conf k0 with | none => none | some k1 => some k1
theorem hdVSnap_le : HdLe hdVSnap := by
  intro x k k9 h0 h
  unfold hdVSnap at h
  cases e0 : (hdN (hdL hdI)) x.conf k with
  | none => rw [e0] at h; cases h
  | some k1 =>
  rw [e0] at h; simp only [] at h
  have h1 := (hdN_le (hdL_le hdI_le)) _ _ _ h0 e0
  cases h; exact h1
theorem mkVSnap_le (x : Snap) (k : Int) (hk : k ≤ 9223372036854775807) : (mkVSnap x k).2 ≤ 9223372036854775807 := by
  simp only [mkVSnap]; repeat (first | exact hk | apply mkL_le | apply mkI_le | apply mkS_le | apply mkB_le | apply mkEEntry_le | apply mkEPeer_le | apply mkEFile_le | apply mkESession_le | apply mkEItem_le | apply mkVLog_le | apply mkVNode_le | apply mkVDisk_le | apply mkVJournal_le | apply mkVKeep_le | apply mkVServer_le)
structure Act where
  kind : Int
  name : ByteArray
  text : ByteArray
  to : ByteArray
def Act.c (e : Act) : List T := [.v (.int .i64 e.kind), .v (.string e.name), .v (.string e.text), .v (.string e.to)]
theorem Act.len (e : Act) : e.c.length = 4 := rfl
def Act.z : Act := ⟨0, ⟨#[]⟩, ⟨#[]⟩, ⟨#[]⟩⟩
def Act.vs (e : Act) : List Value := [.int .i64 e.kind, .string e.name, .string e.text, .string e.to]
structure Message where
  kind : Int
  from_ : Int
  to : Int
  term_ : Int
  index : Int
  logTerm : Int
  commit : Int
  ok : Bool
  entries : List Entry
  conf : List Int
  data : ByteArray
  last : Bool
def Message.c (e : Message) : List T := [.v (.int .i64 e.kind), .v (.int .i64 e.from_), .v (.int .i64 e.to), .v (.int .i64 e.term_), .v (.int .i64 e.index), .v (.int .i64 e.logTerm), .v (.int .i64 e.commit), .v (.bool e.ok), sl 3 Entry.c e.entries, sl 1 cI e.conf, .v (.string e.data), .v (.bool e.last)]
theorem Message.len (e : Message) : e.c.length = 12 := rfl
def Message.z : Message := ⟨0, 0, 0, 0, 0, 0, 0, false, [], [], ⟨#[]⟩, false⟩
structure Done where
  index : Int
  entry : Entry
  reply : ByteArray
def Done.c (e : Done) : List T := [.v (.int .i64 e.index), .v (.int .i64 e.entry.term_), .v (.int .i64 e.entry.kind), .v (.string e.entry.data), .v (.string e.reply)]
theorem Done.len (e : Done) : e.c.length = 5 := rfl
def Done.z : Done := ⟨0, Entry.z, ⟨#[]⟩⟩
def Done.vs (e : Done) : List Value := [.int .i64 e.index, .int .i64 e.entry.term_, .int .i64 e.entry.kind, .string e.entry.data, .string e.reply]
structure worker where
  s : Server
  acts : List Act
  told : List Message
  done : List Done
def worker.c (e : worker) : List T := [.v (.int .i64 e.s.node.id), .v (.int .i64 e.s.node.term_), .v (.int .i64 e.s.node.vote), .v (.int .i64 e.s.node.role), .v (.int .i64 e.s.node.lead), sl 1 cI e.s.node.conf, .v (.int .i64 e.s.node.log.start), .v (.int .i64 e.s.node.log.startTerm), sl 3 Entry.c e.s.node.log.entries, .v (.int .i64 e.s.node.commit), .v (.int .i64 e.s.node.clock), .v (.int .i64 e.s.node.limit), sl 1 cI e.s.node.votes, sl 4 Peer.c e.s.node.peers, sl 3 File.c e.s.disk.files, .v (.int .i64 e.s.journal.number), .v (.int .i64 e.s.journal.term_), .v (.int .i64 e.s.journal.vote), .v (.int .i64 e.s.journal.log.start), .v (.int .i64 e.s.journal.log.startTerm), sl 3 Entry.c e.s.journal.log.entries, sl 3 Session.c e.s.keep.sessions, sl 3 Item.c e.s.keep.items, .v (.int .i64 e.s.applied), .v (.string e.s.stage), .v (.int .i64 e.s.stageAt), .v (.int .i64 e.s.stageTerm), sl 4 Act.c e.acts, sl 12 Message.c e.told, sl 5 Done.c e.done]
theorem worker.len (e : worker) : e.c.length = 30 := rfl
def worker.z : worker := ⟨Server.z, [], [], []⟩
structure l01Cur where
  b : List Int
  i : Int
  h : Int
def l01Cur.c (e : l01Cur) : List T := [sl 1 cU e.b, .v (.int .i64 e.i), .v (.int .i64 e.h)]
theorem l01Cur.len (e : l01Cur) : e.c.length = 3 := rfl
def l01Cur.z : l01Cur := ⟨[], 0, 0⟩
structure scan where
  text : ByteArray
  at_ : Int
  bad : Bool
def scan.c (e : scan) : List T := [.v (.string e.text), .v (.int .i64 e.at_), .v (.bool e.bad)]
theorem scan.len (e : scan) : e.c.length = 3 := rfl
def scan.z : scan := ⟨⟨#[]⟩, 0, false⟩
def scan.vs (e : scan) : List Value := [.string e.text, .int .i64 e.at_, .bool e.bad]
structure Command where
  op : Int
  token : Int
  seq : Int
  key : ByteArray
  val : ByteArray
  ver : Int
def Command.c (e : Command) : List T := [.v (.int .i64 e.op), .v (.int .i64 e.token), .v (.int .i64 e.seq), .v (.string e.key), .v (.string e.val), .v (.int .i64 e.ver)]
theorem Command.len (e : Command) : e.c.length = 6 := rfl
def Command.z : Command := ⟨0, 0, 0, ⟨#[]⟩, ⟨#[]⟩, 0⟩
def Command.vs (e : Command) : List Value := [.int .i64 e.op, .int .i64 e.token, .int .i64 e.seq, .string e.key, .string e.val, .int .i64 e.ver]
structure l05Cur where
  text : ByteArray
  at_ : Int
  bad : Bool
def l05Cur.c (e : l05Cur) : List T := [.v (.string e.text), .v (.int .i64 e.at_), .v (.bool e.bad)]
theorem l05Cur.len (e : l05Cur) : e.c.length = 3 := rfl
def l05Cur.z : l05Cur := ⟨⟨#[]⟩, 0, false⟩
def l05Cur.vs (e : l05Cur) : List Value := [.string e.text, .int .i64 e.at_, .bool e.bad]
def okToEntry (e : Entry) : Prop := e.data.size ≤ 1048576
def okToLog (e : Log) : Prop := okSl okToEntry e.entries
def okToNode (e : Node) : Prop := okSl (fun _ => True) e.conf ∧ okToLog e.log ∧ okSl (fun _ => True) e.votes ∧ okSl (fun _ => True) e.peers
def okToFile (e : File) : Prop := e.name.size ≤ 1048576 ∧ e.text.size ≤ 1048576
def okToDisk (e : Disk) : Prop := okSl okToFile e.files
def okToJournal (e : Journal) : Prop := okToLog e.log
def okToSession (e : Session) : Prop := e.reply.size ≤ 1048576
def okToItem (e : Item) : Prop := e.key.size ≤ 1048576 ∧ e.val.size ≤ 1048576
def okToKeep (e : Keep) : Prop := okSl okToSession e.sessions ∧ okSl okToItem e.items
def okToServer (e : Server) : Prop := okToNode e.node ∧ okToDisk e.disk ∧ okToJournal e.journal ∧ okToKeep e.keep ∧ e.stage.size ≤ 1048576
def okEntry (e : Entry) : Prop := okI e.term_ ∧ okI e.kind ∧ okS e.data
def okLog (e : Log) : Prop := okI e.start ∧ okI e.startTerm ∧ (okL okEntry) e.entries
def okPeer (e : Peer) : Prop := okI e.id ∧ okI e.next ∧ okI e.match_ ∧ okI e.sent
def okNode (e : Node) : Prop := okI e.id ∧ okI e.term_ ∧ okI e.vote ∧ okI e.role ∧ okI e.lead ∧ (okL okI) e.conf ∧ okLog e.log ∧ okI e.commit ∧ okI e.clock ∧ okI e.limit ∧ (okL okI) e.votes ∧ (okL okPeer) e.peers
def okFile (e : File) : Prop := okS e.name ∧ okS e.text ∧ okI e.kept
def okDisk (e : Disk) : Prop := (okL okFile) e.files
def okJournal (e : Journal) : Prop := okI e.number ∧ okI e.term_ ∧ okI e.vote ∧ okLog e.log
def okSession (e : Session) : Prop := okI e.token ∧ okI e.last ∧ okS e.reply
def okItem (e : Item) : Prop := okS e.key ∧ okS e.val ∧ okI e.ver
def okKeep (e : Keep) : Prop := (okL okSession) e.sessions ∧ (okL okItem) e.items
def okServer (e : Server) : Prop := okNode e.node ∧ okDisk e.disk ∧ okJournal e.journal ∧ okKeep e.keep ∧ okI e.applied ∧ okS e.stage ∧ okI e.stageAt ∧ okI e.stageTerm
theorem szEntry_ok : SzOk szEntry okEntry okToEntry := by
  intro e l hk h0 h1 hs
  unfold szEntry at hs ⊢
  by_cases c0 : IntKind.i64.wrap (l - e.data.size) < 0
  · rw [if_pos c0] at hs; omega
  rw [if_neg c0] at hs ⊢
  have p0 := szStr_ok e.data (l) hk.2.2 (by omega) (by omega) (by show 0 ≤ IntKind.i64.wrap (l - e.data.size); omega)
  have q0 : IntKind.i64.wrap (l - e.data.size) ≤ l := p0.2
  exact ⟨p0.1, by omega⟩
theorem szLog_ok : SzOk szLog okLog okToLog := by
  intro e l hk h0 h1 hs
  unfold szLog at hs ⊢
  by_cases c0 : szS szEntry e.entries (l) < 0
  · rw [if_pos c0] at hs; omega
  rw [if_neg c0] at hs ⊢
  have p0 := (szS_ok szEntry_ok) e.entries (l) hk.2.2 (by omega) (by omega) (by show 0 ≤ szS szEntry e.entries (l); omega)
  have q0 : szS szEntry e.entries (l) ≤ l := p0.2
  exact ⟨p0.1, by omega⟩
theorem szNode_ok : SzOk szNode okNode okToNode := by
  intro e l hk h0 h1 hs
  unfold szNode at hs ⊢
  by_cases c0 : szI e.conf (l) < 0
  · rw [if_pos c0] at hs; omega
  rw [if_neg c0] at hs ⊢
  have p0 := szI_ok e.conf (l) hk.2.2.2.2.2.1 (by omega) (by omega) (by show 0 ≤ szI e.conf (l); omega)
  have q0 : szI e.conf (l) ≤ l := p0.2
  by_cases c1 : szLog e.log ((szI e.conf (l))) < 0
  · rw [if_pos c1] at hs; omega
  rw [if_neg c1] at hs ⊢
  have p1 := szLog_ok e.log ((szI e.conf (l))) hk.2.2.2.2.2.2.1 (by omega) (by omega) (by show 0 ≤ szLog e.log ((szI e.conf (l))); omega)
  have q1 : szLog e.log ((szI e.conf (l))) ≤ (szI e.conf (l)) := p1.2
  by_cases c2 : szI e.votes ((szLog e.log ((szI e.conf (l))))) < 0
  · rw [if_pos c2] at hs; omega
  rw [if_neg c2] at hs ⊢
  have p2 := szI_ok e.votes ((szLog e.log ((szI e.conf (l))))) hk.2.2.2.2.2.2.2.2.2.2.1 (by omega) (by omega) (by show 0 ≤ szI e.votes ((szLog e.log ((szI e.conf (l))))); omega)
  have q2 : szI e.votes ((szLog e.log ((szI e.conf (l))))) ≤ (szLog e.log ((szI e.conf (l)))) := p2.2
  by_cases c3 : szI e.peers ((szI e.votes ((szLog e.log ((szI e.conf (l))))))) < 0
  · rw [if_pos c3] at hs; omega
  rw [if_neg c3] at hs ⊢
  have p3 := szI_ok e.peers ((szI e.votes ((szLog e.log ((szI e.conf (l))))))) hk.2.2.2.2.2.2.2.2.2.2.2 (by omega) (by omega) (by show 0 ≤ szI e.peers ((szI e.votes ((szLog e.log ((szI e.conf (l))))))); omega)
  have q3 : szI e.peers ((szI e.votes ((szLog e.log ((szI e.conf (l))))))) ≤ (szI e.votes ((szLog e.log ((szI e.conf (l)))))) := p3.2
  exact ⟨⟨p0.1, p1.1, p2.1, p3.1⟩, by omega⟩
theorem szFile_ok : SzOk szFile okFile okToFile := by
  intro e l hk h0 h1 hs
  unfold szFile at hs ⊢
  by_cases c0 : IntKind.i64.wrap (l - e.name.size) < 0
  · rw [if_pos c0] at hs; omega
  rw [if_neg c0] at hs ⊢
  have p0 := szStr_ok e.name (l) hk.1 (by omega) (by omega) (by show 0 ≤ IntKind.i64.wrap (l - e.name.size); omega)
  have q0 : IntKind.i64.wrap (l - e.name.size) ≤ l := p0.2
  by_cases c1 : IntKind.i64.wrap ((IntKind.i64.wrap (l - e.name.size)) - e.text.size) < 0
  · rw [if_pos c1] at hs; omega
  rw [if_neg c1] at hs ⊢
  have p1 := szStr_ok e.text ((IntKind.i64.wrap (l - e.name.size))) hk.2.1 (by omega) (by omega) (by show 0 ≤ IntKind.i64.wrap ((IntKind.i64.wrap (l - e.name.size)) - e.text.size); omega)
  have q1 : IntKind.i64.wrap ((IntKind.i64.wrap (l - e.name.size)) - e.text.size) ≤ (IntKind.i64.wrap (l - e.name.size)) := p1.2
  exact ⟨⟨p0.1, p1.1⟩, by omega⟩
theorem szDisk_ok : SzOk szDisk okDisk okToDisk := by
  intro e l hk h0 h1 hs
  unfold szDisk at hs ⊢
  by_cases c0 : szS szFile e.files (l) < 0
  · rw [if_pos c0] at hs; omega
  rw [if_neg c0] at hs ⊢
  have p0 := (szS_ok szFile_ok) e.files (l) hk (by omega) (by omega) (by show 0 ≤ szS szFile e.files (l); omega)
  have q0 : szS szFile e.files (l) ≤ l := p0.2
  exact ⟨p0.1, by omega⟩
theorem szJournal_ok : SzOk szJournal okJournal okToJournal := by
  intro e l hk h0 h1 hs
  unfold szJournal at hs ⊢
  by_cases c0 : szLog e.log (l) < 0
  · rw [if_pos c0] at hs; omega
  rw [if_neg c0] at hs ⊢
  have p0 := szLog_ok e.log (l) hk.2.2.2 (by omega) (by omega) (by show 0 ≤ szLog e.log (l); omega)
  have q0 : szLog e.log (l) ≤ l := p0.2
  exact ⟨p0.1, by omega⟩
theorem szSession_ok : SzOk szSession okSession okToSession := by
  intro e l hk h0 h1 hs
  unfold szSession at hs ⊢
  by_cases c0 : IntKind.i64.wrap (l - e.reply.size) < 0
  · rw [if_pos c0] at hs; omega
  rw [if_neg c0] at hs ⊢
  have p0 := szStr_ok e.reply (l) hk.2.2 (by omega) (by omega) (by show 0 ≤ IntKind.i64.wrap (l - e.reply.size); omega)
  have q0 : IntKind.i64.wrap (l - e.reply.size) ≤ l := p0.2
  exact ⟨p0.1, by omega⟩
theorem szItem_ok : SzOk szItem okItem okToItem := by
  intro e l hk h0 h1 hs
  unfold szItem at hs ⊢
  by_cases c0 : IntKind.i64.wrap (l - e.key.size) < 0
  · rw [if_pos c0] at hs; omega
  rw [if_neg c0] at hs ⊢
  have p0 := szStr_ok e.key (l) hk.1 (by omega) (by omega) (by show 0 ≤ IntKind.i64.wrap (l - e.key.size); omega)
  have q0 : IntKind.i64.wrap (l - e.key.size) ≤ l := p0.2
  by_cases c1 : IntKind.i64.wrap ((IntKind.i64.wrap (l - e.key.size)) - e.val.size) < 0
  · rw [if_pos c1] at hs; omega
  rw [if_neg c1] at hs ⊢
  have p1 := szStr_ok e.val ((IntKind.i64.wrap (l - e.key.size))) hk.2.1 (by omega) (by omega) (by show 0 ≤ IntKind.i64.wrap ((IntKind.i64.wrap (l - e.key.size)) - e.val.size); omega)
  have q1 : IntKind.i64.wrap ((IntKind.i64.wrap (l - e.key.size)) - e.val.size) ≤ (IntKind.i64.wrap (l - e.key.size)) := p1.2
  exact ⟨⟨p0.1, p1.1⟩, by omega⟩
theorem szKeep_ok : SzOk szKeep okKeep okToKeep := by
  intro e l hk h0 h1 hs
  unfold szKeep at hs ⊢
  by_cases c0 : szS szSession e.sessions (l) < 0
  · rw [if_pos c0] at hs; omega
  rw [if_neg c0] at hs ⊢
  have p0 := (szS_ok szSession_ok) e.sessions (l) hk.1 (by omega) (by omega) (by show 0 ≤ szS szSession e.sessions (l); omega)
  have q0 : szS szSession e.sessions (l) ≤ l := p0.2
  by_cases c1 : szS szItem e.items ((szS szSession e.sessions (l))) < 0
  · rw [if_pos c1] at hs; omega
  rw [if_neg c1] at hs ⊢
  have p1 := (szS_ok szItem_ok) e.items ((szS szSession e.sessions (l))) hk.2 (by omega) (by omega) (by show 0 ≤ szS szItem e.items ((szS szSession e.sessions (l))); omega)
  have q1 : szS szItem e.items ((szS szSession e.sessions (l))) ≤ (szS szSession e.sessions (l)) := p1.2
  exact ⟨⟨p0.1, p1.1⟩, by omega⟩
theorem szServer_ok : SzOk szServer okServer okToServer := by
  intro e l hk h0 h1 hs
  unfold szServer at hs ⊢
  by_cases c0 : szNode e.node (l) < 0
  · rw [if_pos c0] at hs; omega
  rw [if_neg c0] at hs ⊢
  have p0 := szNode_ok e.node (l) hk.1 (by omega) (by omega) (by show 0 ≤ szNode e.node (l); omega)
  have q0 : szNode e.node (l) ≤ l := p0.2
  by_cases c1 : szDisk e.disk ((szNode e.node (l))) < 0
  · rw [if_pos c1] at hs; omega
  rw [if_neg c1] at hs ⊢
  have p1 := szDisk_ok e.disk ((szNode e.node (l))) hk.2.1 (by omega) (by omega) (by show 0 ≤ szDisk e.disk ((szNode e.node (l))); omega)
  have q1 : szDisk e.disk ((szNode e.node (l))) ≤ (szNode e.node (l)) := p1.2
  by_cases c2 : szJournal e.journal ((szDisk e.disk ((szNode e.node (l))))) < 0
  · rw [if_pos c2] at hs; omega
  rw [if_neg c2] at hs ⊢
  have p2 := szJournal_ok e.journal ((szDisk e.disk ((szNode e.node (l))))) hk.2.2.1 (by omega) (by omega) (by show 0 ≤ szJournal e.journal ((szDisk e.disk ((szNode e.node (l))))); omega)
  have q2 : szJournal e.journal ((szDisk e.disk ((szNode e.node (l))))) ≤ (szDisk e.disk ((szNode e.node (l)))) := p2.2
  by_cases c3 : szKeep e.keep ((szJournal e.journal ((szDisk e.disk ((szNode e.node (l))))))) < 0
  · rw [if_pos c3] at hs; omega
  rw [if_neg c3] at hs ⊢
  have p3 := szKeep_ok e.keep ((szJournal e.journal ((szDisk e.disk ((szNode e.node (l))))))) hk.2.2.2.1 (by omega) (by omega) (by show 0 ≤ szKeep e.keep ((szJournal e.journal ((szDisk e.disk ((szNode e.node (l))))))); omega)
  have q3 : szKeep e.keep ((szJournal e.journal ((szDisk e.disk ((szNode e.node (l))))))) ≤ (szJournal e.journal ((szDisk e.disk ((szNode e.node (l)))))) := p3.2
  by_cases c4 : IntKind.i64.wrap ((szKeep e.keep ((szJournal e.journal ((szDisk e.disk ((szNode e.node (l)))))))) - e.stage.size) < 0
  · rw [if_pos c4] at hs; omega
  rw [if_neg c4] at hs ⊢
  have p4 := szStr_ok e.stage ((szKeep e.keep ((szJournal e.journal ((szDisk e.disk ((szNode e.node (l))))))))) hk.2.2.2.2.2.1 (by omega) (by omega) (by show 0 ≤ IntKind.i64.wrap ((szKeep e.keep ((szJournal e.journal ((szDisk e.disk ((szNode e.node (l)))))))) - e.stage.size); omega)
  have q4 : IntKind.i64.wrap ((szKeep e.keep ((szJournal e.journal ((szDisk e.disk ((szNode e.node (l)))))))) - e.stage.size) ≤ (szKeep e.keep ((szJournal e.journal ((szDisk e.disk ((szNode e.node (l)))))))) := p4.2
  exact ⟨⟨p0.1, p1.1, p2.1, p3.1, p4.1⟩, by omega⟩
def inR (n x y : Int) : Bool := decide (n ≥ x) && decide (n ≤ y)
def riseOk (lo hi : Int) : Option Int → List Int → Bool
  | _, [] => true
  | p, x :: r => if !(inR x lo hi) || (match p with | none => false | some q => decide (q ≥ x)) then false else riseOk lo hi (some x) r
theorem riseOk_cons (lo hi : Int) (p : Option Int) (x : Int) (r : List Int) : riseOk lo hi p (x :: r) = if !(inR x lo hi) || (match p with | none => false | some q => decide (q ≥ x)) then false else riseOk lo hi (some x) r := by
  cases p <;> rfl
theorem riseOk_nil (lo hi : Int) (p : Option Int) : riseOk lo hi p [] = true := by
  cases p <;> rfl
def prevI (a : List Int) (i : Nat) : Option Int := if i = 0 then none else some (a.getD (i - 1) 0)
theorem prevI_succ {a : List Int} {i : Nat} {e : Int} (h : a[i]? = some e) : prevI a (i + 1) = some e := by
  simp [prevI, List.getD_eq_getElem?_getD, h]
def confOk (a : List Int) : Bool := inR (a.length : Int) 1 4 && riseOk 1 4 none a
theorem riseOk_len : ∀ (a : List Int) (q : Int), riseOk 1 4 (some q) a = true → (a.length : Int) ≤ max 0 (4 - q)
  | [], q, _ => by simp; omega
  | x :: r, q, h => by
    rw [riseOk] at h
    split at h
    · cases h
    · rename_i hc
      have ih := riseOk_len r x h
      simp [inR] at hc
      simp only [List.length_cons]
      omega
theorem confOk_impl (a : List Int) : (decide ((a.length : Int) > 0) && riseOk 1 4 none a) = confOk a := by
  unfold confOk inR
  cases a with
  | nil => simp
  | cons x r =>
    cases hr : riseOk 1 4 none (x :: r) with
    | false => simp
    | true =>
      rw [riseOk] at hr
      split at hr
      · cases hr
      · rename_i hc
        have ih := riseOk_len r x hr
        simp [inR] at hc
        simp
        omega
theorem ba_ext {x y : ByteArray} (h : x.toList = y.toList) : x = y := by
  rw [ByteArray.toList_eq, ByteArray.toList_eq] at h
  exact ByteArray.ext (Array.ext' h)
theorem findIdx_at {α : Type} {p : α → Bool} : ∀ {a : List α} {i : Nat} {e : α}, (a.take i).any p = false → a[i]? = some e → p e = true → a.findIdx? p = some i
  | [], i, e, _, h, _ => by simp at h
  | x :: r, 0, e, _, h, hp => by
    simp at h
    subst h
    simp [List.findIdx?_cons, hp]
  | x :: r, i + 1, e, ha, h, hp => by
    simp only [List.take_succ_cons, List.any_cons, Bool.or_eq_false_iff] at ha
    have := findIdx_at (a := r) ha.2 (by simpa using h) hp
    simp [List.findIdx?_cons, ha.1, this]
def bys (s : ByteArray) (n : Nat) : List Int := (List.range n).map fun i => IntKind.i64.wrap (bat s i)
theorem bys_succ (s : ByteArray) (n : Nat) : bys s (n + 1) = bys s n ++ [IntKind.i64.wrap (bat s n)] := by simp [bys, List.range_succ]
theorem bys_len (s : ByteArray) (n : Nat) : (bys s n).length = n := by simp [bys]
def readConf (s : ByteArray) : List Int × Bool := if confOk (bys s s.size) then (bys s s.size, true) else ([], false)
theorem confOk_len {a : List Int} (h : confOk a = true) : a.length ≤ 4 := by
  simp [confOk, inR] at h
  omega
theorem rc_no {s : ByteArray} {i : Nat} (hi : i = s.size ∨ (5 ≤ i ∧ i ≤ s.size)) (h : (!(((bys s i).length : Int) == (s.size : Int)) || !confOk (bys s i)) = true) : readConf s = ([], false) := by
  unfold readConf
  split
  · rename_i hc
    exfalso
    rcases hi with rfl | ⟨h1, h2⟩
    · simp [bys_len, hc] at h
    · have := confOk_len hc
      rw [bys_len] at this
      omega
  · rfl
theorem rc_yes {s : ByteArray} {i : Nat} (h : (!(((bys s i).length : Int) == (s.size : Int)) || !confOk (bys s i)) = false) : readConf s = (bys s i, true) := by
  simp [bys_len] at h
  obtain ⟨h1, h2⟩ := h
  have : i = s.size := by omega
  subst this
  simp [readConf, h2]
theorem rc_exit {s : ByteArray} {i : Nat} {v : Bool} (h5 : i ≤ 5) (hs : i ≤ s.size) (hv : v = (decide ((i : Int) < (s.size : Int)) && decide ((i : Int) ≤ 4))) (hn : v = false) : i = s.size ∨ (5 ≤ i ∧ i ≤ s.size) := by
  rw [hv] at hn
  simp at hn
  omega
def entOk (e : Entry) : Bool := inR e.term_ 0 100000 && (if e.kind == 1 then e.data.toList == (⟨#[]⟩ : ByteArray).toList else if e.kind == 2 then (readConf e.data).2 else (e.kind == 3 && decide ((e.data.size : Int) ≤ 120)))
theorem nT {b : Bool} (h : (!b) = true) : b = false := by simpa using h
theorem nF {b : Bool} (h : (!b) = false) : b = true := by simpa using h
theorem toL_app (a b : ByteArray) : (a ++ b).toList = a.toList ++ b.toList := by
  rw [ByteArray.toList_eq, ByteArray.toList_eq, ByteArray.toList_eq, ByteArray.data_append, Array.toList_append]
theorem toL_len (s : ByteArray) : s.toList.length = s.size := by rw [ByteArray.toList_eq]; rfl
theorem toL_get {s : ByteArray} {i : Nat} (h : i < s.size) : s.toList[i]? = some s[i] := by
  rw [ByteArray.toList_eq]
  have : s.data.toList[i]? = some s.data[i] := by rw [Array.getElem?_toList]; exact Array.getElem?_eq_getElem h
  exact this
theorem wrap_small {x : Int} (h0 : -9223372036854775808 ≤ x) (h1 : x ≤ 9223372036854775807) : IntKind.i64.wrap x = x := by rw [IntKind.wrap_i64]; omega
def confText (a : List Int) : ByteArray × Bool := if confOk a then (bytesOf (a.map fun x => IntKind.u8.wrap x), true) else (⟨#[]⟩, false)
-- CODEC
theorem dgs_dec (u : Nat) (out : ByteArray) (h : 0 < u) : dgs u out = ⟨(Lib.decDigits u).toArray⟩ ++ out := by
  induction u using Nat.strongRecOn generalizing out with
  | _ u ih =>
    have hb : bytesOf [IntKind.u8.wrap (IntKind.i64.wrap (48 + Int.tmod (u : Int) 10))] = ⟨#[UInt8.ofNat (48 + u % 10)]⟩ := by
      rw [Int.tmod_eq_emod_of_nonneg (by omega), show IntKind.i64.wrap (48 + (u : Int) % 10) = ((48 + u % 10 : Nat) : Int) from by rw [IntKind.wrap_i64]; omega]
      have : u % 10 < 10 := Nat.mod_lt _ (by omega)
      generalize u % 10 = d at *
      have : d = 0 ∨ d = 1 ∨ d = 2 ∨ d = 3 ∨ d = 4 ∨ d = 5 ∨ d = 6 ∨ d = 7 ∨ d = 8 ∨ d = 9 := by omega
      rcases this with rfl | rfl | rfl | rfl | rfl | rfl | rfl | rfl | rfl | rfl <;> rfl
    rw [dgs, dif_neg (by omega), hb]
    by_cases h10 : u < 10
    · rw [show u / 10 = 0 by omega, dgs, dif_pos rfl, Lib.decDigits, dif_pos h10, show u % 10 = u by omega]
    · rw [ih (u / 10) (by omega) _ (by omega), Lib.decDigits.eq_def u, dif_neg h10, ← ByteArray.append_assoc]
      rfl
theorem itoa_pos {n : Int} (h : 0 < n) : itoaB n = dgs n.toNat ⟨#[]⟩ := by
  rw [dgs_dec _ _ (by omega), itoaB, Lib.itoa, if_neg (by omega)]
  exact ByteArray.append_empty.symm
theorem itoa_zero : itoaB 0 = ⟨#[48]⟩ := by
  rw [itoaB, Lib.itoa, if_neg (by omega), Lib.decDigits_one (by decide)]; rfl
theorem nd_le : ∀ (k u : Nat), 0 < k → u < 10 ^ k → Lib.nDigits u ≤ k
  | 0, _, h, _ => by omega
  | k + 1, u, _, h => by
    by_cases h10 : u < 10
    · rw [Lib.nDigits_small h10]; omega
    · rw [Lib.nDigits_big h10]
      have hk : 0 < k := by
        rcases Nat.eq_zero_or_pos k with rfl | hk
        · simp at h; omega
        · exact hk
      have := nd_le k (u / 10) hk (by rw [Nat.pow_succ] at h; omega)
      omega
theorem itoa_len {n : Int} (h0 : 0 ≤ n) (h1 : n ≤ 1000000000) : (itoaB n).size ≤ 10 := by
  have : (itoaB n).size = (Lib.decDigits n.toNat).length := by
    rw [itoaB, Lib.itoa, if_neg (by omega)]; rfl
  rw [this, Lib.decDigits_length]
  exact nd_le 10 _ (by omega) (by omega)
theorem okI_of {n : Int} (h0 : -9223372036854775808 ≤ n) (h1 : n ≤ 9223372036854775807) : okI n := by
  simp [okI, Lit.wf]
  exact ⟨h0, h1⟩
def emp (s : ByteArray) : Bool := s.toList == (⟨#[]⟩ : ByteArray).toList
def sessOk (s : Session) : Bool := inR s.token 1 1000000 && inR s.last 0 1000000 && decide ((s.reply.size : Int) ≤ 40) && !(s.last == 0 && !emp s.reply)
def prevGe (p : Option Int) (x : Int) : Bool := match p with | none => false | some q => decide (q ≥ x)
def sessF : Option Int → List Session → Bool
  | _, [] => true
  | p, s :: r => if !sessOk s || prevGe p s.token then false else sessF (some s.token) r
def itemOk (x : Item) : Bool := inR (x.key.size : Int) 1 8 && decide ((x.val.size : Int) ≤ 20) && inR x.ver 1 1000000000
def prevS (p : Option ByteArray) (x : ByteArray) : Bool := match p with | none => false | some q => !(Op.bytesLess q.toList x.toList)
def itemF : Option ByteArray → List Item → Bool
  | _, [] => true
  | p, x :: r => if !itemOk x || prevS p x.key then false else itemF (some x.key) r
def prevO {α β : Type} (f : α → β) (z : α) (a : List α) (i : Nat) : Option β := if i = 0 then none else some (f (a.getD (i - 1) z))
theorem prevO_succ {α β : Type} {f : α → β} {z : α} {a : List α} {i : Nat} {e : α} (h : a[i]? = some e) : prevO f z a (i + 1) = some (f e) := by
  simp [prevO, List.getD_eq_getElem?_getD, h]
structure ItIn (x : Item) : Prop where
  k1 : 1 ≤ x.key.size
  k8 : x.key.size ≤ 8
  v : x.val.size ≤ 20
  n1 : 1 ≤ x.ver
  n9 : x.ver ≤ 1000000000
theorem ItIn.len {x : Item} (h : ItIn x) : (itoaB x.ver).size ≤ 10 := itoa_len (by have := h.n1; omega) h.n9
theorem bl_trans {a b c : List UInt8} (h1 : Op.bytesLess a b = true) (h2 : Op.bytesLess b c = true) : Op.bytesLess a c = true := by
  rw [Go.Proofs.bytesLess_eq] at *; simp at *; exact List.lt_trans h1 h2
def sLt (a b : ByteArray) : Bool := Op.bytesLess a.toList b.toList
def sGt (a b : ByteArray) : Bool := !(Op.bytesLess a.toList b.toList || a.toList == b.toList)
theorem sLt_trans {a b c : ByteArray} (h1 : sLt a b = true) (h2 : sLt b c = true) : sLt a c = true := bl_trans h1 h2
def Up (p : Option ByteArray) : List Item → Prop
  | [] => True
  | x :: r => (∀ q, p = some q → sLt q x.key = true) ∧ Up (some x.key) r
theorem Up.of : ∀ {l : List Item} {p : Option ByteArray}, itemF p l = true → Up p l
  | [], _, _ => trivial
  | x :: r, p, h => by
    rw [itemF] at h
    split at h
    · cases h
    · rename_i hc
      refine ⟨fun q hq => ?_, Up.of h⟩
      subst hq
      simp [prevS] at hc
      exact hc.2
theorem Up.all : ∀ {l : List Item} {q : ByteArray}, Up (some q) l → ∀ x ∈ l, sLt q x.key = true
  | [], _, _, x, hx => by cases hx
  | y :: r, q, h, x, hx => by
    rcases List.mem_cons.1 hx with rfl | hx
    · exact h.1 q rfl
    · exact sLt_trans (h.1 q rfl) (Up.all h.2 x hx)
def insL (it : Item) : List Item → List Item
  | [] => [it]
  | x :: r => if sGt x.key it.key then it :: x :: r else x :: insL it r
def UpS (p : Option Int) : List Session → Prop
  | [] => True
  | x :: r => (∀ q, p = some q → q < x.token) ∧ UpS (some x.token) r
theorem UpS.of : ∀ {l : List Session} {p : Option Int}, sessF p l = true → UpS p l
  | [], _, _ => trivial
  | x :: r, p, h => by
    rw [sessF] at h
    split at h
    · cases h
    · rename_i hc
      refine ⟨fun q hq => ?_, UpS.of h⟩
      subst hq
      simp [prevGe] at hc
      omega
theorem UpS.all : ∀ {l : List Session} {q : Int}, UpS (some q) l → ∀ x ∈ l, q < x.token
  | [], _, _, x, hx => by cases hx
  | y :: r, q, h, x, hx => by
    rcases List.mem_cons.1 hx with rfl | hx
    · exact h.1 q rfl
    · have := h.1 q rfl
      have := UpS.all h.2 x hx
      omega
def newS (n : Int) : Session := ⟨n, 0, ⟨#[]⟩⟩
def openL (n : Int) : List Session → List Session
  | [] => [newS n]
  | x :: r => if decide (x.token ≥ n) then newS n :: (x :: r).filter (fun y => !(y.token == n)) else x :: openL n r
structure PutP (it : Item) (L : List Item) (i : Nat) (rest : List Item) (p : Bool) : Prop where
  le : i ≤ L.length
  len : rest.length ≤ i + if p then 1 else 0
  eq : rest ++ (if p then L.drop i else insL it (L.drop i)) = insL it L
theorem PutP.init (it : Item) (L : List Item) : PutP it L 0 [] false := ⟨by omega, by simp, by simp⟩
structure OpenP (n : Int) (L : List Session) (i : Nat) (rest : List Session) (p : Bool) : Prop where
  le : i ≤ L.length
  len : rest.length ≤ i + if p then 1 else 0
  eq : rest ++ (if p then (L.drop i).filter (fun y => !(y.token == n)) else openL n (L.drop i)) = openL n L
theorem OpenP.init (n : Int) (L : List Session) : OpenP n L 0 [] false := ⟨by omega, by simp, by simp⟩
theorem UpS.lt : ∀ {l : List Session} {p : Option Int}, UpS p l → ∀ {m i : Nat} {s e : Session}, m < i → l[m]? = some s → l[i]? = some e → s.token < e.token
  | [], _, _, m, i, s, e, _, h, _ => by simp at h
  | y :: r, p, hu, 0, i + 1, s, e, _, h1, h2 => by
    simp at h1 h2
    subst h1
    exact UpS.all hu.2 e (List.mem_of_getElem? h2)
  | y :: r, p, hu, m + 1, i + 1, s, e, hlt, h1, h2 => by
    simp at h1 h2
    exact UpS.lt hu.2 (by omega) h1 h2
def val : List UInt8 → Nat
  | [] => 0
  | c :: r => c.toNat % 128 + 128 * val r
theorem val_snoc : ∀ (l : List UInt8) (c : UInt8), val (l ++ [c]) = val l + 128 ^ l.length * (c.toNat % 128)
  | [], c => by simp [val]
  | b :: l, c => by
    rw [List.cons_append, val, val_snoc l c, val, List.length_cons, Nat.pow_succ, Nat.mul_add]
    rw [Nat.mul_comm (128 ^ l.length) 128, Nat.mul_assoc]
    omega
theorem val_lt : ∀ l : List UInt8, val l < 128 ^ l.length
  | [] => by simp [val]
  | c :: l => by
    have := val_lt l
    rw [val, List.length_cons, Nat.pow_succ]
    omega
def varL (n : Nat) : List UInt8 := if h : n > 127 then UInt8.ofNat (n % 128 + 128) :: varL (n / 128) else [UInt8.ofNat n]
termination_by n
decreasing_by omega
def varB (n : Nat) : ByteArray := ⟨(varL n).toArray⟩
theorem varL_big {n : Nat} (h : n > 127) : varL n = UInt8.ofNat (n % 128 + 128) :: varL (n / 128) := by rw [varL, dif_pos h]
theorem varL_small {n : Nat} (h : ¬ n > 127) : varL n = [UInt8.ofNat n] := by rw [varL, dif_neg h]
theorem u8_of {n : Nat} (h : n < 256) : (UInt8.ofNat n).toNat = n := by simp; omega
theorem ofNat_toNat (c : UInt8) : UInt8.ofNat c.toNat = c := by simp
theorem varL_len : ∀ (k n : Nat), 0 < k → n < 128 ^ k → (varL n).length ≤ k
  | 0, n, h, _ => by omega
  | k + 1, n, _, h => by
    by_cases hn : n > 127
    · rw [varL_big hn, List.length_cons]
      have hk : 0 < k := by
        rcases Nat.eq_zero_or_pos k with rfl | hk
        · simp at h; omega
        · exact hk
      have := varL_len k (n / 128) hk (by rw [Nat.pow_succ] at h; omega)
      omega
    · rw [varL_small hn]; simp
theorem varL_form : ∀ n : Nat, ∃ pre c, varL n = pre ++ [c] ∧ pre.any (fun c => decide (c.toNat ≤ 127)) = false ∧ c.toNat ≤ 127 ∧ (pre ≠ [] → c.toNat ≠ 0) ∧ val (pre ++ [c]) = n := by
  intro n
  induction n using Nat.strongRecOn with
  | _ n ih =>
    by_cases hn : n > 127
    · obtain ⟨pre, c, h1, h2, h3, h4, h5⟩ := ih (n / 128) (by omega)
      have hb : (UInt8.ofNat (n % 128 + 128)).toNat = n % 128 + 128 := u8_of (by omega)
      refine ⟨UInt8.ofNat (n % 128 + 128) :: pre, c, by rw [varL_big hn, h1]; rfl, ?_, h3, fun _ => ?_, ?_⟩
      · rw [List.any_cons, h2, hb]
        simp
      · cases pre with
        | nil => intro h0; simp [val, h0] at h5; omega
        | cons x y => exact h4 (by simp)
      · rw [List.cons_append, val, h5, hb]; omega
    · refine ⟨[], UInt8.ofNat n, by rw [varL_small hn]; rfl, rfl, by rw [u8_of (by omega)]; omega, by simp, ?_⟩
      simp only [List.nil_append, val]
      rw [u8_of (by omega)]; omega
theorem varL_val : ∀ (pre : List UInt8) (c : UInt8), pre.any (fun c => decide (c.toNat ≤ 127)) = false → c.toNat ≤ 127 → (pre ≠ [] → c.toNat ≠ 0) → varL (val (pre ++ [c])) = pre ++ [c]
  | [], c, _, hc, _ => by
    simp only [List.nil_append, val]
    have : c.toNat % 128 + 128 * 0 = c.toNat := by omega
    rw [this, varL_small (by omega), ofNat_toNat]
  | b :: pre, c, hp, hc, h0 => by
    rw [List.any_cons, Bool.or_eq_false_iff] at hp
    have hb : ¬ b.toNat ≤ 127 := by simpa using hp.1
    have hb2 := b.toNat_lt
    have h1 : c.toNat ≠ 0 := h0 (by simp)
    have ih := varL_val pre c hp.2 hc (fun _ => h1)
    have hpos : 0 < val (pre ++ [c]) := by
      rw [val_snoc]
      have : 0 < 128 ^ pre.length := Nat.pow_pos (by omega)
      have : 128 ^ pre.length * 1 ≤ 128 ^ pre.length * (c.toNat % 128) := Nat.mul_le_mul_left _ (by omega)
      omega
    rw [List.cons_append, val, varL_big (by omega)]
    have e1 : (b.toNat % 128 + 128 * val (pre ++ [c])) % 128 + 128 = b.toNat := by omega
    have e2 : (b.toNat % 128 + 128 * val (pre ++ [c])) / 128 = val (pre ++ [c]) := by omega
    rw [e1, e2, ih, ofNat_toNat]
theorem varL_not {pre : List UInt8} {c : UInt8} (hn : pre ≠ []) (hc : c.toNat = 0) : varL (val (pre ++ [c])) ≠ pre ++ [c] := by
  intro h
  obtain ⟨p, d, h1, _, _, h4, _⟩ := varL_form (val (pre ++ [c]))
  rw [h] at h1
  obtain ⟨rfl, h5⟩ := List.append_inj' h1 rfl
  simp at h5
  subst h5
  exact h4 hn hc
def rdv (l : List UInt8) : Option (Nat × Nat) :=
  match l.findIdx? (fun c => decide (c.toNat ≤ 127)) with
  | none => none
  | some k => if k < 5 then (if (k ≠ 0 ∧ (l.getD k 0).toNat = 0) then none else some (val (l.take (k + 1)), k + 1)) else none
def rdVar (t : ByteArray) (a : Int) : Int × Int × Bool :=
  if inR a 0 t.size then
    match rdv (t.toList.drop a.toNat) with
    | none => (0, 0, false)
    | some p => if (p.1 : Int) ≤ 1000000000 then ((p.1 : Int), a + (p.2 : Int), true) else (0, 0, false)
  else (0, 0, false)
structure RvP (t : ByteArray) (a : Int) (j : Nat) (n : Int) : Prop where
  a0 : 0 ≤ a ∧ a ≤ t.size
  sz : t.size ≤ 4611686018427387904
  j5 : j ≤ 5
  jl : a.toNat + j ≤ t.size
  hi : ((t.toList.drop a.toNat).take j).any (fun c => decide (c.toNat ≤ 127)) = false
  eq : n = (val ((t.toList.drop a.toNat).take j) : Nat)
theorem rdVar_out {t : ByteArray} {a : Int} (h : inR a 0 t.size = false) : rdVar t a = (0, 0, false) := by rw [rdVar, if_neg (by rw [h]; simp)]
theorem RvP.init {t : ByteArray} {a : Int} (h : inR a 0 t.size = true) (hs : t.size ≤ 4611686018427387904) : RvP t a 0 0 := by
  simp [inR] at h
  exact ⟨by omega, by omega, by omega, by omega, by simp, by simp [val]⟩
theorem RvP.inR {t : ByteArray} {a n : Int} {j : Nat} (h : RvP t a j n) : inR a 0 t.size = true := by
  have := h.a0
  simp [Y.inR]; omega
theorem RvP.end_ {t : ByteArray} {a n : Int} {j : Nat} (h : RvP t a j n) (hj : 5 ≤ j ∨ t.size ≤ a.toNat + j) : rdVar t a = (0, 0, false) := by
  rw [rdVar, if_pos h.inR]
  have : rdv (t.toList.drop a.toNat) = none := by
    rw [rdv]
    cases e : (t.toList.drop a.toNat).findIdx? (fun c => decide (c.toNat ≤ 127)) with
    | none => rfl
    | some k =>
      obtain ⟨hk, hp, _⟩ := List.findIdx?_eq_some_iff_getElem.1 e
      have hkj : j ≤ k := by
        rcases Nat.lt_or_ge k j with h1 | h1
        · have h2 := List.any_eq_false.1 h.hi ((t.toList.drop a.toNat)[k]) (by
            rw [List.mem_take_iff_getElem]
            exact ⟨k, by omega, rfl⟩)
          exact absurd hp h2
        · exact h1
      simp only []
      rw [if_neg]
      rcases hj with hj | hj
      · omega
      · rw [List.length_drop, toL_len] at hk; omega
  rw [this]
theorem bat_at {t : ByteArray} {m : Nat} (h : m < t.size) : bat t m = ((t.toList.getD m 0).toNat : Int) ∧ t.toList[m]? = some (t.toList.getD m 0) := by
  have e : t[m]? = some t[m] := getElem?_pos t m h
  have e2 := toL_get h
  have e3 : t.toList.getD m 0 = t[m] := by rw [List.getD_eq_getElem?_getD, e2]; rfl
  rw [e3]
  exact ⟨by rw [bat, e], e2⟩
structure RvB (t : ByteArray) (a : Int) (j : Nat) (c : UInt8) : Prop where
  at_ : (t.toList.drop a.toNat)[j]? = some c
  bt : bat t (a.toNat + j) = (c.toNat : Int)
  wb : IntKind.i64.wrap (bat t (a.toNat + j)) = (c.toNat : Int)
  lt : c.toNat < 256
theorem RvP.byte {t : ByteArray} {a n : Int} {j : Nat} (_h : RvP t a j n) (hlt : a.toNat + j < t.size) : ∃ c, RvB t a j c := by
  obtain ⟨h1, h2⟩ := bat_at hlt
  have h3 := (t.toList.getD (a.toNat + j) 0).toNat_lt
  refine ⟨t.toList.getD (a.toNat + j) 0, by rw [List.getElem?_drop]; exact h2, h1, ?_, h3⟩
  rw [h1]; exact wrap_small (by omega) (by omega)
theorem RvB.take {t : ByteArray} {a : Int} {j : Nat} {c : UInt8} (h : RvB t a j c) : (t.toList.drop a.toNat).take (j + 1) = (t.toList.drop a.toNat).take j ++ [c] := take_snoc h.at_
theorem RvP.len {t : ByteArray} {a n : Int} {j : Nat} (h : RvP t a j n) : ((t.toList.drop a.toNat).take j).length = j := by
  have := h.jl; have := h.a0
  rw [List.length_take, List.length_drop, toL_len]; omega
theorem RvP.next {t : ByteArray} {a n : Int} {j : Nat} {c : UInt8} {m : Int} (h : RvP t a j n) (hb : RvB t a j c) (h5 : j < 5) (hlt : a.toNat + j < t.size) (hc : (c.toNat : Int) > 127) (hm : m = (val ((t.toList.drop a.toNat).take (j + 1)) : Nat)) : RvP t a (j + 1) m := by
  refine ⟨h.a0, h.sz, by omega, by omega, ?_, hm⟩
  rw [hb.take, List.any_append, h.hi]
  simp; omega
theorem pow128 {j : Nat} (h : j ≤ 5) : 128 ^ j ≤ 34359738368 := by
  have : j = 0 ∨ j = 1 ∨ j = 2 ∨ j = 3 ∨ j = 4 ∨ j = 5 := by omega
  rcases this with rfl | rfl | rfl | rfl | rfl | rfl <;> decide
theorem RvP.n_lt {t : ByteArray} {a n : Int} {j : Nat} (h : RvP t a j n) : 0 ≤ n ∧ n < 34359738368 := by
  have h1 := val_lt ((t.toList.drop a.toNat).take j)
  rw [h.len] at h1
  have h2 := pow128 h.j5
  rw [h.eq]; omega
theorem RvP.more {t : ByteArray} {a n : Int} {j : Nat} {c : UInt8} (h : RvP t a j n) (hb : RvB t a j c) (h5 : j < 5) : ((val ((t.toList.drop a.toNat).take (j + 1)) : Nat) : Int) = n + ((128 ^ j : Nat) : Int) * ((c.toNat % 128 : Nat) : Int) ∧ n + ((128 ^ j : Nat) : Int) * ((c.toNat % 128 : Nat) : Int) < 34359738368 := by
  have e : (val ((t.toList.drop a.toNat).take (j + 1)) : Nat) = val ((t.toList.drop a.toNat).take j) + 128 ^ j * (c.toNat % 128) := by
    rw [hb.take, val_snoc, h.len]
  have h1 := val_lt ((t.toList.drop a.toNat).take (j + 1))
  have h2 : ((t.toList.drop a.toNat).take (j + 1)).length = j + 1 := by rw [hb.take, List.length_append, h.len]; rfl
  rw [h2] at h1
  have h3 := pow128 (j := j + 1) (by omega)
  rw [h.eq]
  have e2 : ((val ((t.toList.drop a.toNat).take (j + 1)) : Nat) : Int) = (val ((t.toList.drop a.toNat).take j) : Nat) + ((128 ^ j : Nat) : Int) * ((c.toNat % 128 : Nat) : Int) := by
    rw [e, Int.natCast_add, Int.natCast_mul]
  exact ⟨e2, by rw [← e2]; omega⟩
theorem tmod128 {n : Nat} : Int.tmod (n : Int) 128 = ((n % 128 : Nat) : Int) := by
  rw [Int.tmod_eq_emod_of_nonneg (by omega)]; omega
theorem RvP.nI {t : ByteArray} {a n : Int} {j : Nat} {c : UInt8} (h : RvP t a j n) (hb : RvB t a j c) (h5 : j < 5) :
    IntKind.i64.wrap (n + shlI (Int.tmod (IntKind.i64.wrap (bat t (a.toNat + j))) 128) (IntKind.i64.wrap (7 * (j : Int)))) = (val ((t.toList.drop a.toNat).take (j + 1)) : Nat) := by
  obtain ⟨h1, h2⟩ := h.more hb h5
  have h3 := h.n_lt
  rw [hb.wb, tmod128, shlI, wrap_small (x := 7 * (j : Int)) (by omega) (by omega)]
  have e : min (7 * (j : Int)).toNat 64 = 7 * j := by omega
  have e2 : ((c.toNat % 128 : Nat) : Int) * 2 ^ (7 * j) = ((128 ^ j : Nat) : Int) * ((c.toNat % 128 : Nat) : Int) := by
    rw [Int.mul_comm]
    congr 1
    rw [show (128 : Nat) = 2 ^ 7 from rfl, ← Nat.pow_mul, Int.natCast_pow]
    rfl
  have h4 : 0 ≤ ((128 ^ j : Nat) : Int) * ((c.toNat % 128 : Nat) : Int) := Int.mul_nonneg (Int.natCast_nonneg _) (Int.natCast_nonneg _)
  rw [e, e2, wrap_small (x := ((128 ^ j : Nat) : Int) * ((c.toNat % 128 : Nat) : Int)) (by omega) (by omega), wrap_small (by omega) (by omega), h1]
theorem RvP.nS {t : ByteArray} {a n : Int} {j : Nat} {c : UInt8} (h : RvP t a j n) (hb : RvB t a j c) (h5 : j < 5) :
    IntKind.i64.wrap (n + IntKind.i64.wrap (Int.tmod (IntKind.i64.wrap (bat t (a.toNat + j))) 128 * ((128 ^ j : Nat) : Int))) = (val ((t.toList.drop a.toNat).take (j + 1)) : Nat) := by
  obtain ⟨h1, h2⟩ := h.more hb h5
  have h3 := h.n_lt
  have h4 : 0 ≤ ((128 ^ j : Nat) : Int) * ((c.toNat % 128 : Nat) : Int) := Int.mul_nonneg (Int.natCast_nonneg _) (Int.natCast_nonneg _)
  rw [hb.wb, tmod128, Int.mul_comm, wrap_small (x := ((128 ^ j : Nat) : Int) * ((c.toNat % 128 : Nat) : Int)) (by omega) (by omega), wrap_small (by omega) (by omega), h1]
theorem rdv_at {l : List UInt8} {j : Nat} {c : UInt8} (hi : (l.take j).any (fun c => decide (c.toNat ≤ 127)) = false) (hc : l[j]? = some c) (hl : c.toNat ≤ 127) (h5 : j < 5) : rdv l = if (j ≠ 0 ∧ c.toNat = 0) then none else some (val (l.take (j + 1)), j + 1) := by
  have e : l.findIdx? (fun c => decide (c.toNat ≤ 127)) = some j := findIdx_at hi hc (by simpa using hl)
  have e2 : l.getD j 0 = c := by rw [List.getD_eq_getElem?_getD, hc]; rfl
  rw [rdv, e]
  simp only [h5, if_true, e2]
theorem RvP.bad {t : ByteArray} {a n : Int} {j : Nat} {c : UInt8} (h : RvP t a j n) (hb : RvB t a j c) (h5 : j < 5) (hc : (c.toNat : Int) ≤ 127) (hz : (j ≠ 0 ∧ (c.toNat : Int) = 0) ∨ ((val ((t.toList.drop a.toNat).take (j + 1)) : Nat) : Int) > 1000000000) : rdVar t a = (0, 0, false) := by
  rw [rdVar, if_pos h.inR, rdv_at h.hi hb.at_ (by omega) h5]
  by_cases h1 : j ≠ 0 ∧ c.toNat = 0
  · rw [if_pos h1]
  · rw [if_neg h1]
    simp only []
    rw [if_neg (by omega)]
theorem RvP.good {t : ByteArray} {a n : Int} {j : Nat} {c : UInt8} (h : RvP t a j n) (hb : RvB t a j c) (h5 : j < 5) (hc : (c.toNat : Int) ≤ 127) (h0 : ¬ (j ≠ 0 ∧ (c.toNat : Int) = 0)) (hz : ((val ((t.toList.drop a.toNat).take (j + 1)) : Nat) : Int) ≤ 1000000000) : rdVar t a = (((val ((t.toList.drop a.toNat).take (j + 1)) : Nat) : Int), a + ((j + 1 : Nat) : Int), true) := by
  rw [rdVar, if_pos h.inR, rdv_at h.hi hb.at_ (by omega) h5]
  rw [if_neg (by omega)]
  simp only []
  rw [if_pos hz]
theorem RvP.canon {t : ByteArray} {a n : Int} {j : Nat} {c : UInt8} (h : RvP t a j n) (hb : RvB t a j c) (hc : (c.toNat : Int) ≤ 127) (hlt : a.toNat + j < t.size) : ((varB (val ((t.toList.drop a.toNat).take (j + 1)))).toList == (t.extract a.toNat (a + (j : Int) + 1).toNat).toList) = !decide (j ≠ 0 ∧ (c.toNat : Int) = 0) := by
  have ha := h.a0
  have e1 : (t.extract a.toNat (a + (j : Int) + 1).toNat).toList = (t.toList.drop a.toNat).take (j + 1) := by
    rw [ByteArray.toList_eq, ByteArray.toList_eq, ByteArray.data_extract, Array.toList_extract, List.extract_eq_take_drop]
    congr 1
    omega
  have e2 : (varB (val ((t.toList.drop a.toNat).take (j + 1)))).toList = varL (val ((t.toList.drop a.toNat).take (j + 1))) := by
    rw [ByteArray.toList_eq]; rfl
  rw [e1, e2, hb.take]
  by_cases h1 : j ≠ 0 ∧ (c.toNat : Int) = 0
  · rw [decide_eq_true h1]
    have hn : (t.toList.drop a.toNat).take j ≠ [] := by
      intro h2
      have := h.len
      rw [h2] at this
      simp at this
      omega
    have := varL_not (c := c) hn (by omega)
    simpa using this
  · rw [decide_eq_false h1, varL_val _ _ h.hi (by omega) (fun hn => ?_)]
    · simp
    · intro h2
      apply h1
      refine ⟨fun hj => hn ?_, by omega⟩
      subst hj; simp
def RvZ (t : ByteArray) (a : Int) (j : Nat) (c : UInt8) : Prop := (j ≠ 0 ∧ (c.toNat : Int) = 0) ∨ ((val ((t.toList.drop a.toNat).take (j + 1)) : Nat) : Int) > 1000000000
theorem RvP.implT {t : ByteArray} {a n : Int} {j : Nat} {c : UInt8} {b : Bool} (h : RvP t a j n) (hb : RvB t a j c) (h5 : j < 5) (hv : b = ((decide ((j : Int) > 0) && (IntKind.i64.wrap (bat t (a.toNat + j)) == 0)) || decide (IntKind.i64.wrap (n + shlI (Int.tmod (IntKind.i64.wrap (bat t (a.toNat + j))) 128) (IntKind.i64.wrap (7 * (j : Int)))) > 1000000000))) : (b = true → RvZ t a j c) ∧ (b = false → ¬ RvZ t a j c) := by
  rw [h.nI hb h5, hb.wb] at hv
  subst hv
  simp only [RvZ, Bool.or_eq_true, Bool.and_eq_true, decide_eq_true_eq, beq_iff_eq, Bool.or_eq_false_iff, Bool.and_eq_false_iff, decide_eq_false_iff_not, beq_eq_false_iff_ne]
  omega
theorem RvP.specT {t : ByteArray} {a n : Int} {j : Nat} {c : UInt8} {b : Bool} (h : RvP t a j n) (hb : RvB t a j c) (h5 : j < 5) (hc : (c.toNat : Int) ≤ 127) (hlt : a.toNat + j < t.size)
    (hv : b = (decide (IntKind.i64.wrap (n + IntKind.i64.wrap (Int.tmod (IntKind.i64.wrap (bat t (a.toNat + j))) 128 * ((128 ^ j : Nat) : Int))) > 1000000000) || !((varB (IntKind.i64.wrap (n + IntKind.i64.wrap (Int.tmod (IntKind.i64.wrap (bat t (a.toNat + j))) 128 * ((128 ^ j : Nat) : Int)))).toNat).toList == (t.extract a.toNat (IntKind.i64.wrap (a + (j : Int) + 1)).toNat).toList))) : (b = true → RvZ t a j c) ∧ (b = false → ¬ RvZ t a j c) := by
  have ha := h.a0; have hs := h.sz
  have hw : IntKind.i64.wrap (a + (j : Int) + 1) = a + (j : Int) + 1 := wrap_small (by omega) (by omega)
  rw [h.nS hb h5, hw, Int.toNat_natCast, h.canon hb hc hlt] at hv
  subst hv
  simp only [RvZ, Bool.or_eq_true, Bool.not_not, decide_eq_true_eq, Bool.or_eq_false_iff, decide_eq_false_iff_not]
  omega
theorem RvP.badZ {t : ByteArray} {a n : Int} {j : Nat} {c : UInt8} (h : RvP t a j n) (hb : RvB t a j c) (h5 : j < 5) (hc : (c.toNat : Int) ≤ 127) (hz : RvZ t a j c) : rdVar t a = (0, 0, false) := h.bad hb h5 hc hz
theorem RvP.goodZ {t : ByteArray} {a n : Int} {j : Nat} {c : UInt8} (h : RvP t a j n) (hb : RvB t a j c) (h5 : j < 5) (hc : (c.toNat : Int) ≤ 127) (hz : ¬ RvZ t a j c) : rdVar t a = (((val ((t.toList.drop a.toNat).take (j + 1)) : Nat) : Int), a + ((j + 1 : Nat) : Int), true) :=
  h.good hb h5 hc (fun h1 => hz (.inl h1)) (by rcases Int.lt_or_le 1000000000 ((val ((t.toList.drop a.toNat).take (j + 1)) : Nat) : Int) with h1 | h1; exact absurd (.inr h1) hz; exact h1)
theorem RvP.lt {t : ByteArray} {a n : Int} {j : Nat} (h : RvP t a j n) (h1 : IntKind.i64.wrap (a + (j : Int)) < (t.size : Int)) : a.toNat + j < t.size := by
  have ha := h.a0; have hs := h.sz; have := h.j5
  rw [wrap_small (by omega) (by omega)] at h1
  omega
theorem RvP.ix {t : ByteArray} {a n : Int} {j : Nat} (h : RvP t a j n) : IntKind.i64.wrap (a + (j : Int)) = ((a.toNat + j : Nat) : Int) := by
  have ha := h.a0; have hs := h.sz; have := h.j5
  rw [wrap_small (by omega) (by omega)]
  omega
theorem RvP.nx {t : ByteArray} {a n : Int} {j : Nat} (h : RvP t a j n) : IntKind.i64.wrap (IntKind.i64.wrap (a + (j : Int)) + 1) = a + ((j + 1 : Nat) : Int) := by
  have ha := h.a0; have hs := h.sz; have := h.j5
  rw [h.ix, wrap_small (by omega) (by omega)]
  omega
theorem bytesOf_snoc (l : List Int) (x : Int) : bytesOf (l ++ [x]) = bytesOf l ++ bytesOf [x] := by
  have : ∀ (b : ByteArray) (c : UInt8), b.push c = b ++ ⟨#[c]⟩ := by
    intro b c
    apply ByteArray.ext
    rw [ByteArray.data_append]
    simp [ByteArray.push]
  show (l ++ [x]).foldl _ _ = _
  rw [List.foldl_append]
  exact this _ _
theorem bytesOf_size (l : List Int) : (bytesOf l).size = l.length := by
  have : ∀ (l : List Int) (b : ByteArray), (l.foldl (fun r n => r.push (UInt8.ofNat n.toNat)) b).size = b.size + l.length := by
    intro l
    induction l with
    | nil => intro b; rfl
    | cons x r ih =>
      intro b
      rw [List.foldl_cons, ih, ByteArray.size_push, List.length_cons]
      omega
  have h := this l ByteArray.empty
  have h0 : ByteArray.empty.size = 0 := rfl
  rw [h0, Nat.zero_add] at h
  exact h
structure VbP (n m : Int) (l : List Int) : Prop where
  m0 : 0 ≤ m
  m1 : m ≤ 9223372036854775807
  n1 : 0 ≤ n ∧ n ≤ 9223372036854775807
  eq : bytesOf l ++ varB m.toNat = varB n.toNat
theorem VbP.init {n : Int} (h : 0 ≤ n ∧ n ≤ 9223372036854775807) : VbP n n [] := ⟨h.1, h.2, h, ByteArray.empty_append⟩
theorem VbP.len {n m : Int} {l : List Int} (h : VbP n m l) : l.length ≤ 9 := by
  have h1 := congrArg ByteArray.size h.eq
  rw [ByteArray.size_append, bytesOf_size] at h1
  have h2 : (varB n.toNat).size ≤ 9 := varL_len 9 n.toNat (by omega) (by have := h.n1; omega)
  omega
theorem u8w' (x : Int) : IntKind.u8.wrap x = x % 256 := by simp [IntKind.wrap, IntKind.bits, IntKind.signed]
theorem VbP.step {n m : Int} {l : List Int} (h : VbP n m l) (hm : decide (m > 127) = true) : VbP n (IntKind.i64.wrap (Int.tdiv m 128)) (l ++ [IntKind.u8.wrap (IntKind.i64.wrap (Int.tmod m 128 + 128))]) ∧ (IntKind.i64.wrap (Int.tdiv m 128)).toNat < m.toNat := by
  have hm : m > 127 := of_decide_eq_true hm
  have h0 := h.m0; have h1 := h.m1
  have e1 : Int.tdiv m 128 = m / 128 := Int.tdiv_eq_ediv_of_nonneg h0
  have e2 : Int.tmod m 128 = m % 128 := Int.tmod_eq_emod_of_nonneg h0
  have e3 : IntKind.i64.wrap (Int.tdiv m 128) = m / 128 := by rw [e1]; exact wrap_small (by omega) (by omega)
  rw [e3]
  refine ⟨⟨by omega, by omega, h.n1, ?_⟩, by omega⟩
  rw [← h.eq, bytesOf_snoc, e2, wrap_small (x := m % 128 + 128) (by omega) (by omega), u8w', ByteArray.append_assoc]
  congr 1
  have e4 : (m / 128).toNat = m.toNat / 128 := by omega
  have e5 : ((m % 128 + 128) % 256).toNat = m.toNat % 128 + 128 := by omega
  apply ByteArray.ext
  apply Array.ext'
  rw [ByteArray.data_append, Array.toList_append]
  show [UInt8.ofNat ((m % 128 + 128) % 256).toNat] ++ varL (m / 128).toNat = varL m.toNat
  rw [varL_big (n := m.toNat) (by omega), e4, e5]
  rfl
theorem VbP.fin {n m : Int} {l : List Int} (h : VbP n m l) (hm : decide (m > 127) = false) : bytesOf (l ++ [IntKind.u8.wrap m]) = varB n.toNat := by
  have hm : ¬ m > 127 := of_decide_eq_false hm
  have h0 := h.m0
  rw [← h.eq, bytesOf_snoc, u8w']
  congr 1
  apply ByteArray.ext
  apply Array.ext'
  show [UInt8.ofNat (m % 256).toNat] = varL m.toNat
  rw [varL_small (by omega)]
  congr 2
  omega
theorem pow_next {j : Nat} (h : j < 5) : IntKind.i64.wrap (((128 ^ j : Nat) : Int) * 128) = ((128 ^ (j + 1) : Nat) : Int) := by
  have h1 := pow128 (j := j + 1) (by omega)
  have h2 : ((128 ^ (j + 1) : Nat) : Int) = ((128 ^ j : Nat) : Int) * 128 := by rw [Nat.pow_succ, Int.natCast_mul]; rfl
  have h3 := Int.natCast_nonneg (128 ^ j)
  rw [← h2]
  exact wrap_small (by omega) (by omega)

theorem rdVar_ok {t : ByteArray} {a : Int} (h : (rdVar t a).2.2 = true) : ∃ n : Nat, (rdVar t a).1 = (n : Int) ∧ n ≤ 1000000000 ∧ 0 ≤ a ∧ (rdVar t a).2.1 = a + ((varL n).length : Int) ∧ (rdVar t a).2.1 ≤ t.size ∧ t.toList.drop a.toNat = varL n ++ t.toList.drop (rdVar t a).2.1.toNat ∧ 0 < (varL n).length := by
  unfold rdVar at h ⊢
  by_cases hi : inR a 0 t.size = true
  · rw [if_pos hi] at h ⊢
    have ha : 0 ≤ a ∧ a ≤ t.size := by simp [inR] at hi; omega
    cases e : rdv (t.toList.drop a.toNat) with
    | none => rw [e] at h; simp at h
    | some p =>
      rw [e] at h
      simp only [] at h ⊢
      by_cases hp : (p.1 : Int) ≤ 1000000000
      · rw [if_pos hp] at h ⊢
        rw [rdv] at e
        cases e2 : (t.toList.drop a.toNat).findIdx? (fun c => decide (c.toNat ≤ 127)) with
        | none => rw [e2] at e; cases e
        | some k =>
          rw [e2] at e
          simp only [] at e
          by_cases h5 : k < 5
          · rw [if_pos h5] at e
            by_cases hz : k ≠ 0 ∧ ((t.toList.drop a.toNat).getD k 0).toNat = 0
            · rw [if_pos hz] at e; cases e
            · rw [if_neg hz] at e
              cases e
              obtain ⟨hk, hpk, hlt⟩ := List.findIdx?_eq_some_iff_getElem.1 e2
              have hg : (t.toList.drop a.toNat)[k]? = some (t.toList.drop a.toNat)[k] := List.getElem?_eq_getElem hk
              have hgd : (t.toList.drop a.toNat).getD k 0 = (t.toList.drop a.toNat)[k] := by rw [List.getD_eq_getElem?_getD, hg]; rfl
              rw [hgd] at hz
              have htk : (t.toList.drop a.toNat).take (k + 1) = (t.toList.drop a.toNat).take k ++ [(t.toList.drop a.toNat)[k]] := take_snoc hg
              have hany : ((t.toList.drop a.toNat).take k).any (fun c => decide (c.toNat ≤ 127)) = false := by
                rw [List.any_eq_false]
                intro y hy
                obtain ⟨m, hm, rfl⟩ := List.mem_iff_getElem.1 hy
                rw [List.length_take] at hm
                have := hlt m (by omega)
                rw [List.getElem_take]
                simpa using this
              have hv : varL (val ((t.toList.drop a.toNat).take (k + 1))) = (t.toList.drop a.toNat).take (k + 1) := by
                rw [htk]
                refine varL_val _ _ hany (by simpa using hpk) (fun hn h0 => hz ⟨fun hk0 => hn ?_, h0⟩)
                subst hk0; simp
              have hlen : ((t.toList.drop a.toNat).take (k + 1)).length = k + 1 := by rw [List.length_take]; omega
              rw [List.length_drop, toL_len] at hk
              refine ⟨val ((t.toList.drop a.toNat).take (k + 1)), rfl, by omega, ha.1, ?_, ?_, ?_, ?_⟩
              · rw [hv, hlen]
              · show a + ((k + 1 : Nat) : Int) ≤ _; omega
              · rw [hv]
                show _ = _ ++ t.toList.drop (a + ((k + 1 : Nat) : Int)).toNat
                rw [show (a + ((k + 1 : Nat) : Int)).toNat = a.toNat + (k + 1) by omega, ← List.drop_drop, List.take_append_drop]
              · rw [hv, hlen]; omega
          · rw [if_neg h5] at e; cases e
      · rw [if_neg hp] at h; simp at h
  · rw [if_neg hi] at h; simp at h
def rdShort (t : ByteArray) (a : Int) : ByteArray × Int × Bool :=
  if (rdVar t a).2.2 && decide ((rdVar t a).1 ≤ 20000) && decide ((rdVar t a).1 ≤ (t.size : Int) - (rdVar t a).2.1) then (t.extract (rdVar t a).2.1.toNat ((rdVar t a).2.1 + (rdVar t a).1).toNat, (rdVar t a).2.1 + (rdVar t a).1, true) else (⟨#[]⟩, 0, false)
def shL (s : ByteArray) : List UInt8 := varL s.size ++ s.toList
theorem rdShort_ok {t : ByteArray} {a : Int} (h : (rdShort t a).2.2 = true) : 0 ≤ a ∧ (rdShort t a).2.1 ≤ t.size ∧ (rdShort t a).1.size ≤ 20000 ∧ (rdShort t a).2.1 = a + ((shL (rdShort t a).1).length : Int) ∧ t.toList.drop a.toNat = shL (rdShort t a).1 ++ t.toList.drop (rdShort t a).2.1.toNat := by
  unfold rdShort at h ⊢
  by_cases hc : ((rdVar t a).2.2 && decide ((rdVar t a).1 ≤ 20000) && decide ((rdVar t a).1 ≤ (t.size : Int) - (rdVar t a).2.1)) = true
  · rw [if_pos hc] at h ⊢
    simp only [Bool.and_eq_true, decide_eq_true_eq] at hc
    obtain ⟨n, h1, h2, h3, h4, h5, h6, h7⟩ := rdVar_ok hc.1.1
    rw [h1] at hc ⊢
    generalize (rdVar t a).2.1 = b at *
    have hb : 0 ≤ b := by omega
    have hsz : (t.extract b.toNat (b + (n : Int)).toNat).size = n := by rw [ByteArray.size_extract]; omega
    have hex : (t.extract b.toNat (b + (n : Int)).toNat).toList = (t.toList.drop b.toNat).take n := by
      rw [ByteArray.toList_eq, ByteArray.toList_eq, ByteArray.data_extract, Array.toList_extract, List.extract_eq_take_drop]
      congr 1
      omega
    refine ⟨h3, by show b + (n : Int) ≤ _; omega, by show ByteArray.size _ ≤ _; rw [hsz]; omega, ?_, ?_⟩
    · show b + (n : Int) = a + ((shL _).length : Int)
      rw [shL, hsz, List.length_append, toL_len, hsz, h4]
      omega
    · show t.toList.drop a.toNat = shL _ ++ t.toList.drop (b + (n : Int)).toNat
      rw [shL, hsz, hex, h6, List.append_assoc]
      congr 1
      rw [show (b + (n : Int)).toNat = b.toNat + n by omega, ← List.drop_drop, List.take_append_drop]
  · rw [if_neg hc] at h; simp at h
def scNum (t : ByteArray) (a : Int) (b : Bool) : Int × Int × Bool := if b || !(rdVar t a).2.2 then (0, a, true) else ((rdVar t a).1, (rdVar t a).2.1, false)
def scShort (t : ByteArray) (a : Int) (b : Bool) : ByteArray × Int × Bool := if b || !(rdShort t a).2.2 then (⟨#[]⟩, a, true) else ((rdShort t a).1, (rdShort t a).2.1, false)
def scOne (t : ByteArray) (a : Int) (b : Bool) : Int × Int × Bool := if b || decide (a ≥ (t.size : Int)) then (0, a, true) else (IntKind.i64.wrap (bat t a.toNat), a + 1, false)
def atOk (t : ByteArray) (a : Int) : Prop := 0 ≤ a ∧ a ≤ t.size ∧ t.size ≤ 1048576
theorem scNum_at {t : ByteArray} {a : Int} {b : Bool} (h : atOk t a) : atOk t (scNum t a b).2.1 := by
  unfold scNum
  split
  · exact h
  · rename_i hc
    obtain ⟨n, h1, h2, h3, h4, h5, h6, h7⟩ := rdVar_ok (t := t) (a := a) (by simp at hc; exact hc.2)
    exact ⟨by simp only []; omega, by simp only []; omega, h.2.2⟩
theorem scShort_at {t : ByteArray} {a : Int} {b : Bool} (h : atOk t a) : atOk t (scShort t a b).2.1 := by
  unfold scShort
  split
  · exact h
  · rename_i hc
    obtain ⟨h1, h2, h3, h4, h5⟩ := rdShort_ok (t := t) (a := a) (by simp at hc; exact hc.2)
    exact ⟨by simp only []; omega, by simp only []; omega, h.2.2⟩
theorem scOne_at {t : ByteArray} {a : Int} {b : Bool} (h : atOk t a) : atOk t (scOne t a b).2.1 := by
  unfold scOne
  split
  · exact h
  · rename_i hc
    simp at hc
    exact ⟨by have := h.1; simp only []; omega, by simp only []; omega, h.2.2⟩
theorem scNum_ok {t : ByteArray} {a : Int} {b : Bool} (h : (scNum t a b).2.2 = false) : b = false ∧ ∃ n : Nat, (scNum t a b).1 = (n : Int) ∧ n ≤ 1000000000 ∧ t.toList.drop a.toNat = varL n ++ t.toList.drop (scNum t a b).2.1.toNat := by
  unfold scNum at h ⊢
  split at h
  · cases h
  · rename_i hc
    rw [if_neg hc]
    simp at hc
    obtain ⟨n, h1, h2, h3, h4, h5, h6, h7⟩ := rdVar_ok hc.2
    exact ⟨by simpa using hc.1, n, h1, h2, h6⟩
theorem scShort_ok {t : ByteArray} {a : Int} {b : Bool} (h : (scShort t a b).2.2 = false) : b = false ∧ (scShort t a b).1.size ≤ 20000 ∧ t.toList.drop a.toNat = shL (scShort t a b).1 ++ t.toList.drop (scShort t a b).2.1.toNat := by
  unfold scShort at h ⊢
  split at h
  · cases h
  · rename_i hc
    rw [if_neg hc]
    simp at hc
    obtain ⟨h1, h2, h3, h4, h5⟩ := rdShort_ok hc.2
    exact ⟨by simpa using hc.1, h3, h5⟩
theorem rdS_no {t : ByteArray} {a : Int} (h : ((!(rdVar t a).2.2 || decide ((rdVar t a).1 > 20000)) || decide ((rdVar t a).1 > IntKind.i64.wrap ((t.size : Int) - (rdVar t a).2.1))) = true) (ht : t.size ≤ 1048576) : rdShort t a = (⟨#[]⟩, 0, false) := by
  unfold rdShort
  rw [if_neg]
  intro hc
  simp only [Bool.and_eq_true, decide_eq_true_eq] at hc
  obtain ⟨n, h1, h2, h3, h4, h5, h6, h7⟩ := rdVar_ok hc.1.1
  rw [wrap_small (by omega) (by omega), hc.1.1] at h
  simp at h
  omega
theorem rdS_yes {t : ByteArray} {a : Int} (h : ((!(rdVar t a).2.2 || decide ((rdVar t a).1 > 20000)) || decide ((rdVar t a).1 > IntKind.i64.wrap ((t.size : Int) - (rdVar t a).2.1))) = false) (ht : t.size ≤ 1048576) : rdShort t a = (t.extract (rdVar t a).2.1.toNat (IntKind.i64.wrap ((rdVar t a).2.1 + (rdVar t a).1)).toNat, IntKind.i64.wrap ((rdVar t a).2.1 + (rdVar t a).1), true) ∧
    0 ≤ (rdVar t a).2.1 ∧ (rdVar t a).2.1 ≤ IntKind.i64.wrap ((rdVar t a).2.1 + (rdVar t a).1) ∧ IntKind.i64.wrap ((rdVar t a).2.1 + (rdVar t a).1) ≤ t.size := by
  simp only [Bool.or_eq_false_iff, Bool.not_eq_false', decide_eq_false_iff_not] at h
  obtain ⟨n, h1, h2, h3, h4, h5, h6, h7⟩ := rdVar_ok h.1.1
  have hw : IntKind.i64.wrap ((rdVar t a).2.1 + (rdVar t a).1) = (rdVar t a).2.1 + (rdVar t a).1 := wrap_small (by omega) (by omega)
  have h8 := h.2
  rw [wrap_small (by omega) (by omega)] at h8
  rw [hw]
  refine ⟨?_, by omega, by omega, by omega⟩
  unfold rdShort
  rw [if_pos]
  simp only [Bool.and_eq_true, decide_eq_true_eq]
  exact ⟨⟨h.1.1, by omega⟩, by omega⟩

def scan.ok (s : scan) : Prop := atOk s.text s.at_
def numV (s : scan) : Int := (scNum s.text s.at_ s.bad).1
def numS (s : scan) : scan := ⟨s.text, (scNum s.text s.at_ s.bad).2.1, (scNum s.text s.at_ s.bad).2.2⟩
def shV (s : scan) : ByteArray := (scShort s.text s.at_ s.bad).1
def shS (s : scan) : scan := ⟨s.text, (scShort s.text s.at_ s.bad).2.1, (scShort s.text s.at_ s.bad).2.2⟩
def oneV (s : scan) : Int := (scOne s.text s.at_ s.bad).1
def oneS (s : scan) : scan := ⟨s.text, (scOne s.text s.at_ s.bad).2.1, (scOne s.text s.at_ s.bad).2.2⟩
def doneB (s : scan) : Bool := !s.bad && s.at_ == (s.text.size : Int)
theorem numS_ok {s : scan} (h : s.ok) : (numS s).ok := scNum_at h
theorem shS_ok {s : scan} (h : s.ok) : (shS s).ok := scShort_at h
theorem oneS_ok {s : scan} (h : s.ok) : (oneS s).ok := scOne_at h
def scan.left (s : scan) : List UInt8 := s.text.toList.drop s.at_.toNat
theorem numS_good {s : scan} (h : (numS s).bad = false) : s.bad = false ∧ ∃ n : Nat, numV s = (n : Int) ∧ n ≤ 1000000000 ∧ s.left = varL n ++ (numS s).left := scNum_ok h
theorem shS_good {s : scan} (h : (shS s).bad = false) : s.bad = false ∧ (shV s).size ≤ 20000 ∧ s.left = shL (shV s) ++ (shS s).left := scShort_ok h
theorem done_left {s : scan} (h : s.ok) (hb : s.bad = false) : doneB s = decide (s.left = []) := by
  have h1 := h.1; have h2 := h.2.1
  rw [doneB, hb, scan.left, Bool.eq_iff_iff, decide_eq_true_iff, List.drop_eq_nil_iff, toL_len]
  simp
  omega
def shB (s : ByteArray) : ByteArray := varB s.size ++ s
theorem varB_L (n : Nat) : (varB n).toList = varL n := by rw [ByteArray.toList_eq]; rfl
theorem shB_L (s : ByteArray) : (shB s).toList = shL s := by rw [shB, toL_app, varB_L]; rfl
theorem u8w {x : Int} (h0 : 0 ≤ x) (h1 : x < 256) : IntKind.u8.wrap x = x := by
  simp [IntKind.wrap, IntKind.bits, IntKind.signed]; omega
theorem varB_len {n : Nat} (h : n ≤ 1000000000) : (varB n).size ≤ 5 := varL_len 5 n (by omega) (by omega)
theorem varB_len9 {n : Nat} (h : n ≤ 9223372036854775807) : (varB n).size ≤ 9 := varL_len 9 n (by omega) (by omega)
theorem scan.ok0 {t : ByteArray} (ht : t.size ≤ 1048576) : scan.ok ⟨t, 0, false⟩ := ⟨by simp, by simp, ht⟩

structure At (s : scan) (l : List UInt8) : Prop where
  ok : s.ok
  bad : s.bad = false
  left : s.left = l
def sgV (s : scan) : Bool := oneV s == 1
def sgS (s : scan) : scan := ⟨s.text, (oneS s).at_, (oneS s).bad || decide (oneV s > 1)⟩
def cntV (s : scan) (m : Int) : Int := if decide (numV s > m) then 0 else numV s
def cntS (s : scan) (m : Int) : scan := if decide (numV s > m) then ⟨s.text, (numS s).at_, true⟩ else numS s
def rsV (s : scan) : ByteArray := if s.bad then ⟨#[]⟩ else s.text.extract s.at_.toNat ((s.text.size : Int)).toNat
def rsS (s : scan) : scan := if s.bad then s else ⟨s.text, (s.text.size : Int), s.bad⟩
theorem sgS_ok {s : scan} (h : s.ok) : (sgS s).ok := scOne_at h
theorem cntS_ok {s : scan} {m : Int} (h : s.ok) : (cntS s m).ok := by
  unfold cntS; split
  · exact scNum_at h
  · exact scNum_at h
theorem left_len {s : scan} (h : s.ok) : (s.left.length : Int) = (s.text.size : Int) - s.at_ := by
  have h1 := h.1; have h2 := h.2.1
  rw [scan.left, List.length_drop, toL_len]
  omega
theorem left_to {t : ByteArray} {a : Int} {b : Bool} {x r : List UInt8} (h : scan.ok ⟨t, a, b⟩) (hl : scan.left ⟨t, a, b⟩ = x ++ r) : scan.ok ⟨t, a + (x.length : Int), b⟩ ∧ scan.left ⟨t, a + (x.length : Int), b⟩ = r := by
  have h1 := h.1; have h2 := h.2.1; have h3 := left_len h
  simp only [] at h1 h2 h3
  rw [hl, List.length_append] at h3
  refine ⟨⟨by show (0 : Int) ≤ _; simp only []; omega, by simp only []; omega, h.2.2⟩, ?_⟩
  have h4 : (a + (x.length : Int)).toNat = a.toNat + x.length := by omega
  show t.toList.drop (a + (x.length : Int)).toNat = r
  rw [h4, ← List.drop_drop]
  have h5 : t.toList.drop a.toNat = x ++ r := hl
  rw [h5, List.drop_left]
theorem rdv_rt (n : Nat) (hn : n < 128 ^ 5) (r : List UInt8) : rdv (varL n ++ r) = some (n, (varL n).length) := by
  obtain ⟨pre, c, h1, h2, h3, h4, h5⟩ := varL_form n
  have hlen := varL_len 5 n (by omega) hn
  have hp : pre.length < 5 := by rw [h1, List.length_append] at hlen; simp at hlen; omega
  have hl : varL n ++ r = pre ++ (c :: r) := by rw [h1]; simp
  rw [hl]
  rw [rdv_at (j := pre.length) (c := c) (by rw [List.take_left]; exact h2) (by simp) h3 hp]
  have ht : (pre ++ c :: r).take (pre.length + 1) = pre ++ [c] := by
    rw [show pre ++ c :: r = (pre ++ [c]) ++ r by simp, List.take_left' (by simp)]
  rw [if_neg, ht, h5, h1, List.length_append]
  · rfl
  · rintro ⟨ha, hb⟩
    exact h4 (by intro h; subst h; simp at ha) hb
theorem numS_rt {s : scan} {n : Nat} {r : List UInt8} (h : At s (varL n ++ r)) (hn : n ≤ 1000000000) : numV s = (n : Int) ∧ At (numS s) r := by
  obtain ⟨t, a, b⟩ := s
  have hb : b = false := h.bad
  subst hb
  have hok := h.ok
  have h1 := hok.1; have h2 := hok.2.1
  have hin : inR a 0 t.size = true := by simp only [] at h1 h2; simp [inR]; omega
  have hl : t.toList.drop a.toNat = varL n ++ r := h.left
  have e : rdVar t a = ((n : Int), a + ((varL n).length : Int), true) := by
    rw [rdVar, if_pos hin, hl, rdv_rt n (by omega)]
    simp only []
    rw [if_pos (by omega)]
  have e2 : scNum t a false = ((n : Int), a + ((varL n).length : Int), false) := by
    rw [scNum, e]; rfl
  obtain ⟨p, q⟩ := left_to hok h.left
  refine ⟨by simp only [numV]; rw [e2], ?_⟩
  have e3 : numS ⟨t, a, false⟩ = ⟨t, a + ((varL n).length : Int), false⟩ := by simp only [numS]; rw [e2]
  rw [e3]
  exact ⟨p, rfl, q⟩
theorem shS_rt {s : scan} {d : ByteArray} {r : List UInt8} (h : At s (shL d ++ r)) (hd : d.size ≤ 20000) : shV s = d ∧ At (shS s) r := by
  obtain ⟨t, a, b⟩ := s
  have hb : b = false := h.bad
  subst hb
  have hok := h.ok
  have h1 := hok.1; have h2 := hok.2.1; have h3 := left_len hok
  rw [h.left] at h3
  have hin : inR a 0 t.size = true := by simp only [] at h1 h2; simp [inR]; omega
  have hl : t.toList.drop a.toNat = varL d.size ++ (d.toList ++ r) := by rw [show t.toList.drop a.toNat = shL d ++ r from h.left, shL, List.append_assoc]
  simp only [shL, List.length_append, toL_len] at h1 h2 h3
  have e : rdVar t a = ((d.size : Int), a + ((varL d.size).length : Int), true) := by
    rw [rdVar, if_pos hin, hl, rdv_rt d.size (by omega)]
    simp only []
    rw [if_pos (by omega)]
  have hx : t.extract (a + ((varL d.size).length : Int)).toNat (a + ((varL d.size).length : Int) + (d.size : Int)).toNat = d := by
    apply ba_ext
    rw [ByteArray.toList_eq, ByteArray.data_extract, Array.toList_extract, List.extract_eq_take_drop]
    have h5 : (a + ((varL d.size).length : Int)).toNat = a.toNat + (varL d.size).length := by omega
    have h6 : t.data.toList = t.toList := (ByteArray.toList_eq t).symm
    rw [h6, h5, ← List.drop_drop, hl, List.drop_left]
    have h7 : (a + ((varL d.size).length : Int) + (d.size : Int)).toNat - (a.toNat + (varL d.size).length) = d.size := by omega
    rw [h7, List.take_left' (toL_len d)]
  have e2 : rdShort t a = (d, a + ((varL d.size).length : Int) + (d.size : Int), true) := by
    rw [rdShort, e]
    simp only []
    rw [if_pos (by simp only [Bool.and_eq_true, decide_eq_true_eq]; exact ⟨⟨trivial, by omega⟩, by omega⟩), hx]
  have e3 : scShort t a false = (d, a + ((shL d).length : Int), false) := by
    rw [scShort, e2]
    simp only [shL, List.length_append, toL_len]
    simp [Int.add_assoc]
  obtain ⟨p, q⟩ := left_to hok h.left
  refine ⟨by simp only [shV]; rw [e3], ?_⟩
  have e4 : shS ⟨t, a, false⟩ = ⟨t, a + ((shL d).length : Int), false⟩ := by simp only [shS]; rw [e3]
  rw [e4]
  exact ⟨p, rfl, q⟩
theorem done_at {s : scan} (h : At s []) : doneB s = true := by rw [done_left h.ok h.bad, h.left]; simp
theorem done_good {s : scan} (h : s.ok) (hd : doneB s = true) : s.bad = false ∧ s.left = [] := by
  have hb : s.bad = false := by simp [doneB] at hd; exact hd.1
  rw [done_left h hb] at hd
  exact ⟨hb, of_decide_eq_true hd⟩
theorem at0 {t : ByteArray} (ht : t.size ≤ 1048576) : At ⟨t, 0, false⟩ t.toList := ⟨scan.ok0 ht, rfl, by simp [scan.left]⟩

def entB (i : Int) (e : Entry) : ByteArray := ⟨#[69]⟩ ++ varB i.toNat ++ varB e.term_.toNat ++ bytesOf [IntKind.u8.wrap e.kind] ++ e.data
def entT (i : Int) (e : Entry) : ByteArray × Bool := if entOk e && inR i 1 1000000 then (entB i e, true) else (⟨#[]⟩, false)
structure EntIn (e : Entry) : Prop where
  t : 0 ≤ e.term_ ∧ e.term_ ≤ 100000
  k : 1 ≤ e.kind ∧ e.kind ≤ 3
  d : e.data.size ≤ 120
theorem EntIn.of {e : Entry} (h : entOk e = true) : EntIn e := by
  simp only [entOk, Bool.and_eq_true] at h
  obtain ⟨h1, h2⟩ := h
  simp [inR] at h1
  by_cases k1 : (e.kind == 1) = true
  · rw [if_pos k1] at h2
    have h3 := congrArg List.length (eq_of_beq h2)
    rw [toL_len, toL_len] at h3
    have h4 : (⟨#[]⟩ : ByteArray).size = 0 := rfl
    have h5 := eq_of_beq k1
    exact ⟨by omega, by omega, by omega⟩
  rw [if_neg k1] at h2
  by_cases k2 : (e.kind == 2) = true
  · rw [if_pos k2] at h2
    have h5 := eq_of_beq k2
    unfold readConf at h2
    split at h2
    · rename_i hc
      have := confOk_len hc
      rw [bys_len] at this
      exact ⟨by omega, by omega, by omega⟩
    · cases h2
  rw [if_neg k2] at h2
  simp at h2
  exact ⟨by omega, by omega, by omega⟩
theorem entB_size {i : Int} {e : Entry} (h : entOk e = true) (hi : inR i 1 1000000 = true) : (entB i e).size ≤ 200 := by
  have h1 := EntIn.of h
  have h2 := h1.t; have h3 := h1.d
  simp [inR] at hi
  have a1 := varB_len (n := i.toNat) (by omega)
  have a2 := varB_len (n := e.term_.toNat) (by omega)
  have a3 : ∀ q : Int, (bytesOf [q]).size = 1 := fun q => rfl
  have a4 : (⟨#[69]⟩ : ByteArray).size = 1 := rfl
  simp only [entB, ByteArray.size_append, a3, a4]
  omega
theorem entT_size (i : Int) (e : Entry) : (entT i e).1.size ≤ 200 := by
  unfold entT
  split
  · rename_i h
    simp only [Bool.and_eq_true] at h
    exact entB_size h.1 h.2
  · decide
def reS (t : ByteArray) : scan := rsS (oneS (numS (numS (oneS ⟨t, 0, false⟩))))
def reI (t : ByteArray) : Int := numV (oneS ⟨t, 0, false⟩)
def reE (t : ByteArray) : Entry := ⟨numV (numS (oneS ⟨t, 0, false⟩)), oneV (numS (numS (oneS ⟨t, 0, false⟩))), rsV (oneS (numS (numS (oneS ⟨t, 0, false⟩))))⟩
def reC (t : ByteArray) : Bool := ((!doneB (reS t) || (oneV ⟨t, 0, false⟩ != 69)) || !entOk (reE t)) || !inR (reI t) 1 1000000
def rdEnt (t : ByteArray) : Int × Entry × Bool := if reC t then (0, Entry.z, false) else (reI t, reE t, true)
def l05Cur.sc (c : l05Cur) : scan := ⟨c.text, c.at_, c.bad⟩
def numW (c : l05Cur) : Int := numV c.sc
def numC (c : l05Cur) : l05Cur := ⟨c.text, (numS c.sc).at_, (numS c.sc).bad⟩
def tkB (s : scan) (n : Int) : Bool := s.bad || decide (n > (s.text.size : Int) - s.at_)
def tkV (s : scan) (n : Int) : ByteArray := if tkB s n then ⟨#[]⟩ else s.text.extract s.at_.toNat (s.at_ + n).toNat
def tkS (s : scan) (n : Int) : scan := if tkB s n then ⟨s.text, s.at_, true⟩ else ⟨s.text, s.at_ + n, s.bad⟩
def tkW (c : l05Cur) (n : Int) : ByteArray := tkV c.sc n
def tkC (c : l05Cur) (n : Int) : l05Cur := ⟨c.text, (tkS c.sc n).at_, (tkS c.sc n).bad⟩
theorem tkS_ok {s : scan} {n : Int} (h : s.ok) (hn : 0 ≤ n) : (tkS s n).ok := by
  unfold tkS
  split
  · exact h
  · rename_i hc
    simp only [tkB, Bool.or_eq_true, decide_eq_true_eq, not_or] at hc
    exact ⟨by have := h.1; show (0 : Int) ≤ s.at_ + n; omega, by show s.at_ + n ≤ (s.text.size : Int); omega, h.2.2⟩
theorem tk_rt {s : scan} {x r : List UInt8} {n : Int} (h : At s (x ++ r)) (hn : (x.length : Int) = n) : (tkV s n).toList = x ∧ At (tkS s n) r := by
  obtain ⟨t, a, b⟩ := s
  have hb : b = false := h.bad
  subst hb
  have hok := h.ok
  have h1 := hok.1; have h2 := hok.2.1; have h3 := left_len hok
  rw [h.left, List.length_append] at h3
  simp only [] at h1 h2 h3
  have hc : tkB ⟨t, a, false⟩ n = false := by
    simp only [tkB, Bool.false_or]
    exact decide_eq_false (by omega)
  obtain ⟨p, q⟩ := left_to hok h.left
  subst hn
  refine ⟨?_, ?_⟩
  · rw [tkV, if_neg (by rw [hc]; simp), ByteArray.toList_eq, ByteArray.data_extract, Array.toList_extract, List.extract_eq_take_drop]
    have h6 : t.data.toList = t.toList := (ByteArray.toList_eq t).symm
    have hl : t.toList.drop a.toNat = x ++ r := h.left
    simp only [h6, hl]
    have h7 : (a + (x.length : Int)).toNat - a.toNat = x.length := by omega
    rw [h7, List.take_left]
  · rw [tkS, if_neg (by rw [hc]; simp)]
    exact ⟨p, rfl, q⟩
def msgTerms (mt : Int) : Int → List Entry → Bool
  | _, [] => true
  | t, e :: r => if (!entOk e || decide (e.term_ < t)) || decide (e.term_ > mt) then false else msgTerms mt e.term_ r
def mo1 (m : Message) : Bool := ((!inR m.kind 1 6 || !inR m.from_ 1 4) || !inR m.to 1 4) || m.from_ == m.to
def mo2 (m : Message) : Bool := ((!inR m.term_ 0 100000 || !inR m.logTerm 0 100000) || !inR m.index 0 1000000) || !inR m.commit 0 1000000
def mo3 (m : Message) : Bool := decide ((m.entries.length : Int) > 4) || (decide ((m.entries.length : Int) > 0) && m.kind != 3)
def mo4 (m : Message) : Bool := if m.kind == 5 then confOk m.conf && decide ((m.data.size : Int) ≤ 60) else ((m.conf.length : Int) == 0 && m.data.toList == (⟨#[]⟩ : ByteArray).toList) && !m.last
def msgOk (m : Message) : Bool := if mo1 m then false else if mo2 m then false else if mo3 m then false else if msgTerms m.term_ m.logTerm m.entries then mo4 m else false
structure MsgIn (m : Message) : Prop where
  k : 1 ≤ m.kind ∧ m.kind ≤ 6
  f : 1 ≤ m.from_ ∧ m.from_ ≤ 4
  t : 1 ≤ m.to ∧ m.to ≤ 4
  e : 0 ≤ m.term_ ∧ m.term_ ≤ 100000
  l : 0 ≤ m.logTerm ∧ m.logTerm ≤ 100000
  i : 0 ≤ m.index ∧ m.index ≤ 1000000
  c : 0 ≤ m.commit ∧ m.commit ≤ 1000000
  n : m.entries.length ≤ 4
  es : ∀ e ∈ m.entries, entOk e = true
  d : m.data.size ≤ 60
  cf : confOk m.conf = true ∨ m.conf = []
theorem msgTerms_all {mt : Int} : ∀ {t : Int} {l : List Entry}, msgTerms mt t l = true → ∀ e ∈ l, entOk e = true
  | _, [], _, e, he => by cases he
  | t, x :: r, h, e, he => by
    rw [msgTerms] at h
    split at h
    · cases h
    · rename_i hc
      rcases List.mem_cons.1 he with rfl | he
      · simp only [Bool.or_eq_true, not_or] at hc
        simpa using hc.1.1
      · exact msgTerms_all h e he
theorem MsgIn.of {m : Message} (h : msgOk m = true) : MsgIn m := by
  unfold msgOk at h
  split at h
  · cases h
  rename_i h1
  split at h
  · cases h
  rename_i h2
  split at h
  · cases h
  rename_i h3
  split at h
  · rename_i h4
    simp [mo1, inR] at h1
    simp [mo2, inR] at h2
    simp only [mo3, Bool.or_eq_true, decide_eq_true_eq, not_or] at h3
    have hd : m.data.size ≤ 60 ∧ (confOk m.conf = true ∨ m.conf = []) := by
      unfold mo4 at h
      split at h
      · simp only [Bool.and_eq_true, decide_eq_true_eq] at h
        exact ⟨by omega, .inl h.1⟩
      · simp only [Bool.and_eq_true, beq_iff_eq] at h
        have h5 := congrArg List.length h.1.2
        rw [toL_len, toL_len] at h5
        have h6 : (⟨#[]⟩ : ByteArray).size = 0 := rfl
        exact ⟨by omega, .inr (List.eq_nil_of_length_eq_zero (by omega))⟩
    exact ⟨by omega, by omega, by omega, by omega, by omega, by omega, by omega, by omega, msgTerms_all h4, hd.1, hd.2⟩
  · cases h
def flagS (b : Bool) : ByteArray := if b then ⟨#[1]⟩ else ⟨#[0]⟩
def entsB (es : List Entry) (o : ByteArray) : ByteArray := es.foldl (fun o e => o ++ shB (entT 1 e).1) o
def msgH (m : Message) : ByteArray := bytesOf [IntKind.u8.wrap m.kind, IntKind.u8.wrap m.from_, IntKind.u8.wrap m.to] ++ varB m.term_.toNat ++ varB m.index.toNat ++ varB m.logTerm.toNat ++ varB m.commit.toNat ++ flagS m.ok ++ flagS m.last ++ varB ((m.entries.length : Int)).toNat
def entsI : Nat → scan → Option (List Entry × scan)
  | 0, s => some ([], s)
  | k + 1, s =>
    if !(rdEnt (shV s)).2.2 || (rdEnt (shV s)).1 != 1 then none else
    match entsI k (shS s) with
    | none => none
    | some p => some ((rdEnt (shV s)).2.1 :: p.1, p.2)
def h3S (t : ByteArray) : scan := oneS (oneS (oneS ⟨t, 0, false⟩))
def h7S (t : ByteArray) : scan := numS (numS (numS (numS (h3S t))))
def h9S (t : ByteArray) : scan := sgS (sgS (h7S t))
def cntM (t : ByteArray) : Nat := (cntV (h9S t) 4).toNat
def cntMS (t : ByteArray) : scan := cntS (h9S t) 4
def mkM (t : ByteArray) (es : List Entry) (conf : List Int) (data : ByteArray) : Message :=
  ⟨oneV ⟨t, 0, false⟩, oneV (oneS ⟨t, 0, false⟩), oneV (oneS (oneS ⟨t, 0, false⟩)), numV (h3S t), numV (numS (h3S t)), numV (numS (numS (h3S t))), numV (numS (numS (numS (h3S t)))), sgV (h7S t), es, conf, data, sgV (sgS (h7S t))⟩
def tailM (t : ByteArray) (p : List Entry × scan) : Message := mkM t p.1 (bys (shV p.2) (shV p.2).size) (shV (shS p.2))
def tailC (t : ByteArray) (p : List Entry × scan) : Bool := !doneB (shS (shS p.2)) || !msgOk (tailM t p)
def rdMsg (t : ByteArray) : Message × Bool :=
  match entsI (cntM t) (cntMS t) with
  | none => (Message.z, false)
  | some p => if tailC t p then (Message.z, false) else (tailM t p, true)
theorem bys_wrap {s : ByteArray} {i : Nat} (h : i < s.size) : IntKind.i64.wrap (bat s i) = ((s.toList.getD i 0).toNat : Int) := by
  obtain ⟨h1, _⟩ := bat_at h
  have := (s.toList.getD i 0).toNat_lt
  rw [h1]; exact wrap_small (by omega) (by omega)
theorem bytesOf_L (l : List Int) : (bytesOf l).toList = l.map fun x => UInt8.ofNat x.toNat := by
  have : ∀ (l : List Int) (b : ByteArray), (l.foldl (fun r n => r.push (UInt8.ofNat n.toNat)) b).data.toList = b.data.toList ++ l.map fun x => UInt8.ofNat x.toNat := by
    intro l
    induction l with
    | nil => intro b; simp
    | cons x r ih =>
      intro b
      rw [List.foldl_cons, ih]
      simp [ByteArray.push]
  rw [ByteArray.toList_eq]
  have h := this l ByteArray.empty
  rw [show ByteArray.empty.data.toList = ([] : List UInt8) from rfl, List.nil_append] at h
  exact h
theorem bys_bytes (s : ByteArray) : bytesOf ((bys s s.size).map fun x => IntKind.u8.wrap x) = s := by
  apply ba_ext
  rw [bytesOf_L]
  apply List.ext_getElem?
  intro i
  by_cases hi : i < s.size
  · obtain ⟨_, h2⟩ := bat_at hi
    have h3 := (s.toList.getD i 0).toNat_lt
    rw [h2, bys]
    simp only [List.map_map, List.getElem?_map, List.getElem?_range hi, Option.map_some, Function.comp]
    rw [bys_wrap hi, u8w (by omega) (by omega)]
    simp
  · rw [List.getElem?_eq_none (by rw [List.length_map, List.length_map, bys_len]; omega), List.getElem?_eq_none (by rw [toL_len]; omega)]
theorem bys_back {l : List Int} (h : ∀ x ∈ l, 0 ≤ x ∧ x < 256) : bys (bytesOf (l.map fun x => IntKind.u8.wrap x)) (bytesOf (l.map fun x => IntKind.u8.wrap x)).size = l := by
  have hs : (bytesOf (l.map fun x => IntKind.u8.wrap x)).size = l.length := by rw [bytesOf_size, List.length_map]
  apply List.ext_getElem?
  intro i
  rw [hs]
  by_cases hi : i < l.length
  · have hi2 : i < (bytesOf (l.map fun x => IntKind.u8.wrap x)).size := by omega
    rw [bys]
    simp only [List.getElem?_map, List.getElem?_range hi, Option.map_some]
    rw [bys_wrap hi2, bytesOf_L]
    have hx := h _ (List.getElem_mem hi)
    rw [List.getD_eq_getElem?_getD]
    simp only [List.map_map, List.getElem?_map, List.getElem?_eq_getElem hi, Option.map_some, Option.getD_some, Function.comp]
    rw [u8w hx.1 hx.2, u8_of (by omega)]
    congr 1
    omega
  · rw [List.getElem?_eq_none (by rw [bys_len]; omega), List.getElem?_eq_none (by omega)]
theorem riseOk_mem : ∀ {l : List Int} {p : Option Int}, riseOk 1 4 p l = true → ∀ x ∈ l, 1 ≤ x ∧ x ≤ 4
  | [], p, _, x, hx => by cases hx
  | y :: r, p, h, x, hx => by
    rw [riseOk_cons] at h
    have hy : inR y 1 4 = true := by
      cases hy : inR y 1 4 with
      | true => rfl
      | false => rw [hy] at h; simp at h
    have hr : riseOk 1 4 (some y) r = true := by
      cases hr : riseOk 1 4 (some y) r with
      | true => rfl
      | false => rw [hr] at h; simp at h
    rcases List.mem_cons.1 hx with rfl | hx
    · simp [inR] at hy; omega
    · exact riseOk_mem hr x hx
theorem confOk_el {l : List Int} (h : confOk l = true) : ∀ x ∈ l, 1 ≤ x ∧ x ≤ 4 := by
  simp only [confOk, Bool.and_eq_true] at h
  exact riseOk_mem h.2
theorem tkS_text (s : scan) (n : Int) : (tkS s n).text = s.text := by unfold tkS; split <;> rfl
theorem nc_sc (c : l05Cur) : (numC c).sc = numS c.sc := rfl
theorem tc_sc (c : l05Cur) (n : Int) : (tkC c n).sc = tkS c.sc n := by
  show (⟨c.text, (tkS c.sc n).at_, (tkS c.sc n).bad⟩ : scan) = _
  have h := tkS_text c.sc n
  rw [show c.text = c.sc.text from rfl, ← h]
def rshW (c : l05Cur) : ByteArray := tkW (numC c) (numW c)
def rshC (c : l05Cur) : l05Cur := tkC (numC c) (numW c)
theorem rsh_rt {c : l05Cur} {d : ByteArray} {r : List UInt8} (h : At c.sc (shL d ++ r)) (hd : d.size ≤ 20000) : rshW c = d ∧ At (rshC c).sc r := by
  rw [shL, List.append_assoc] at h
  obtain ⟨v, a⟩ := numS_rt h (by omega)
  have hn : numW c = (d.size : Int) := v
  obtain ⟨p, q⟩ := tk_rt (n := (d.size : Int)) a (by rw [toL_len])
  refine ⟨?_, ?_⟩
  · rw [rshW, hn]
    show tkV (numC c).sc _ = d
    rw [nc_sc]; exact ba_ext p
  · rw [rshC, hn, tc_sc, nc_sc]; exact q
def entsS : Nat → Int → Nat → l05Cur → List Entry × l05Cur
  | 0, _, _, c => ([], c)
  | f + 1, n, i, c =>
    if (decide ((i : Int) < n) && !c.bad) && decide ((i : Int) ≤ 4) then ((rdEnt (rshW c)).2.1 :: (entsS f n (i + 1) (rshC c)).1, (entsS f n (i + 1) (rshC c)).2)
    else ([], c)
def g1C (t : ByteArray) : l05Cur := tkC ⟨t, 0, false⟩ 3
def g5C (t : ByteArray) : l05Cur := numC (numC (numC (numC (g1C t))))
def g7C (t : ByteArray) : l05Cur := tkC (tkC (g5C t) 1) 1
def sEs (t : ByteArray) : List Entry × l05Cur := entsS 6 (numW (g7C t)) 0 (numC (g7C t))
theorem shV_size {s : scan} (h : s.ok) : (shV s).size ≤ 1048576 := by
  unfold shV scShort
  split
  · show (0 : Nat) ≤ 1048576; omega
  · unfold rdShort
    split
    · simp only []; rw [ByteArray.size_extract]; have := h.2.2; omega
    · show (0 : Nat) ≤ 1048576; omega
theorem tkV_size {s : scan} {n : Int} (h : s.ok) : (tkV s n).size ≤ 1048576 := by
  unfold tkV
  split
  · decide
  · rw [ByteArray.size_extract]; have := h.2.2; omega
theorem numV_pos (s : scan) : 0 ≤ numV s := by
  unfold numV scNum
  split
  · simp
  · rename_i h
    simp at h
    obtain ⟨n, h1, _⟩ := rdVar_ok h.2
    simp only []; omega
theorem numC_ok {c : l05Cur} (h : c.sc.ok) : (numC c).sc.ok := numS_ok h
theorem tkC_ok {c : l05Cur} {n : Int} (h : c.sc.ok) (hn : 0 ≤ n) : (tkC c n).sc.ok := by rw [tc_sc]; exact tkS_ok h hn
theorem numW_pos (c : l05Cur) : 0 ≤ numW c := numV_pos c.sc
theorem rshC_ok {c : l05Cur} (h : c.sc.ok) : (rshC c).sc.ok := tkC_ok (numC_ok h) (numW_pos c)
theorem rshW_size {c : l05Cur} (h : c.sc.ok) : (rshW c).size ≤ 1048576 := tkV_size (s := (numC c).sc) (numC_ok h)
theorem c0_ok {t : ByteArray} (ht : t.size ≤ 1048576) : (l05Cur.sc ⟨t, 0, false⟩).ok := scan.ok0 ht
theorem tkB_w {s : scan} {n : Int} (h : s.ok) : (s.bad || decide (n > IntKind.i64.wrap ((s.text.size : Int) - s.at_))) = tkB s n := by
  have h1 := h.1; have h2 := h.2.1; have h3 := h.2.2
  rw [tkB, wrap_small (by omega) (by omega)]
theorem tk_in {s : scan} {n : Int} (h : s.ok) (hn : 0 ≤ n) (hb : tkB s n = false) : s.at_ + n ≤ s.text.size ∧ s.bad = false ∧ IntKind.i64.wrap (s.at_ + n) = s.at_ + n ∧ IntKind.i64.wrap (IntKind.i64.wrap (s.at_ + n) - n) = s.at_ ∧ 0 ≤ s.at_ := by
  have h1 := h.1; have h2 := h.2.1; have h3 := h.2.2
  simp only [tkB, Bool.or_eq_false_iff, decide_eq_false_iff_not] at hb
  have hw : IntKind.i64.wrap (s.at_ + n) = s.at_ + n := wrap_small (by omega) (by omega)
  refine ⟨by omega, hb.1, hw, ?_, h1⟩
  rw [hw, wrap_small (by omega) (by omega)]; omega
structure EnP (m : Message) (i : Nat) (s : ByteArray) : Prop where
  le : i ≤ m.entries.length
  eq : s = entsB (m.entries.take i) (msgH m)
theorem shB_size {s : ByteArray} (h : s.size ≤ 1048576) : (shB s).size ≤ s.size + 9 := by
  have := varB_len9 (n := s.size) (by omega)
  rw [shB, ByteArray.size_append]; omega
theorem entsB_size : ∀ (es : List Entry) (o : ByteArray), (entsB es o).size ≤ o.size + 209 * es.length
  | [], o => by simp [entsB]
  | e :: r, o => by
    have h1 := entsB_size r (o ++ shB (entT 1 e).1)
    have h2 := entT_size 1 e
    have h3 := shB_size (s := (entT 1 e).1) (by omega)
    have h4 : entsB (e :: r) o = entsB r (o ++ shB (entT 1 e).1) := rfl
    rw [ByteArray.size_append] at h1
    rw [h4, List.length_cons]; omega
structure MSz (m : Message) : Prop where
  e : 0 ≤ m.term_ ∧ m.term_ ≤ 9223372036854775807
  i : 0 ≤ m.index ∧ m.index ≤ 9223372036854775807
  l : 0 ≤ m.logTerm ∧ m.logTerm ≤ 9223372036854775807
  c : 0 ≤ m.commit ∧ m.commit ≤ 9223372036854775807
  n : m.entries.length ≤ 4
  d : m.data.size ≤ 60
  z1 : (varB m.term_.toNat).size ≤ 9
  z2 : (varB m.index.toNat).size ≤ 9
  z3 : (varB m.logTerm.toNat).size ≤ 9
  z4 : (varB m.commit.toNat).size ≤ 9
  z5 : (varB ((m.entries.length : Int)).toNat).size ≤ 9
  z6 : ∀ b, (flagS b).size = 1
  z7 : ∀ a b c : Int, (bytesOf [a, b, c]).size = 3
  h : (msgH m).size ≤ 60
theorem MSz.of {m : Message} (h : msgOk m = true) : MSz m := by
  have hi := MsgIn.of h
  have he := hi.e; have hl := hi.l; have hx := hi.i; have hc := hi.c; have hn := hi.n; have hd := hi.d
  have z6 : ∀ b, (flagS b).size = 1 := fun b => by cases b <;> rfl
  have z7 : ∀ a b c : Int, (bytesOf [a, b, c]).size = 3 := fun a b c => bytesOf_size [a, b, c]
  have y1 := varB_len9 (n := m.term_.toNat) (by omega)
  have y2 := varB_len9 (n := m.index.toNat) (by omega)
  have y3 := varB_len9 (n := m.logTerm.toNat) (by omega)
  have y4 := varB_len9 (n := m.commit.toNat) (by omega)
  have y5 := varB_len9 (n := ((m.entries.length : Int)).toNat) (by omega)
  refine ⟨by omega, by omega, by omega, by omega, hn, hd, y1, y2, y3, y4, y5, z6, z7, ?_⟩
  simp only [msgH, ByteArray.size_append, z6, z7]
  omega
theorem EnP.size {m : Message} {i : Nat} {s : ByteArray} (h : EnP m i s) (hm : MSz m) : s.size ≤ 900 := by
  have h1 := entsB_size (m.entries.take i) (msgH m)
  have h2 := hm.h; have h3 := hm.n
  rw [h.eq]
  have h4 : (m.entries.take i).length ≤ 4 := by rw [List.length_take]; omega
  omega
structure EiP (t : ByteArray) (j : Nat) (s : scan) (es : List Entry) : Prop where
  le : j ≤ cntM t
  ok : s.ok
  len : es.length = j
  eq : entsI (cntM t) (cntMS t) = (entsI (cntM t - j) s).map fun p => (es ++ p.1, p.2)
  all : ∀ e ∈ es, okToEntry e
theorem hd_ok {t : ByteArray} (ht : t.size ≤ 1048576) : (cntMS t).ok := by
  have o3 : (h3S t).ok := oneS_ok (oneS_ok (oneS_ok (scan.ok0 ht)))
  have o7 : (h7S t).ok := numS_ok (numS_ok (numS_ok (numS_ok o3)))
  exact cntS_ok (sgS_ok (sgS_ok o7))
theorem EiP.init {t : ByteArray} (ht : t.size ≤ 1048576) : EiP t 0 (cntMS t) [] := by
  refine ⟨by omega, hd_ok ht, rfl, ?_, by simp⟩
  cases entsI (cntM t) (cntMS t) with
  | none => rfl
  | some p => rfl
theorem EiP.no {t : ByteArray} {j : Nat} {s : scan} {es : List Entry} (h : EiP t j s es) (hj : j < cntM t) (hc : (!(rdEnt (shV s)).2.2 || (rdEnt (shV s)).1 != 1) = true) : rdMsg t = (Message.z, false) := by
  have h1 := h.eq
  rw [show cntM t - j = (cntM t - (j + 1)) + 1 by omega, entsI, if_pos hc] at h1
  unfold rdMsg
  rw [h1]; rfl
theorem EiP.fin {t : ByteArray} {j : Nat} {s : scan} {es : List Entry} (h : EiP t j s es) (hj : cntM t ≤ j) : entsI (cntM t) (cntMS t) = some (es, s) := by
  rw [h.eq, show cntM t - j = 0 by omega, entsI]
  simp
structure SeP (t : ByteArray) (i : Nat) (c : l05Cur) (es : List Entry) : Prop where
  le : i ≤ 5
  ok : c.sc.ok
  len : es.length = i
  eq : sEs t = (es ++ (entsS (6 - i) (numW (g7C t)) i c).1, (entsS (6 - i) (numW (g7C t)) i c).2)
  all : ∀ e ∈ es, okToEntry e
theorem g7_ok {t : ByteArray} (ht : t.size ≤ 1048576) : (g7C t).sc.ok := by
  have o1 : (g1C t).sc.ok := tkC_ok (c0_ok ht) (by omega)
  have o5 : (g5C t).sc.ok := numC_ok (numC_ok (numC_ok (numC_ok o1)))
  exact tkC_ok (tkC_ok o5 (by omega)) (by omega)
theorem SeP.init {t : ByteArray} (ht : t.size ≤ 1048576) : SeP t 0 (numC (g7C t)) [] := ⟨by omega, numC_ok (g7_ok ht), rfl, rfl, by simp⟩
theorem SeP.fin {t : ByteArray} {i : Nat} {c : l05Cur} {es : List Entry} (h : SeP t i c es) (hc : ((decide ((i : Int) < numW (g7C t)) && !c.bad) && decide ((i : Int) ≤ 4)) = false) : sEs t = (es, c) := by
  have h5 := h.le
  rw [h.eq, show 6 - i = (5 - i) + 1 by omega, entsS, if_neg (by rw [hc]; simp)]
  simp
theorem tkW_go {c : l05Cur} {n : Int} (h : c.sc.ok) (hn : 0 ≤ n) (hb : tkB c.sc n = false) : c.text.extract (IntKind.i64.wrap (IntKind.i64.wrap (c.at_ + n) - n)).toNat (IntKind.i64.wrap (c.at_ + n)).toNat = tkW c n := by
  obtain ⟨h1, h2, h3, h4, h5⟩ := tk_in h hn hb
  have h3' : IntKind.i64.wrap (c.at_ + n) = c.at_ + n := h3
  have h4' : IntKind.i64.wrap (IntKind.i64.wrap (c.at_ + n) - n) = c.at_ := h4
  rw [h4', h3']
  simp only [tkW]
  rw [tkV, if_neg (by rw [hb]; simp)]
  rfl
theorem tkC_go {c : l05Cur} {n : Int} (h : c.sc.ok) (hn : 0 ≤ n) (hb : tkB c.sc n = false) : (⟨c.text, IntKind.i64.wrap (c.at_ + n), c.bad⟩ : l05Cur) = tkC c n := by
  obtain ⟨h1, h2, h3, h4, h5⟩ := tk_in h hn hb
  have h3' : IntKind.i64.wrap (c.at_ + n) = c.at_ + n := h3
  rw [h3']
  simp only [tkC]
  rw [tkS, if_neg (by rw [hb]; simp)]
  rfl
theorem tk_sl {c : l05Cur} {n : Int} (h : c.sc.ok) (hn : 0 ≤ n) (hb : tkB c.sc n = false) : 0 ≤ IntKind.i64.wrap (IntKind.i64.wrap (c.at_ + n) - n) ∧ IntKind.i64.wrap (IntKind.i64.wrap (c.at_ + n) - n) ≤ IntKind.i64.wrap (c.at_ + n) ∧ IntKind.i64.wrap (c.at_ + n) ≤ c.text.size := by
  obtain ⟨h1, h2, h3, h4, h5⟩ := tk_in h hn hb
  have h3' : IntKind.i64.wrap (c.at_ + n) = c.at_ + n := h3
  have h4' : IntKind.i64.wrap (IntKind.i64.wrap (c.at_ + n) - n) = c.at_ := h4
  have h1' : c.at_ + n ≤ c.text.size := h1
  have h5' : 0 ≤ c.at_ := h5
  rw [h4', h3']
  omega
theorem readConf_len (s : ByteArray) : (readConf s).1.length ≤ 4 := by
  unfold readConf
  split
  · rename_i h; exact confOk_len h
  · simp
def sumBit (x : Int) : Int := if Int.tmod x 2 == 1 then xorW (IntKind.u32.wrap (Int.tdiv x 2)) 3558460437 else IntKind.u32.wrap (Int.tdiv x 2)
def sumBits : Nat → Int → Int
  | 0, x => x
  | n + 1, x => sumBit (sumBits n x)
def sumN (x : Int) (t : ByteArray) : Nat → Int
  | 0 => x
  | n + 1 => sumBits 8 (xorW (sumN x t n) (IntKind.u32.wrap (bat t n)))
theorem sumB1 {k : Nat} {r s : Int} (h : r = sumBits k s) (ho : (Int.tmod r 2 == 1) = true) : xorW (IntKind.u32.wrap (Int.tdiv r 2)) 3558460437 = sumBits (k + 1) s := by
  rw [sumBits, ← h, sumBit, if_pos ho]
theorem sumB0 {k : Nat} {r s : Int} (h : r = sumBits k s) (ho : (Int.tmod r 2 == 1) = false) : IntKind.u32.wrap (Int.tdiv r 2) = sumBits (k + 1) s := by
  rw [sumBits, ← h, sumBit, if_neg (by rw [ho]; simp)]

def fourN (x : Int) : ByteArray := bytesOf [IntKind.u8.wrap (shrW x 24), IntKind.u8.wrap (shrW x 16), IntKind.u8.wrap (shrW x 8), IntKind.u8.wrap x]
def shN (n : Int) : Nat → Int
  | 0 => n
  | i + 1 => shrI (shN n i) 8
def hf1 (n : Int) (i : Nat) : Int := IntKind.u8.wrap (andI (shN n i) 255)
def hf4 (n : Int) : List Int := [hf1 n 3, hf1 n 2, hf1 n 1, hf1 n 0]
structure HfP (n : Int) (j : Nat) (m : Int) (l : List Int) : Prop where
  j4 : j ≤ 4
  eq : l = List.replicate j 0 ++ (hf4 n).drop j
  sh : m = shN n (4 - j)
theorem HfP.init (n : Int) : HfP n 4 n (List.replicate 4 0) := ⟨Nat.le_refl _, rfl, rfl⟩
theorem HfP.len {n m : Int} {j : Nat} {l : List Int} (h : HfP n j m l) : l.length = 4 := by
  have := h.j4
  rw [h.eq, List.length_append, List.length_replicate, List.length_drop]
  show j + (4 - j) = 4
  omega
theorem HfP.step {n m : Int} {j : Nat} {l : List Int} (h : HfP n j m l) (hj : 0 < j) : HfP n (j - 1) (shrI m 8) (l.set (j - 1) (IntKind.u8.wrap (andI m 255))) := by
  obtain ⟨h1, h2, h3⟩ := h
  subst h2 h3
  match j, hj, h1 with
  | 1, _, _ => exact ⟨by omega, rfl, rfl⟩
  | 2, _, _ => exact ⟨by omega, rfl, rfl⟩
  | 3, _, _ => exact ⟨by omega, rfl, rfl⟩
  | 4, _, _ => exact ⟨by omega, rfl, rfl⟩
theorem HfP.fin {n m : Int} {j : Nat} {l : List Int} (h : HfP n j m l) (hj : ¬ 0 < j) : l = hf4 n := by
  have : j = 0 := by omega
  subst this; rw [h.eq]; rfl
theorem and255 {v : Int} (h0 : 0 ≤ v) (h1 : v < 4611686018427387904) : andI v 255 = v % 256 := by
  have e : (BitVec.ofInt 64 v &&& BitVec.ofInt 64 255).toNat = v.toNat % 256 := by
    rw [BitVec.toNat_and, BitVec.toNat_ofInt]
    have e2 : (BitVec.ofInt 64 255).toNat = 2 ^ 8 - 1 := by rfl
    rw [e2, Nat.and_two_pow_sub_one_eq_mod]
    have : (v % ((2 ^ 64 : Nat) : Int)).toNat = v.toNat := by omega
    rw [this]
  rw [andI, e, IntKind.wrap_i64]; omega
theorem shr8 {v : Int} : shrI v 8 = v / 256 := by
  have : min (8 : Int).toNat 64 = 8 := rfl
  rw [shrI, this, Int.fdiv_eq_ediv_of_nonneg _ (by decide)]; rfl
theorem u8m (v : Int) : IntKind.u8.wrap v = v % 256 := by
  simp only [IntKind.wrap]; simp [IntKind.bits, IntKind.signed]
theorem hf_four {x : Int} (h0 : 0 ≤ x) (h1 : x < 4294967296) : bytesOf (hf4 x) = fourN x := by
  have g8 : shrW x 8 = x / 256 := by rw [shrW, show min (8 : Int).toNat 32 = 8 from rfl, Int.fdiv_eq_ediv_of_nonneg _ (by decide)]; rfl
  have g16 : shrW x 16 = x / 65536 := by rw [shrW, show min (16 : Int).toNat 32 = 16 from rfl, Int.fdiv_eq_ediv_of_nonneg _ (by decide)]; rfl
  have g24 : shrW x 24 = x / 16777216 := by rw [shrW, show min (24 : Int).toNat 32 = 24 from rfl, Int.fdiv_eq_ediv_of_nonneg _ (by decide)]; rfl
  have e0 : hf1 x 0 = IntKind.u8.wrap x := by
    simp only [hf1, shN, u8m]; rw [and255 h0 (by omega)]; omega
  have e1 : hf1 x 1 = IntKind.u8.wrap (shrW x 8) := by
    simp only [hf1, shN, u8m, shr8, g8]; rw [and255 (by omega) (by omega)]; omega
  have e2 : hf1 x 2 = IntKind.u8.wrap (shrW x 16) := by
    simp only [hf1, shN, u8m, shr8, g16]; rw [and255 (by omega) (by omega)]; omega
  have e3 : hf1 x 3 = IntKind.u8.wrap (shrW x 24) := by
    simp only [hf1, shN, u8m, shr8, g24]; rw [and255 (by omega) (by omega)]; omega
  rw [hf4, fourN, e0, e1, e2, e3]

theorem u32m (v : Int) : IntKind.u32.wrap v = v % 4294967296 := by
  simp only [IntKind.wrap]; simp [IntKind.bits, IntKind.signed]
theorem sumBit_in {x : Int} (h : 0 ≤ x ∧ x < 4294967296) : 0 ≤ sumBit x ∧ sumBit x < 4294967296 := by
  rw [sumBit]; split
  · rw [xorW, u32m]; omega
  · rw [u32m]; omega
theorem sumBits_in : ∀ (k : Nat) {x : Int}, 0 ≤ x ∧ x < 4294967296 → 0 ≤ sumBits k x ∧ sumBits k x < 4294967296
  | 0, _, h => h
  | k + 1, _, h => sumBit_in (sumBits_in k h)
theorem sumN_in {x : Int} (h : 0 ≤ x ∧ x < 4294967296) (t : ByteArray) : ∀ n, 0 ≤ sumN x t n ∧ sumN x t n < 4294967296
  | 0 => h
  | n + 1 => sumBits_in 8 (by rw [xorW, u32m]; omega)
def sumT (t : ByteArray) : ByteArray := fourN (sumN 4294967295 t t.size)
theorem sumT_size (t : ByteArray) : (sumT t).size = 4 := bytesOf_size _
theorem sum_wrap (t : ByteArray) : IntKind.i64.wrap (sumN 4294967295 t t.size) = sumN 4294967295 t t.size := by
  have h := sumN_in (x := 4294967295) (by omega) t t.size
  exact wrap_small (by omega) (by omega)
theorem sum_hf (t : ByteArray) : bytesOf (hf4 (IntKind.i64.wrap (sumN 4294967295 t t.size))) = sumT t := by
  have h := sumN_in (x := 4294967295) (by omega) t t.size
  rw [sum_wrap, hf_four h.1 h.2, sumT]
def sealT (t : ByteArray) : ByteArray × Bool := if (t.size : Int) > 20000 then (⟨#[]⟩, false) else (t ++ sumT t, true)
theorem ext_app (t : ByteArray) {n : Nat} (h : n ≤ t.size) : t.extract 0 n ++ t.extract n t.size = t := by
  rw [ByteArray.extract_append_extract, Nat.min_eq_left (Nat.zero_le _), Nat.max_eq_right h, ByteArray.extract_zero_size]
theorem ext_left (a b : ByteArray) : (a ++ b).extract 0 a.size = a := ByteArray.extract_append_eq_left rfl
theorem seal_go {t : ByteArray} (h : t.size ≤ 20000) : sealT t = (t ++ sumT t, true) := by rw [sealT, if_neg (by omega)]
def unsX (t : ByteArray) : ByteArray := t.extract 0 (t.size - 4)
def unsB (t : ByteArray) : Bool := (decide (4 ≤ t.size) && decide (t.size ≤ 20004)) && (unsX t ++ sumT (unsX t)).toList == t.toList
def unsT (t : ByteArray) : ByteArray × Bool := if unsB t then (unsX t, true) else (⟨#[]⟩, false)
theorem uns_yes {t : ByteArray} (h : unsB t = true) : unsT t = (unsX t, true) := by rw [unsT, if_pos h]
theorem uns_no {t : ByteArray} (h : unsB t = false) : unsT t = (⟨#[]⟩, false) := by rw [unsT, if_neg (by rw [h]; simp)]
theorem unsX_size (t : ByteArray) : (unsX t).size = t.size - 4 := by rw [unsX, ByteArray.size_extract]; omega
theorem unsT_size (t : ByteArray) : (unsT t).1.size ≤ 20000 := by
  cases h : unsB t with
  | true =>
    rw [uns_yes h]
    simp only [unsB, Bool.and_eq_true, decide_eq_true_eq] at h
    have := unsX_size t
    show (unsX t).size ≤ 20000; omega
  | false => rw [uns_no h]; show (0 : Nat) ≤ 20000; omega
theorem toL_inj {a b : ByteArray} (h : a.toList = b.toList) : a = b := by
  rw [ByteArray.toList_eq, ByteArray.toList_eq] at h
  exact ByteArray.ext (Array.toList_inj.1 h)
theorem uns_of {t : ByteArray} (h : (unsT t).2 = true) : (unsT t).1 ++ sumT (unsT t).1 = t := by
  cases hb : unsB t with
  | true =>
    rw [uns_yes hb]
    simp only [unsB, Bool.and_eq_true, beq_iff_eq] at hb
    exact toL_inj hb.2
  | false => rw [uns_no hb] at h; cases h
theorem uns_mk {x : ByteArray} (h : x.size ≤ 20000) : unsT (x ++ sumT x) = (x, true) := by
  have h1 := sumT_size x
  have h2 : unsX (x ++ sumT x) = x := by
    have e : (x ++ sumT x).size - 4 = x.size := by rw [ByteArray.size_append]; omega
    rw [unsX, e]; exact ext_left _ _
  have h3 : unsB (x ++ sumT x) = true := by
    simp only [unsB, Bool.and_eq_true, beq_iff_eq, decide_eq_true_eq, h2, ByteArray.size_append]
    simp; omega
  rw [uns_yes h3, h2]
def scU (t : ByteArray) : scan := ⟨(unsT t).1, 0, !(unsT t).2⟩
def s2U (t : ByteArray) : scan := numS (numS (scU t))
def snV (t : ByteArray) : Snap := ⟨numV (scU t), numV (numS (scU t)), (readConf (shV (s2U t))).1, shV (shS (s2U t))⟩
def snC (t : ByteArray) : Bool := ((((!doneB (shS (shS (s2U t)))) || !(readConf (shV (s2U t))).2) || !inR (snV t).index 0 1000000) || !inR (snV t).term_ 0 100000) || decide ((t.size : Int) > 20000)
def rdSnap (t : ByteArray) : Snap × Bool := if snC t then (Snap.z, false) else (snV t, true)
def cuU (t : ByteArray) : l05Cur := ⟨(unsT t).1, 0, !(unsT t).2⟩
def c2U (t : ByteArray) : l05Cur := numC (numC (cuU t))
def snW (t : ByteArray) : Snap := ⟨numW (cuU t), numW (numC (cuU t)), (readConf (rshW (c2U t))).1, rshW (rshC (c2U t))⟩
def snE (s : Snap) : ByteArray := ((varB s.index.toNat ++ varB s.term_.toNat) ++ shB (confText s.conf).1) ++ shB s.body
def snG (s : Snap) : Bool := ((!(confText s.conf).2 || !inR s.index 0 1000000) || !inR s.term_ 0 100000) || decide ((s.body.size : Int) > 20000)
def snTx (s : Snap) : ByteArray × Bool := if snG s then (⟨#[]⟩, false) else if decide (((snE s).size : Int) + 4 > 20000) then (⟨#[]⟩, false) else sealT (snE s)
def snD (t : ByteArray) : Bool := ((rshC (rshC (c2U t))).bad || !(snTx (snW t)).2) || !((snTx (snW t)).1.toList == t.toList)
def rdSnapS (t : ByteArray) : Snap × Bool := if snD t then (Snap.z, false) else (snW t, true)
theorem snE_L (s : Snap) : (snE s).toList = varL s.index.toNat ++ (varL s.term_.toNat ++ (shL (confText s.conf).1 ++ shL s.body)) := by
  simp only [snE, toL_app, varB_L, shB_L, List.append_assoc]
theorem scU_ok (t : ByteArray) : (scU t).ok := by
  have h := unsT_size t
  exact scan.ok0 (t := (unsT t).1) (by omega)
theorem s2U_ok (t : ByteArray) : (s2U t).ok := numS_ok (numS_ok (scU_ok t))
theorem inR_of {n a b : Int} (h : inR n a b = true) : a ≤ n ∧ n ≤ b := by simpa [inR] using h
theorem snG_of {s : Snap} (h : snG s = false) : confOk s.conf = true ∧ (0 ≤ s.index ∧ s.index ≤ 1000000) ∧ (0 ≤ s.term_ ∧ s.term_ ≤ 100000) ∧ s.body.size ≤ 20000 := by
  simp only [snG, Bool.or_eq_false_iff, Bool.not_eq_false', decide_eq_false_iff_not] at h
  refine ⟨?_, inR_of h.1.1.2, inR_of h.1.2, by omega⟩
  have h1 := h.1.1.1
  unfold confText at h1
  split at h1
  · assumption
  · cases h1
theorem snTx_of {s : Snap} {t : ByteArray} (h : snTx s = (t, true)) : snG s = false ∧ (snE s).size + 4 ≤ 20000 ∧ t = snE s ++ sumT (snE s) := by
  unfold snTx at h
  split at h
  · cases h
  rename_i h1
  split at h
  · cases h
  rename_i h2
  simp only [decide_eq_true_eq] at h2
  rw [seal_go (by omega)] at h
  exact ⟨by simpa using h1, by omega, by cases h; rfl⟩
theorem snTx_mk {s : Snap} (h : snG s = false) (hs : (snE s).size + 4 ≤ 20000) : snTx s = (snE s ++ sumT (snE s), true) := by
  rw [snTx, if_neg (by rw [h]; simp), if_neg (by simp only [decide_eq_true_eq]; omega), seal_go (by omega)]
theorem confText_len (a : List Int) : (confText a).1.size ≤ 4 := by
  unfold confText
  split
  · rename_i h; have := confOk_len h; simp only [bytesOf_size, List.length_map]; omega
  · decide
theorem confText_yes {a : List Int} (h : confOk a = true) : confText a = (bytesOf (a.map fun x => IntKind.u8.wrap x), true) := by rw [confText, if_pos h]
theorem conf_rt {a : List Int} (h : confOk a = true) : readConf (confText a).1 = (a, true) := by
  have hb := bys_back (l := a) (fun x hx => by have := confOk_el h x hx; omega)
  rw [confText_yes h, readConf, hb, if_pos h]
theorem conf_snd {s : ByteArray} (h : (readConf s).2 = true) : confText (readConf s).1 = (s, true) := by
  unfold readConf at h ⊢
  split at h
  · rename_i hc; rw [if_pos hc, confText_yes hc, bys_bytes]
  · cases h
theorem rdSnap_sound {t : ByteArray} (h : snC t = false) : snTx (snV t) = (t, true) := by
  simp only [snC, Bool.or_eq_false_iff, Bool.not_eq_false', decide_eq_false_iff_not] at h
  obtain ⟨⟨⟨⟨hd, hc⟩, hi⟩, hk⟩, hz⟩ := h
  have o2 := s2U_ok t
  obtain ⟨b4, l4⟩ := done_good (shS_ok (shS_ok o2)) hd
  obtain ⟨b3, z3, l3⟩ := shS_good b4
  obtain ⟨b2, z2, l2⟩ := shS_good b3
  obtain ⟨b1, n1, v1, _, l1⟩ := numS_good (s := numS (scU t)) b2
  obtain ⟨b0, n0, v0, _, l0⟩ := numS_good b1
  have hu : (unsT t).2 = true := by have : (!(unsT t).2) = false := b0; simpa using this
  have ht := uns_of hu
  have hx : (scU t).left = (unsT t).1.toList := by simp [scan.left, scU]
  have hct := conf_snd hc
  have hG : snG (snV t) = false := by
    simp only [snG, Bool.or_eq_false_iff, Bool.not_eq_false', decide_eq_false_iff_not]
    refine ⟨⟨⟨?_, hi⟩, hk⟩, ?_⟩
    · show (confText (readConf (shV (s2U t))).1).2 = true
      rw [hct]
    · show ¬ ((shV (shS (s2U t))).size : Int) > 20000
      omega
  have hE : snE (snV t) = (unsT t).1 := by
    apply toL_inj
    rw [snE_L, ← hx, l0, l1]
    have e0 : (snV t).index.toNat = n0 := by show (numV (scU t)).toNat = n0; rw [v0]; rfl
    have e1 : (snV t).term_.toNat = n1 := by show (numV (numS (scU t))).toNat = n1; rw [v1]; rfl
    have e2 : (confText (snV t).conf).1 = shV (s2U t) := by show (confText (readConf (shV (s2U t))).1).1 = _; rw [hct]
    have e3 : (numS (numS (scU t))).left = shL (shV (s2U t)) ++ (shL (shV (shS (s2U t))) ++ []) := by
      rw [← l4, ← l3]; exact l2
    rw [e0, e1, e2, e3, List.append_nil]
    rfl
  have hs : (snE (snV t)).size + 4 ≤ 20000 := by
    have h1 := congrArg ByteArray.size ht
    rw [ByteArray.size_append, sumT_size] at h1
    rw [hE]; omega
  rw [snTx_mk hG hs, hE, ht]
theorem snTx_complete {t : ByteArray} {s : Snap} (h : snTx s = (t, true)) : rdSnap t = (s, true) ∧ rdSnapS t = (s, true) := by
  obtain ⟨hG, hz, rfl⟩ := snTx_of h
  obtain ⟨hc, hi, hk, hb⟩ := snG_of hG
  have hu := uns_mk (x := snE s) (by omega)
  have hl := confText_len s.conf
  have hr := conf_rt hc
  have a0 : At (scU (snE s ++ sumT (snE s))) (varL s.index.toNat ++ (varL s.term_.toNat ++ (shL (confText s.conf).1 ++ shL s.body))) := by
    have h1 := at0 (t := snE s) (by omega)
    rw [snE_L] at h1
    rw [scU, hu]; exact h1
  obtain ⟨v0, a1⟩ := numS_rt a0 (by omega)
  obtain ⟨v1, a2⟩ := numS_rt a1 (by omega)
  have i0 : ((s.index.toNat : Nat) : Int) = s.index := by omega
  have i1 : ((s.term_.toNat : Nat) : Int) = s.term_ := by omega
  refine ⟨?_, ?_⟩
  · obtain ⟨v2, a3⟩ := shS_rt (s := s2U (snE s ++ sumT (snE s))) a2 (by omega)
    obtain ⟨v3, a4⟩ := shS_rt (r := []) (by rw [List.append_nil]; exact a3) hb
    have hV : snV (snE s ++ sumT (snE s)) = s := by
      rw [snV, v2, v3, hr, v0, v1, i0, i1]
    have hC : snC (snE s ++ sumT (snE s)) = false := by
      have h4 := done_at a4
      have h5 : inR s.index 0 1000000 = true := by simp [inR]; omega
      have h6 : inR s.term_ 0 100000 = true := by simp [inR]; omega
      have h7 : decide (((snE s ++ sumT (snE s)).size : Int) > 20000) = false := decide_eq_false (by rw [ByteArray.size_append, sumT_size]; omega)
      rw [snC, hV, h4, v2, hr, h5, h6, h7]; rfl
    rw [rdSnap, if_neg (by rw [hC]; simp), hV]
  · obtain ⟨v2, a3⟩ := rsh_rt (c := c2U (snE s ++ sumT (snE s))) a2 (by omega)
    obtain ⟨v3, a4⟩ := rsh_rt (r := []) (by rw [List.append_nil]; exact a3) hb
    have w0 : numW (cuU (snE s ++ sumT (snE s))) = s.index := v0.trans i0
    have w1 : numW (numC (cuU (snE s ++ sumT (snE s)))) = s.term_ := v1.trans i1
    have hW : snW (snE s ++ sumT (snE s)) = s := by
      rw [snW, v2, v3, hr, w0, w1]
    have hb' : (rshC (rshC (c2U (snE s ++ sumT (snE s))))).bad = false := a4.bad
    have hD : snD (snE s ++ sumT (snE s)) = false := by
      rw [snD, hW, h, hb']; simp
    rw [rdSnapS, if_neg (by rw [hD]; simp), hW]
theorem rdSnap_eq (t : ByteArray) : rdSnapS t = rdSnap t := by
  cases hC : snC t with
  | false =>
    have := snTx_complete (rdSnap_sound hC)
    rw [this.1, this.2]
  | true =>
    cases hD : snD t with
    | true => rw [rdSnapS, if_pos hD, rdSnap, if_pos hC]
    | false =>
      have h := hD
      simp only [snD, Bool.or_eq_false_iff, Bool.not_eq_false', beq_iff_eq] at h
      have h1 : snTx (snW t) = (t, true) := Prod.ext (toL_inj h.2) h.1.2
      have h2 := (snTx_complete h1).1
      rw [rdSnap, if_pos hC] at h2
      exact absurd (congrArg Prod.snd h2) (by simp)
theorem decFrom_snoc {l : List UInt8} {acc n d : Nat} {b : UInt8} (h : Lib.decFrom acc l = some n) (hb : Lib.digitVal b = some d) : Lib.decFrom acc (l ++ [b]) = some (n * 10 + d) := by
  have := Lib.decFrom_take (l ++ [b]) l.length acc n b d (by rw [List.take_left]; exact h) (by simp) hb
  rwa [List.take_of_length_le (by simp)] at this
theorem digit_of {d : Nat} (h : d < 10) : Lib.digitVal (UInt8.ofNat (48 + d)) = some d := by
  have e : (UInt8.ofNat (48 + d)).toNat = 48 + d := by rw [UInt8.toNat_ofNat']; omega
  rw [Lib.digitVal, e, if_pos (by omega)]; congr 1; omega
theorem dec_rt (n : Nat) : Lib.decFrom 0 (Lib.decDigits n) = some n := by
  induction n using Nat.strongRecOn with
  | ind n ih =>
    rw [Lib.decDigits]
    split
    · rename_i h
      have := decFrom_snoc (l := []) (acc := 0) (n := 0) rfl (digit_of h)
      simpa using this
    · rename_i h
      have := decFrom_snoc (ih (n / 10) (by omega)) (digit_of (d := n % 10) (by omega))
      rw [this]; congr 1; omega
theorem decDigits_len : ∀ (k n : Nat), n < 10 ^ (k + 1) → (Lib.decDigits n).length ≤ k + 1
  | 0, n, h => by
    rw [Lib.decDigits, dif_pos (by omega)]; exact Nat.le_refl 1
  | k + 1, n, h => by
    rw [Lib.decDigits]
    split
    · simp
    · have := decDigits_len k (n / 10) (by rw [Nat.pow_succ] at h; omega)
      rw [List.length_append]; simp; omega
theorem decDigits_ne (n : Nat) : Lib.decDigits n ≠ [] := by
  intro h
  rw [Lib.decDigits] at h
  split at h <;> simp at h
theorem itoaB_L {n : Int} (h : 0 ≤ n) : (itoaB n).toList = Lib.decDigits n.toNat := by
  rw [itoaB, ByteArray.toList_eq, Lib.itoa, if_neg (by omega)]
theorem itoaB_size {n : Int} (h : 0 ≤ n) (h2 : n ≤ 1000000000) : (itoaB n).size ≤ 10 := by
  rw [← toL_len, itoaB_L h]
  exact decDigits_len 9 _ (by omega)
def isDec (t : ByteArray) (n : Int) : Prop := (0 ≤ n ∧ n ≤ 1000000000) ∧ itoaB n = t
theorem isDec.dec {t : ByteArray} {n : Int} (h : isDec t n) : Lib.decFrom 0 t.toList = some n.toNat := by
  rw [← h.2, itoaB_L h.1.1]; exact dec_rt _
theorem isDec.inj {t : ByteArray} {n m : Int} (h : isDec t n) (h2 : isDec t m) : n = m := by
  have := h.dec.symm.trans h2.dec
  have e := Option.some.inj this
  have a := h.1.1; have b := h2.1.1
  omega
theorem isDec.size {t : ByteArray} {n : Int} (h : isDec t n) : t.size ≤ 10 := by rw [← h.2]; exact itoaB_size h.1.1 h.1.2
open Classical in
noncomputable def rdDec (t : ByteArray) : Int × Bool := if h : ∃ n, isDec t n then (Classical.choose h, true) else (0, false)
theorem rdDec_yes {t : ByteArray} {n : Int} (h : isDec t n) : rdDec t = (n, true) := by
  have hx : ∃ n, isDec t n := ⟨n, h⟩
  rw [rdDec, dif_pos hx]
  have := (Classical.choose_spec hx).inj h
  rw [this]
theorem rdDec_no {t : ByteArray} (h : ∀ n, ¬ isDec t n) : rdDec t = (0, false) := by
  rw [rdDec, dif_neg (fun ⟨n, hn⟩ => h n hn)]
theorem rdDec_of {t : ByteArray} (h : (rdDec t).2 = true) : isDec t (rdDec t).1 := by
  by_cases hx : ∃ n, isDec t n
  · obtain ⟨n, hn⟩ := hx
    rw [rdDec_yes hn]; exact hn
  · rw [rdDec_no (fun n hn => hx ⟨n, hn⟩)] at h; cases h
theorem rdDec_in (t : ByteArray) : 0 ≤ (rdDec t).1 ∧ (rdDec t).1 ≤ 1000000000 := by
  by_cases hx : ∃ n, isDec t n
  · obtain ⟨n, hn⟩ := hx
    rw [rdDec_yes hn]; exact hn.1
  · rw [rdDec_no (fun n hn => hx ⟨n, hn⟩)]; decide
def DecP (t : ByteArray) (i m : Nat) : Prop := i ≤ t.size ∧ Lib.decFrom 0 (t.toList.take i) = some m
theorem DecP.init (t : ByteArray) : DecP t 0 0 := ⟨Nat.zero_le _, rfl⟩
theorem DecP.lt {t : ByteArray} {i m : Nat} (h : DecP t i m) (ht : t.size ≤ 10) : m < 10000000000 := by
  have h1 := Lib.decFrom_lt _ _ _ h.2
  rw [Nat.zero_add, Nat.one_mul] at h1
  have h2 : (t.toList.take i).length ≤ 10 := by rw [List.length_take, toL_len]; omega
  have h3 : 10 ^ (t.toList.take i).length ≤ 10 ^ 10 := Nat.pow_le_pow_right (by decide) h2
  omega
theorem bat_toL {t : ByteArray} {i : Nat} (h : i < t.size) : ∃ b : UInt8, t.toList[i]? = some b ∧ bat t i = (b.toNat : Int) := by
  have h1 := toL_get h
  exact ⟨t[i], h1, by simp [bat, h]⟩
theorem DecP.step {t : ByteArray} {i m : Nat} (h : DecP t i m) (ht : t.size ≤ 10) (hi : i < t.size) (hd : 48 ≤ bat t i ∧ bat t i ≤ 57) : DecP t (i + 1) (m * 10 + (bat t i - 48).toNat) := by
  obtain ⟨b, h1, h2⟩ := bat_toL hi
  refine ⟨hi, Lib.decFrom_take _ _ _ _ b _ h.2 h1 ?_⟩
  rw [Lib.digitVal, if_pos (by omega), h2]; congr 1; omega
theorem DecP.val {t : ByteArray} {i m : Nat} (h : DecP t i m) (ht : t.size ≤ 10) (hi : i < t.size) (hd : 48 ≤ bat t i ∧ bat t i ≤ 57) : IntKind.i64.wrap (IntKind.i64.wrap (IntKind.i64.wrap (10 * (m : Int)) + IntKind.i64.wrap (bat t i)) - 48) = ((m * 10 + (bat t i - 48).toNat : Nat) : Int) := by
  have := h.lt ht
  simp only [IntKind.wrap_i64]; omega
theorem DecP.bad {t : ByteArray} {i m : Nat} (h : DecP t i m) (hi : i < t.size) (hd : ¬ (48 ≤ bat t i ∧ bat t i ≤ 57)) (n : Int) : ¬ isDec t n := fun hn => by
  obtain ⟨b, h1, h2⟩ := bat_toL hi
  obtain ⟨d, hd'⟩ := Lib.digit_of_decFrom _ _ _ hn.dec i b h1
  have := Lib.digitVal_eq hd'
  omega
theorem DecP.all {t : ByteArray} {i m : Nat} (h : DecP t i m) (hi : ¬ i < t.size) {n : Int} (hn : isDec t n) : n = (m : Int) := by
  have e := h.2
  rw [List.take_of_length_le (by rw [toL_len]; omega)] at e
  have := Option.some.inj (hn.dec.symm.trans e)
  have := hn.1.1
  omega
theorem rdd_no {t : ByteArray} {m : Int} (hu : ∀ n, isDec t n → n = m) (h : (decide (m > 1000000000) || !((itoaB m).toList == t.toList)) = true) : rdDec t = (0, false) :=
  rdDec_no fun n hn => by
    have e := hu n hn
    subst e
    rw [hn.2] at h
    have h1 := hn.1.2
    simp at h; omega
theorem rdd_yes {t : ByteArray} {m : Int} (h0 : 0 ≤ m) (h : (decide (m > 1000000000) || !((itoaB m).toList == t.toList)) = false) : rdDec t = (m, true) := by
  simp only [Bool.or_eq_false_iff, decide_eq_false_iff_not, Bool.not_eq_false', beq_iff_eq] at h
  exact rdDec_yes ⟨⟨h0, by omega⟩, toL_inj h.2⟩
theorem isDec.atoi {t : ByteArray} {n : Int} (h : isDec t n) : Lib.atoiAll t.toList = .ok n := by
  have hs := h.size
  have hl : t.toList.length ≤ 18 := by rw [toL_len]; omega
  rw [Lib.atoiAll_short _ hl]
  have hd := h.dec
  have h0 := h.1.1
  have hne : t.toList ≠ [] := by rw [← h.2, itoaB_L h0]; exact decDigits_ne _
  generalize t.toList = l at hd hne
  cases l with
  | nil => exact absurd rfl hne
  | cons b r =>
    obtain ⟨d, hb⟩ := Lib.digit_of_decFrom _ _ _ hd 0 b rfl
    have hv := Lib.digitVal_eq hb
    have h45 : (b == 45) = false := by
      rw [beq_eq_false_iff_ne]; rintro rfl; have : (45 : UInt8).toNat = 45 := rfl; omega
    have h43 : (b == 43) = false := by
      rw [beq_eq_false_iff_ne]; rintro rfl; have : (43 : UInt8).toNat = 43 := rfl; omega
    have hN : Lib.decNat (b :: r) = some n.toNat := by rw [Lib.decNat]; exact hd
    rw [Lib.atoi, h45, h43, hN]
    show Lib.NumEnd.ok ((n.toNat : Nat) : Int) = _
    congr 1; omega
theorem AtR.in_ {t : ByteArray} (y : AtR t) : y.e = .nilIface ∨ ∃ te pe, y.e = .iface te pe := y.h.elim (fun h => .inl h.1) (fun h => .inr h.1)
theorem AtR.nil {t : ByteArray} (y : AtR t) (h : isNil y.e = true) {n : Int} (hn : isDec t n) : n = y.v := by
  rcases y.h with ⟨_, h2⟩ | ⟨⟨te, pe, h1⟩, _⟩
  · have := hn.atoi.symm.trans h2
    cases this; rfl
  · rw [h1] at h; cases h
theorem AtR.no {t : ByteArray} (y : AtR t) (h : isNil y.e = false) (n : Int) : ¬ isDec t n := fun hn => by
  rcases y.h with ⟨h1, _⟩ | ⟨_, h2⟩
  · rw [h1] at h; cases h
  · exact h2 n hn.atoi
theorem rda_no {t : ByteArray} (y : AtR t) (h : ((!isNil y.e || !inR y.v 0 1000000000) || !((itoaB y.v).toList == t.toList)) = true) : rdDec t = (0, false) :=
  rdDec_no fun n hn => by
    cases hi : isNil y.e with
    | false => exact y.no hi n hn
    | true =>
      have e := y.nil hi hn
      rw [hi, ← e, hn.2] at h
      have h1 := hn.1
      simp [inR] at h; omega
theorem rda_yes {t : ByteArray} (y : AtR t) (h : ((!isNil y.e || !inR y.v 0 1000000000) || !((itoaB y.v).toList == t.toList)) = false) : rdDec t = (y.v, true) := by
  simp only [Bool.or_eq_false_iff, Bool.not_eq_false', beq_iff_eq] at h
  exact rdDec_yes ⟨inR_of h.1.2, toL_inj h.2⟩
def sB : ByteArray := ⟨#[115]⟩
def snNm (n : Int) : ByteArray := if inR n 0 1000000 then sB ++ itoaB n else ⟨#[]⟩
def nmT (t : ByteArray) : ByteArray := t.extract 1 t.size
noncomputable def snI (t : ByteArray) : Bool := ((decide (2 ≤ t.size) && (t.extract 0 1).toList == sB.toList) && (rdDec (nmT t)).2) && decide ((rdDec (nmT t)).1 ≤ 1000000)
noncomputable def snIx (t : ByteArray) : Int := if snI t then (rdDec (nmT t)).1 else -1
theorem snIx_yes {t : ByteArray} (h : snI t = true) : snIx t = (rdDec (nmT t)).1 := by rw [snIx, if_pos h]
theorem snIx_no {t : ByteArray} (h : snI t = false) : snIx t = -1 := by rw [snIx, if_neg (by rw [h]; simp)]
theorem nm_no1 {t : ByteArray} (h : (decide ((t.size : Int) < 2) || !((t.extract 0 1).toList == sB.toList)) = true) : snIx t = -1 := by
  apply snIx_no
  simp only [Bool.or_eq_true, decide_eq_true_eq, Bool.not_eq_true'] at h
  rcases h with h | h
  · have : decide (2 ≤ t.size) = false := decide_eq_false (by omega)
    simp [snI, this]
  · simp [snI, h]
theorem nm_2 {t : ByteArray} (h : (decide ((t.size : Int) < 2) || !((t.extract 0 1).toList == sB.toList)) = false) : 2 ≤ t.size ∧ ((t.extract 0 1).toList == sB.toList) = true := by
  simp only [Bool.or_eq_false_iff, decide_eq_false_iff_not, Bool.not_eq_false'] at h
  exact ⟨by omega, h.2⟩
theorem nm_no2 {t : ByteArray} (h : (!(rdDec (nmT t)).2 || decide ((rdDec (nmT t)).1 > 1000000)) = true) : snIx t = -1 := by
  apply snIx_no
  simp only [Bool.or_eq_true, decide_eq_true_eq, Bool.not_eq_true'] at h
  rcases h with h | h
  · simp [snI, h]
  · have : decide ((rdDec (nmT t)).1 ≤ 1000000) = false := decide_eq_false (by omega)
    simp [snI, this]
theorem nm_yes {t : ByteArray} (h2 : 2 ≤ t.size ∧ ((t.extract 0 1).toList == sB.toList) = true) (h : (!(rdDec (nmT t)).2 || decide ((rdDec (nmT t)).1 > 1000000)) = false) : snIx t = (rdDec (nmT t)).1 := by
  apply snIx_yes
  simp only [Bool.or_eq_false_iff, decide_eq_false_iff_not, Bool.not_eq_false'] at h
  simp only [snI, Bool.and_eq_true, decide_eq_true_eq]
  exact ⟨⟨⟨h2.1, h2.2⟩, h.1⟩, by omega⟩
theorem nm_nm {t : ByteArray} (h2 : 2 ≤ t.size) (hd : (rdDec (nmT t)).2 = true) : ((snNm (rdDec (nmT t)).1).toList == t.toList) = (((t.extract 0 1).toList == sB.toList) && decide ((rdDec (nmT t)).1 ≤ 1000000)) := by
  have hx := rdDec_of hd
  have h0 := hx.1
  have ht := ext_app t (n := 1) (by omega)
  have hl : (t.extract 0 1).toList.length = 1 := by rw [toL_len, ByteArray.size_extract]; omega
  by_cases hm : (rdDec (nmT t)).1 ≤ 1000000
  · have e : snNm (rdDec (nmT t)).1 = sB ++ nmT t := by
      rw [snNm, if_pos (by simp [inR]; omega)]
      congr 1; exact hx.2
    rw [e, decide_eq_true hm, Bool.and_true]
    have e2 : t.toList = (t.extract 0 1).toList ++ (nmT t).toList := by rw [← toL_app]; exact (congrArg ByteArray.toList ht).symm
    rw [toL_app, e2]
    rw [Bool.eq_iff_iff, beq_iff_eq, beq_iff_eq]
    constructor
    · intro h; exact (List.append_cancel_right h).symm
    · intro h; rw [h]
  · have e : snNm (rdDec (nmT t)).1 = ⟨#[]⟩ := by rw [snNm, if_neg (by simp [inR]; omega)]
    rw [e, decide_eq_false hm, Bool.and_false]
    rw [beq_eq_false_iff_ne]
    intro h
    have := congrArg List.length h
    rw [toL_len, toL_len] at this
    have h3 : (⟨#[]⟩ : ByteArray).size = 0 := rfl
    omega
theorem ns_no1 {t : ByteArray} (h : decide ((t.size : Int) < 2) = true) : snIx t = -1 := by
  apply snIx_no
  have : decide (2 ≤ t.size) = false := decide_eq_false (by have := of_decide_eq_true h; omega)
  simp [snI, this]
theorem ns_2 {t : ByteArray} (h : decide ((t.size : Int) < 2) = false) : 2 ≤ t.size := by have := of_decide_eq_false h; omega
theorem ns_no2 {t : ByteArray} (h2 : 2 ≤ t.size) (h : (!(rdDec (nmT t)).2 || !((snNm (rdDec (nmT t)).1).toList == t.toList)) = true) : snIx t = -1 := by
  cases hd : (rdDec (nmT t)).2 with
  | false => exact snIx_no (by simp [snI, hd])
  | true =>
    rw [hd, nm_nm h2 hd] at h
    apply snIx_no
    simp only [snI, hd, Bool.and_true]
    cases h3 : (t.extract 0 1).toList == sB.toList with
    | false => simp
    | true =>
      rw [h3] at h
      simp at h
      have : decide ((rdDec (nmT t)).1 ≤ 1000000) = false := decide_eq_false (by omega)
      simp [this]
theorem ns_yes {t : ByteArray} (h2 : 2 ≤ t.size) (h : (!(rdDec (nmT t)).2 || !((snNm (rdDec (nmT t)).1).toList == t.toList)) = false) : snIx t = (rdDec (nmT t)).1 := by
  simp only [Bool.or_eq_false_iff, Bool.not_eq_false'] at h
  rw [nm_nm h2 h.1] at h
  simp only [Bool.and_eq_true] at h
  apply snIx_yes
  simp only [snI, Bool.and_eq_true]
  exact ⟨⟨⟨decide_eq_true h2, h.2.1⟩, h.1⟩, h.2.2⟩
def fileOk (f : File) : Bool := (inR (f.name.size : Int) 1 8 && decide ((f.text.size : Int) ≤ 20000)) && inR f.kept 0 (f.text.size : Int)
def fileF : Option ByteArray → List File → Bool
  | _, [] => true
  | p, f :: r => if !fileOk f || prevS p f.name then false else fileF (some f.name) r
def diskOk (d : Disk) : Bool := fileF none d.files && decide ((d.files.length : Int) ≤ 30)
noncomputable def bstStep (b : Snap) (f : File) : Snap := if ((decide (snIx f.name ≥ 0) && (rdSnap f.text).2) && (rdSnap f.text).1.index == snIx f.name) && decide (snIx f.name > b.index) then (rdSnap f.text).1 else b
def bst0 : Snap := ⟨-1, 0, [], ⟨#[]⟩⟩
noncomputable def bst (l : List File) : Snap := l.foldl bstStep bst0
theorem bst_snoc {l : List File} {i : Nat} {e : File} (h : l[i]? = some e) : bst (l.take (i + 1)) = bstStep (bst (l.take i)) e := by
  rw [take_snoc h, bst, List.foldl_append]; rfl
noncomputable def newest (d : Disk) : Snap × Bool := if diskOk d && decide ((bst d.files).index ≥ 0) then (bst d.files, true) else (Snap.z, false)
theorem uns_lo {t : ByteArray} (h : ¬ 4 ≤ t.size) : unsT t = (⟨#[]⟩, false) := uns_no (by simp [unsB, h])
theorem uns_n {t : ByteArray} (hsz : IntKind.i64.wrap ((t.size : Int) - 4) = (t.size : Int) - 4) : (IntKind.i64.wrap ((t.size : Int) - 4)).toNat = t.size - 4 := by rw [hsz]; omega
theorem uns_i {t : ByteArray} (h4 : 4 ≤ t.size) (hsz : IntKind.i64.wrap ((t.size : Int) - 4) = (t.size : Int) - 4) :
    unsT t = if ((!(sealT (t.extract (0 : Int).toNat (IntKind.i64.wrap ((t.size : Int) - 4)).toNat)).2) || (!((sealT (t.extract (0 : Int).toNat (IntKind.i64.wrap ((t.size : Int) - 4)).toNat)).1.toList == t.toList))) = true then (⟨#[]⟩, false) else (t.extract (0 : Int).toNat (IntKind.i64.wrap ((t.size : Int) - 4)).toNat, true) := by
  rw [uns_n hsz]
  show unsT t = if ((!(sealT (unsX t)).2) || (!((sealT (unsX t)).1.toList == t.toList))) = true then (⟨#[]⟩, false) else (unsX t, true)
  have hs := unsX_size t
  by_cases hb : t.size ≤ 20004
  · rw [seal_go (by omega)]
    cases he : (unsX t ++ sumT (unsX t)).toList == t.toList with
    | true => rw [uns_yes (by simp [unsB, h4, hb, he])]; simp
    | false => rw [uns_no (by simp [unsB, he])]; simp
  · have e : sealT (unsX t) = (⟨#[]⟩, false) := by rw [sealT, if_pos (by omega)]
    rw [uns_no (by simp [unsB, hb]), e]; simp
theorem uns_s {t : ByteArray} (hsz : IntKind.i64.wrap ((t.size : Int) - 4) = (t.size : Int) - 4) :
    unsT t = if ((decide ((IntKind.i64.wrap ((t.size : Int) - 4)) < 0) || decide ((IntKind.i64.wrap ((t.size : Int) - 4)) > 20000)) || (!((t.extract (IntKind.i64.wrap ((t.size : Int) - 4)).toNat (t.size : Int).toNat).toList == (fourN (sumN 4294967295 (t.extract (0 : Int).toNat (IntKind.i64.wrap ((t.size : Int) - 4)).toNat) (t.extract (0 : Int).toNat (IntKind.i64.wrap ((t.size : Int) - 4)).toNat).size)).toList))) = true then (⟨#[]⟩, false) else (t.extract (0 : Int).toNat (IntKind.i64.wrap ((t.size : Int) - 4)).toNat, true) := by
  rw [uns_n hsz, hsz]
  show unsT t = if ((decide (((t.size : Int) - 4) < 0) || decide (((t.size : Int) - 4) > 20000)) || (!((t.extract (t.size - 4) t.size).toList == (sumT (unsX t)).toList))) = true then (⟨#[]⟩, false) else (unsX t, true)
  by_cases h4 : 4 ≤ t.size
  · have d1 : decide (((t.size : Int) - 4) < 0) = false := decide_eq_false (by omega)
    have ht := ext_app t (n := t.size - 4) (by omega)
    have he : ((unsX t ++ sumT (unsX t)).toList == t.toList) = ((t.extract (t.size - 4) t.size).toList == (sumT (unsX t)).toList) := by
      have e2 : t.toList = (unsX t).toList ++ (t.extract (t.size - 4) t.size).toList := by rw [← toL_app]; exact (congrArg ByteArray.toList ht).symm
      rw [toL_app, e2, Bool.eq_iff_iff, beq_iff_eq, beq_iff_eq]
      constructor
      · intro h; exact (List.append_cancel_left h).symm
      · intro h; rw [h]
    by_cases hb : t.size ≤ 20004
    · have d2 : decide (((t.size : Int) - 4) > 20000) = false := decide_eq_false (by omega)
      rw [d1, d2, ← he]
      cases hq : (unsX t ++ sumT (unsX t)).toList == t.toList with
      | true => rw [uns_yes (by simp [unsB, h4, hb, hq])]; simp
      | false => rw [uns_no (by simp [unsB, hq])]; simp
    · have d2 : decide (((t.size : Int) - 4) > 20000) = true := decide_eq_true (by omega)
      rw [uns_no (by simp [unsB, hb]), d2]; simp
  · have d1 : decide (((t.size : Int) - 4) < 0) = true := decide_eq_true (by omega)
    rw [uns_lo h4, d1]; simp
theorem dig_no {x : Int} (h : (decide (x < 48) || decide (x > 57)) = true) : ¬ (48 ≤ x ∧ x ≤ 57) := by simp at h; omega
theorem dig_yes {x : Int} (h : (decide (x < 48) || decide (x > 57)) = false) : 48 ≤ x ∧ x ≤ 57 := by simp at h; omega
theorem uns_g {t : ByteArray} (hsz : IntKind.i64.wrap ((t.size : Int) - 4) = (t.size : Int) - 4) (h : (decide ((IntKind.i64.wrap ((t.size : Int) - 4)) < 0) || decide ((IntKind.i64.wrap ((t.size : Int) - 4)) > 20000)) = false) : 4 ≤ t.size := by
  rw [hsz] at h; simp at h; omega
theorem uns_4 {t : ByteArray} {q : Bool} (hsz : IntKind.i64.wrap ((t.size : Int) - 4) = (t.size : Int) - 4) (h : ((decide ((IntKind.i64.wrap ((t.size : Int) - 4)) < 0) || decide ((IntKind.i64.wrap ((t.size : Int) - 4)) > 20000)) || q) = false) : 4 ≤ t.size := uns_g hsz (Bool.or_eq_false_iff.1 h).1
theorem snE_size {x : Snap} (h : snG x = false) : (snE x).size ≤ 30000 := by
  have h9 := snG_of h
  have hk := confText_len x.conf
  have h7 := varB_len9 (n := x.index.toNat) (by omega)
  have h6 := varB_len9 (n := x.term_.toNat) (by omega)
  have h5 := varB_len9 (n := (confText x.conf).1.size) (by omega)
  have h4 := varB_len9 (n := x.body.size) (by omega)
  simp only [snE, shB, ByteArray.size_append]; omega
theorem snSz {x : Snap} (h : snG x = false) (hb : decide (IntKind.i64.wrap (((snE x).size : Int) + 4) > 20000) = true) : decide (((snE x).size : Int) + 4 > 20000) = true := by
  have h9 := snE_size h
  rw [wrap_small (by omega) (by omega)] at hb; exact hb
theorem snSz2 {x : Snap} (h : snG x = false) (hb : decide (IntKind.i64.wrap (((snE x).size : Int) + 4) > 20000) = false) : ¬ decide (((snE x).size : Int) + 4 > 20000) = true := by
  have h9 := snE_size h
  rw [wrap_small (by omega) (by omega)] at hb; rw [hb]; simp
theorem uns_h {t : ByteArray} (hsz : IntKind.i64.wrap ((t.size : Int) - 4) = (t.size : Int) - 4) (h : decide ((IntKind.i64.wrap ((t.size : Int) - 4)) < 0) = false) : 4 ≤ t.size := by
  rw [hsz] at h; simp at h; omega
def BsP (d : Disk) (i : Nat) (b : Snap) : Prop := i ≤ d.files.length ∧ b = bst (d.files.take i) ∧ (i = 0 ∨ diskOk d = true)
theorem BsP.init (d : Disk) : BsP d 0 bst0 := ⟨Nat.zero_le _, rfl, .inl rfl⟩
theorem BsP.y {d : Disk} {i : Nat} {b : Snap} {f : File} (h : BsP d i b) (hf : d.files[i]? = some f) (hd : diskOk d = true) (hc : (((decide (snIx f.name ≥ 0) && (rdSnap f.text).2) && (rdSnap f.text).1.index == snIx f.name) && decide (snIx f.name > b.index)) = true) : BsP d (i + 1) (rdSnap f.text).1 := by
  refine ⟨(List.getElem?_eq_some_iff.1 hf).1, ?_, .inr hd⟩
  rw [bst_snoc hf, ← h.2.1, bstStep, if_pos hc]
theorem BsP.n {d : Disk} {i : Nat} {b : Snap} {f : File} (h : BsP d i b) (hf : d.files[i]? = some f) (hd : diskOk d = true) (hc : (((decide (snIx f.name ≥ 0) && (rdSnap f.text).2) && (rdSnap f.text).1.index == snIx f.name) && decide (snIx f.name > b.index)) = false) : BsP d (i + 1) b := by
  refine ⟨(List.getElem?_eq_some_iff.1 hf).1, ?_, .inr hd⟩
  rw [bst_snoc hf, ← h.2.1, bstStep, if_neg (by rw [hc]; simp)]
theorem BsP.no {d : Disk} {i : Nat} {b : Snap} (h : BsP d i b) (hx : (decide ((i : Int) < (d.files.length : Int)) && diskOk d) = false) (hb : decide (b.index < 0) = true) : newest d = (Snap.z, false) := by
  cases hd : diskOk d with
  | false => rw [newest, hd, Bool.false_and, if_neg (by simp)]
  | true =>
    rw [hd, Bool.and_true, decide_eq_false_iff_not] at hx
    have e : d.files.take i = d.files := List.take_of_length_le (by omega)
    have hb2 := h.2.1
    rw [e] at hb2
    have hn : decide ((bst d.files).index ≥ 0) = false := decide_eq_false (by rw [← hb2]; have := of_decide_eq_true hb; omega)
    rw [newest, hn, Bool.and_false, if_neg (by simp)]
theorem BsP.yes {d : Disk} {i : Nat} {b : Snap} (h : BsP d i b) (hx : (decide ((i : Int) < (d.files.length : Int)) && diskOk d) = false) (hb : decide (b.index < 0) = false) : newest d = (b, true) := by
  cases hd : diskOk d with
  | false =>
    rcases h.2.2 with h0 | h0
    · subst h0
      have := h.2.1
      have e : bst (d.files.take 0) = bst0 := rfl
      rw [this, e] at hb; exact absurd hb (by decide)
    · rw [hd] at h0; cases h0
  | true =>
    rw [hd, Bool.and_true, decide_eq_false_iff_not] at hx
    have e : d.files.take i = d.files := List.take_of_length_le (by omega)
    have hb2 := h.2.1
    rw [e] at hb2
    have hn : decide ((bst d.files).index ≥ 0) = true := decide_eq_true (by rw [← hb2]; have := of_decide_eq_false hb; omega)
    rw [newest, hd, hn, ← hb2, if_pos (by simp)]
theorem newest_bad {d : Disk} (h : diskOk d = false) : newest d = (Snap.z, false) := by rw [newest, h, Bool.false_and, if_neg (by simp)]
theorem mkI_cnt (x k : Int) (h0 : 0 ≤ k) (h1 : k + (1 : Nat) ≤ 4611686018427387904) : (mkI x k).2 = k + (1 : Nat) := by
  simp only [mkI, inc, IntKind.wrap_i64]; omega
theorem hdI_mk (x k : Int) : hdI (mkI x k).1 k = some (mkI x k).2 := by simp [hdI, mkI]
theorem hdN_some {α : Type} {f : α → Int → Option Int} {x : α} {k k' : Int} (h : f x k = some k') (hp : 0 ≤ k') : hdN f x k = some k' := by
  simp only [hdN, h]
  exact if_neg (by omega)
theorem mkL_le5 {α : Type} {f : α → Int → α × Int} (c : Nat) (hc : c ≤ 4) (hf : ∀ (x : α) (k : Int), 0 ≤ k → k + c ≤ 4611686018427387904 → (f x k).2 = k + c) (l : List α) (hl : l.length ≤ 1048576) {k : Int} (h0 : 0 ≤ k) (h1 : k ≤ 1000000000000) : 0 ≤ (mkL f l k).2 ∧ (mkL f l k).2 ≤ k + 5000000 := by
  have h2 : c * l.length ≤ 4 * 1048576 := Nat.mul_le_mul hc hl
  have := mkL_cnt c hf l k h0 (by omega)
  omega
theorem mkVLog_lq {x : Log} (h : okToLog x) {k : Int} (h0 : 0 ≤ k) (h1 : k ≤ 1000000000000) : 0 ≤ (mkVLog x k).2 ∧ (mkVLog x k).2 ≤ k + 5000000 := mkL_le5 3 (by decide) (fun x k => mkEEntry_cnt x k) x.entries h.1 h0 h1
theorem mkVNode_lq {x : Node} (h : okToNode x) {k : Int} (h0 : 0 ≤ k) (h1 : k ≤ 100000000000) : 0 ≤ (mkVNode x k).2 ∧ (mkVNode x k).2 ≤ k + 20000000 := by
  obtain ⟨a, b, c, d⟩ := h
  have q1 := mkL_le5 1 (by decide) mkI_cnt x.conf a.1 h0 (by omega)
  have q2 := mkVLog_lq b q1.1 (by omega)
  have q3 := mkL_le5 1 (by decide) mkI_cnt x.votes c.1 q2.1 (by omega)
  have q4 := mkL_le5 4 (by decide) (fun x k => mkEPeer_cnt x k) x.peers d.1 q3.1 (by omega)
  simp only [mkVNode]; omega
theorem mkVServer_pos {a : Server} (h : okToServer a) : 0 ≤ (mkVServer a 1).2 := by
  obtain ⟨hn, hd, hj, hk, _⟩ := h
  have q1 := mkVNode_lq hn (k := 1) (by omega) (by omega)
  have q2 := mkL_le5 3 (by decide) (fun x k => mkEFile_cnt x k) a.disk.files hd.1 q1.1 (by omega)
  have q3 := mkVLog_lq (x := a.journal.log) hj q2.1 (by omega)
  have q4 := mkL_le5 3 (by decide) (fun x k => mkESession_cnt x k) a.keep.sessions hk.1.1 q3.1 (by omega)
  have q5 := mkL_le5 3 (by decide) (fun x k => mkEItem_cnt x k) a.keep.items hk.2.1 q4.1 (by omega)
  exact q5.1
theorem mkVSnap_facts {x : Snap} (l1 : x.conf.length ≤ 1048576) : 0 ≤ (mkVSnap x 1).2 ∧ (hdVSnap (mkVSnap x 1).1 1).getD (-1) = (mkVSnap x 1).2 := by
  have c1 := mkL_cnt 1 (fun x k => mkI_cnt x k) x.conf 1 (by omega) (by omega)
  refine ⟨by simp only [mkVSnap]; omega, ?_⟩
  have e1 := hdN_some (hdL_mk hdI_mk x.conf 1) (by omega)
  simp only [hdVSnap, mkVSnap, e1]
  rfl
theorem rdSnap_conf (t : ByteArray) : (rdSnap t).1.conf.length ≤ 4 := by
  unfold rdSnap; split
  · exact Nat.zero_le 4
  · exact readConf_len _
theorem bst_conf : ∀ (l : List File) (b : Snap), b.conf.length ≤ 4 → (l.foldl bstStep b).conf.length ≤ 4
  | [], _, h => h
  | f :: r, b, h => by
    rw [List.foldl_cons]
    refine bst_conf r _ ?_
    unfold bstStep; split
    · exact rdSnap_conf _
    · exact h
theorem newest_conf (d : Disk) : (newest d).1.conf.length ≤ 1048576 := by
  unfold newest; split
  · exact Nat.le_trans (bst_conf d.files bst0 (Nat.zero_le 4)) (by decide)
  · exact Nat.zero_le _
end Go.Proofs.YtmhnehgpmndiiaaGreatDoor.Y
