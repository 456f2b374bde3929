import Derived.Test.YtbiocicogminlaaEng16
import Derived.Test.YtbiocicogminlaaEng27
import Derived.Laws.Strings
namespace Go.Proofs.Ytbiocicogminlaa.Y
open Go Go.RowKit Go.Eng

def szL {α : Type} (f : α → Int → Int) : List α → Int → Int
  | [], l => l
  | x :: r, l => if f x l < 0 then -1 else szL f r (f x l)
def szS {α : Type} (f : α → Int → Int) (a : List α) (left : Int) : Int :=
  if IntKind.i64.wrap (left - a.length) < 0 then -1 else szL f a (IntKind.i64.wrap (left - a.length))
def szI {α : Type} (a : List α) (left : Int) : Int :=
  if IntKind.i64.wrap (left - a.length) < 0 then -1 else IntKind.i64.wrap (left - a.length)
def szStr (s : ByteArray) (left : Int) : Int := IntKind.i64.wrap (left - s.size)
def okSl {α : Type} (ok : α → Prop) (l : List α) : Prop := l.length ≤ 1048576 ∧ ∀ x ∈ l, ok x
def eqI (x y : Int) : Bool := x == y
theorem eqI_refl (x : Int) : eqI x x = true := by simp [eqI]
def eqB (x y : Bool) : Bool := x == y
theorem eqB_refl (x : Bool) : eqB x x = true := by simp [eqB]
def eqStr (x y : ByteArray) : Bool := x.toList == y.toList
theorem eqStr_refl (x : ByteArray) : eqStr x x = true := by simp [eqStr]
def eqS {α : Type} (f : α → α → Bool) : List α → List α → Bool
  | [], [] => true
  | x :: r, y :: s => if f x y then eqS f r s else false
  | _, _ => false
theorem eqS_refl {α : Type} {f : α → α → Bool} (h : ∀ x, f x x = true) : ∀ a : List α, eqS f a a = true
  | [] => rfl
  | x :: r => by rw [eqS, h x, if_pos rfl, eqS_refl h r]
theorem szS_len {α : Type} {f : α → Int → Int} {a : List α} (hl : a.length ≤ maxLen) (h : 0 ≤ szS f a 1048576) : a.length ≤ 1048576 := by
  unfold szS at h
  split at h
  · omega
  · rename_i h2
    rw [IntKind.wrap_i64] at h2
    simp only [maxLen] at hl
    omega
theorem eqS_ne {α : Type} {f : α → α → Bool} : ∀ {a b : List α}, a.length ≠ b.length → eqS f a b = false
  | [], [], h => absurd rfl h
  | [], _ :: _, _ => rfl
  | _ :: _, [], _ => rfl
  | x :: r, y :: s, h => by
    simp only [eqS]
    rw [eqS_ne (by simpa using h)]
    simp
def pairs {α : Type} (bad : α → α → Bool) : List α → List α → Bool
  | _, [] => true
  | pre, x :: r => if pre.any (bad x) then false else pairs bad (pre ++ [x]) r
def pairsW {α : Type} (bad : α → α → Bool) (a : List α) : List α → Bool
  | [] => true
  | x :: r => if a.any (bad x) then false else pairsW bad a r
theorem take_snoc {α : Type} {l : List α} {i : Nat} {e : α} (h : l[i]? = some e) : l.take (i + 1) = l.take i ++ [e] := by
  obtain ⟨h1, h2⟩ := List.getElem?_eq_some_iff.1 h
  rw [List.take_succ_eq_append_getElem h1, h2]
/-- What is sized without falling under zero is short enough, and lowers the count. -/
def SzOk {α : Type} (f : α → Int → Int) (fit ok : α → Prop) : Prop := ∀ x l, fit x → 0 ≤ l → l ≤ 1048576 → 0 ≤ f x l → ok x ∧ f x l ≤ l
theorem wrapSub {n : Nat} {l : Int} (hn : n ≤ maxLen) (h0 : 0 ≤ l) (h1 : l ≤ 1048576) : IntKind.i64.wrap (l - n) = l - n := by
  rw [IntKind.wrap_i64]
  simp only [maxLen] at hn
  omega
def okStr (s : ByteArray) : Prop := s.size ≤ 1048576
theorem szStr_ok : SzOk szStr okS okStr := by
  intro s l hk h0 h1 hs
  unfold szStr at hs ⊢
  rw [wrapSub hk h0 h1] at hs ⊢
  exact ⟨by unfold okStr; omega, by omega⟩
theorem szI_ok {α : Type} {fit : α → Prop} : SzOk (szI : List α → Int → Int) (okL fit) (okSl (fun _ => True)) := by
  intro a l hk h0 h1 hs
  unfold szI at hs ⊢
  rw [wrapSub hk.1 h0 h1] at hs ⊢
  split at hs
  · omega
  · rename_i hc
    rw [if_neg hc]
    exact ⟨⟨by omega, fun _ _ => trivial⟩, by omega⟩
theorem szL_ok {α : Type} {f : α → Int → Int} {fit ok : α → Prop} (h : SzOk f fit ok) : ∀ (a : List α) (l : Int), (∀ x ∈ a, fit x) → 0 ≤ l → l ≤ 1048576 → 0 ≤ szL f a l → (∀ x ∈ a, ok x) ∧ szL f a l ≤ l
  | [], l, _, _, _, _ => ⟨by simp, by simp [szL]⟩
  | x :: r, l, hf, h0, h1, hs => by
    simp only [szL] at hs ⊢
    split at hs
    · omega
    · rename_i hc
      rw [if_neg hc]
      have p := h x l (hf x (by simp)) h0 h1 (by omega)
      have q := szL_ok h r (f x l) (fun y hy => hf y (by simp [hy])) (by omega) (by omega) hs
      refine ⟨fun y hy => ?_, by omega⟩
      rcases List.mem_cons.1 hy with rfl | hy
      · exact p.1
      · exact q.1 y hy
theorem szS_ok {α : Type} {f : α → Int → Int} {fit ok : α → Prop} (h : SzOk f fit ok) : SzOk (szS f) (okL fit) (okSl ok) := by
  intro a l hk h0 h1 hs
  unfold szS at hs ⊢
  rw [wrapSub hk.1 h0 h1] at hs ⊢
  split at hs
  · omega
  · rename_i hc
    rw [if_neg hc]
    have p := szL_ok h a (l - a.length) hk.2 (by omega) (by omega) hs
    exact ⟨⟨by omega, p.1⟩, by omega⟩
/-! ### marks -/
theorem wrap_le (x : Int) : IntKind.i64.wrap x ≤ 9223372036854775807 := by
  rw [IntKind.wrap_i64]; omega
def inc (k : Int) : Int := IntKind.i64.wrap (k + 1)
def dgs (n : Nat) (out : ByteArray) : ByteArray :=
  if h : n = 0 then out else dgs (n / 10) (bytesOf [IntKind.u8.wrap (IntKind.i64.wrap (48 + Int.tmod (n : Int) 10))] ++ out)
termination_by n
decreasing_by omega
def mtext (k : Int) : ByteArray := if k ≤ 0 then ⟨#[109, 48]⟩ else ⟨#[109]⟩ ++ dgs k.toNat ⟨#[]⟩
def mkI (_x : Int) (k : Int) : Int × Int := (k, inc k)
def mkB (_x : Bool) (k : Int) : Bool × Int := (Int.tmod k 3 == 0, inc k)
def mkS (_x : ByteArray) (k : Int) : ByteArray × Int := (mtext k, inc k)
def mkL {α : Type} (f : α → Int → α × Int) : List α → Int → List α × Int
  | [], k => ([], k)
  | x :: r, k => ((f x k).1 :: (mkL f r (f x k).2).1, (mkL f r (f x k).2).2)
def hdI (x k : Int) : Option Int := if x == k then some (inc k) else none
def hdB (x : Bool) (k : Int) : Option Int := if x == (Int.tmod k 3 == 0) then some (inc k) else none
def hdS (x : ByteArray) (k : Int) : Option Int := if x.toList == (mtext k).toList then some (inc k) else none
def hdL {α : Type} (f : α → Int → Option Int) : List α → Int → Option Int
  | [], k => some k
  | x :: r, k => match f x k with | none => none | some k' => hdL f r k'
def hdN {α : Type} (f : α → Int → Option Int) (x : α) (k : Int) : Option Int := match f x k with | none => none | some k' => if k' < 0 then none else some k'
theorem mkI_le (x k : Int) : (mkI x k).2 ≤ 9223372036854775807 := wrap_le _
theorem mkB_le (x : Bool) (k : Int) : (mkB x k).2 ≤ 9223372036854775807 := wrap_le _
theorem mkS_le (x : ByteArray) (k : Int) : (mkS x k).2 ≤ 9223372036854775807 := wrap_le _
theorem mkL_le {α : Type} {f : α → Int → α × Int} (hf : ∀ x k, (f x k).2 ≤ 9223372036854775807) : ∀ (l : List α) (k : Int), k ≤ 9223372036854775807 → (mkL f l k).2 ≤ 9223372036854775807
  | [], _, h => h
  | x :: r, k, _ => mkL_le hf r _ (hf x k)
theorem mkL_len {α : Type} {f : α → Int → α × Int} : ∀ (l : List α) (k : Int), (mkL f l k).1.length = l.length
  | [], _ => rfl
  | x :: r, k => by simp [mkL, mkL_len r]
theorem mkL_cnt {α : Type} {f : α → Int → α × Int} (c : Nat) (hf : ∀ (x : α) (k : Int), 0 ≤ k → k + c ≤ 4611686018427387904 → (f x k).2 = k + c) : ∀ (l : List α) (k : Int), 0 ≤ k → k + (c * l.length : Nat) ≤ 4611686018427387904 → (mkL f l k).2 = k + (c * l.length : Nat)
  | [], k, _, _ => by simp [mkL]
  | x :: r, k, h0, h1 => by
    have e : c * (x :: r).length = c + c * r.length := by simp [Nat.mul_add]; omega
    rw [e] at h1 ⊢
    have h2 := hf x k h0 (by omega)
    simp only [mkL]
    rw [h2, mkL_cnt c hf r (k + c) (by omega) (by omega)]
    omega
theorem hdL_mk {α : Type} {f : α → Int → α × Int} {h : α → Int → Option Int} (hm : ∀ x k, h (f x k).1 k = some (f x k).2) : ∀ (l : List α) (k : Int), hdL h (mkL f l k).1 k = some (mkL f l k).2
  | [], _ => rfl
  | x :: r, k => by simp [mkL, hdL, hm, hdL_mk hm r]
theorem mk_step {α : Type} (f : α → Int → α × Int) {a b b' : List α} {i : Nat} {ei : α} {l k : Int} (e' : α) (l' : Int) (hi : b[i]? = some ei) (hlen : b.length = a.length) (hdr : b.drop i = a.drop i) (hr : (b.take i ++ (mkL f (a.drop i) l).1, (mkL f (a.drop i) l).2) = mkL f a k)
    (hb : b' = b.set i e') (hf : f ei l = (e', l')) (hl : l' ≤ 9223372036854775807) : i + 1 ≤ b'.length ∧ l' ≤ 9223372036854775807 ∧ b'.length = a.length ∧ b'.drop (i + 1) = a.drop (i + 1) ∧ (b'.take (i + 1) ++ (mkL f (a.drop (i + 1)) l').1, (mkL f (a.drop (i + 1)) l').2) = mkL f a k := by
  have hlt : i < b.length := (List.getElem?_eq_some_iff.1 hi).1
  subst hb
  have h1 : b.drop i = ei :: b.drop (i + 1) := drop_get hi
  have h2 : a.drop (i + 1) = b.drop (i + 1) := by
    have := congrArg List.tail hdr
    simpa using this.symm
  refine ⟨by simp; omega, hl, by simp [hlen], ?_, ?_⟩
  · rw [List.drop_set_of_lt (by omega), h2]
  · rw [← hr, ← hdr, h1, h2]
    simp only [mkL, hf]
    have h3 : (b.set i e').take (i + 1) = b.take i ++ [e'] := by
      rw [List.take_succ_eq_append_getElem (by simp; omega)]
      simp [List.take_set_of_le]
    rw [h3]
    simp
theorem mtext_dgs {k : Int} (h : ¬ k ≤ 0) : mtext k = ⟨#[109]⟩ ++ dgs k.toNat ⟨#[]⟩ := by simp [mtext, h]
theorem dgs_step {n : Int} {out : ByteArray} (h : n > 0) : dgs n.toNat out = dgs (Int.tdiv n 10).toNat (bytesOf [IntKind.u8.wrap (IntKind.i64.wrap (48 + Int.tmod n 10))] ++ out) := by
  rw [dgs, dif_neg (by omega)]
  have e : ((n.toNat : Nat) : Int) = n := by omega
  rw [e]
  congr 1
  rw [Int.tdiv_eq_ediv_of_nonneg (by omega)]
  omega
theorem bytesOf_one (x : Int) : (bytesOf [x]).size = 1 := rfl
theorem mt_dec {n : Int} {s : Nat} (h0 : 0 ≤ n) (hp : n * 10 ^ s ≤ 9223372036854775807) (h : decide (n > 0) = true) : (IntKind.i64.wrap (Int.tdiv n 10)).toNat < n.toNat := by
  have hn : n > 0 := by simpa using h
  have hpos : (0 : Int) < 10 ^ s := Int.pow_pos (by omega)
  have : n * 1 ≤ n * 10 ^ s := Int.mul_le_mul_of_nonneg_left (by omega) (by omega)
  rw [IntKind.wrap_i64, Int.tdiv_eq_ediv_of_nonneg h0]
  omega
theorem mt_step {n k : Int} {out : ByteArray} (h0 : 0 ≤ n) (hp : n * 10 ^ out.size ≤ 9223372036854775807) (hr : dgs n.toNat out = dgs k.toNat ⟨#[]⟩) (h : decide (n > 0) = true) :
    0 ≤ IntKind.i64.wrap (Int.tdiv n 10) ∧ (bytesOf [IntKind.u8.wrap (IntKind.i64.wrap (48 + Int.tmod n 10))] ++ out).size ≤ 60 ∧
      IntKind.i64.wrap (Int.tdiv n 10) * 10 ^ (bytesOf [IntKind.u8.wrap (IntKind.i64.wrap (48 + Int.tmod n 10))] ++ out).size ≤ 9223372036854775807 ∧
      dgs (IntKind.i64.wrap (Int.tdiv n 10)).toNat (bytesOf [IntKind.u8.wrap (IntKind.i64.wrap (48 + Int.tmod n 10))] ++ out) = dgs k.toNat ⟨#[]⟩ := by
  have hn : n > 0 := by simpa using h
  have hpos : (0 : Int) < 10 ^ out.size := Int.pow_pos (by omega)
  have hle : (10 : Int) ^ out.size ≤ 9223372036854775807 := by
    have : (10 : Int) ^ out.size * 1 ≤ 10 ^ out.size * n := Int.mul_le_mul_of_nonneg_left (by omega) (by omega)
    rw [Int.mul_comm (10 ^ out.size) n] at this
    omega
  have hs : out.size < 19 := by
    rcases Nat.lt_or_ge out.size 19 with h1 | h1
    · exact h1
    · exfalso
      have h2 : (10 : Nat) ^ 19 ≤ 10 ^ out.size := Nat.pow_le_pow_right (by omega) h1
      have h3 : ((10 ^ out.size : Nat) : Int) ≤ 9223372036854775807 := by simpa using hle
      omega
  have hnM : n ≤ 9223372036854775807 := by
    have : n * 1 ≤ n * 10 ^ out.size := Int.mul_le_mul_of_nonneg_left (by omega) (by omega)
    omega
  have hw : IntKind.i64.wrap (Int.tdiv n 10) = n / 10 := by
    rw [IntKind.wrap_i64, Int.tdiv_eq_ediv_of_nonneg h0]
    omega
  have hsz : (bytesOf [IntKind.u8.wrap (IntKind.i64.wrap (48 + Int.tmod n 10))] ++ out).size = out.size + 1 := by
    rw [ByteArray.size_append, bytesOf_one]
    omega
  rw [hw, hsz]
  refine ⟨by omega, by omega, ?_, ?_⟩
  · rw [Int.pow_succ, Int.mul_comm (10 ^ out.size) 10, ← Int.mul_assoc]
    have : n / 10 * 10 * 10 ^ out.size ≤ n * 10 ^ out.size := Int.mul_le_mul_of_nonneg_right (by omega) (by omega)
    omega
  · rw [← hr, dgs_step hn, Int.tdiv_eq_ediv_of_nonneg h0]
structure Entry where
  term_ : Int
  kind : Int
  data : ByteArray
def Entry.c (e : Entry) : List T := [.v (.int .i64 e.term_), .v (.int .i64 e.kind), .v (.string e.data)]
theorem Entry.len (e : Entry) : e.c.length = 3 := rfl
def Entry.z : Entry := ⟨0, 0, ⟨#[]⟩⟩
def Entry.vs (e : Entry) : List Value := [.int .i64 e.term_, .int .i64 e.kind, .string e.data]
def eqEntry (x y : Entry) : Bool := x.term_ == y.term_ && (x.kind == y.kind && (x.data.toList == y.data.toList))
theorem eqEntry_refl (x : Entry) : eqEntry x x = true := by simp [eqEntry]
def mkEEntry (x : Entry) (k : Int) : Entry × Int := ((⟨(mkI x.term_ k).1, (mkI x.kind (mkI x.term_ k).2).1, (mkS x.data (mkI x.kind (mkI x.term_ k).2).2).1⟩ : Entry), (mkS x.data (mkI x.kind (mkI x.term_ k).2).2).2)
def hdEEntry (x : Entry) (k0 : Int) : Option Int := match hdI x.term_ k0 with | none => none | some k1 => match hdI x.kind k1 with | none => none | some k2 => match hdS x.data k2 with | none => none | some k3 => some k3
theorem mkEEntry_le (x : Entry) (k : Int) : (mkEEntry x k).2 ≤ 9223372036854775807 := by
  simp only [mkEEntry, mkI, mkB, mkS, inc]; first | exact wrap_le _ | (apply mkL_le)
theorem mkEEntry_cnt (x : Entry) (k : Int) (h0 : 0 ≤ k) (h1 : k + 3 ≤ 4611686018427387904) : (mkEEntry x k).2 = k + 3 := by
  simp only [mkEEntry, mkI, mkB, mkS, inc, IntKind.wrap_i64]; omega
theorem hdEEntry_mk (x : Entry) (k : Int) : hdEEntry (mkEEntry x k).1 k = some (mkEEntry x k).2 := by
  simp [hdEEntry, mkEEntry, mkI, mkB, mkS, hdI, hdB, hdS]
def szEntry (e : Entry) (left : Int) : Int := if IntKind.i64.wrap (left - e.data.size) < 0 then -1 else IntKind.i64.wrap (left - e.data.size)
structure Log where
  start : Int
  startTerm : Int
  entries : List Entry
def Log.c (e : Log) : List T := [.v (.int .i64 e.start), .v (.int .i64 e.startTerm), sl 3 Entry.c e.entries]
theorem Log.len (e : Log) : e.c.length = 3 := rfl
def Log.z : Log := ⟨0, 0, []⟩
def eqLog (x y : Log) : Bool := x.start == y.start && (x.startTerm == y.startTerm && ((eqS eqEntry) x.entries y.entries))
theorem eqLog_refl (x : Log) : eqLog x x = true := by simp [eqLog, eqS_refl eqEntry_refl]
def mkVLog (x : Log) (k : Int) : Log × Int := ((⟨x.start, x.startTerm, ((mkL mkEEntry) x.entries k).1⟩ : Log), ((mkL mkEEntry) x.entries k).2)
def hdVLog (x : Log) (k0 : Int) : Option Int := match (hdN (hdL hdEEntry)) x.entries k0 with | none => none | some k1 => some k1
theorem mkVLog_le (x : Log) (k : Int) (hk : k ≤ 9223372036854775807) : (mkVLog x k).2 ≤ 9223372036854775807 := by
  simp only [mkVLog]; repeat (first | exact hk | apply mkL_le | apply mkI_le | apply mkS_le | apply mkB_le | apply mkEEntry_le | apply mkEPeer_le | apply mkEApplied_le | apply mkVNode_le)
def szLog (e : Log) (left : Int) : Int := if szS szEntry e.entries (left) < 0 then -1 else szS szEntry e.entries (left)
structure Peer where
  id : Int
  next : Int
  match_ : Int
  sent : Int
def Peer.c (e : Peer) : List T := [.v (.int .i64 e.id), .v (.int .i64 e.next), .v (.int .i64 e.match_), .v (.int .i64 e.sent)]
theorem Peer.len (e : Peer) : e.c.length = 4 := rfl
def Peer.z : Peer := ⟨0, 0, 0, 0⟩
def Peer.vs (e : Peer) : List Value := [.int .i64 e.id, .int .i64 e.next, .int .i64 e.match_, .int .i64 e.sent]
def eqPeer (x y : Peer) : Bool := x.id == y.id && (x.next == y.next && (x.match_ == y.match_ && (x.sent == y.sent)))
theorem eqPeer_refl (x : Peer) : eqPeer x x = true := by simp [eqPeer]
def mkEPeer (x : Peer) (k : Int) : Peer × Int := ((⟨(mkI x.id k).1, (mkI x.next (mkI x.id k).2).1, (mkI x.match_ (mkI x.next (mkI x.id k).2).2).1, (mkI x.sent (mkI x.match_ (mkI x.next (mkI x.id k).2).2).2).1⟩ : Peer), (mkI x.sent (mkI x.match_ (mkI x.next (mkI x.id k).2).2).2).2)
def hdEPeer (x : Peer) (k0 : Int) : Option Int := match hdI x.id k0 with | none => none | some k1 => match hdI x.next k1 with | none => none | some k2 => match hdI x.match_ k2 with | none => none | some k3 => match hdI x.sent k3 with | none => none | some k4 => some k4
theorem mkEPeer_le (x : Peer) (k : Int) : (mkEPeer x k).2 ≤ 9223372036854775807 := by
  simp only [mkEPeer, mkI, mkB, mkS, inc]; first | exact wrap_le _ | (apply mkL_le)
theorem mkEPeer_cnt (x : Peer) (k : Int) (h0 : 0 ≤ k) (h1 : k + 4 ≤ 4611686018427387904) : (mkEPeer x k).2 = k + 4 := by
  simp only [mkEPeer, mkI, mkB, mkS, inc, IntKind.wrap_i64]; omega
theorem hdEPeer_mk (x : Peer) (k : Int) : hdEPeer (mkEPeer x k).1 k = some (mkEPeer x k).2 := by
  simp [hdEPeer, mkEPeer, mkI, mkB, mkS, hdI, hdB, hdS]
structure Node where
  id : Int
  term_ : Int
  vote : Int
  role : Int
  lead : Int
  conf : List Int
  log : Log
  commit : Int
  clock : Int
  limit : Int
  votes : List Int
  peers : List Peer
def Node.c (e : Node) : List T := [.v (.int .i64 e.id), .v (.int .i64 e.term_), .v (.int .i64 e.vote), .v (.int .i64 e.role), .v (.int .i64 e.lead), sl 1 cI e.conf, .v (.int .i64 e.log.start), .v (.int .i64 e.log.startTerm), sl 3 Entry.c e.log.entries, .v (.int .i64 e.commit), .v (.int .i64 e.clock), .v (.int .i64 e.limit), sl 1 cI e.votes, sl 4 Peer.c e.peers]
theorem Node.len (e : Node) : e.c.length = 14 := rfl
def Node.z : Node := ⟨0, 0, 0, 0, 0, [], Log.z, 0, 0, 0, [], []⟩
def eqNode (x y : Node) : Bool := x.id == y.id && (x.term_ == y.term_ && (x.vote == y.vote && (x.role == y.role && (x.lead == y.lead && ((eqS eqI) x.conf y.conf && (eqLog x.log y.log && (x.commit == y.commit && (x.clock == y.clock && (x.limit == y.limit && ((eqS eqI) x.votes y.votes && ((eqS eqPeer) x.peers y.peers)))))))))))
theorem eqNode_refl (x : Node) : eqNode x x = true := by simp [eqNode, eqS_refl eqI_refl, eqS_refl eqPeer_refl, eqLog_refl]
def mkVNode (x : Node) (k : Int) : Node × Int := ((⟨x.id, x.term_, x.vote, x.role, x.lead, ((mkL mkI) x.conf k).1, (mkVLog x.log ((mkL mkI) x.conf k).2).1, x.commit, x.clock, x.limit, ((mkL mkI) x.votes (mkVLog x.log ((mkL mkI) x.conf k).2).2).1, ((mkL mkEPeer) x.peers ((mkL mkI) x.votes (mkVLog x.log ((mkL mkI) x.conf k).2).2).2).1⟩ : Node), ((mkL mkEPeer) x.peers ((mkL mkI) x.votes (mkVLog x.log ((mkL mkI) x.conf k).2).2).2).2)
def hdVNode (x : Node) (k0 : Int) : Option Int := match (hdN (hdL hdI)) x.conf k0 with | none => none | some k1 => match (hdN hdVLog) x.log k1 with | none => none | some k2 => match (hdN (hdL hdI)) x.votes k2 with | none => none | some k3 => match (hdN (hdL hdEPeer)) x.peers k3 with | none => none | some k4 => some k4
theorem mkVNode_le (x : Node) (k : Int) (hk : k ≤ 9223372036854775807) : (mkVNode x k).2 ≤ 9223372036854775807 := by
  simp only [mkVNode]; repeat (first | exact hk | apply mkL_le | apply mkI_le | apply mkS_le | apply mkB_le | apply mkEEntry_le | apply mkEPeer_le | apply mkEApplied_le | apply mkVLog_le)
def szNode (e : Node) (left : Int) : Int := if szI e.conf (left) < 0 then -1 else if szLog e.log ((szI e.conf (left))) < 0 then -1 else if szI e.votes ((szLog e.log ((szI e.conf (left))))) < 0 then -1 else if szI e.peers ((szI e.votes ((szLog e.log ((szI e.conf (left))))))) < 0 then -1 else szI e.peers ((szI e.votes ((szLog e.log ((szI e.conf (left)))))))
structure Applied where
  node : Int
  term_ : Int
  index : Int
  entry : Entry
def Applied.c (e : Applied) : List T := [.v (.int .i64 e.node), .v (.int .i64 e.term_), .v (.int .i64 e.index), .v (.int .i64 e.entry.term_), .v (.int .i64 e.entry.kind), .v (.string e.entry.data)]
theorem Applied.len (e : Applied) : e.c.length = 6 := rfl
def Applied.z : Applied := ⟨0, 0, 0, Entry.z⟩
def Applied.vs (e : Applied) : List Value := [.int .i64 e.node, .int .i64 e.term_, .int .i64 e.index, .int .i64 e.entry.term_, .int .i64 e.entry.kind, .string e.entry.data]
def eqApplied (x y : Applied) : Bool := x.node == y.node && (x.term_ == y.term_ && (x.index == y.index && (eqEntry x.entry y.entry)))
theorem eqApplied_refl (x : Applied) : eqApplied x x = true := by simp [eqApplied, eqEntry_refl]
def mkEApplied (x : Applied) (k : Int) : Applied × Int := ((⟨(mkI x.node k).1, (mkI x.term_ (mkI x.node k).2).1, (mkI x.index (mkI x.term_ (mkI x.node k).2).2).1, (⟨(mkI x.entry.term_ (mkI x.index (mkI x.term_ (mkI x.node k).2).2).2).1, (mkI x.entry.kind (mkI x.entry.term_ (mkI x.index (mkI x.term_ (mkI x.node k).2).2).2).2).1, (mkS x.entry.data (mkI x.entry.kind (mkI x.entry.term_ (mkI x.index (mkI x.term_ (mkI x.node k).2).2).2).2).2).1⟩ : Entry)⟩ : Applied), (mkS x.entry.data (mkI x.entry.kind (mkI x.entry.term_ (mkI x.index (mkI x.term_ (mkI x.node k).2).2).2).2).2).2)
def hdEApplied (x : Applied) (k0 : Int) : Option Int := match hdI x.node k0 with | none => none | some k1 => match hdI x.term_ k1 with | none => none | some k2 => match hdI x.index k2 with | none => none | some k3 => match hdI x.entry.term_ k3 with | none => none | some k4 => match hdI x.entry.kind k4 with | none => none | some k5 => match hdS x.entry.data k5 with | none => none | some k6 => some k6
theorem mkEApplied_le (x : Applied) (k : Int) : (mkEApplied x k).2 ≤ 9223372036854775807 := by
  simp only [mkEApplied, mkI, mkB, mkS, inc]; first | exact wrap_le _ | (apply mkL_le)
theorem mkEApplied_cnt (x : Applied) (k : Int) (h0 : 0 ≤ k) (h1 : k + 6 ≤ 4611686018427387904) : (mkEApplied x k).2 = k + 6 := by
  simp only [mkEApplied, mkI, mkB, mkS, inc, IntKind.wrap_i64]; omega
theorem hdEApplied_mk (x : Applied) (k : Int) : hdEApplied (mkEApplied x k).1 k = some (mkEApplied x k).2 := by
  simp [hdEApplied, mkEApplied, mkI, mkB, mkS, hdI, hdB, hdS]
def szApplied (e : Applied) (left : Int) : Int := if szEntry e.entry (left) < 0 then -1 else szEntry e.entry (left)
def okToEntry (e : Entry) : Prop := e.data.size ≤ 1048576
def okToLog (e : Log) : Prop := okSl okToEntry e.entries
def okToNode (e : Node) : Prop := okSl (fun _ => True) e.conf ∧ okToLog e.log ∧ okSl (fun _ => True) e.votes ∧ okSl (fun _ => True) e.peers
def okToApplied (e : Applied) : Prop := okToEntry e.entry
def okEntry (e : Entry) : Prop := okI e.term_ ∧ okI e.kind ∧ okS e.data
def okLog (e : Log) : Prop := okI e.start ∧ okI e.startTerm ∧ (okL okEntry) e.entries
def okPeer (e : Peer) : Prop := okI e.id ∧ okI e.next ∧ okI e.match_ ∧ okI e.sent
def okNode (e : Node) : Prop := okI e.id ∧ okI e.term_ ∧ okI e.vote ∧ okI e.role ∧ okI e.lead ∧ (okL okI) e.conf ∧ okLog e.log ∧ okI e.commit ∧ okI e.clock ∧ okI e.limit ∧ (okL okI) e.votes ∧ (okL okPeer) e.peers
def okApplied (e : Applied) : Prop := okI e.node ∧ okI e.term_ ∧ okI e.index ∧ okEntry e.entry
theorem szEntry_ok : SzOk szEntry okEntry okToEntry := by
  intro e l hk h0 h1 hs
  unfold szEntry at hs ⊢
  by_cases c0 : IntKind.i64.wrap (l - e.data.size) < 0
  · rw [if_pos c0] at hs; omega
  rw [if_neg c0] at hs ⊢
  have p0 := szStr_ok e.data (l) hk.2.2 (by omega) (by omega) (by show 0 ≤ IntKind.i64.wrap (l - e.data.size); omega)
  have q0 : IntKind.i64.wrap (l - e.data.size) ≤ l := p0.2
  exact ⟨p0.1, by omega⟩
theorem szLog_ok : SzOk szLog okLog okToLog := by
  intro e l hk h0 h1 hs
  unfold szLog at hs ⊢
  by_cases c0 : szS szEntry e.entries (l) < 0
  · rw [if_pos c0] at hs; omega
  rw [if_neg c0] at hs ⊢
  have p0 := (szS_ok szEntry_ok) e.entries (l) hk.2.2 (by omega) (by omega) (by show 0 ≤ szS szEntry e.entries (l); omega)
  have q0 : szS szEntry e.entries (l) ≤ l := p0.2
  exact ⟨p0.1, by omega⟩
theorem szNode_ok : SzOk szNode okNode okToNode := by
  intro e l hk h0 h1 hs
  unfold szNode at hs ⊢
  by_cases c0 : szI e.conf (l) < 0
  · rw [if_pos c0] at hs; omega
  rw [if_neg c0] at hs ⊢
  have p0 := szI_ok e.conf (l) hk.2.2.2.2.2.1 (by omega) (by omega) (by show 0 ≤ szI e.conf (l); omega)
  have q0 : szI e.conf (l) ≤ l := p0.2
  by_cases c1 : szLog e.log ((szI e.conf (l))) < 0
  · rw [if_pos c1] at hs; omega
  rw [if_neg c1] at hs ⊢
  have p1 := szLog_ok e.log ((szI e.conf (l))) hk.2.2.2.2.2.2.1 (by omega) (by omega) (by show 0 ≤ szLog e.log ((szI e.conf (l))); omega)
  have q1 : szLog e.log ((szI e.conf (l))) ≤ (szI e.conf (l)) := p1.2
  by_cases c2 : szI e.votes ((szLog e.log ((szI e.conf (l))))) < 0
  · rw [if_pos c2] at hs; omega
  rw [if_neg c2] at hs ⊢
  have p2 := szI_ok e.votes ((szLog e.log ((szI e.conf (l))))) hk.2.2.2.2.2.2.2.2.2.2.1 (by omega) (by omega) (by show 0 ≤ szI e.votes ((szLog e.log ((szI e.conf (l))))); omega)
  have q2 : szI e.votes ((szLog e.log ((szI e.conf (l))))) ≤ (szLog e.log ((szI e.conf (l)))) := p2.2
  by_cases c3 : szI e.peers ((szI e.votes ((szLog e.log ((szI e.conf (l))))))) < 0
  · rw [if_pos c3] at hs; omega
  rw [if_neg c3] at hs ⊢
  have p3 := szI_ok e.peers ((szI e.votes ((szLog e.log ((szI e.conf (l))))))) hk.2.2.2.2.2.2.2.2.2.2.2 (by omega) (by omega) (by show 0 ≤ szI e.peers ((szI e.votes ((szLog e.log ((szI e.conf (l))))))); omega)
  have q3 : szI e.peers ((szI e.votes ((szLog e.log ((szI e.conf (l))))))) ≤ (szI e.votes ((szLog e.log ((szI e.conf (l)))))) := p3.2
  exact ⟨⟨p0.1, p1.1, p2.1, p3.1⟩, by omega⟩
theorem szApplied_ok : SzOk szApplied okApplied okToApplied := by
  intro e l hk h0 h1 hs
  unfold szApplied at hs ⊢
  by_cases c0 : szEntry e.entry (l) < 0
  · rw [if_pos c0] at hs; omega
  rw [if_neg c0] at hs ⊢
  have p0 := szEntry_ok e.entry (l) hk.2.2.2 (by omega) (by omega) (by show 0 ≤ szEntry e.entry (l); omega)
  have q0 : szEntry e.entry (l) ≤ l := p0.2
  exact ⟨p0.1, by omega⟩
def badApplied (x y : Applied) : Bool := x.index == y.index && !eqEntry x.entry y.entry
def inR (n x y : Int) : Bool := decide (n ≥ x) && decide (n ≤ y)
def riseOk (lo hi : Int) : Option Int → List Int → Bool
  | _, [] => true
  | p, x :: r => if !(inR x lo hi) || (match p with | none => false | some q => decide (q ≥ x)) then false else riseOk lo hi (some x) r
theorem riseOk_cons (lo hi : Int) (p : Option Int) (x : Int) (r : List Int) : riseOk lo hi p (x :: r) = if !(inR x lo hi) || (match p with | none => false | some q => decide (q ≥ x)) then false else riseOk lo hi (some x) r := by
  cases p <;> rfl
theorem riseOk_nil (lo hi : Int) (p : Option Int) : riseOk lo hi p [] = true := by
  cases p <;> rfl
def prevI (a : List Int) (i : Nat) : Option Int := if i = 0 then none else some (a.getD (i - 1) 0)
theorem prevI_succ {a : List Int} {i : Nat} {e : Int} (h : a[i]? = some e) : prevI a (i + 1) = some e := by
  simp [prevI, List.getD_eq_getElem?_getD, h]
def confOk (a : List Int) : Bool := inR (a.length : Int) 1 4 && riseOk 1 4 none a
theorem confOk_pos {a : List Int} (h : confOk a = true) : 0 < a.length := by
  simp [confOk, inR] at h
  omega
theorem riseOk_len : ∀ (a : List Int) (q : Int), riseOk 1 4 (some q) a = true → (a.length : Int) ≤ max 0 (4 - q)
  | [], q, _ => by simp; omega
  | x :: r, q, h => by
    rw [riseOk] at h
    split at h
    · cases h
    · rename_i hc
      have ih := riseOk_len r x h
      simp [inR] at hc
      simp only [List.length_cons]
      omega
theorem confOk_impl (a : List Int) : (decide ((a.length : Int) > 0) && riseOk 1 4 none a) = confOk a := by
  unfold confOk inR
  cases a with
  | nil => simp
  | cons x r =>
    cases hr : riseOk 1 4 none (x :: r) with
    | false => simp
    | true =>
      rw [riseOk] at hr
      split at hr
      · cases hr
      · rename_i hc
        have ih := riseOk_len r x hr
        simp [inR] at hc
        simp
        omega
def confFits (n : Int) (a : List Int) : Bool := confOk a && decide (a.getD (a.length - 1) 0 ≤ n)
/-! ### Entries -/
theorem ba_ext {x y : ByteArray} (h : x.toList = y.toList) : x = y := by
  rw [ByteArray.toList_eq, ByteArray.toList_eq] at h
  exact ByteArray.ext (Array.ext' h)
theorem eqEntry_eq {x y : Entry} (h : eqEntry x y = true) : x = y := by
  cases x; cases y
  simp [eqEntry] at h
  obtain ⟨rfl, rfl, h⟩ := h
  rw [ba_ext h]
def GoodE (a : List Applied) (out : List Entry) : Prop := ∀ (j : Nat) (e : Entry), out[j]? = some e → ∃ x ∈ a, x.index = (j : Int) + 1 ∧ x.entry = e
def FinE (a : List Applied) (out : List Entry) : Prop := ∀ x ∈ a, x.index ≠ (out.length : Int) + 1
open Classical in
noncomputable def ents (a : List Applied) : List Entry := if h : pairs badApplied [] a = true ∧ ∃ out, GoodE a out ∧ FinE a out then h.2.choose else []
theorem good_nil (a : List Applied) : GoodE a [] := by intro j e h; simp at h
theorem good_snoc {a : List Applied} {out : List Entry} (h : GoodE a out) {x : Applied} (hx : x ∈ a) (hi : x.index = (out.length : Int) + 1) : GoodE a (out ++ [x.entry]) := by
  intro j e he
  rcases Nat.lt_or_ge j out.length with hj | hj
  · rw [List.getElem?_append_left hj] at he
    exact h j e he
  · rw [List.getElem?_append_right hj] at he
    have h0 : j - out.length = 0 := by
      rcases Nat.eq_zero_or_pos (j - out.length) with h0 | h0
      · exact h0
      · rw [List.getElem?_eq_none (by simp; omega)] at he; cases he
    rw [h0] at he
    simp at he
    exact ⟨x, hx, by omega, he⟩
theorem nodup_len : ∀ {l1 l2 : List Int}, l1.Nodup → (∀ x ∈ l1, x ∈ l2) → l1.length ≤ l2.length
  | [], _, _, _ => by simp
  | x :: r, l2, h, hs => by
    rw [List.nodup_cons] at h
    have hx := hs x (by simp)
    have := nodup_len (l2 := l2.erase x) h.2 (fun y hy => (List.mem_erase_of_ne (fun e => h.1 (by rw [← e]; exact hy))).2 (hs y (by simp [hy])))
    rw [List.length_erase_of_mem hx] at this
    have := List.length_pos_of_mem hx
    simp
    omega
theorem good_len {a : List Applied} {out : List Entry} (h : GoodE a out) : out.length ≤ a.length := by
  have := nodup_len (l1 := (List.range out.length).map (fun (j : Nat) => (j : Int) + 1)) (l2 := a.map (·.index)) ?_ ?_
  · simpa using this
  · refine List.Pairwise.map _ (fun x y hxy => ?_) List.nodup_range
    omega
  · intro x hx
    simp only [List.mem_map, List.mem_range] at hx
    obtain ⟨j, hj, rfl⟩ := hx
    obtain ⟨y, hy, hyi, _⟩ := h j _ (List.getElem?_eq_getElem hj)
    exact List.mem_map.2 ⟨y, hy, hyi⟩
theorem pairs_pw {α : Type} {bad : α → α → Bool} : ∀ {r pre : List α}, pairs bad pre r = true → (∀ y ∈ r, ∀ x ∈ pre, bad y x = false) ∧ r.Pairwise (fun x y => bad y x = false)
  | [], pre, _ => by simp
  | x :: r, pre, h => by
    rw [pairs] at h
    split at h
    · cases h
    · rename_i hc
      obtain ⟨h1, h2⟩ := pairs_pw h
      have hp : ∀ z ∈ pre, bad x z = false := by simpa using hc
      refine ⟨fun y hy z hz => ?_, List.pairwise_cons.2 ⟨fun y hy => h1 y hy x (by simp), h2⟩⟩
      rcases List.mem_cons.1 hy with rfl | hy
      · exact hp z hz
      · exact h1 y hy z (by simp [hz])
theorem same_of {a : List Applied} (h : pairs badApplied [] a = true) {x y : Applied} (hx : x ∈ a) (hy : y ∈ a) (he : x.index = y.index) : x.entry = y.entry := by
  have hp := (pairs_pw h).2
  have key : ∀ {l : List Applied}, l.Pairwise (fun x y => badApplied y x = false) → ∀ x ∈ l, ∀ y ∈ l, x.index = y.index → x.entry = y.entry := by
    intro l hl
    induction hl with
    | nil => intro x hx; simp at hx
    | cons h1 h2 ih =>
      rename_i z l
      intro x hx y hy he
      have hb : ∀ y ∈ l, z.index = y.index → z.entry = y.entry := fun y hy e => by
        have := h1 y hy
        simp [badApplied, e] at this
        exact (eqEntry_eq this).symm
      rcases List.mem_cons.1 hx with hx | hx <;> rcases List.mem_cons.1 hy with hy | hy
      · rw [hx, hy]
      · rw [hx]; exact hb y hy (hx ▸ he)
      · rw [hy]; exact (hb x hx (hy ▸ he.symm)).symm
      · exact ih x hx y hy he
  exact key hp x hx y hy he
theorem good_uniq {a : List Applied} (hs : pairs badApplied [] a = true) {o1 o2 : List Entry} (g1 : GoodE a o1) (f1 : FinE a o1) (g2 : GoodE a o2) (f2 : FinE a o2) : o1 = o2 := by
  have key : ∀ {o1 o2 : List Entry}, FinE a o1 → GoodE a o2 → o2.length ≤ o1.length := fun {o1 o2} f g => by
    rcases Nat.lt_or_ge o1.length o2.length with h | h
    · obtain ⟨x, hx, hi, _⟩ := g o1.length _ (List.getElem?_eq_getElem h)
      exact absurd hi (f x hx)
    · exact h
  have hl : o1.length = o2.length := Nat.le_antisymm (key f2 g1) (key f1 g2)
  refine List.ext_getElem hl (fun j h1 h2 => ?_)
  obtain ⟨x, hx, hi, he⟩ := g1 j _ (List.getElem?_eq_getElem h1)
  obtain ⟨y, hy, hi', he'⟩ := g2 j _ (List.getElem?_eq_getElem h2)
  rw [← he, ← he', same_of hs hx hy (by omega)]
theorem ents_eq {a : List Applied} {out : List Entry} (hs : pairs badApplied [] a = true) (g : GoodE a out) (f : FinE a out) : out = ents a := by
  unfold ents
  rw [dif_pos ⟨hs, out, g, f⟩]
  have := (show ∃ out, GoodE a out ∧ FinE a out from ⟨out, g, f⟩).choose_spec
  exact good_uniq hs g f this.1 this.2
theorem ents_no {a : List Applied} (hs : pairs badApplied [] a = false) : ents a = [] := by
  unfold ents
  rw [dif_neg (by simp [hs])]
theorem fin_no {a : List Applied} {out : List Entry} (h : ∀ x ∈ a, x.index ≠ (out.length : Int) + 1) : FinE a out := h
theorem wrap_len {n : Nat} (h : n ≤ 1048576) : IntKind.i64.wrap ((n : Int) + 1) = (n : Int) + 1 := by
  rw [IntKind.wrap_i64]; omega
theorem mem_take_snoc {α : Type} {l : List α} {i : Nat} {e x : α} (h : l[i]? = some e) (hx : x ∈ l.take (i + 1)) : x ∈ l.take i ∨ x = e := by
  rw [take_snoc h] at hx
  simpa using hx
def EntP (a : List Applied) (out : List Entry) (k : Nat) (f2 : Bool) (out2 : List Entry) : Prop :=
  k ≤ a.length ∧ GoodE a out2 ∧ (f2 = false → out2 = out ∧ ∀ x ∈ a.take k, x.index ≠ (out.length : Int) + 1) ∧ (f2 = true → out.length < out2.length)
theorem EntP.init {a : List Applied} {out : List Entry} (hg : GoodE a out) : EntP a out 0 false out := ⟨by omega, hg, fun _ => ⟨rfl, by simp⟩, by simp⟩
theorem EntP.yes {a : List Applied} {out out2 : List Entry} {k : Nat} {f2 : Bool} {ek : Applied} (hm : a.length ≤ 1048576) (h : EntP a out k f2 out2) (hek : a[k]? = some ek) (hi : (ek.index == IntKind.i64.wrap ((out2.length : Int) + 1)) = true) : EntP a out (k + 1) true (out2 ++ [ek.entry]) := by
  obtain ⟨h1, h2, h3, h4⟩ := h
  have hl := good_len h2
  have hk : k < a.length := (List.getElem?_eq_some_iff.1 hek).1
  rw [wrap_len (by omega)] at hi
  refine ⟨by omega, good_snoc h2 (List.mem_of_getElem? hek) (by simpa using hi), by simp, fun _ => ?_⟩
  cases f2 with
  | false => simp [(h3 rfl).1]
  | true => have := h4 rfl; simp; omega
theorem EntP.no {a : List Applied} {out out2 : List Entry} {k : Nat} {f2 : Bool} {ek : Applied} (hm : a.length ≤ 1048576) (h : EntP a out k f2 out2) (hek : a[k]? = some ek) (hi : (ek.index == IntKind.i64.wrap ((out2.length : Int) + 1)) = false) : EntP a out (k + 1) f2 out2 := by
  obtain ⟨h1, h2, h3, h4⟩ := h
  have hl := good_len h2
  have hk : k < a.length := (List.getElem?_eq_some_iff.1 hek).1
  rw [wrap_len (by omega)] at hi
  refine ⟨by omega, h2, fun hf => ?_, h4⟩
  obtain ⟨rfl, h5⟩ := h3 hf
  refine ⟨rfl, fun x hx => ?_⟩
  rcases mem_take_snoc hek hx with hx | rfl
  · exact h5 x hx
  · simpa using hi
theorem EntP.fin {a : List Applied} {out out2 : List Entry} {k : Nat} {f2 : Bool} (h : EntP a out k f2 out2) (hk : a.length ≤ k) : f2 = false → FinE a out2 := fun hf => by
  obtain ⟨h1, h2, h3, h4⟩ := h
  obtain ⟨rfl, h5⟩ := h3 hf
  rw [List.take_of_length_le hk] at h5
  exact h5
theorem EntP.fin2 {a : List Applied} {out out2 : List Entry} {k : Nat} {f2 v : Bool} (h : EntP a out k f2 out2) (hv : v = (decide ((k : Int) < (a.length : Int)) && (!f2))) (hn : v = false) : f2 = false → FinE a out2 := fun hf => by
  subst hf
  rw [hv] at hn
  simp at hn
  exact h.fin hn rfl
theorem EntP.dec {a : List Applied} {out out2 : List Entry} {k : Nat} {f f2 : Bool} (h : EntP a out k f2 out2) (hol : out.length ≤ a.length) (hf : f = true) : 2 * (a.length - out2.length) + (if f2 = true then 1 else 0) < 2 * (a.length - out.length) + (if f = true then 1 else 0) := by
  obtain ⟨h1, h2, h3, h4⟩ := h
  have hl := good_len h2
  subst hf
  cases f2 with
  | false => simp [(h3 rfl).1]
  | true => have := h4 rfl; simp; omega
theorem ents_len (a : List Applied) : (ents a).length ≤ a.length := by
  unfold ents
  split
  · rename_i h
    exact good_len h.2.choose_spec.1
  · simp
theorem mkEApplied_pos (a : List Applied) (h : a.length ≤ 1048576) : 0 ≤ (mkL mkEApplied a 1).2 := by
  rw [mkL_cnt 6 (fun x k => mkEApplied_cnt x k) a 1 (by omega) (by omega)]
  omega
theorem mkEEntry_pos (a : List Entry) (h : a.length ≤ 1048576) : 0 ≤ (mkL mkEEntry a 1).2 := by
  rw [mkL_cnt 3 (fun x k => mkEEntry_cnt x k) a 1 (by omega) (by omega)]
  omega
theorem hdEEntry_all (a : List Entry) : (hdL hdEEntry (mkL mkEEntry a 1).1 1).getD (-1) = (mkL mkEEntry a 1).2 := by
  rw [hdL_mk hdEEntry_mk]
  rfl
end Go.Proofs.Ytbiocicogminlaa.Y
