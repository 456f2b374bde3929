import Derived.Sort.Walk0
import Derived.Test.YtdipdkfbaehglaaGreatDoorIt
import Derived.Test.YtdipdkfbaehglaaGreatDoorEng42
import Derived.Test.YtdipdkfbaehglaaGreatDoorEng16
import Derived.Test.YtdipdkfbaehglaaGreatDoorEng42
import Derived.Test.YtdipdkfbaehglaaGreatDoorEng42
import Derived.Laws.Strings
namespace Go.Proofs.YtdipdkfbaehglaaGreatDoor.Y
open Go Go.RowKit Go.Eng

def szL {α : Type} (f : α → Int → Int) : List α → Int → Int
  | [], l => l
  | x :: r, l => if f x l < 0 then -1 else szL f r (f x l)
def szS {α : Type} (f : α → Int → Int) (a : List α) (left : Int) : Int :=
  if IntKind.i64.wrap (left - a.length) < 0 then -1 else szL f a (IntKind.i64.wrap (left - a.length))
def szI {α : Type} (a : List α) (left : Int) : Int :=
  if IntKind.i64.wrap (left - a.length) < 0 then -1 else IntKind.i64.wrap (left - a.length)
def szStr (s : ByteArray) (left : Int) : Int := IntKind.i64.wrap (left - s.size)
def okSl {α : Type} (ok : α → Prop) (l : List α) : Prop := l.length ≤ 1048576 ∧ ∀ x ∈ l, ok x
def eqI (x y : Int) : Bool := x == y
theorem eqI_refl (x : Int) : eqI x x = true := by simp [eqI]
def eqB (x y : Bool) : Bool := x == y
theorem eqB_refl (x : Bool) : eqB x x = true := by simp [eqB]
def eqStr (x y : ByteArray) : Bool := x.toList == y.toList
def eqS {α : Type} (f : α → α → Bool) : List α → List α → Bool
  | [], [] => true
  | x :: r, y :: s => if f x y then eqS f r s else false
  | _, _ => false
theorem eqS_refl {α : Type} {f : α → α → Bool} (h : ∀ x, f x x = true) : ∀ a : List α, eqS f a a = true
  | [] => rfl
  | x :: r => by rw [eqS, h x, if_pos rfl, eqS_refl h r]
theorem eqS_ne {α : Type} {f : α → α → Bool} : ∀ {a b : List α}, a.length ≠ b.length → eqS f a b = false
  | [], [], h => absurd rfl h
  | [], _ :: _, _ => rfl
  | _ :: _, [], _ => rfl
  | x :: r, y :: s, h => by
    simp only [eqS]
    rw [eqS_ne (by simpa using h)]
    simp
def pairs {α : Type} (bad : α → α → Bool) : List α → List α → Bool
  | _, [] => true
  | pre, x :: r => if pre.any (bad x) then false else pairs bad (pre ++ [x]) r
def pairsW {α : Type} (bad : α → α → Bool) (a : List α) : List α → Bool
  | [] => true
  | x :: r => if a.any (bad x) then false else pairsW bad a r
theorem take_snoc {α : Type} {l : List α} {i : Nat} {e : α} (h : l[i]? = some e) : l.take (i + 1) = l.take i ++ [e] := by
  obtain ⟨h1, h2⟩ := List.getElem?_eq_some_iff.1 h
  rw [List.take_succ_eq_append_getElem h1, h2]
def SzOk {α : Type} (f : α → Int → Int) (fit ok : α → Prop) : Prop := ∀ x l, fit x → 0 ≤ l → l ≤ 1048576 → 0 ≤ f x l → ok x ∧ f x l ≤ l
theorem wrapSub {n : Nat} {l : Int} (hn : n ≤ maxLen) (h0 : 0 ≤ l) (h1 : l ≤ 1048576) : IntKind.i64.wrap (l - n) = l - n := by
  rw [IntKind.wrap_i64]
  simp only [maxLen] at hn
  omega
def okStr (s : ByteArray) : Prop := s.size ≤ 1048576
theorem szStr_ok : SzOk szStr okS okStr := by
  intro s l hk h0 h1 hs
  unfold szStr at hs ⊢
  rw [wrapSub hk h0 h1] at hs ⊢
  exact ⟨by unfold okStr; omega, by omega⟩
theorem szI_ok {α : Type} {fit : α → Prop} : SzOk (szI : List α → Int → Int) (okL fit) (okSl (fun _ => True)) := by
  intro a l hk h0 h1 hs
  unfold szI at hs ⊢
  rw [wrapSub hk.1 h0 h1] at hs ⊢
  split at hs
  · omega
  · rename_i hc
    rw [if_neg hc]
    exact ⟨⟨by omega, fun _ _ => trivial⟩, by omega⟩
theorem szL_ok {α : Type} {f : α → Int → Int} {fit ok : α → Prop} (h : SzOk f fit ok) : ∀ (a : List α) (l : Int), (∀ x ∈ a, fit x) → 0 ≤ l → l ≤ 1048576 → 0 ≤ szL f a l → (∀ x ∈ a, ok x) ∧ szL f a l ≤ l
  | [], l, _, _, _, _ => ⟨by simp, by simp [szL]⟩
  | x :: r, l, hf, h0, h1, hs => by
    simp only [szL] at hs ⊢
    split at hs
    · omega
    · rename_i hc
      rw [if_neg hc]
      have p := h x l (hf x (by simp)) h0 h1 (by omega)
      have q := szL_ok h r (f x l) (fun y hy => hf y (by simp [hy])) (by omega) (by omega) hs
      refine ⟨fun y hy => ?_, by omega⟩
      rcases List.mem_cons.1 hy with rfl | hy
      · exact p.1
      · exact q.1 y hy
theorem szS_ok {α : Type} {f : α → Int → Int} {fit ok : α → Prop} (h : SzOk f fit ok) : SzOk (szS f) (okL fit) (okSl ok) := by
  intro a l hk h0 h1 hs
  unfold szS at hs ⊢
  rw [wrapSub hk.1 h0 h1] at hs ⊢
  split at hs
  · omega
  · rename_i hc
    rw [if_neg hc]
    have p := szL_ok h a (l - a.length) hk.2 (by omega) (by omega) hs
    exact ⟨⟨by omega, p.1⟩, by omega⟩
def inc (k : Int) : Int := IntKind.i64.wrap (k + 1)
def dgs (n : Nat) (out : ByteArray) : ByteArray :=
  if h : n = 0 then out else dgs (n / 10) (bytesOf [IntKind.u8.wrap (IntKind.i64.wrap (48 + Int.tmod (n : Int) 10))] ++ out)
termination_by n
decreasing_by omega
def mtext (k : Int) : ByteArray := if k ≤ 0 then ⟨#[109, 48]⟩ else ⟨#[109]⟩ ++ dgs k.toNat ⟨#[]⟩
def mkI (_x : Int) (k : Int) : Int × Int := (k, inc k)
def mkB (_x : Bool) (k : Int) : Bool × Int := (Int.tmod k 3 == 0, inc k)
def mkS (_x : ByteArray) (k : Int) : ByteArray × Int := (mtext k, inc k)
def mkL {α : Type} (f : α → Int → α × Int) : List α → Int → List α × Int
  | [], k => ([], k)
  | x :: r, k => ((f x k).1 :: (mkL f r (f x k).2).1, (mkL f r (f x k).2).2)
theorem mkL_cnt {α : Type} {f : α → Int → α × Int} (c : Nat) (hf : ∀ (x : α) (k : Int), 0 ≤ k → k + c ≤ 4611686018427387904 → (f x k).2 = k + c) : ∀ (l : List α) (k : Int), 0 ≤ k → k + (c * l.length : Nat) ≤ 4611686018427387904 → (mkL f l k).2 = k + (c * l.length : Nat)
  | [], k, _, _ => by simp [mkL]
  | x :: r, k, h0, h1 => by
    have e : c * (x :: r).length = c + c * r.length := by simp [Nat.mul_add]; omega
    rw [e] at h1 ⊢
    have h2 := hf x k h0 (by omega)
    simp only [mkL]
    rw [h2, mkL_cnt c hf r (k + c) (by omega) (by omega)]
    omega
theorem dgs_step {n : Int} {out : ByteArray} (h : n > 0) : dgs n.toNat out = dgs (Int.tdiv n 10).toNat (bytesOf [IntKind.u8.wrap (IntKind.i64.wrap (48 + Int.tmod n 10))] ++ out) := by
  rw [dgs, dif_neg (by omega)]
  have e : ((n.toNat : Nat) : Int) = n := by omega
  rw [e]
  congr 1
  rw [Int.tdiv_eq_ediv_of_nonneg (by omega)]
  omega
theorem bytesOf_one (x : Int) : (bytesOf [x]).size = 1 := rfl
theorem mt_dec {n : Int} {s : Nat} (h0 : 0 ≤ n) (hp : n * 10 ^ s ≤ 9223372036854775807) (h : decide (n > 0) = true) : (IntKind.i64.wrap (Int.tdiv n 10)).toNat < n.toNat := by
  have hn : n > 0 := by simpa using h
  have hpos : (0 : Int) < 10 ^ s := Int.pow_pos (by omega)
  have : n * 1 ≤ n * 10 ^ s := Int.mul_le_mul_of_nonneg_left (by omega) (by omega)
  rw [IntKind.wrap_i64, Int.tdiv_eq_ediv_of_nonneg h0]
  omega
theorem mt_step {n k : Int} {out : ByteArray} (h0 : 0 ≤ n) (hp : n * 10 ^ out.size ≤ 9223372036854775807) (hr : dgs n.toNat out = dgs k.toNat ⟨#[]⟩) (h : decide (n > 0) = true) :
    0 ≤ IntKind.i64.wrap (Int.tdiv n 10) ∧ (bytesOf [IntKind.u8.wrap (IntKind.i64.wrap (48 + Int.tmod n 10))] ++ out).size ≤ 60 ∧
      IntKind.i64.wrap (Int.tdiv n 10) * 10 ^ (bytesOf [IntKind.u8.wrap (IntKind.i64.wrap (48 + Int.tmod n 10))] ++ out).size ≤ 9223372036854775807 ∧
      dgs (IntKind.i64.wrap (Int.tdiv n 10)).toNat (bytesOf [IntKind.u8.wrap (IntKind.i64.wrap (48 + Int.tmod n 10))] ++ out) = dgs k.toNat ⟨#[]⟩ := by
  have hn : n > 0 := by simpa using h
  have hpos : (0 : Int) < 10 ^ out.size := Int.pow_pos (by omega)
  have hle : (10 : Int) ^ out.size ≤ 9223372036854775807 := by
    have : (10 : Int) ^ out.size * 1 ≤ 10 ^ out.size * n := Int.mul_le_mul_of_nonneg_left (by omega) (by omega)
    rw [Int.mul_comm (10 ^ out.size) n] at this
    omega
  have hs : out.size < 19 := by
    rcases Nat.lt_or_ge out.size 19 with h1 | h1
    · exact h1
    · exfalso
      have h2 : (10 : Nat) ^ 19 ≤ 10 ^ out.size := Nat.pow_le_pow_right (by omega) h1
      have h3 : ((10 ^ out.size : Nat) : Int) ≤ 9223372036854775807 := by simpa using hle
      omega
  have hnM : n ≤ 9223372036854775807 := by
    have : n * 1 ≤ n * 10 ^ out.size := Int.mul_le_mul_of_nonneg_left (by omega) (by omega)
    omega
  have hw : IntKind.i64.wrap (Int.tdiv n 10) = n / 10 := by
    rw [IntKind.wrap_i64, Int.tdiv_eq_ediv_of_nonneg h0]
    omega
  have hsz : (bytesOf [IntKind.u8.wrap (IntKind.i64.wrap (48 + Int.tmod n 10))] ++ out).size = out.size + 1 := by
    rw [ByteArray.size_append, bytesOf_one]
    omega
  rw [hw, hsz]
  refine ⟨by omega, by omega, ?_, ?_⟩
  · rw [Int.pow_succ, Int.mul_comm (10 ^ out.size) 10, ← Int.mul_assoc]
    have : n / 10 * 10 * 10 ^ out.size ≤ n * 10 ^ out.size := Int.mul_le_mul_of_nonneg_right (by omega) (by omega)
    omega
  · rw [← hr, dgs_step hn, Int.tdiv_eq_ediv_of_nonneg h0]
structure Entry where
  term_ : Int
  kind : Int
  data : ByteArray
def Entry.c (e : Entry) : List T := [.v (.int .i64 e.term_), .v (.int .i64 e.kind), .v (.string e.data)]
theorem Entry.len (e : Entry) : e.c.length = 3 := rfl
def Entry.z : Entry := ⟨0, 0, ⟨#[]⟩⟩
def Entry.vs (e : Entry) : List Value := [.int .i64 e.term_, .int .i64 e.kind, .string e.data]
def eqEntry (x y : Entry) : Bool := x.term_ == y.term_ && (x.kind == y.kind && (x.data.toList == y.data.toList))
theorem eqEntry_refl (x : Entry) : eqEntry x x = true := by simp [eqEntry]
def szEntry (e : Entry) (left : Int) : Int := if IntKind.i64.wrap (left - e.data.size) < 0 then -1 else IntKind.i64.wrap (left - e.data.size)
structure Log where
  start : Int
  startTerm : Int
  entries : List Entry
def Log.c (e : Log) : List T := [.v (.int .i64 e.start), .v (.int .i64 e.startTerm), sl 3 Entry.c e.entries]
theorem Log.len (e : Log) : e.c.length = 3 := rfl
def Log.z : Log := ⟨0, 0, []⟩
def eqLog (x y : Log) : Bool := x.start == y.start && (x.startTerm == y.startTerm && ((eqS eqEntry) x.entries y.entries))
theorem eqLog_refl (x : Log) : eqLog x x = true := by simp [eqLog, eqS_refl eqEntry_refl]
def szLog (e : Log) (left : Int) : Int := if szS szEntry e.entries (left) < 0 then -1 else szS szEntry e.entries (left)
structure Peer where
  id : Int
  next : Int
  match_ : Int
  sent : Int
def Peer.c (e : Peer) : List T := [.v (.int .i64 e.id), .v (.int .i64 e.next), .v (.int .i64 e.match_), .v (.int .i64 e.sent)]
theorem Peer.len (e : Peer) : e.c.length = 4 := rfl
def Peer.z : Peer := ⟨0, 0, 0, 0⟩
def Peer.vs (e : Peer) : List Value := [.int .i64 e.id, .int .i64 e.next, .int .i64 e.match_, .int .i64 e.sent]
def eqPeer (x y : Peer) : Bool := x.id == y.id && (x.next == y.next && (x.match_ == y.match_ && (x.sent == y.sent)))
theorem eqPeer_refl (x : Peer) : eqPeer x x = true := by simp [eqPeer]
structure Node where
  id : Int
  term_ : Int
  vote : Int
  role : Int
  lead : Int
  conf : List Int
  log : Log
  commit : Int
  clock : Int
  limit : Int
  votes : List Int
  peers : List Peer
def Node.c (e : Node) : List T := [.v (.int .i64 e.id), .v (.int .i64 e.term_), .v (.int .i64 e.vote), .v (.int .i64 e.role), .v (.int .i64 e.lead), sl 1 cI e.conf, .v (.int .i64 e.log.start), .v (.int .i64 e.log.startTerm), sl 3 Entry.c e.log.entries, .v (.int .i64 e.commit), .v (.int .i64 e.clock), .v (.int .i64 e.limit), sl 1 cI e.votes, sl 4 Peer.c e.peers]
theorem Node.len (e : Node) : e.c.length = 14 := rfl
def Node.z : Node := ⟨0, 0, 0, 0, 0, [], Log.z, 0, 0, 0, [], []⟩
def eqNode (x y : Node) : Bool := x.id == y.id && (x.term_ == y.term_ && (x.vote == y.vote && (x.role == y.role && (x.lead == y.lead && ((eqS eqI) x.conf y.conf && (eqLog x.log y.log && (x.commit == y.commit && (x.clock == y.clock && (x.limit == y.limit && ((eqS eqI) x.votes y.votes && ((eqS eqPeer) x.peers y.peers)))))))))))
theorem eqNode_refl (x : Node) : eqNode x x = true := by simp [eqNode, eqS_refl eqI_refl, eqS_refl eqPeer_refl, eqLog_refl]
def szNode (e : Node) (left : Int) : Int := if szI e.conf (left) < 0 then -1 else if szLog e.log ((szI e.conf (left))) < 0 then -1 else if szI e.votes ((szLog e.log ((szI e.conf (left))))) < 0 then -1 else if szI e.peers ((szI e.votes ((szLog e.log ((szI e.conf (left))))))) < 0 then -1 else szI e.peers ((szI e.votes ((szLog e.log ((szI e.conf (left)))))))
structure File where
  name : ByteArray
  text : ByteArray
  kept : Int
def File.c (e : File) : List T := [.v (.string e.name), .v (.string e.text), .v (.int .i64 e.kept)]
theorem File.len (e : File) : e.c.length = 3 := rfl
def File.z : File := ⟨⟨#[]⟩, ⟨#[]⟩, 0⟩
def File.vs (e : File) : List Value := [.string e.name, .string e.text, .int .i64 e.kept]
def eqFile (x y : File) : Bool := x.name.toList == y.name.toList && (x.text.toList == y.text.toList && (x.kept == y.kept))
theorem eqFile_refl (x : File) : eqFile x x = true := by simp [eqFile]
def szFile (e : File) (left : Int) : Int := if IntKind.i64.wrap (left - e.name.size) < 0 then -1 else if IntKind.i64.wrap ((IntKind.i64.wrap (left - e.name.size)) - e.text.size) < 0 then -1 else IntKind.i64.wrap ((IntKind.i64.wrap (left - e.name.size)) - e.text.size)
structure Disk where
  files : List File
def Disk.c (e : Disk) : List T := [sl 3 File.c e.files]
theorem Disk.len (e : Disk) : e.c.length = 1 := rfl
def Disk.z : Disk := ⟨[]⟩
def eqDisk (x y : Disk) : Bool := (eqS eqFile) x.files y.files
theorem eqDisk_refl (x : Disk) : eqDisk x x = true := by simp [eqDisk, eqS_refl eqFile_refl]
def szDisk (e : Disk) (left : Int) : Int := if szS szFile e.files (left) < 0 then -1 else szS szFile e.files (left)
structure Journal where
  number : Int
  term_ : Int
  vote : Int
  log : Log
def Journal.c (e : Journal) : List T := [.v (.int .i64 e.number), .v (.int .i64 e.term_), .v (.int .i64 e.vote), .v (.int .i64 e.log.start), .v (.int .i64 e.log.startTerm), sl 3 Entry.c e.log.entries]
theorem Journal.len (e : Journal) : e.c.length = 6 := rfl
def Journal.z : Journal := ⟨0, 0, 0, Log.z⟩
def eqJournal (x y : Journal) : Bool := x.number == y.number && (x.term_ == y.term_ && (x.vote == y.vote && (eqLog x.log y.log)))
theorem eqJournal_refl (x : Journal) : eqJournal x x = true := by simp [eqJournal, eqLog_refl]
def szJournal (e : Journal) (left : Int) : Int := if szLog e.log (left) < 0 then -1 else szLog e.log (left)
structure Session where
  token : Int
  last : Int
  reply : ByteArray
def Session.c (e : Session) : List T := [.v (.int .i64 e.token), .v (.int .i64 e.last), .v (.string e.reply)]
theorem Session.len (e : Session) : e.c.length = 3 := rfl
def Session.z : Session := ⟨0, 0, ⟨#[]⟩⟩
def Session.vs (e : Session) : List Value := [.int .i64 e.token, .int .i64 e.last, .string e.reply]
def eqSession (x y : Session) : Bool := x.token == y.token && (x.last == y.last && (x.reply.toList == y.reply.toList))
theorem eqSession_refl (x : Session) : eqSession x x = true := by simp [eqSession]
def szSession (e : Session) (left : Int) : Int := if IntKind.i64.wrap (left - e.reply.size) < 0 then -1 else IntKind.i64.wrap (left - e.reply.size)
structure Item where
  key : ByteArray
  val : ByteArray
  ver : Int
def Item.c (e : Item) : List T := [.v (.string e.key), .v (.string e.val), .v (.int .i64 e.ver)]
theorem Item.len (e : Item) : e.c.length = 3 := rfl
def Item.z : Item := ⟨⟨#[]⟩, ⟨#[]⟩, 0⟩
def Item.vs (e : Item) : List Value := [.string e.key, .string e.val, .int .i64 e.ver]
def eqItem (x y : Item) : Bool := x.key.toList == y.key.toList && (x.val.toList == y.val.toList && (x.ver == y.ver))
theorem eqItem_refl (x : Item) : eqItem x x = true := by simp [eqItem]
def szItem (e : Item) (left : Int) : Int := if IntKind.i64.wrap (left - e.key.size) < 0 then -1 else if IntKind.i64.wrap ((IntKind.i64.wrap (left - e.key.size)) - e.val.size) < 0 then -1 else IntKind.i64.wrap ((IntKind.i64.wrap (left - e.key.size)) - e.val.size)
structure Keep where
  sessions : List Session
  items : List Item
def Keep.c (e : Keep) : List T := [sl 3 Session.c e.sessions, sl 3 Item.c e.items]
theorem Keep.len (e : Keep) : e.c.length = 2 := rfl
def Keep.z : Keep := ⟨[], []⟩
def eqKeep (x y : Keep) : Bool := (eqS eqSession) x.sessions y.sessions && ((eqS eqItem) x.items y.items)
theorem eqKeep_refl (x : Keep) : eqKeep x x = true := by simp [eqKeep, eqS_refl eqItem_refl, eqS_refl eqSession_refl]
def szKeep (e : Keep) (left : Int) : Int := if szS szSession e.sessions (left) < 0 then -1 else if szS szItem e.items ((szS szSession e.sessions (left))) < 0 then -1 else szS szItem e.items ((szS szSession e.sessions (left)))
structure Server where
  node : Node
  disk : Disk
  journal : Journal
  keep : Keep
  applied : Int
  stage : ByteArray
  stageAt : Int
  stageTerm : Int
def Server.c (e : Server) : List T := [.v (.int .i64 e.node.id), .v (.int .i64 e.node.term_), .v (.int .i64 e.node.vote), .v (.int .i64 e.node.role), .v (.int .i64 e.node.lead), sl 1 cI e.node.conf, .v (.int .i64 e.node.log.start), .v (.int .i64 e.node.log.startTerm), sl 3 Entry.c e.node.log.entries, .v (.int .i64 e.node.commit), .v (.int .i64 e.node.clock), .v (.int .i64 e.node.limit), sl 1 cI e.node.votes, sl 4 Peer.c e.node.peers, sl 3 File.c e.disk.files, .v (.int .i64 e.journal.number), .v (.int .i64 e.journal.term_), .v (.int .i64 e.journal.vote), .v (.int .i64 e.journal.log.start), .v (.int .i64 e.journal.log.startTerm), sl 3 Entry.c e.journal.log.entries, sl 3 Session.c e.keep.sessions, sl 3 Item.c e.keep.items, .v (.int .i64 e.applied), .v (.string e.stage), .v (.int .i64 e.stageAt), .v (.int .i64 e.stageTerm)]
theorem Server.len (e : Server) : e.c.length = 27 := rfl
def Server.z : Server := ⟨Node.z, Disk.z, Journal.z, Keep.z, 0, ⟨#[]⟩, 0, 0⟩
def eqServer (x y : Server) : Bool := eqNode x.node y.node && (eqDisk x.disk y.disk && (eqJournal x.journal y.journal && (eqKeep x.keep y.keep && (x.applied == y.applied && (x.stage.toList == y.stage.toList && (x.stageAt == y.stageAt && (x.stageTerm == y.stageTerm)))))))
theorem eqServer_refl (x : Server) : eqServer x x = true := by simp [eqServer, eqDisk_refl, eqJournal_refl, eqKeep_refl, eqNode_refl]
def szServer (e : Server) (left : Int) : Int := if szNode e.node (left) < 0 then -1 else if szDisk e.disk ((szNode e.node (left))) < 0 then -1 else if szJournal e.journal ((szDisk e.disk ((szNode e.node (left))))) < 0 then -1 else if szKeep e.keep ((szJournal e.journal ((szDisk e.disk ((szNode e.node (left))))))) < 0 then -1 else if IntKind.i64.wrap ((szKeep e.keep ((szJournal e.journal ((szDisk e.disk ((szNode e.node (left)))))))) - e.stage.size) < 0 then -1 else IntKind.i64.wrap ((szKeep e.keep ((szJournal e.journal ((szDisk e.disk ((szNode e.node (left)))))))) - e.stage.size)
structure Message where
  kind : Int
  from_ : Int
  to : Int
  term_ : Int
  index : Int
  logTerm : Int
  commit : Int
  ok : Bool
  entries : List Entry
  conf : List Int
  data : ByteArray
  last : Bool
def Message.c (e : Message) : List T := [.v (.int .i64 e.kind), .v (.int .i64 e.from_), .v (.int .i64 e.to), .v (.int .i64 e.term_), .v (.int .i64 e.index), .v (.int .i64 e.logTerm), .v (.int .i64 e.commit), .v (.bool e.ok), sl 3 Entry.c e.entries, sl 1 cI e.conf, .v (.string e.data), .v (.bool e.last)]
theorem Message.len (e : Message) : e.c.length = 12 := rfl
def Message.z : Message := ⟨0, 0, 0, 0, 0, 0, 0, false, [], [], ⟨#[]⟩, false⟩
def eqMessage (x y : Message) : Bool := x.kind == y.kind && (x.from_ == y.from_ && (x.to == y.to && (x.term_ == y.term_ && (x.index == y.index && (x.logTerm == y.logTerm && (x.commit == y.commit && (x.ok == y.ok && ((eqS eqEntry) x.entries y.entries && ((eqS eqI) x.conf y.conf && (x.data.toList == y.data.toList && (x.last == y.last)))))))))))
theorem eqMessage_refl (x : Message) : eqMessage x x = true := by simp [eqMessage, eqS_refl eqEntry_refl, eqS_refl eqI_refl]
def szMessage (e : Message) (left : Int) : Int := if szS szEntry e.entries (left) < 0 then -1 else if szI e.conf ((szS szEntry e.entries (left))) < 0 then -1 else if IntKind.i64.wrap ((szI e.conf ((szS szEntry e.entries (left)))) - e.data.size) < 0 then -1 else IntKind.i64.wrap ((szI e.conf ((szS szEntry e.entries (left)))) - e.data.size)
structure Wait where
  node : Int
  index : Int
  term_ : Int
  call : Int
def Wait.c (e : Wait) : List T := [.v (.int .i64 e.node), .v (.int .i64 e.index), .v (.int .i64 e.term_), .v (.int .i64 e.call)]
theorem Wait.len (e : Wait) : e.c.length = 4 := rfl
def Wait.z : Wait := ⟨0, 0, 0, 0⟩
def Wait.vs (e : Wait) : List Value := [.int .i64 e.node, .int .i64 e.index, .int .i64 e.term_, .int .i64 e.call]
def eqWait (x y : Wait) : Bool := x.node == y.node && (x.index == y.index && (x.term_ == y.term_ && (x.call == y.call)))
theorem eqWait_refl (x : Wait) : eqWait x x = true := by simp [eqWait]
structure Leader where
  node : Int
  term_ : Int
  log : Log
def Leader.c (e : Leader) : List T := [.v (.int .i64 e.node), .v (.int .i64 e.term_), .v (.int .i64 e.log.start), .v (.int .i64 e.log.startTerm), sl 3 Entry.c e.log.entries]
theorem Leader.len (e : Leader) : e.c.length = 5 := rfl
def Leader.z : Leader := ⟨0, 0, Log.z⟩
def eqLeader (x y : Leader) : Bool := x.node == y.node && (x.term_ == y.term_ && (eqLog x.log y.log))
theorem eqLeader_refl (x : Leader) : eqLeader x x = true := by simp [eqLeader, eqLog_refl]
def szLeader (e : Leader) (left : Int) : Int := if szLog e.log (left) < 0 then -1 else szLog e.log (left)
structure Applied where
  node : Int
  term_ : Int
  index : Int
  entry : Entry
def Applied.c (e : Applied) : List T := [.v (.int .i64 e.node), .v (.int .i64 e.term_), .v (.int .i64 e.index), .v (.int .i64 e.entry.term_), .v (.int .i64 e.entry.kind), .v (.string e.entry.data)]
theorem Applied.len (e : Applied) : e.c.length = 6 := rfl
def Applied.z : Applied := ⟨0, 0, 0, Entry.z⟩
def Applied.vs (e : Applied) : List Value := [.int .i64 e.node, .int .i64 e.term_, .int .i64 e.index, .int .i64 e.entry.term_, .int .i64 e.entry.kind, .string e.entry.data]
def eqApplied (x y : Applied) : Bool := x.node == y.node && (x.term_ == y.term_ && (x.index == y.index && (eqEntry x.entry y.entry)))
theorem eqApplied_refl (x : Applied) : eqApplied x x = true := by simp [eqApplied, eqEntry_refl]
def szApplied (e : Applied) (left : Int) : Int := if szEntry e.entry (left) < 0 then -1 else szEntry e.entry (left)
structure Command where
  op : Int
  token : Int
  seq : Int
  key : ByteArray
  val : ByteArray
  ver : Int
def Command.c (e : Command) : List T := [.v (.int .i64 e.op), .v (.int .i64 e.token), .v (.int .i64 e.seq), .v (.string e.key), .v (.string e.val), .v (.int .i64 e.ver)]
theorem Command.len (e : Command) : e.c.length = 6 := rfl
def Command.z : Command := ⟨0, 0, 0, ⟨#[]⟩, ⟨#[]⟩, 0⟩
def Command.vs (e : Command) : List Value := [.int .i64 e.op, .int .i64 e.token, .int .i64 e.seq, .string e.key, .string e.val, .int .i64 e.ver]
def eqCommand (x y : Command) : Bool := x.op == y.op && (x.token == y.token && (x.seq == y.seq && (x.key.toList == y.key.toList && (x.val.toList == y.val.toList && (x.ver == y.ver)))))
theorem eqCommand_refl (x : Command) : eqCommand x x = true := by simp [eqCommand]
def szCommand (e : Command) (left : Int) : Int := if IntKind.i64.wrap (left - e.key.size) < 0 then -1 else if IntKind.i64.wrap ((IntKind.i64.wrap (left - e.key.size)) - e.val.size) < 0 then -1 else IntKind.i64.wrap ((IntKind.i64.wrap (left - e.key.size)) - e.val.size)
structure Reply where
  call : Int
  when_ : Int
  index : Int
  command : Command
  text : ByteArray
def Reply.c (e : Reply) : List T := [.v (.int .i64 e.call), .v (.int .i64 e.when_), .v (.int .i64 e.index), .v (.int .i64 e.command.op), .v (.int .i64 e.command.token), .v (.int .i64 e.command.seq), .v (.string e.command.key), .v (.string e.command.val), .v (.int .i64 e.command.ver), .v (.string e.text)]
theorem Reply.len (e : Reply) : e.c.length = 10 := rfl
def Reply.z : Reply := ⟨0, 0, 0, Command.z, ⟨#[]⟩⟩
def Reply.vs (e : Reply) : List Value := [.int .i64 e.call, .int .i64 e.when_, .int .i64 e.index, .int .i64 e.command.op, .int .i64 e.command.token, .int .i64 e.command.seq, .string e.command.key, .string e.command.val, .int .i64 e.command.ver, .string e.text]
def eqReply (x y : Reply) : Bool := x.call == y.call && (x.when_ == y.when_ && (x.index == y.index && (eqCommand x.command y.command && (x.text.toList == y.text.toList))))
theorem eqReply_refl (x : Reply) : eqReply x x = true := by simp [eqReply, eqCommand_refl]
def szReply (e : Reply) (left : Int) : Int := if szCommand e.command (left) < 0 then -1 else if IntKind.i64.wrap ((szCommand e.command (left)) - e.text.size) < 0 then -1 else IntKind.i64.wrap ((szCommand e.command (left)) - e.text.size)
structure World where
  up : List Bool
  servers : List Server
  net : List Message
  waits : List Wait
  leaders : List Leader
  applied : List Applied
  replies : List Reply
def World.c (e : World) : List T := [sl 1 cB e.up, sl 27 Server.c e.servers, sl 12 Message.c e.net, sl 4 Wait.c e.waits, sl 5 Leader.c e.leaders, sl 6 Applied.c e.applied, sl 10 Reply.c e.replies]
theorem World.len (e : World) : e.c.length = 7 := rfl
def World.z : World := ⟨[], [], [], [], [], [], []⟩
def eqWorld (x y : World) : Bool := (eqS eqB) x.up y.up && ((eqS eqServer) x.servers y.servers && ((eqS eqMessage) x.net y.net && ((eqS eqWait) x.waits y.waits && ((eqS eqLeader) x.leaders y.leaders && ((eqS eqApplied) x.applied y.applied && ((eqS eqReply) x.replies y.replies))))))
theorem eqWorld_refl (x : World) : eqWorld x x = true := by simp [eqWorld, eqS_refl eqApplied_refl, eqS_refl eqB_refl, eqS_refl eqLeader_refl, eqS_refl eqMessage_refl, eqS_refl eqReply_refl, eqS_refl eqServer_refl, eqS_refl eqWait_refl]
def szWorld (e : World) (left : Int) : Int := if szI e.up (left) < 0 then -1 else if szS szServer e.servers ((szI e.up (left))) < 0 then -1 else if szS szMessage e.net ((szS szServer e.servers ((szI e.up (left))))) < 0 then -1 else if szI e.waits ((szS szMessage e.net ((szS szServer e.servers ((szI e.up (left))))))) < 0 then -1 else if szS szLeader e.leaders ((szI e.waits ((szS szMessage e.net ((szS szServer e.servers ((szI e.up (left))))))))) < 0 then -1 else if szS szApplied e.applied ((szS szLeader e.leaders ((szI e.waits ((szS szMessage e.net ((szS szServer e.servers ((szI e.up (left))))))))))) < 0 then -1 else if szS szReply e.replies ((szS szApplied e.applied ((szS szLeader e.leaders ((szI e.waits ((szS szMessage e.net ((szS szServer e.servers ((szI e.up (left))))))))))))) < 0 then -1 else szS szReply e.replies ((szS szApplied e.applied ((szS szLeader e.leaders ((szI e.waits ((szS szMessage e.net ((szS szServer e.servers ((szI e.up (left)))))))))))))
structure l16Cur where
  text : ByteArray
  at_ : Int
  bad : Bool
def l16Cur.c (e : l16Cur) : List T := [.v (.string e.text), .v (.int .i64 e.at_), .v (.bool e.bad)]
theorem l16Cur.len (e : l16Cur) : e.c.length = 3 := rfl
def l16Cur.z : l16Cur := ⟨⟨#[]⟩, 0, false⟩
def l16Cur.vs (e : l16Cur) : List Value := [.string e.text, .int .i64 e.at_, .bool e.bad]
structure scan where
  text : ByteArray
  at_ : Int
  bad : Bool
def scan.c (e : scan) : List T := [.v (.string e.text), .v (.int .i64 e.at_), .v (.bool e.bad)]
theorem scan.len (e : scan) : e.c.length = 3 := rfl
def scan.z : scan := ⟨⟨#[]⟩, 0, false⟩
def scan.vs (e : scan) : List Value := [.string e.text, .int .i64 e.at_, .bool e.bad]
def okToEntry (e : Entry) : Prop := e.data.size ≤ 1048576
def okToLog (e : Log) : Prop := okSl okToEntry e.entries
def okToNode (e : Node) : Prop := okSl (fun _ => True) e.conf ∧ okToLog e.log ∧ okSl (fun _ => True) e.votes ∧ okSl (fun _ => True) e.peers
def okToFile (e : File) : Prop := e.name.size ≤ 1048576 ∧ e.text.size ≤ 1048576
def okToDisk (e : Disk) : Prop := okSl okToFile e.files
def okToJournal (e : Journal) : Prop := okToLog e.log
def okToSession (e : Session) : Prop := e.reply.size ≤ 1048576
def okToItem (e : Item) : Prop := e.key.size ≤ 1048576 ∧ e.val.size ≤ 1048576
def okToKeep (e : Keep) : Prop := okSl okToSession e.sessions ∧ okSl okToItem e.items
def okToServer (e : Server) : Prop := okToNode e.node ∧ okToDisk e.disk ∧ okToJournal e.journal ∧ okToKeep e.keep ∧ e.stage.size ≤ 1048576
def okToMessage (e : Message) : Prop := okSl okToEntry e.entries ∧ okSl (fun _ => True) e.conf ∧ e.data.size ≤ 1048576
def okToLeader (e : Leader) : Prop := okToLog e.log
def okToApplied (e : Applied) : Prop := okToEntry e.entry
def okToCommand (e : Command) : Prop := e.key.size ≤ 1048576 ∧ e.val.size ≤ 1048576
def okToReply (e : Reply) : Prop := okToCommand e.command ∧ e.text.size ≤ 1048576
def okToWorld (e : World) : Prop := okSl (fun _ => True) e.up ∧ okSl okToServer e.servers ∧ okSl okToMessage e.net ∧ okSl (fun _ => True) e.waits ∧ okSl okToLeader e.leaders ∧ okSl okToApplied e.applied ∧ okSl okToReply e.replies
def okEntry (e : Entry) : Prop := okI e.term_ ∧ okI e.kind ∧ okS e.data
def okLog (e : Log) : Prop := okI e.start ∧ okI e.startTerm ∧ (okL okEntry) e.entries
def okPeer (e : Peer) : Prop := okI e.id ∧ okI e.next ∧ okI e.match_ ∧ okI e.sent
def okNode (e : Node) : Prop := okI e.id ∧ okI e.term_ ∧ okI e.vote ∧ okI e.role ∧ okI e.lead ∧ (okL okI) e.conf ∧ okLog e.log ∧ okI e.commit ∧ okI e.clock ∧ okI e.limit ∧ (okL okI) e.votes ∧ (okL okPeer) e.peers
def okFile (e : File) : Prop := okS e.name ∧ okS e.text ∧ okI e.kept
def okDisk (e : Disk) : Prop := (okL okFile) e.files
def okJournal (e : Journal) : Prop := okI e.number ∧ okI e.term_ ∧ okI e.vote ∧ okLog e.log
def okSession (e : Session) : Prop := okI e.token ∧ okI e.last ∧ okS e.reply
def okItem (e : Item) : Prop := okS e.key ∧ okS e.val ∧ okI e.ver
def okKeep (e : Keep) : Prop := (okL okSession) e.sessions ∧ (okL okItem) e.items
def okServer (e : Server) : Prop := okNode e.node ∧ okDisk e.disk ∧ okJournal e.journal ∧ okKeep e.keep ∧ okI e.applied ∧ okS e.stage ∧ okI e.stageAt ∧ okI e.stageTerm
def okMessage (e : Message) : Prop := okI e.kind ∧ okI e.from_ ∧ okI e.to ∧ okI e.term_ ∧ okI e.index ∧ okI e.logTerm ∧ okI e.commit ∧ okB e.ok ∧ (okL okEntry) e.entries ∧ (okL okI) e.conf ∧ okS e.data ∧ okB e.last
def okWait (e : Wait) : Prop := okI e.node ∧ okI e.index ∧ okI e.term_ ∧ okI e.call
def okLeader (e : Leader) : Prop := okI e.node ∧ okI e.term_ ∧ okLog e.log
def okApplied (e : Applied) : Prop := okI e.node ∧ okI e.term_ ∧ okI e.index ∧ okEntry e.entry
def okCommand (e : Command) : Prop := okI e.op ∧ okI e.token ∧ okI e.seq ∧ okS e.key ∧ okS e.val ∧ okI e.ver
def okReply (e : Reply) : Prop := okI e.call ∧ okI e.when_ ∧ okI e.index ∧ okCommand e.command ∧ okS e.text
def okWorld (e : World) : Prop := (okL okB) e.up ∧ (okL okServer) e.servers ∧ (okL okMessage) e.net ∧ (okL okWait) e.waits ∧ (okL okLeader) e.leaders ∧ (okL okApplied) e.applied ∧ (okL okReply) e.replies
theorem szEntry_ok : SzOk szEntry okEntry okToEntry := by
  intro e l hk h0 h1 hs
  unfold szEntry at hs ⊢
  by_cases c0 : IntKind.i64.wrap (l - e.data.size) < 0
  · rw [if_pos c0] at hs; omega
  rw [if_neg c0] at hs ⊢
  have p0 := szStr_ok e.data (l) hk.2.2 (by omega) (by omega) (by show 0 ≤ IntKind.i64.wrap (l - e.data.size); omega)
  have q0 : IntKind.i64.wrap (l - e.data.size) ≤ l := p0.2
  exact ⟨p0.1, by omega⟩
theorem szLog_ok : SzOk szLog okLog okToLog := by
  intro e l hk h0 h1 hs
  unfold szLog at hs ⊢
  by_cases c0 : szS szEntry e.entries (l) < 0
  · rw [if_pos c0] at hs; omega
  rw [if_neg c0] at hs ⊢
  have p0 := (szS_ok szEntry_ok) e.entries (l) hk.2.2 (by omega) (by omega) (by show 0 ≤ szS szEntry e.entries (l); omega)
  have q0 : szS szEntry e.entries (l) ≤ l := p0.2
  exact ⟨p0.1, by omega⟩
theorem szNode_ok : SzOk szNode okNode okToNode := by
  intro e l hk h0 h1 hs
  unfold szNode at hs ⊢
  by_cases c0 : szI e.conf (l) < 0
  · rw [if_pos c0] at hs; omega
  rw [if_neg c0] at hs ⊢
  have p0 := szI_ok e.conf (l) hk.2.2.2.2.2.1 (by omega) (by omega) (by show 0 ≤ szI e.conf (l); omega)
  have q0 : szI e.conf (l) ≤ l := p0.2
  by_cases c1 : szLog e.log ((szI e.conf (l))) < 0
  · rw [if_pos c1] at hs; omega
  rw [if_neg c1] at hs ⊢
  have p1 := szLog_ok e.log ((szI e.conf (l))) hk.2.2.2.2.2.2.1 (by omega) (by omega) (by show 0 ≤ szLog e.log ((szI e.conf (l))); omega)
  have q1 : szLog e.log ((szI e.conf (l))) ≤ (szI e.conf (l)) := p1.2
  by_cases c2 : szI e.votes ((szLog e.log ((szI e.conf (l))))) < 0
  · rw [if_pos c2] at hs; omega
  rw [if_neg c2] at hs ⊢
  have p2 := szI_ok e.votes ((szLog e.log ((szI e.conf (l))))) hk.2.2.2.2.2.2.2.2.2.2.1 (by omega) (by omega) (by show 0 ≤ szI e.votes ((szLog e.log ((szI e.conf (l))))); omega)
  have q2 : szI e.votes ((szLog e.log ((szI e.conf (l))))) ≤ (szLog e.log ((szI e.conf (l)))) := p2.2
  by_cases c3 : szI e.peers ((szI e.votes ((szLog e.log ((szI e.conf (l))))))) < 0
  · rw [if_pos c3] at hs; omega
  rw [if_neg c3] at hs ⊢
  have p3 := szI_ok e.peers ((szI e.votes ((szLog e.log ((szI e.conf (l))))))) hk.2.2.2.2.2.2.2.2.2.2.2 (by omega) (by omega) (by show 0 ≤ szI e.peers ((szI e.votes ((szLog e.log ((szI e.conf (l))))))); omega)
  have q3 : szI e.peers ((szI e.votes ((szLog e.log ((szI e.conf (l))))))) ≤ (szI e.votes ((szLog e.log ((szI e.conf (l)))))) := p3.2
  exact ⟨⟨p0.1, p1.1, p2.1, p3.1⟩, by omega⟩
theorem szFile_ok : SzOk szFile okFile okToFile := by
  intro e l hk h0 h1 hs
  unfold szFile at hs ⊢
  by_cases c0 : IntKind.i64.wrap (l - e.name.size) < 0
  · rw [if_pos c0] at hs; omega
  rw [if_neg c0] at hs ⊢
  have p0 := szStr_ok e.name (l) hk.1 (by omega) (by omega) (by show 0 ≤ IntKind.i64.wrap (l - e.name.size); omega)
  have q0 : IntKind.i64.wrap (l - e.name.size) ≤ l := p0.2
  by_cases c1 : IntKind.i64.wrap ((IntKind.i64.wrap (l - e.name.size)) - e.text.size) < 0
  · rw [if_pos c1] at hs; omega
  rw [if_neg c1] at hs ⊢
  have p1 := szStr_ok e.text ((IntKind.i64.wrap (l - e.name.size))) hk.2.1 (by omega) (by omega) (by show 0 ≤ IntKind.i64.wrap ((IntKind.i64.wrap (l - e.name.size)) - e.text.size); omega)
  have q1 : IntKind.i64.wrap ((IntKind.i64.wrap (l - e.name.size)) - e.text.size) ≤ (IntKind.i64.wrap (l - e.name.size)) := p1.2
  exact ⟨⟨p0.1, p1.1⟩, by omega⟩
theorem szDisk_ok : SzOk szDisk okDisk okToDisk := by
  intro e l hk h0 h1 hs
  unfold szDisk at hs ⊢
  by_cases c0 : szS szFile e.files (l) < 0
  · rw [if_pos c0] at hs; omega
  rw [if_neg c0] at hs ⊢
  have p0 := (szS_ok szFile_ok) e.files (l) hk (by omega) (by omega) (by show 0 ≤ szS szFile e.files (l); omega)
  have q0 : szS szFile e.files (l) ≤ l := p0.2
  exact ⟨p0.1, by omega⟩
theorem szJournal_ok : SzOk szJournal okJournal okToJournal := by
  intro e l hk h0 h1 hs
  unfold szJournal at hs ⊢
  by_cases c0 : szLog e.log (l) < 0
  · rw [if_pos c0] at hs; omega
  rw [if_neg c0] at hs ⊢
  have p0 := szLog_ok e.log (l) hk.2.2.2 (by omega) (by omega) (by show 0 ≤ szLog e.log (l); omega)
  have q0 : szLog e.log (l) ≤ l := p0.2
  exact ⟨p0.1, by omega⟩
theorem szSession_ok : SzOk szSession okSession okToSession := by
  intro e l hk h0 h1 hs
  unfold szSession at hs ⊢
  by_cases c0 : IntKind.i64.wrap (l - e.reply.size) < 0
  · rw [if_pos c0] at hs; omega
  rw [if_neg c0] at hs ⊢
  have p0 := szStr_ok e.reply (l) hk.2.2 (by omega) (by omega) (by show 0 ≤ IntKind.i64.wrap (l - e.reply.size); omega)
  have q0 : IntKind.i64.wrap (l - e.reply.size) ≤ l := p0.2
  exact ⟨p0.1, by omega⟩
theorem szItem_ok : SzOk szItem okItem okToItem := by
  intro e l hk h0 h1 hs
  unfold szItem at hs ⊢
  by_cases c0 : IntKind.i64.wrap (l - e.key.size) < 0
  · rw [if_pos c0] at hs; omega
  rw [if_neg c0] at hs ⊢
  have p0 := szStr_ok e.key (l) hk.1 (by omega) (by omega) (by show 0 ≤ IntKind.i64.wrap (l - e.key.size); omega)
  have q0 : IntKind.i64.wrap (l - e.key.size) ≤ l := p0.2
  by_cases c1 : IntKind.i64.wrap ((IntKind.i64.wrap (l - e.key.size)) - e.val.size) < 0
  · rw [if_pos c1] at hs; omega
  rw [if_neg c1] at hs ⊢
  have p1 := szStr_ok e.val ((IntKind.i64.wrap (l - e.key.size))) hk.2.1 (by omega) (by omega) (by show 0 ≤ IntKind.i64.wrap ((IntKind.i64.wrap (l - e.key.size)) - e.val.size); omega)
  have q1 : IntKind.i64.wrap ((IntKind.i64.wrap (l - e.key.size)) - e.val.size) ≤ (IntKind.i64.wrap (l - e.key.size)) := p1.2
  exact ⟨⟨p0.1, p1.1⟩, by omega⟩
theorem szKeep_ok : SzOk szKeep okKeep okToKeep := by
  intro e l hk h0 h1 hs
  unfold szKeep at hs ⊢
  by_cases c0 : szS szSession e.sessions (l) < 0
  · rw [if_pos c0] at hs; omega
  rw [if_neg c0] at hs ⊢
  have p0 := (szS_ok szSession_ok) e.sessions (l) hk.1 (by omega) (by omega) (by show 0 ≤ szS szSession e.sessions (l); omega)
  have q0 : szS szSession e.sessions (l) ≤ l := p0.2
  by_cases c1 : szS szItem e.items ((szS szSession e.sessions (l))) < 0
  · rw [if_pos c1] at hs; omega
  rw [if_neg c1] at hs ⊢
  have p1 := (szS_ok szItem_ok) e.items ((szS szSession e.sessions (l))) hk.2 (by omega) (by omega) (by show 0 ≤ szS szItem e.items ((szS szSession e.sessions (l))); omega)
  have q1 : szS szItem e.items ((szS szSession e.sessions (l))) ≤ (szS szSession e.sessions (l)) := p1.2
  exact ⟨⟨p0.1, p1.1⟩, by omega⟩
theorem szServer_ok : SzOk szServer okServer okToServer := by
  intro e l hk h0 h1 hs
  unfold szServer at hs ⊢
  by_cases c0 : szNode e.node (l) < 0
  · rw [if_pos c0] at hs; omega
  rw [if_neg c0] at hs ⊢
  have p0 := szNode_ok e.node (l) hk.1 (by omega) (by omega) (by show 0 ≤ szNode e.node (l); omega)
  have q0 : szNode e.node (l) ≤ l := p0.2
  by_cases c1 : szDisk e.disk ((szNode e.node (l))) < 0
  · rw [if_pos c1] at hs; omega
  rw [if_neg c1] at hs ⊢
  have p1 := szDisk_ok e.disk ((szNode e.node (l))) hk.2.1 (by omega) (by omega) (by show 0 ≤ szDisk e.disk ((szNode e.node (l))); omega)
  have q1 : szDisk e.disk ((szNode e.node (l))) ≤ (szNode e.node (l)) := p1.2
  by_cases c2 : szJournal e.journal ((szDisk e.disk ((szNode e.node (l))))) < 0
  · rw [if_pos c2] at hs; omega
  rw [if_neg c2] at hs ⊢
  have p2 := szJournal_ok e.journal ((szDisk e.disk ((szNode e.node (l))))) hk.2.2.1 (by omega) (by omega) (by show 0 ≤ szJournal e.journal ((szDisk e.disk ((szNode e.node (l))))); omega)
  have q2 : szJournal e.journal ((szDisk e.disk ((szNode e.node (l))))) ≤ (szDisk e.disk ((szNode e.node (l)))) := p2.2
  by_cases c3 : szKeep e.keep ((szJournal e.journal ((szDisk e.disk ((szNode e.node (l))))))) < 0
  · rw [if_pos c3] at hs; omega
  rw [if_neg c3] at hs ⊢
  have p3 := szKeep_ok e.keep ((szJournal e.journal ((szDisk e.disk ((szNode e.node (l))))))) hk.2.2.2.1 (by omega) (by omega) (by show 0 ≤ szKeep e.keep ((szJournal e.journal ((szDisk e.disk ((szNode e.node (l))))))); omega)
  have q3 : szKeep e.keep ((szJournal e.journal ((szDisk e.disk ((szNode e.node (l))))))) ≤ (szJournal e.journal ((szDisk e.disk ((szNode e.node (l)))))) := p3.2
  by_cases c4 : IntKind.i64.wrap ((szKeep e.keep ((szJournal e.journal ((szDisk e.disk ((szNode e.node (l)))))))) - e.stage.size) < 0
  · rw [if_pos c4] at hs; omega
  rw [if_neg c4] at hs ⊢
  have p4 := szStr_ok e.stage ((szKeep e.keep ((szJournal e.journal ((szDisk e.disk ((szNode e.node (l))))))))) hk.2.2.2.2.2.1 (by omega) (by omega) (by show 0 ≤ IntKind.i64.wrap ((szKeep e.keep ((szJournal e.journal ((szDisk e.disk ((szNode e.node (l)))))))) - e.stage.size); omega)
  have q4 : IntKind.i64.wrap ((szKeep e.keep ((szJournal e.journal ((szDisk e.disk ((szNode e.node (l)))))))) - e.stage.size) ≤ (szKeep e.keep ((szJournal e.journal ((szDisk e.disk ((szNode e.node (l)))))))) := p4.2
  exact ⟨⟨p0.1, p1.1, p2.1, p3.1, p4.1⟩, by omega⟩
theorem szMessage_ok : SzOk szMessage okMessage okToMessage := by
  intro e l hk h0 h1 hs
  unfold szMessage at hs ⊢
  by_cases c0 : szS szEntry e.entries (l) < 0
  · rw [if_pos c0] at hs; omega
  rw [if_neg c0] at hs ⊢
  have p0 := (szS_ok szEntry_ok) e.entries (l) hk.2.2.2.2.2.2.2.2.1 (by omega) (by omega) (by show 0 ≤ szS szEntry e.entries (l); omega)
  have q0 : szS szEntry e.entries (l) ≤ l := p0.2
  by_cases c1 : szI e.conf ((szS szEntry e.entries (l))) < 0
  · rw [if_pos c1] at hs; omega
  rw [if_neg c1] at hs ⊢
  have p1 := szI_ok e.conf ((szS szEntry e.entries (l))) hk.2.2.2.2.2.2.2.2.2.1 (by omega) (by omega) (by show 0 ≤ szI e.conf ((szS szEntry e.entries (l))); omega)
  have q1 : szI e.conf ((szS szEntry e.entries (l))) ≤ (szS szEntry e.entries (l)) := p1.2
  by_cases c2 : IntKind.i64.wrap ((szI e.conf ((szS szEntry e.entries (l)))) - e.data.size) < 0
  · rw [if_pos c2] at hs; omega
  rw [if_neg c2] at hs ⊢
  have p2 := szStr_ok e.data ((szI e.conf ((szS szEntry e.entries (l))))) hk.2.2.2.2.2.2.2.2.2.2.1 (by omega) (by omega) (by show 0 ≤ IntKind.i64.wrap ((szI e.conf ((szS szEntry e.entries (l)))) - e.data.size); omega)
  have q2 : IntKind.i64.wrap ((szI e.conf ((szS szEntry e.entries (l)))) - e.data.size) ≤ (szI e.conf ((szS szEntry e.entries (l)))) := p2.2
  exact ⟨⟨p0.1, p1.1, p2.1⟩, by omega⟩
theorem szLeader_ok : SzOk szLeader okLeader okToLeader := by
  intro e l hk h0 h1 hs
  unfold szLeader at hs ⊢
  by_cases c0 : szLog e.log (l) < 0
  · rw [if_pos c0] at hs; omega
  rw [if_neg c0] at hs ⊢
  have p0 := szLog_ok e.log (l) hk.2.2 (by omega) (by omega) (by show 0 ≤ szLog e.log (l); omega)
  have q0 : szLog e.log (l) ≤ l := p0.2
  exact ⟨p0.1, by omega⟩
theorem szApplied_ok : SzOk szApplied okApplied okToApplied := by
  intro e l hk h0 h1 hs
  unfold szApplied at hs ⊢
  by_cases c0 : szEntry e.entry (l) < 0
  · rw [if_pos c0] at hs; omega
  rw [if_neg c0] at hs ⊢
  have p0 := szEntry_ok e.entry (l) hk.2.2.2 (by omega) (by omega) (by show 0 ≤ szEntry e.entry (l); omega)
  have q0 : szEntry e.entry (l) ≤ l := p0.2
  exact ⟨p0.1, by omega⟩
theorem szCommand_ok : SzOk szCommand okCommand okToCommand := by
  intro e l hk h0 h1 hs
  unfold szCommand at hs ⊢
  by_cases c0 : IntKind.i64.wrap (l - e.key.size) < 0
  · rw [if_pos c0] at hs; omega
  rw [if_neg c0] at hs ⊢
  have p0 := szStr_ok e.key (l) hk.2.2.2.1 (by omega) (by omega) (by show 0 ≤ IntKind.i64.wrap (l - e.key.size); omega)
  have q0 : IntKind.i64.wrap (l - e.key.size) ≤ l := p0.2
  by_cases c1 : IntKind.i64.wrap ((IntKind.i64.wrap (l - e.key.size)) - e.val.size) < 0
  · rw [if_pos c1] at hs; omega
  rw [if_neg c1] at hs ⊢
  have p1 := szStr_ok e.val ((IntKind.i64.wrap (l - e.key.size))) hk.2.2.2.2.1 (by omega) (by omega) (by show 0 ≤ IntKind.i64.wrap ((IntKind.i64.wrap (l - e.key.size)) - e.val.size); omega)
  have q1 : IntKind.i64.wrap ((IntKind.i64.wrap (l - e.key.size)) - e.val.size) ≤ (IntKind.i64.wrap (l - e.key.size)) := p1.2
  exact ⟨⟨p0.1, p1.1⟩, by omega⟩
theorem szReply_ok : SzOk szReply okReply okToReply := by
  intro e l hk h0 h1 hs
  unfold szReply at hs ⊢
  by_cases c0 : szCommand e.command (l) < 0
  · rw [if_pos c0] at hs; omega
  rw [if_neg c0] at hs ⊢
  have p0 := szCommand_ok e.command (l) hk.2.2.2.1 (by omega) (by omega) (by show 0 ≤ szCommand e.command (l); omega)
  have q0 : szCommand e.command (l) ≤ l := p0.2
  by_cases c1 : IntKind.i64.wrap ((szCommand e.command (l)) - e.text.size) < 0
  · rw [if_pos c1] at hs; omega
  rw [if_neg c1] at hs ⊢
  have p1 := szStr_ok e.text ((szCommand e.command (l))) hk.2.2.2.2 (by omega) (by omega) (by show 0 ≤ IntKind.i64.wrap ((szCommand e.command (l)) - e.text.size); omega)
  have q1 : IntKind.i64.wrap ((szCommand e.command (l)) - e.text.size) ≤ (szCommand e.command (l)) := p1.2
  exact ⟨⟨p0.1, p1.1⟩, by omega⟩
theorem szWorld_ok : SzOk szWorld okWorld okToWorld := by
  intro e l hk h0 h1 hs
  unfold szWorld at hs ⊢
  by_cases c0 : szI e.up (l) < 0
  · rw [if_pos c0] at hs; omega
  rw [if_neg c0] at hs ⊢
  have p0 := szI_ok e.up (l) hk.1 (by omega) (by omega) (by show 0 ≤ szI e.up (l); omega)
  have q0 : szI e.up (l) ≤ l := p0.2
  by_cases c1 : szS szServer e.servers ((szI e.up (l))) < 0
  · rw [if_pos c1] at hs; omega
  rw [if_neg c1] at hs ⊢
  have p1 := (szS_ok szServer_ok) e.servers ((szI e.up (l))) hk.2.1 (by omega) (by omega) (by show 0 ≤ szS szServer e.servers ((szI e.up (l))); omega)
  have q1 : szS szServer e.servers ((szI e.up (l))) ≤ (szI e.up (l)) := p1.2
  by_cases c2 : szS szMessage e.net ((szS szServer e.servers ((szI e.up (l))))) < 0
  · rw [if_pos c2] at hs; omega
  rw [if_neg c2] at hs ⊢
  have p2 := (szS_ok szMessage_ok) e.net ((szS szServer e.servers ((szI e.up (l))))) hk.2.2.1 (by omega) (by omega) (by show 0 ≤ szS szMessage e.net ((szS szServer e.servers ((szI e.up (l))))); omega)
  have q2 : szS szMessage e.net ((szS szServer e.servers ((szI e.up (l))))) ≤ (szS szServer e.servers ((szI e.up (l)))) := p2.2
  by_cases c3 : szI e.waits ((szS szMessage e.net ((szS szServer e.servers ((szI e.up (l))))))) < 0
  · rw [if_pos c3] at hs; omega
  rw [if_neg c3] at hs ⊢
  have p3 := szI_ok e.waits ((szS szMessage e.net ((szS szServer e.servers ((szI e.up (l))))))) hk.2.2.2.1 (by omega) (by omega) (by show 0 ≤ szI e.waits ((szS szMessage e.net ((szS szServer e.servers ((szI e.up (l))))))); omega)
  have q3 : szI e.waits ((szS szMessage e.net ((szS szServer e.servers ((szI e.up (l))))))) ≤ (szS szMessage e.net ((szS szServer e.servers ((szI e.up (l)))))) := p3.2
  by_cases c4 : szS szLeader e.leaders ((szI e.waits ((szS szMessage e.net ((szS szServer e.servers ((szI e.up (l))))))))) < 0
  · rw [if_pos c4] at hs; omega
  rw [if_neg c4] at hs ⊢
  have p4 := (szS_ok szLeader_ok) e.leaders ((szI e.waits ((szS szMessage e.net ((szS szServer e.servers ((szI e.up (l))))))))) hk.2.2.2.2.1 (by omega) (by omega) (by show 0 ≤ szS szLeader e.leaders ((szI e.waits ((szS szMessage e.net ((szS szServer e.servers ((szI e.up (l))))))))); omega)
  have q4 : szS szLeader e.leaders ((szI e.waits ((szS szMessage e.net ((szS szServer e.servers ((szI e.up (l))))))))) ≤ (szI e.waits ((szS szMessage e.net ((szS szServer e.servers ((szI e.up (l)))))))) := p4.2
  by_cases c5 : szS szApplied e.applied ((szS szLeader e.leaders ((szI e.waits ((szS szMessage e.net ((szS szServer e.servers ((szI e.up (l))))))))))) < 0
  · rw [if_pos c5] at hs; omega
  rw [if_neg c5] at hs ⊢
  have p5 := (szS_ok szApplied_ok) e.applied ((szS szLeader e.leaders ((szI e.waits ((szS szMessage e.net ((szS szServer e.servers ((szI e.up (l))))))))))) hk.2.2.2.2.2.1 (by omega) (by omega) (by show 0 ≤ szS szApplied e.applied ((szS szLeader e.leaders ((szI e.waits ((szS szMessage e.net ((szS szServer e.servers ((szI e.up (l))))))))))); omega)
  have q5 : szS szApplied e.applied ((szS szLeader e.leaders ((szI e.waits ((szS szMessage e.net ((szS szServer e.servers ((szI e.up (l))))))))))) ≤ (szS szLeader e.leaders ((szI e.waits ((szS szMessage e.net ((szS szServer e.servers ((szI e.up (l)))))))))) := p5.2
  by_cases c6 : szS szReply e.replies ((szS szApplied e.applied ((szS szLeader e.leaders ((szI e.waits ((szS szMessage e.net ((szS szServer e.servers ((szI e.up (l))))))))))))) < 0
  · rw [if_pos c6] at hs; omega
  rw [if_neg c6] at hs ⊢
  have p6 := (szS_ok szReply_ok) e.replies ((szS szApplied e.applied ((szS szLeader e.leaders ((szI e.waits ((szS szMessage e.net ((szS szServer e.servers ((szI e.up (l))))))))))))) hk.2.2.2.2.2.2 (by omega) (by omega) (by show 0 ≤ szS szReply e.replies ((szS szApplied e.applied ((szS szLeader e.leaders ((szI e.waits ((szS szMessage e.net ((szS szServer e.servers ((szI e.up (l))))))))))))); omega)
  have q6 : szS szReply e.replies ((szS szApplied e.applied ((szS szLeader e.leaders ((szI e.waits ((szS szMessage e.net ((szS szServer e.servers ((szI e.up (l))))))))))))) ≤ (szS szApplied e.applied ((szS szLeader e.leaders ((szI e.waits ((szS szMessage e.net ((szS szServer e.servers ((szI e.up (l)))))))))))) := p6.2
  exact ⟨⟨p0.1, p1.1, p2.1, p3.1, p4.1, p5.1, p6.1⟩, by omega⟩
def inR (n x y : Int) : Bool := decide (n ≥ x) && decide (n ≤ y)
theorem ba_ext {x y : ByteArray} (h : x.toList = y.toList) : x = y := by
  rw [ByteArray.toList_eq, ByteArray.toList_eq] at h
  exact ByteArray.ext (Array.ext' h)
theorem findIdx_at {α : Type} {p : α → Bool} : ∀ {a : List α} {i : Nat} {e : α}, (a.take i).any p = false → a[i]? = some e → p e = true → a.findIdx? p = some i
  | [], i, e, _, h, _ => by simp at h
  | x :: r, 0, e, _, h, hp => by
    simp at h
    subst h
    simp [List.findIdx?_cons, hp]
  | x :: r, i + 1, e, ha, h, hp => by
    simp only [List.take_succ_cons, List.any_cons, Bool.or_eq_false_iff] at ha
    have := findIdx_at (a := r) ha.2 (by simpa using h) hp
    simp [List.findIdx?_cons, ha.1, this]
theorem any_snoc {α : Type} {p : α → Bool} {a : List α} {i : Nat} {e : α} (ha : (a.take i).any p = false) (h : a[i]? = some e) (hp : p e = false) : (a.take (i + 1)).any p = false := by
  rw [take_snoc h, List.any_append, ha]
  simp [hp]
theorem nT {b : Bool} (h : (!b) = true) : b = false := by simpa using h
theorem nF {b : Bool} (h : (!b) = false) : b = true := by simpa using h
theorem toL_app (a b : ByteArray) : (a ++ b).toList = a.toList ++ b.toList := by
  rw [ByteArray.toList_eq, ByteArray.toList_eq, ByteArray.toList_eq, ByteArray.data_append, Array.toList_append]
theorem toL_len (s : ByteArray) : s.toList.length = s.size := by rw [ByteArray.toList_eq]; rfl
theorem toL_get {s : ByteArray} {i : Nat} (h : i < s.size) : s.toList[i]? = some s[i] := by
  rw [ByteArray.toList_eq]
  have : s.data.toList[i]? = some s.data[i] := by rw [Array.getElem?_toList]; exact Array.getElem?_eq_getElem h
  exact this
theorem wrap_small {x : Int} (h0 : -9223372036854775808 ≤ x) (h1 : x ≤ 9223372036854775807) : IntKind.i64.wrap x = x := by rw [IntKind.wrap_i64]; omega
-- CODEC
theorem dgs_dec (u : Nat) (out : ByteArray) (h : 0 < u) : dgs u out = ⟨(Lib.decDigits u).toArray⟩ ++ out := by
  induction u using Nat.strongRecOn generalizing out with
  | _ u ih =>
    have hb : bytesOf [IntKind.u8.wrap (IntKind.i64.wrap (48 + Int.tmod (u : Int) 10))] = ⟨#[UInt8.ofNat (48 + u % 10)]⟩ := by
      rw [Int.tmod_eq_emod_of_nonneg (by omega), show IntKind.i64.wrap (48 + (u : Int) % 10) = ((48 + u % 10 : Nat) : Int) from by rw [IntKind.wrap_i64]; omega]
      have : u % 10 < 10 := Nat.mod_lt _ (by omega)
      generalize u % 10 = d at *
      have : d = 0 ∨ d = 1 ∨ d = 2 ∨ d = 3 ∨ d = 4 ∨ d = 5 ∨ d = 6 ∨ d = 7 ∨ d = 8 ∨ d = 9 := by omega
      rcases this with rfl | rfl | rfl | rfl | rfl | rfl | rfl | rfl | rfl | rfl <;> rfl
    rw [dgs, dif_neg (by omega), hb]
    by_cases h10 : u < 10
    · rw [show u / 10 = 0 by omega, dgs, dif_pos rfl, Lib.decDigits, dif_pos h10, show u % 10 = u by omega]
    · rw [ih (u / 10) (by omega) _ (by omega), Lib.decDigits.eq_def u, dif_neg h10, ← ByteArray.append_assoc]
      rfl
theorem itoa_pos {n : Int} (h : 0 < n) : itoaB n = dgs n.toNat ⟨#[]⟩ := by
  rw [dgs_dec _ _ (by omega), itoaB, Lib.itoa, if_neg (by omega)]
  exact ByteArray.append_empty.symm
theorem itoa_zero : itoaB 0 = ⟨#[48]⟩ := by
  rw [itoaB, Lib.itoa, if_neg (by omega), Lib.decDigits_one (by decide)]; rfl
theorem nd_le : ∀ (k u : Nat), 0 < k → u < 10 ^ k → Lib.nDigits u ≤ k
  | 0, _, h, _ => by omega
  | k + 1, u, _, h => by
    by_cases h10 : u < 10
    · rw [Lib.nDigits_small h10]; omega
    · rw [Lib.nDigits_big h10]
      have hk : 0 < k := by
        rcases Nat.eq_zero_or_pos k with rfl | hk
        · simp at h; omega
        · exact hk
      have := nd_le k (u / 10) hk (by rw [Nat.pow_succ] at h; omega)
      omega
theorem itoa_len {n : Int} (h0 : 0 ≤ n) (h1 : n ≤ 1000000000) : (itoaB n).size ≤ 10 := by
  have : (itoaB n).size = (Lib.decDigits n.toNat).length := by
    rw [itoaB, Lib.itoa, if_neg (by omega)]; rfl
  rw [this, Lib.decDigits_length]
  exact nd_le 10 _ (by omega) (by omega)
theorem okI_of {n : Int} (h0 : -9223372036854775808 ≤ n) (h1 : n ≤ 9223372036854775807) : okI n := by
  simp [okI, Lit.wf]
  exact ⟨h0, h1⟩
def emp (s : ByteArray) : Bool := s.toList == (⟨#[]⟩ : ByteArray).toList
def sessOk (s : Session) : Bool := inR s.token 1 1000000 && inR s.last 0 1000000 && decide ((s.reply.size : Int) ≤ 40) && !(s.last == 0 && !emp s.reply)
def prevGe (p : Option Int) (x : Int) : Bool := match p with | none => false | some q => decide (q ≥ x)
def sessF : Option Int → List Session → Bool
  | _, [] => true
  | p, s :: r => if !sessOk s || prevGe p s.token then false else sessF (some s.token) r
def itemOk (x : Item) : Bool := inR (x.key.size : Int) 1 8 && decide ((x.val.size : Int) ≤ 20) && inR x.ver 1 1000000000
def prevS (p : Option ByteArray) (x : ByteArray) : Bool := match p with | none => false | some q => !(Op.bytesLess q.toList x.toList)
def itemF : Option ByteArray → List Item → Bool
  | _, [] => true
  | p, x :: r => if !itemOk x || prevS p x.key then false else itemF (some x.key) r
def keepOk (k : Keep) : Bool := sessF none k.sessions && itemF none k.items && decide ((k.sessions.length : Int) ≤ 3) && decide ((k.items.length : Int) ≤ 8)
def prevO {α β : Type} (f : α → β) (z : α) (a : List α) (i : Nat) : Option β := if i = 0 then none else some (f (a.getD (i - 1) z))
theorem prevO_succ {α β : Type} {f : α → β} {z : α} {a : List α} {i : Nat} {e : α} (h : a[i]? = some e) : prevO f z a (i + 1) = some (f e) := by
  simp [prevO, List.getD_eq_getElem?_getD, h]
theorem itemF_all : ∀ (l : List Item) (p : Option ByteArray), itemF p l = true → ∀ x ∈ l, itemOk x = true
  | [], _, _, x, h => by cases h
  | y :: r, p, h, x, hx => by
    rw [itemF] at h
    split at h
    · cases h
    · rename_i hc
      rcases List.mem_cons.1 hx with rfl | hx
      · simp at hc; exact hc.1
      · exact itemF_all r _ h x hx
structure ItIn (x : Item) : Prop where
  k1 : 1 ≤ x.key.size
  k8 : x.key.size ≤ 8
  v : x.val.size ≤ 20
  n1 : 1 ≤ x.ver
  n9 : x.ver ≤ 1000000000
theorem itemOk_in {x : Item} (h : itemOk x = true) : ItIn x := by
  simp [itemOk, inR] at h
  exact ⟨by omega, by omega, by omega, by omega, by omega⟩
theorem ItIn.len {x : Item} (h : ItIn x) : (itoaB x.ver).size ≤ 10 := itoa_len (by have := h.n1; omega) h.n9
theorem keepOk_it {k : Keep} (h : keepOk k = true) : ∀ x ∈ k.items, ItIn x := fun x hx => by
  simp only [keepOk, Bool.and_eq_true] at h
  exact itemOk_in (itemF_all _ _ h.1.1.2 x hx)
theorem keepOk_len {k : Keep} (h : keepOk k = true) : k.items.length ≤ 8 ∧ k.sessions.length ≤ 3 := by
  simp only [keepOk, Bool.and_eq_true, decide_eq_true_eq] at h
  omega
def cmdOk (x : Command) : Bool :=
  inR x.token 0 1000000 && inR x.seq 0 1000000 && inR x.op 1 5 &&
    (if x.op == 1 then x.token == 0 && x.seq == 0 && emp x.key && emp x.val && x.ver == 0
     else inR (x.key.size : Int) 1 8 && decide ((x.val.size : Int) ≤ 20) && (if x.op == 2 then x.ver == 0 else if x.op == 5 then inR x.ver 1 1000000000 else emp x.val && x.ver == 0))
theorem cmd_open {x : Command} (h : x.op = 1) : eqCommand x ⟨1, 0, 0, ⟨#[]⟩, ⟨#[]⟩, 0⟩ = cmdOk x := by
  rw [Bool.eq_iff_iff]
  simp only [eqCommand, cmdOk, emp, inR, h]
  simp
  constructor
  · rintro ⟨h1, h2, h3, h4, h5⟩; simp_all
  · rintro h1; simp_all
theorem bl_irr (a : List UInt8) : Op.bytesLess a a = false := by
  rw [Go.Proofs.bytesLess_eq]; simp [List.lt_irrefl]
theorem bl_trans {a b c : List UInt8} (h1 : Op.bytesLess a b = true) (h2 : Op.bytesLess b c = true) : Op.bytesLess a c = true := by
  rw [Go.Proofs.bytesLess_eq] at *; simp at *; exact List.lt_trans h1 h2
theorem bl_tri {a b : List UInt8} (h1 : Op.bytesLess a b = false) (h2 : a ≠ b) : Op.bytesLess b a = true := by
  rw [Go.Proofs.bytesLess_eq] at *; simp at *
  by_cases h : b < a
  · exact h
  · exact absurd (List.le_antisymm (List.not_lt.1 h) h1) h2
def sEq (a b : ByteArray) : Bool := a.toList == b.toList
def sLt (a b : ByteArray) : Bool := Op.bytesLess a.toList b.toList
def sGt (a b : ByteArray) : Bool := !(Op.bytesLess a.toList b.toList || a.toList == b.toList)
theorem sGt_lt (a b : ByteArray) : sGt a b = sLt b a := by
  unfold sGt sLt
  by_cases h : a.toList = b.toList
  · simp [h, bl_irr]
  · cases h1 : Op.bytesLess a.toList b.toList with
    | true =>
      cases h2 : Op.bytesLess b.toList a.toList with
      | true => have := bl_trans h1 h2; rw [bl_irr] at this; cases this
      | false => simp
    | false => simp [h, bl_tri h1 h]
theorem sLt_irr (a : ByteArray) : sLt a a = false := bl_irr _
theorem sLt_trans {a b c : ByteArray} (h1 : sLt a b = true) (h2 : sLt b c = true) : sLt a c = true := bl_trans h1 h2
theorem sLt_asymm {a b : ByteArray} (h1 : sLt a b = true) : sLt b a = false := by
  cases h : sLt b a with
  | false => rfl
  | true => have := sLt_trans h1 h; rw [sLt_irr] at this; cases this
theorem sLt_ne {a b : ByteArray} (h : sLt a b = true) : sEq a b = false := by
  cases h1 : sEq a b with
  | false => rfl
  | true =>
    simp [sEq] at h1
    simp [sLt, h1, bl_irr] at h
theorem sEq_symm (a b : ByteArray) : sEq a b = sEq b a := by
  unfold sEq; exact Bool.beq_comm
theorem sTri (a b : ByteArray) : sLt a b = true ∨ sEq a b = true ∨ sLt b a = true := by
  by_cases h : a.toList = b.toList
  · exact .inr (.inl (by simp [sEq, h]))
  · cases h1 : sLt a b with
    | true => exact .inl rfl
    | false => exact .inr (.inr (bl_tri h1 h))
def Up (p : Option ByteArray) : List Item → Prop
  | [] => True
  | x :: r => (∀ q, p = some q → sLt q x.key = true) ∧ Up (some x.key) r
theorem Up.of : ∀ {l : List Item} {p : Option ByteArray}, itemF p l = true → Up p l
  | [], _, _ => trivial
  | x :: r, p, h => by
    rw [itemF] at h
    split at h
    · cases h
    · rename_i hc
      refine ⟨fun q hq => ?_, Up.of h⟩
      subst hq
      simp [prevS] at hc
      exact hc.2
theorem Up.all : ∀ {l : List Item} {q : ByteArray}, Up (some q) l → ∀ x ∈ l, sLt q x.key = true
  | [], _, _, x, hx => by cases hx
  | y :: r, q, h, x, hx => by
    rcases List.mem_cons.1 hx with rfl | hx
    · exact h.1 q rfl
    · exact sLt_trans (h.1 q rfl) (Up.all h.2 x hx)
def isKey (key : ByteArray) (x : Item) : Bool := sEq x.key key
def itemOf (k : Keep) (key : ByteArray) : Item × Bool := match k.items.find? (isKey key) with | some x => (x, true) | none => (Item.z, false)
def withoutL (l : List Item) (key : ByteArray) : List Item := l.filter fun x => !isKey key x
def insL (it : Item) : List Item → List Item
  | [] => [it]
  | x :: r => if sGt x.key it.key then it :: x :: r else x :: insL it r
def putL (l : List Item) (it : Item) : List Item := (l.filter fun x => sLt x.key it.key) ++ [it] ++ l.filter fun x => sGt x.key it.key
theorem all_gt {it : Item} : ∀ {r : List Item}, (∀ x ∈ r, sLt it.key x.key = true) → withoutL r it.key = r ∧ (r.filter fun x => sLt x.key it.key) = [] ∧ (r.filter fun x => sGt x.key it.key) = r ∧ r.find? (isKey it.key) = none ∧ insL it r = it :: r := by
  intro r h
  have h1 : ∀ x ∈ r, isKey it.key x = false := fun x hx => by rw [isKey, sEq_symm]; exact sLt_ne (h x hx)
  refine ⟨?_, ?_, ?_, ?_, ?_⟩
  · unfold withoutL
    rw [List.filter_eq_self]
    intro x hx
    simp [h1 x hx]
  · rw [List.filter_eq_nil_iff]
    intro x hx
    simp [sLt_asymm (h x hx)]
  · rw [List.filter_eq_self]
    intro x hx
    rw [sGt_lt]; exact h x hx
  · rw [List.find?_eq_none]
    intro x hx
    simp [h1 x hx]
  · cases r with
    | nil => rfl
    | cons x r => rw [insL, sGt_lt, if_pos (h x (List.mem_cons_self ..))]
theorem put_eq {it : Item} : ∀ {l : List Item} {p : Option ByteArray}, Up p l → insL it (withoutL l it.key) = putL l it ∧ (putL l it).length = (if (l.find? (isKey it.key)).isSome then l.length else l.length + 1)
  | [], _, _ => ⟨rfl, rfl⟩
  | x :: r, p, h => by
    obtain ⟨i1, i2⟩ := put_eq (it := it) h.2
    rcases sTri x.key it.key with hl | he | hg
    · have e1 : isKey it.key x = false := sLt_ne hl
      have e2 : sGt x.key it.key = false := by rw [sGt_lt]; exact sLt_asymm hl
      have e3 : putL (x :: r) it = x :: putL r it := by simp [putL, List.filter_cons, hl, e2]
      refine ⟨?_, ?_⟩
      · rw [e3, ← i1]
        simp [withoutL, List.filter_cons, e1, insL, e2]
      · rw [e3]
        simp only [List.length_cons, i2, List.find?_cons, e1]
        split <;> rfl
    · have hk : x.key.toList = it.key.toList := by simpa [sEq] using he
      have e0 : ∀ y ∈ r, sLt it.key y.key = true := fun y hy => by
        have := Up.all h.2 y hy
        simp only [sLt, ← hk] at this ⊢
        exact this
      obtain ⟨a1, a2, a3, a4, a5⟩ := all_gt e0
      have e1 : isKey it.key x = true := he
      have e2 : sLt x.key it.key = false := by simp [sLt, hk, bl_irr]
      have e3 : sGt x.key it.key = false := by simp [sGt, hk]
      have e4 : withoutL (x :: r) it.key = r := by
        rw [← a1]; simp only [withoutL, List.filter_cons, e1]; simp
      have e5 : putL (x :: r) it = it :: r := by simp [putL, List.filter_cons, e2, e3, a2, a3]
      refine ⟨by rw [e4, a5, e5], ?_⟩
      rw [e5]
      simp [List.find?_cons, e1]
    · have e0 : ∀ y ∈ x :: r, sLt it.key y.key = true := fun y hy => by
        rcases List.mem_cons.1 hy with rfl | hy
        · exact hg
        · exact sLt_trans hg (Up.all h.2 y hy)
      obtain ⟨a1, a2, a3, a4, a5⟩ := all_gt e0
      refine ⟨by rw [a1, a5, putL, a2, a3]; rfl, ?_⟩
      rw [putL, a2, a3, a4]
      simp
theorem without_none {l : List Item} {key : ByteArray} (h : l.find? (isKey key) = none) : withoutL l key = l := by
  unfold withoutL
  rw [List.filter_eq_self]
  intro x hx
  have := List.find?_eq_none.1 h x hx
  simpa using this
def UpS (p : Option Int) : List Session → Prop
  | [] => True
  | x :: r => (∀ q, p = some q → q < x.token) ∧ UpS (some x.token) r
theorem UpS.of : ∀ {l : List Session} {p : Option Int}, sessF p l = true → UpS p l
  | [], _, _ => trivial
  | x :: r, p, h => by
    rw [sessF] at h
    split at h
    · cases h
    · rename_i hc
      refine ⟨fun q hq => ?_, UpS.of h⟩
      subst hq
      simp [prevGe] at hc
      omega
theorem UpS.all : ∀ {l : List Session} {q : Int}, UpS (some q) l → ∀ x ∈ l, q < x.token
  | [], _, _, x, hx => by cases hx
  | y :: r, q, h, x, hx => by
    rcases List.mem_cons.1 hx with rfl | hx
    · exact h.1 q rfl
    · have := h.1 q rfl
      have := UpS.all h.2 x hx
      omega
def newS (n : Int) : Session := ⟨n, 0, ⟨#[]⟩⟩
def openL (n : Int) : List Session → List Session
  | [] => [newS n]
  | x :: r => if decide (x.token ≥ n) then newS n :: (x :: r).filter (fun y => !(y.token == n)) else x :: openL n r
def openS (l : List Session) (n : Int) : List Session := (l.filter fun x => decide (x.token < n)) ++ [newS n] ++ l.filter fun x => decide (x.token > n)
theorem open_eq {n : Int} : ∀ {l : List Session} {p : Option Int}, UpS p l → openL n l = openS l n
  | [], _, _ => rfl
  | x :: r, p, h => by
    have ih := open_eq (n := n) h.2
    have ha := UpS.all h.2
    rw [openL]
    by_cases hl : x.token < n
    · have e2 : ¬ x.token > n := by omega
      rw [if_neg (by simp; omega), ih]
      simp [openS, List.filter_cons, hl, e2]
    · rw [if_pos (by simp; omega)]
      have h1 : (r.filter fun y => decide (y.token < n)) = [] := by
        rw [List.filter_eq_nil_iff]; intro y hy; have := ha y hy; simp; omega
      have h2 : (r.filter fun y => decide (y.token > n)) = r := by
        rw [List.filter_eq_self]; intro y hy; have := ha y hy; simp; omega
      have h3 : (r.filter fun y => !(y.token == n)) = r := by
        rw [List.filter_eq_self]; intro y hy; have := ha y hy; simp; omega
      by_cases he : x.token = n
      · simp [openS, List.filter_cons, he, h1, h2, h3]
      · have : x.token > n := by omega
        simp [openS, List.filter_cons, hl, he, this, h1, h2, h3]
def cut3 (l : List Session) : List Session := if (l.length : Int) > 3 then l.drop 1 else l
def tOpen : ByteArray := ⟨#[111, 112, 101, 110, 32]⟩
def tIs : ByteArray := ⟨#[105, 115, 32]⟩
def tNo : ByteArray := ⟨#[110, 111]⟩
def tDrop : ByteArray := ⟨#[100, 114, 111, 112]⟩
def tNot : ByteArray := ⟨#[110, 111, 116, 32]⟩
def tFull : ByteArray := ⟨#[102, 117, 108, 108]⟩
def tPut : ByteArray := ⟨#[112, 117, 116, 32]⟩
def tNone : ByteArray := ⟨#[110, 111, 110, 101]⟩
def tOld : ByteArray := ⟨#[111, 108, 100]⟩
def tGap : ByteArray := ⟨#[103, 97, 112]⟩
def openK (k : Keep) (n : Int) : Keep := ⟨cut3 (openL n k.sessions), k.items⟩
def doK (k : Keep) (n : Int) (x : Command) : Keep × ByteArray :=
  let it := itemOf k x.key
  if x.op == 3 then (k, if it.2 then tIs ++ itoaB it.1.ver ++ ⟨#[32]⟩ ++ it.1.val else tNo)
  else if x.op == 4 then (⟨k.sessions, withoutL k.items x.key⟩, if it.2 then tDrop else tNo)
  else if x.op == 5 && !it.2 then (k, tNo)
  else if x.op == 5 && !(it.1.ver == x.ver) then (k, tNot ++ itoaB it.1.ver)
  else if !it.2 && (k.items.length : Int) == 8 then (k, tFull)
  else (⟨k.sessions, insL ⟨x.key, x.val, n⟩ (withoutL k.items x.key)⟩, tPut ++ itoaB n)
def isTok (t : Int) (s : Session) : Bool := s.token == t
def perfK (k : Keep) (n : Int) (x : Command) : Keep × ByteArray × Bool :=
  if keepOk k && inR n 1 400000 && cmdOk x then
    if x.op == 1 then (openK k n, tOpen ++ itoaB n, true)
    else match k.sessions.findIdx? (isTok x.token) with
    | none => (k, tNone, true)
    | some i =>
      let s := k.sessions.getD i Session.z
      if decide (x.seq > IntKind.i64.wrap (s.last + 1)) then (k, tGap, true)
      else if decide (x.seq < s.last) || x.seq == 0 then (k, tOld, true)
      else if x.seq == s.last then (k, s.reply, true)
      else (⟨k.sessions.set i ⟨s.token, x.seq, (doK k n x).2⟩, (doK k n x).1.items⟩, (doK k n x).2, true)
  else (⟨[], []⟩, ⟨#[]⟩, false)

theorem item_at {k : Keep} {key : ByteArray} {i : Nat} {e : Item} (hr : (k.items.drop i).find? (isKey key) = k.items.find? (isKey key)) (hd : k.items.drop i = e :: k.items.drop (i + 1)) (h : isKey key e = true) : itemOf k key = (e, true) := by
  rw [itemOf, ← hr, hd, List.find?_cons, h]
theorem item_no {k : Keep} {key : ByteArray} {i : Nat} (hr : (k.items.drop i).find? (isKey key) = k.items.find? (isKey key)) (hd : k.items.drop i = []) : itemOf k key = (Item.z, false) := by
  rw [itemOf, ← hr, hd]; rfl
theorem item_step {k : Keep} {key : ByteArray} {i : Nat} {e : Item} (hr : (k.items.drop i).find? (isKey key) = k.items.find? (isKey key)) (hd : k.items.drop i = e :: k.items.drop (i + 1)) (h : isKey key e = false) : (k.items.drop (i + 1)).find? (isKey key) = k.items.find? (isKey key) := by
  rw [← hr, hd, List.find?_cons, h]
def withoutK (k : Keep) (key : ByteArray) : Keep := ⟨k.sessions, withoutL k.items key⟩
def putK (k : Keep) (it : Item) : Keep := ⟨k.sessions, insL it (withoutL k.items it.key)⟩
theorem without_snoc {l : List Item} {key : ByteArray} {i : Nat} {e : Item} (h : l[i]? = some e) : withoutL (l.take (i + 1)) key = if isKey key e then withoutL (l.take i) key else withoutL (l.take i) key ++ [e] := by
  unfold withoutL
  rw [take_snoc h, List.filter_append]
  cases hk : isKey key e <;> simp [hk]
theorem without_len (l : List Item) (key : ByteArray) : (withoutL l key).length ≤ l.length := List.length_filter_le _ _
structure PutP (it : Item) (L : List Item) (i : Nat) (rest : List Item) (p : Bool) : Prop where
  le : i ≤ L.length
  len : rest.length ≤ i + if p then 1 else 0
  eq : rest ++ (if p then L.drop i else insL it (L.drop i)) = insL it L
theorem PutP.init (it : Item) (L : List Item) : PutP it L 0 [] false := ⟨by omega, by simp, by simp⟩
theorem PutP.len1 {it : Item} {L rest : List Item} {i : Nat} {p : Bool} (h : PutP it L i rest p) : rest.length ≤ i + 1 := by
  have := h.len
  split at this <;> omega
theorem PutP.ins {it : Item} {L rest : List Item} {i : Nat} {e : Item} {p : Bool} (h : PutP it L i rest p) (he : L[i]? = some e) (hc : (!p && sGt e.key it.key) = true) : PutP it L (i + 1) (rest ++ [it] ++ [e]) true := by
  have hi : i < L.length := (List.getElem?_eq_some_iff.1 he).1
  have hd := drop_get he
  simp only [Bool.and_eq_true, Bool.not_eq_true'] at hc
  obtain ⟨rfl, hg⟩ := hc
  refine ⟨by omega, by have := h.len; simp at this ⊢; omega, ?_⟩
  have := h.eq
  rw [hd] at this
  simp [insL, hg] at this ⊢
  exact this
theorem PutP.go {it : Item} {L rest : List Item} {i : Nat} {e : Item} {p : Bool} (h : PutP it L i rest p) (he : L[i]? = some e) (hg : (!p && sGt e.key it.key) = false) : PutP it L (i + 1) (rest ++ [e]) p := by
  have hi : i < L.length := (List.getElem?_eq_some_iff.1 he).1
  have hd := drop_get he
  refine ⟨by omega, by have := h.len; cases p <;> simp at this ⊢ <;> omega, ?_⟩
  rw [← h.eq, hd]
  cases p with
  | true => simp
  | false =>
    have : sGt e.key it.key = false := by simpa using hg
    simp [insL, this]
theorem PutP.fin1 {it : Item} {L rest : List Item} {i : Nat} {p : Bool} (h : PutP it L i rest p) (hp : (!p) = false) (hi : L.length ≤ i) : rest = insL it L := by
  obtain rfl : p = true := by simpa using hp
  rw [← h.eq, List.drop_of_length_le hi]; simp
theorem PutP.fin0 {it : Item} {L rest : List Item} {i : Nat} {p : Bool} (h : PutP it L i rest p) (hp : (!p) = true) (hi : L.length ≤ i) : rest ++ [it] = insL it L := by
  obtain rfl : p = false := by simpa using hp
  rw [← h.eq, List.drop_of_length_le hi]; simp [insL]
structure OpenP (n : Int) (L : List Session) (i : Nat) (rest : List Session) (p : Bool) : Prop where
  le : i ≤ L.length
  len : rest.length ≤ i + if p then 1 else 0
  eq : rest ++ (if p then (L.drop i).filter (fun y => !(y.token == n)) else openL n (L.drop i)) = openL n L
theorem OpenP.init (n : Int) (L : List Session) : OpenP n L 0 [] false := ⟨by omega, by simp, by simp⟩
theorem OpenP.len1 {n : Int} {L rest : List Session} {i : Nat} {p : Bool} (h : OpenP n L i rest p) : rest.length ≤ i + 1 := by
  have := h.len
  split at this <;> omega
theorem OpenP.s1 {n : Int} {L rest : List Session} {i : Nat} {e : Session} {p : Bool} (h : OpenP n L i rest p) (he : L[i]? = some e) (hc : (!p && decide (e.token ≥ n)) = true) (hq : (!(e.token == n)) = true) : OpenP n L (i + 1) (rest ++ [newS n] ++ [e]) true := by
  have hi : i < L.length := (List.getElem?_eq_some_iff.1 he).1
  have hd := drop_get he
  simp only [Bool.and_eq_true, Bool.not_eq_true'] at hc
  obtain ⟨rfl, hg⟩ := hc
  refine ⟨by omega, by have := h.len; simp at this ⊢; omega, ?_⟩
  have := h.eq
  rw [hd] at this
  simp only [Bool.false_eq_true, if_false, openL, if_pos hg, List.filter_cons, if_pos hq] at this
  simpa using this
theorem OpenP.s2 {n : Int} {L rest : List Session} {i : Nat} {e : Session} {p : Bool} (h : OpenP n L i rest p) (he : L[i]? = some e) (hc : (!p && decide (e.token ≥ n)) = true) (hq : (!(e.token == n)) = false) : OpenP n L (i + 1) (rest ++ [newS n]) true := by
  have hi : i < L.length := (List.getElem?_eq_some_iff.1 he).1
  have hd := drop_get he
  simp only [Bool.and_eq_true, Bool.not_eq_true'] at hc
  obtain ⟨rfl, hg⟩ := hc
  refine ⟨by omega, by have := h.len; simp at this ⊢; omega, ?_⟩
  have := h.eq
  rw [hd] at this
  simp only [Bool.false_eq_true, if_false, openL, if_pos hg, List.filter_cons, hq] at this
  simpa using this
theorem OpenP.s3 {n : Int} {L rest : List Session} {i : Nat} {e : Session} {p : Bool} (h : OpenP n L i rest p) (he : L[i]? = some e) (hc : (!p && decide (e.token ≥ n)) = false) (hq : (!(e.token == n)) = true) : OpenP n L (i + 1) (rest ++ [e]) p := by
  have hi : i < L.length := (List.getElem?_eq_some_iff.1 he).1
  have hd := drop_get he
  refine ⟨by omega, by have := h.len; cases p <;> simp at this ⊢ <;> omega, ?_⟩
  have := h.eq
  rw [hd] at this
  cases p with
  | true => simp only [if_true, List.filter_cons, if_pos hq] at this; simpa using this
  | false =>
    have hg : ¬ decide (e.token ≥ n) = true := by simpa using hc
    simp only [Bool.false_eq_true, if_false, openL, if_neg hg] at this
    simpa using this
theorem OpenP.s4 {n : Int} {L rest : List Session} {i : Nat} {e : Session} {p : Bool} (h : OpenP n L i rest p) (he : L[i]? = some e) (hc : (!p && decide (e.token ≥ n)) = false) (hq : (!(e.token == n)) = false) : OpenP n L (i + 1) rest p := by
  have hi : i < L.length := (List.getElem?_eq_some_iff.1 he).1
  have hd := drop_get he
  refine ⟨by omega, by have := h.len; cases p <;> simp at this ⊢ <;> omega, ?_⟩
  have := h.eq
  rw [hd] at this
  cases p with
  | true => simp only [if_true, List.filter_cons, hq] at this; simpa using this
  | false =>
    simp at hc hq
    omega
theorem OpenP.fin1 {n : Int} {L rest : List Session} {i : Nat} {p : Bool} (h : OpenP n L i rest p) (hp : (!p) = false) (hi : L.length ≤ i) : rest = openL n L := by
  obtain rfl : p = true := by simpa using hp
  rw [← h.eq, List.drop_of_length_le hi]; simp
theorem OpenP.fin0 {n : Int} {L rest : List Session} {i : Nat} {p : Bool} (h : OpenP n L i rest p) (hp : (!p) = true) (hi : L.length ≤ i) : rest ++ [newS n] = openL n L := by
  obtain rfl : p = false := by simpa using hp
  rw [← h.eq, List.drop_of_length_le hi]; simp [openL]
theorem open_cut {k : Keep} {n : Int} {l : List Session} (h : l = openL n k.sessions) (hc : decide ((l.length : Int) > 3) = true) : (⟨l.drop 1, k.items⟩ : Keep) = openK k n := by
  subst h
  have := of_decide_eq_true hc
  rw [openK, cut3, if_pos this]
theorem open_no {k : Keep} {n : Int} {l : List Session} (h : l = openL n k.sessions) (hc : decide ((l.length : Int) > 3) = false) : (⟨l, k.items⟩ : Keep) = openK k n := by
  subst h
  have := of_decide_eq_false hc
  rw [openK, cut3, if_neg this]
theorem item_in {k : Keep} {key : ByteArray} (hko : keepOk k = true) (h : (itemOf k key).2 = true) : ItIn (itemOf k key).1 := by
  unfold itemOf at *
  split at h
  · rename_i x hx
    exact keepOk_it hko x (List.mem_of_find?_eq_some hx)
  · cases h
theorem item_false {k : Keep} {key : ByteArray} (h : (itemOf k key).2 = false) : k.items.find? (isKey key) = none := by
  unfold itemOf at h
  split at h
  · cases h
  · assumption
theorem item_some {k : Keep} {key : ByteArray} : (k.items.find? (isKey key)).isSome = (itemOf k key).2 := by
  unfold itemOf
  split <;> rename_i h <;> simp [h]
theorem do_drop {k : Keep} {key : ByteArray} (h : (itemOf k key).2 = false) : withoutL k.items key = k.items := without_none (item_false h)
theorem keepOk_up {k : Keep} (h : keepOk k = true) : Up none k.items ∧ UpS none k.sessions := by
  simp only [keepOk, Bool.and_eq_true] at h
  exact ⟨Up.of h.1.1.2, UpS.of h.1.1.1⟩
theorem do_put {k : Keep} (hko : keepOk k = true) (it : Item) : putL k.items it = insL it (withoutL k.items it.key) ∧ decide (((putL k.items it).length : Int) > 8) = (!(itemOf k it.key).2 && (k.items.length : Int) == 8) := by
  obtain ⟨h1, h2⟩ := put_eq (it := it) (keepOk_up hko).1
  refine ⟨h1.symm, ?_⟩
  have h3 := (keepOk_len hko).1
  rw [h2, item_some]
  cases (itemOf k it.key).2 with
  | true => simp; omega
  | false =>
    simp only [Bool.false_eq_true, if_false, Bool.not_false, Bool.true_and]
    rw [Bool.eq_iff_iff]
    simp
    omega
section
variable {k : Keep} {n : Int} {x : Command}
theorem do_get1 (h : (x.op == 3) = true) (ht : (itemOf k x.key).2 = true) : doK k n x = (k, tIs ++ itoaB (itemOf k x.key).1.ver ++ ⟨#[32]⟩ ++ (itemOf k x.key).1.val) := by
  simp only [doK, h, ht, if_true]
theorem do_get0 (h : (x.op == 3) = true) (ht : (itemOf k x.key).2 = false) : doK k n x = (k, tNo) := by
  simp [doK, h, ht]
theorem do_drop1 (h : (x.op == 3) = false) (h4 : (x.op == 4) = true) (ht : (itemOf k x.key).2 = true) : doK k n x = (withoutK k x.key, tDrop) := by
  simp [doK, h, h4, ht, withoutK]
theorem do_drop0 (h : (x.op == 3) = false) (h4 : (x.op == 4) = true) (ht : (itemOf k x.key).2 = false) : doK k n x = (withoutK k x.key, tNo) := by
  simp [doK, h, h4, ht, withoutK]
theorem do_dropS (h : (x.op == 3) = false) (h4 : (x.op == 4) = true) (ht : (itemOf k x.key).2 = false) : doK k n x = (k, tNo) := by
  rw [do_drop0 h h4 ht, withoutK, do_drop ht]
theorem do_swap0 (h : (x.op == 3) = false) (h4 : (x.op == 4) = false) (h5 : (x.op == 5) = true) (ht : (!(itemOf k x.key).2) = true) : doK k n x = (k, tNo) := by
  simp only [Bool.not_eq_true'] at ht
  simp [doK, h, h4, h5, ht]
theorem do_swapN (h : (x.op == 3) = false) (h4 : (x.op == 4) = false) (h5 : (x.op == 5) = true) (ht : (!(itemOf k x.key).2) = false) (hv : (!((itemOf k x.key).1.ver == x.ver)) = true) : doK k n x = (k, tNot ++ itoaB (itemOf k x.key).1.ver) := by
  simp only [doK, h, h4, h5, ht, hv, Bool.and_self, Bool.and_false, Bool.false_eq_true, if_false, if_true]
theorem do_full (h : (x.op == 3) = false) (h4 : (x.op == 4) = false) (h5 : (x.op == 5) = false ∨ ((!(itemOf k x.key).2) = false ∧ (!((itemOf k x.key).1.ver == x.ver)) = false)) (hf : (!(itemOf k x.key).2 && (k.items.length : Int) == 8) = true) : doK k n x = (k, tFull) := by
  rcases h5 with h5 | ⟨h5, h6⟩
  · simp only [doK, h, h4, h5, hf, Bool.false_and, Bool.false_eq_true, if_false, if_true]
  · rw [h5] at hf; simp at hf
theorem do_putI (h : (x.op == 3) = false) (h4 : (x.op == 4) = false) (h5 : (x.op == 5) = false ∨ ((!(itemOf k x.key).2) = false ∧ (!((itemOf k x.key).1.ver == x.ver)) = false)) (hf : (!(itemOf k x.key).2 && (k.items.length : Int) == 8) = false) : doK k n x = (putK k ⟨x.key, x.val, n⟩, tPut ++ itoaB n) := by
  rcases h5 with h5 | ⟨h5, h6⟩
  · simp only [doK, h, h4, h5, hf, Bool.false_and, Bool.false_eq_true, if_false]; rfl
  · simp only [doK, h, h4, h5, h6, hf, Bool.and_false, Bool.false_eq_true, if_false]; rfl
end
theorem filt_snoc {α : Type} {p : α → Bool} {l : List α} {i : Nat} {e : α} (h : l[i]? = some e) : (l.take (i + 1)).filter p = if p e then (l.take i).filter p ++ [e] else (l.take i).filter p := by
  rw [take_snoc h, List.filter_append]
  cases hk : p e <;> simp [hk]
def lowL (l : List Item) (it : Item) : List Item := l.filter fun x => sLt x.key it.key
def highL (l : List Item) (it : Item) : List Item := l.filter fun x => sGt x.key it.key
theorem lowL_snoc {l : List Item} {i : Nat} {e it : Item} (h : l[i]? = some e) : lowL (l.take (i + 1)) it = if sLt e.key it.key then lowL (l.take i) it ++ [e] else lowL (l.take i) it := filt_snoc h
theorem highL_snoc {l : List Item} {i : Nat} {e it : Item} (h : l[i]? = some e) : highL (l.take (i + 1)) it = if sGt e.key it.key then highL (l.take i) it ++ [e] else highL (l.take i) it := filt_snoc h
theorem lowL_len (l : List Item) (it : Item) : (lowL l it).length ≤ l.length := List.length_filter_le _ _
theorem highL_len (l : List Item) (it : Item) : (highL l it).length ≤ l.length := List.length_filter_le _ _
theorem putL_take {l : List Item} {it : Item} {j : Nat} (h : l.length ≤ j) : lowL l it ++ [it] ++ highL (l.take j) it = putL l it := by
  rw [List.take_of_length_le h]; rfl
def bigP (k : Keep) (it : Item) : Bool := decide (((putL k.items it).length : Int) > 8)
def putSK (k : Keep) (it : Item) : Keep := if bigP k it then k else ⟨k.sessions, putL k.items it⟩
theorem bigP_of {k : Keep} {it : Item} {j : Nat} {b : Bool} (h : k.items.length ≤ j) (hc : decide (((lowL k.items it ++ [it] ++ highL (k.items.take j) it).length : Int) > 8) = b) : bigP k it = b := by
  rw [putL_take h] at hc; exact hc
theorem putSK_t {k : Keep} {it : Item} (h : bigP k it = true) : putSK k it = k := by rw [putSK, if_pos h]
theorem putSK_f {k : Keep} {it : Item} {j : Nat} (h : bigP k it = false) (hj : k.items.length ≤ j) : (⟨k.sessions, lowL k.items it ++ [it] ++ highL (k.items.take j) it⟩ : Keep) = putSK k it := by
  rw [putL_take hj, putSK, if_neg (by simp [h])]
section
variable {k : Keep} {n : Int} {x : Command}
theorem do_fullS (hko : keepOk k = true) (h : (x.op == 3) = false) (h4 : (x.op == 4) = false) (h5 : (x.op == 5) = false ∨ ((!(itemOf k x.key).2) = false ∧ (!((itemOf k x.key).1.ver == x.ver)) = false)) (hf : bigP k ⟨x.key, x.val, n⟩ = true) : doK k n x = (putSK k ⟨x.key, x.val, n⟩, tFull) := by
  rw [putSK_t hf]
  exact do_full h h4 h5 ((do_put hko ⟨x.key, x.val, n⟩).2.symm.trans hf)
theorem do_putS (hko : keepOk k = true) (h : (x.op == 3) = false) (h4 : (x.op == 4) = false) (h5 : (x.op == 5) = false ∨ ((!(itemOf k x.key).2) = false ∧ (!((itemOf k x.key).1.ver == x.ver)) = false)) (hf : bigP k ⟨x.key, x.val, n⟩ = false) : doK k n x = (putSK k ⟨x.key, x.val, n⟩, tPut ++ itoaB n) := by
  rw [do_putI h h4 h5 ((do_put hko ⟨x.key, x.val, n⟩).2.symm.trans hf), putSK, if_neg (by simp [hf]), putK, (do_put hko ⟨x.key, x.val, n⟩).1]
end
def lowS (l : List Session) (n : Int) : List Session := l.filter fun x => decide (x.token < n)
def highS (l : List Session) (n : Int) : List Session := l.filter fun x => decide (x.token > n)
theorem lowS_snoc {l : List Session} {i : Nat} {e : Session} {n : Int} (h : l[i]? = some e) : lowS (l.take (i + 1)) n = if decide (e.token < n) then lowS (l.take i) n ++ [e] else lowS (l.take i) n := filt_snoc h
theorem highS_snoc {l : List Session} {i : Nat} {e : Session} {n : Int} (h : l[i]? = some e) : highS (l.take (i + 1)) n = if decide (e.token > n) then highS (l.take i) n ++ [e] else highS (l.take i) n := filt_snoc h
theorem lowS_len (l : List Session) (n : Int) : (lowS l n).length ≤ l.length := List.length_filter_le _ _
theorem highS_len (l : List Session) (n : Int) : (highS l n).length ≤ l.length := List.length_filter_le _ _
theorem openS_take {k : Keep} {n : Int} {j : Nat} (hko : keepOk k = true) (h : k.sessions.length ≤ j) : lowS k.sessions n ++ [newS n] ++ highS (k.sessions.take j) n = openL n k.sessions := by
  rw [List.take_of_length_le h, open_eq (keepOk_up hko).2]; rfl
theorem openS_cut {k : Keep} {n : Int} {j : Nat} (hko : keepOk k = true) (h : k.sessions.length ≤ j) (hc : decide (((lowS k.sessions n ++ [newS n] ++ highS (k.sessions.take j) n).length : Int) > 3) = true) :
    (⟨(lowS k.sessions n ++ [newS n] ++ highS (k.sessions.take j) n).drop 1, k.items⟩ : Keep) = openK k n := open_cut (openS_take hko h) hc
theorem openS_no {k : Keep} {n : Int} {j : Nat} (hko : keepOk k = true) (h : k.sessions.length ≤ j) (hc : decide (((lowS k.sessions n ++ [newS n] ++ highS (k.sessions.take j) n).length : Int) > 3) = false) :
    (⟨lowS k.sessions n ++ [newS n] ++ highS (k.sessions.take j) n, k.items⟩ : Keep) = openK k n := open_no (openS_take hko h) hc
def perfOk (k : Keep) (n : Int) (x : Command) : Bool := keepOk k && inR n 1 400000 && cmdOk x
structure PfOk (k : Keep) (n : Int) (x : Command) : Prop where
  k : keepOk k = true
  n : 1 ≤ n ∧ n ≤ 400000
  x : cmdOk x = true
theorem PfOk.of {k : Keep} {n : Int} {x : Command} (h : perfOk k n x = true) : PfOk k n x := by
  simp [perfOk, inR] at h
  exact ⟨h.1.1, by omega, h.2⟩
theorem perf_no {k : Keep} {n : Int} {x : Command} (h : perfOk k n x = false) : perfK k n x = (⟨[], []⟩, ⟨#[]⟩, false) := by
  rw [perfK, if_neg (by rw [perfOk] at h; rw [h]; simp)]
theorem perf_yes {k : Keep} {n : Int} {x : Command} (h : PfOk k n x) : (keepOk k && inR n 1 400000 && cmdOk x) = true := by
  have := h.n
  simp [h.k, h.x, inR]
  omega
theorem perf_open {k : Keep} {n : Int} {x : Command} (h : PfOk k n x) (h1 : (x.op == 1) = true) : perfK k n x = (openK k n, tOpen ++ itoaB n, true) := by
  rw [perfK, if_pos (perf_yes h), if_pos h1]
structure At (k : Keep) (x : Command) (i : Nat) (s : Session) : Prop where
  fi : k.sessions.findIdx? (isTok x.token) = some i
  fs : k.sessions[i]? = some s
  ft : isTok x.token s = true
theorem at_of {k : Keep} {x : Command} {i : Nat} {s : Session} (ha : (k.sessions.take i).any (isTok x.token) = false) (h : k.sessions[i]? = some s) (hp : isTok x.token s = true) : At k x i s := ⟨findIdx_at ha h hp, h, hp⟩
theorem At.d {k : Keep} {x : Command} {i : Nat} {s : Session} (h : At k x i s) : k.sessions.getD i Session.z = s := by
  rw [List.getD_eq_getElem?_getD, h.fs]; rfl
theorem perf_none {k : Keep} {n : Int} {x : Command} {i : Nat} (h : PfOk k n x) (h1 : (x.op == 1) = false) (ha : (k.sessions.take i).any (isTok x.token) = false) (hi : k.sessions.length ≤ i) : perfK k n x = (k, tNone, true) := by
  have : k.sessions.findIdx? (isTok x.token) = none := by
    rw [List.findIdx?_eq_none_iff]
    intro y hy
    rw [List.take_of_length_le hi] at ha
    simpa using List.any_eq_false.1 ha y hy
  rw [perfK, if_pos (perf_yes h), if_neg (by rw [h1]; simp), this]
section
variable {k : Keep} {n : Int} {x : Command} {i : Nat} {s : Session}
theorem perf_gap (h : PfOk k n x) (h1 : (x.op == 1) = false) (ha : At k x i s) (hg : decide (x.seq > IntKind.i64.wrap (s.last + 1)) = true) : perfK k n x = (k, tGap, true) := by
  rw [perfK, if_pos (perf_yes h), if_neg (by rw [h1]; simp), ha.fi]
  simp only [ha.d, hg, if_true]
theorem perf_old (h : PfOk k n x) (h1 : (x.op == 1) = false) (ha : At k x i s) (hg : decide (x.seq > IntKind.i64.wrap (s.last + 1)) = false) (ho : (decide (x.seq < s.last) || x.seq == 0) = true) : perfK k n x = (k, tOld, true) := by
  rw [perfK, if_pos (perf_yes h), if_neg (by rw [h1]; simp), ha.fi]
  simp only [ha.d, hg, ho, Bool.false_eq_true, if_false, if_true]
theorem perf_same (h : PfOk k n x) (h1 : (x.op == 1) = false) (ha : At k x i s) (hg : decide (x.seq > IntKind.i64.wrap (s.last + 1)) = false) (ho : (decide (x.seq < s.last) || x.seq == 0) = false) (hs : (x.seq == s.last) = true) : perfK k n x = (k, s.reply, true) := by
  rw [perfK, if_pos (perf_yes h), if_neg (by rw [h1]; simp), ha.fi]
  simp only [ha.d, hg, ho, hs, Bool.false_eq_true, if_false, if_true]
theorem perf_do (h : PfOk k n x) (h1 : (x.op == 1) = false) (ha : At k x i s) (hg : decide (x.seq > IntKind.i64.wrap (s.last + 1)) = false) (ho : (decide (x.seq < s.last) || x.seq == 0) = false) (hs : (x.seq == s.last) = false) :
    perfK k n x = (⟨k.sessions.set i ⟨s.token, x.seq, (doK k n x).2⟩, (doK k n x).1.items⟩, (doK k n x).2, true) := by
  rw [perfK, if_pos (perf_yes h), if_neg (by rw [h1]; simp), ha.fi]
  simp only [ha.d, hg, ho, hs, Bool.false_eq_true, if_false]
end
theorem do_sess (k : Keep) (n : Int) (x : Command) : (doK k n x).1.sessions = k.sessions := by
  unfold doK
  simp only []
  split
  · rfl
  · split
    · rfl
    · split
      · rfl
      · split
        · rfl
        · split <;> rfl
theorem UpS.lt : ∀ {l : List Session} {p : Option Int}, UpS p l → ∀ {m i : Nat} {s e : Session}, m < i → l[m]? = some s → l[i]? = some e → s.token < e.token
  | [], _, _, m, i, s, e, _, h, _ => by simp at h
  | y :: r, p, hu, 0, i + 1, s, e, _, h1, h2 => by
    simp at h1 h2
    subst h1
    exact UpS.all hu.2 e (List.mem_of_getElem? h2)
  | y :: r, p, hu, m + 1, i + 1, s, e, hlt, h1, h2 => by
    simp at h1 h2
    exact UpS.lt hu.2 (by omega) h1 h2
structure SP (k : Keep) (x : Command) (i : Nat) (a : Int) : Prop where
  le : i ≤ k.sessions.length
  or : (a = -1 ∧ (k.sessions.take i).any (isTok x.token) = false) ∨ ∃ (m : Nat) (s : Session), a = (m : Int) ∧ m < i ∧ At k x m s
theorem SP.init (k : Keep) (x : Command) : SP k x 0 (-1) := ⟨by omega, .inl ⟨rfl, by simp⟩⟩
theorem SP.hit {k : Keep} {x : Command} {i : Nat} {a : Int} {e : Session} (h : SP k x i a) (hko : keepOk k = true) (he : k.sessions[i]? = some e) (ht : (e.token == x.token) = true) : SP k x (i + 1) (i : Int) := by
  have hi : i < k.sessions.length := (List.getElem?_eq_some_iff.1 he).1
  refine ⟨hi, .inr ⟨i, e, rfl, by omega, ?_⟩⟩
  rcases h.or with ⟨_, h1⟩ | ⟨m, s, _, h1, h2⟩
  · exact at_of h1 he ht
  · have h3 := UpS.lt (keepOk_up hko).2 h1 h2.fs he
    have h4 := h2.ft
    simp [isTok] at h4 ht
    omega
theorem SP.miss {k : Keep} {x : Command} {i : Nat} {a : Int} {e : Session} (h : SP k x i a) (he : k.sessions[i]? = some e) (ht : (e.token == x.token) = false) : SP k x (i + 1) a := by
  have hi : i < k.sessions.length := (List.getElem?_eq_some_iff.1 he).1
  refine ⟨hi, ?_⟩
  rcases h.or with ⟨h0, h1⟩ | ⟨m, s, h0, h1, h2⟩
  · exact .inl ⟨h0, any_snoc h1 he ht⟩
  · exact .inr ⟨m, s, h0, by omega, h2⟩
theorem SP.none {k : Keep} {x : Command} {i : Nat} {a : Int} (h : SP k x i a) (hd : decide (a < 0) = true) : (k.sessions.take i).any (isTok x.token) = false := by
  rcases h.or with ⟨_, h1⟩ | ⟨m, s, h0, h1, h2⟩
  · exact h1
  · simp at hd; omega
theorem SP.some {k : Keep} {x : Command} {i : Nat} {a : Int} (h : SP k x i a) (hd : decide (a < 0) = false) : ∃ (m : Nat) (s : Session), a = (m : Int) ∧ At k x m s := by
  rcases h.or with ⟨h0, h1⟩ | ⟨m, s, h0, h1, h2⟩
  · simp at hd; omega
  · exact ⟨m, s, h0, h2⟩
theorem pfS {k : Keep} {n : Int} {x : Command} : (((!keepOk k || !inR n 1 1000000) || decide (n > 400000)) || !cmdOk x) = !perfOk k n x := by
  unfold perfOk inR
  cases keepOk k <;> cases cmdOk x <;> simp
  rw [Bool.eq_iff_iff]
  simp
  omega
theorem sess_in {k : Keep} {x : Command} {i : Nat} {s : Session} (hko : keepOk k = true) (h : At k x i s) : 0 ≤ s.last ∧ s.last ≤ 1000000 := by
  have hall : ∀ (l : List Session) (p : Option Int), sessF p l = true → ∀ y ∈ l, sessOk y = true := by
    intro l
    induction l with
    | nil => intro p _ y hy; cases hy
    | cons z r ih =>
      intro p hp y hy
      rw [sessF] at hp
      split at hp
      · cases hp
      · rename_i hc
        rcases List.mem_cons.1 hy with rfl | hy
        · simp at hc; exact hc.1
        · exact ih _ hp y hy
  simp only [keepOk, Bool.and_eq_true] at hko
  have := hall _ _ hko.1.1.1 s (List.mem_of_getElem? h.fs)
  simp [sessOk, inR] at this
  omega
section
variable {k : Keep} {n : Int} {x : Command} {i : Nat} {s : Session}
theorem perfS_old (h : PfOk k n x) (h1 : (x.op == 1) = false) (ha : At k x i s) (ho : (x.seq == 0 || decide (x.seq < s.last)) = true) : perfK k n x = (k, tOld, true) := by
  have hb := sess_in h.k ha
  refine perf_old h h1 ha ?_ (by rw [Bool.or_comm]; exact ho)
  have : IntKind.i64.wrap (s.last + 1) = s.last + 1 := by rw [IntKind.wrap_i64]; omega
  rw [this]
  simp at ho ⊢
  omega
theorem perfS_same (h : PfOk k n x) (h1 : (x.op == 1) = false) (ha : At k x i s) (ho : (x.seq == 0 || decide (x.seq < s.last)) = false) (hs : (x.seq == s.last) = true) : perfK k n x = (k, s.reply, true) := by
  have hb := sess_in h.k ha
  refine perf_same h h1 ha ?_ (by rw [Bool.or_comm]; exact ho) hs
  have : IntKind.i64.wrap (s.last + 1) = s.last + 1 := by rw [IntKind.wrap_i64]; omega
  rw [this]
  simp at hs ⊢
  omega
theorem perfS_gap (h : PfOk k n x) (h1 : (x.op == 1) = false) (ha : At k x i s) (hg : decide (x.seq > IntKind.i64.wrap (s.last + 1)) = true) : perfK k n x = (k, tGap, true) := perf_gap h h1 ha hg
theorem perfS_do (h : PfOk k n x) (h1 : (x.op == 1) = false) (ha : At k x i s) (ho : (x.seq == 0 || decide (x.seq < s.last)) = false) (hs : (x.seq == s.last) = false) (hg : decide (x.seq > IntKind.i64.wrap (s.last + 1)) = false) :
    perfK k n x = (⟨k.sessions.set i ⟨s.token, x.seq, (doK k n x).2⟩, (doK k n x).1.items⟩, (doK k n x).2, true) := perf_do h h1 ha hg (by rw [Bool.or_comm]; exact ho) hs
end
theorem openL_len (n : Int) : ∀ l : List Session, (openL n l).length ≤ l.length + 1
  | [] => by simp [openL]
  | x :: r => by
    rw [openL]
    split
    · have := List.length_filter_le (fun y : Session => !(y.token == n)) (x :: r)
      simp only [List.length_cons] at this ⊢
      omega
    · have := openL_len n r
      simp only [List.length_cons]
      omega
theorem sessF_iff : ∀ (l : List Session) (p : Option Int), sessF p l = true ↔ UpS p l ∧ ∀ y ∈ l, sessOk y = true
  | [], p => by simp [sessF, UpS]
  | x :: r, p => by
    have ih := sessF_iff r (some x.token)
    rw [sessF]
    split
    · rename_i h
      refine Iff.intro (fun h => by cases h) ?_
      rintro ⟨hu, ha⟩
      have h1 := ha x (List.mem_cons_self ..)
      cases p with
      | none => simp [h1, prevGe] at h
      | some q => have := hu.1 q rfl; simp [h1, prevGe] at h; omega
    · rename_i h
      rw [ih]
      simp at h
      constructor
      · rintro ⟨hu, ha⟩
        refine ⟨⟨fun q hq => ?_, hu⟩, ?_⟩
        · subst hq; simp [prevGe] at h; omega
        · intro y hy
          rcases List.mem_cons.1 hy with rfl | hy
          · exact h.1
          · exact ha y hy
      · rintro ⟨hu, ha⟩
        exact ⟨hu.2, fun y hy => ha y (List.mem_cons_of_mem _ hy)⟩
theorem itemF_iff : ∀ (l : List Item) (p : Option ByteArray), itemF p l = true ↔ Up p l ∧ ∀ y ∈ l, itemOk y = true
  | [], p => by simp [itemF, Up]
  | x :: r, p => by
    have ih := itemF_iff r (some x.key)
    rw [itemF]
    split
    · rename_i h
      refine Iff.intro (fun h => by cases h) ?_
      rintro ⟨hu, ha⟩
      have h1 := ha x (List.mem_cons_self ..)
      cases p with
      | none => simp [h1, prevS] at h
      | some q => have := hu.1 q rfl; simp [sLt] at this; simp [h1, prevS, this] at h
    · rename_i h
      rw [ih]
      simp at h
      constructor
      · rintro ⟨hu, ha⟩
        refine ⟨⟨fun q hq => ?_, hu⟩, ?_⟩
        · subst hq; simp [prevS] at h; exact h.2
        · intro y hy
          rcases List.mem_cons.1 hy with rfl | hy
          · exact h.1
          · exact ha y hy
      · rintro ⟨hu, ha⟩
        exact ⟨hu.2, fun y hy => ha y (List.mem_cons_of_mem _ hy)⟩
theorem UpS.pw : ∀ {l : List Session} {p : Option Int}, UpS p l → l.Pairwise (fun a b => a.token < b.token)
  | [], _, _ => List.Pairwise.nil
  | _ :: _, _, h => List.Pairwise.cons (UpS.all h.2) (UpS.pw h.2)
theorem UpS.mk : ∀ {l : List Session}, l.Pairwise (fun a b => a.token < b.token) → ∀ {p : Option Int}, (∀ q, p = some q → ∀ x ∈ l, q < x.token) → UpS p l
  | [], _, _, _ => trivial
  | x :: r, h, p, hp => by
    cases h with
    | cons h1 h2 => exact ⟨fun q hq => hp q hq x (List.mem_cons_self ..), UpS.mk h2 (fun q hq y hy => by cases hq; exact h1 y hy)⟩
theorem Up.pw : ∀ {l : List Item} {p : Option ByteArray}, Up p l → l.Pairwise (fun a b => sLt a.key b.key = true)
  | [], _, _ => List.Pairwise.nil
  | _ :: _, _, h => List.Pairwise.cons (Up.all h.2) (Up.pw h.2)
theorem Up.mk : ∀ {l : List Item}, l.Pairwise (fun a b => sLt a.key b.key = true) → ∀ {p : Option ByteArray}, (∀ q, p = some q → ∀ x ∈ l, sLt q x.key = true) → Up p l
  | [], _, _, _ => trivial
  | x :: r, h, p, hp => by
    cases h with
    | cons h1 h2 => exact ⟨fun q hq => hp q hq x (List.mem_cons_self ..), Up.mk h2 (fun q hq y hy => by cases hq; exact h1 y hy)⟩
structure KOk (k : Keep) : Prop where
  sp : k.sessions.Pairwise (fun a b => a.token < b.token)
  so : ∀ s ∈ k.sessions, sessOk s = true
  ip : k.items.Pairwise (fun a b => sLt a.key b.key = true)
  io : ∀ x ∈ k.items, itemOk x = true
  sl : k.sessions.length ≤ 3
  il : k.items.length ≤ 8
theorem KOk.of {k : Keep} (h : keepOk k = true) : KOk k := by
  have hl := keepOk_len h
  simp only [keepOk, Bool.and_eq_true] at h
  have h1 := (sessF_iff _ _).1 h.1.1.1
  have h2 := (itemF_iff _ _).1 h.1.1.2
  exact ⟨h1.1.pw, h1.2, h2.1.pw, h2.2, hl.2, hl.1⟩
theorem KOk.to {k : Keep} (h : KOk k) : keepOk k = true := by
  have h1 := (sessF_iff _ none).2 ⟨UpS.mk h.sp nofun, h.so⟩
  have h2 := (itemF_iff _ none).2 ⟨Up.mk h.ip nofun, h.io⟩
  have h3 := h.sl; have h4 := h.il
  simp only [keepOk, h1, h2, Bool.and_eq_true, decide_eq_true_eq, true_and]
  omega
theorem sessOk_new {n : Int} (h0 : 1 ≤ n) (h1 : n ≤ 1000000) : sessOk (newS n) = true := by
  simp [sessOk, newS, inR, emp, h0, h1]; rfl
theorem KOk.open {k : Keep} {n : Int} (h : KOk k) (hn : 1 ≤ n ∧ n ≤ 400000) : KOk (openK k n) := by
  have e : openL n k.sessions = openS k.sessions n := open_eq (keepOk_up h.to).2
  have hsub : ∀ s ∈ cut3 (openL n k.sessions), s ∈ openL n k.sessions := by
    intro s hs
    unfold cut3 at hs
    split at hs
    · exact List.mem_of_mem_drop hs
    · exact hs
  have hpw : (openL n k.sessions).Pairwise (fun a b => a.token < b.token) := by
    rw [e, openS, List.append_assoc, List.pairwise_append]
    refine ⟨h.sp.filter _, ?_, ?_⟩
    · rw [List.singleton_append, List.pairwise_cons]
      refine ⟨fun y hy => ?_, h.sp.filter _⟩
      have := (List.mem_filter.1 hy).2
      simp at this
      exact this
    · intro a ha b hb
      have h1 := (List.mem_filter.1 ha).2
      simp at h1
      rcases List.mem_append.1 hb with hb | hb
      · simp at hb; subst hb; exact h1
      · have h2 := (List.mem_filter.1 hb).2
        simp at h2
        omega
  have hl := openL_len n k.sessions
  have := h.sl
  refine ⟨?_, fun s hs => ?_, h.ip, h.io, ?_, h.il⟩
  · show (cut3 (openL n k.sessions)).Pairwise _
    unfold cut3
    split
    · exact hpw.drop
    · exact hpw
  · have hs := hsub s hs
    rw [e, openS, List.append_assoc] at hs
    rcases List.mem_append.1 hs with hs | hs
    · exact h.so s (List.mem_filter.1 hs).1
    · rcases List.mem_append.1 hs with hs | hs
      · simp at hs; subst hs; exact sessOk_new hn.1 (by omega)
      · exact h.so s (List.mem_filter.1 hs).1
  · show (cut3 (openL n k.sessions)).length ≤ 3
    unfold cut3
    split
    · simp; omega
    · omega
theorem KOk.withoutK {k : Keep} (h : KOk k) (key : ByteArray) : KOk (withoutK k key) :=
  ⟨h.sp, h.so, h.ip.filter _, fun x hx => h.io x (List.mem_filter.1 hx).1, h.sl, Nat.le_trans (List.length_filter_le _ _) h.il⟩
theorem mem_putL {l : List Item} {it x : Item} (h : x ∈ putL l it) : x ∈ l ∨ x = it := by
  rw [putL, List.append_assoc] at h
  rcases List.mem_append.1 h with h | h
  · exact .inl (List.mem_filter.1 h).1
  · rcases List.mem_append.1 h with h | h
    · exact .inr (by simpa using h)
    · exact .inl (List.mem_filter.1 h).1
theorem KOk.putK {k : Keep} {it : Item} (h : KOk k) (hi : itemOk it = true) (hf : (!(itemOf k it.key).2 && (k.items.length : Int) == 8) = false) : KOk (putK k it) := by
  have h1 := do_put h.to it
  have e : (Y.putK k it).items = putL k.items it := h1.1.symm
  have h2 := h1.2
  rw [hf] at h2
  simp at h2
  have hpw : (putL k.items it).Pairwise (fun a b => sLt a.key b.key = true) := by
    rw [putL, List.append_assoc, List.pairwise_append]
    refine ⟨h.ip.filter _, ?_, ?_⟩
    · rw [List.singleton_append, List.pairwise_cons]
      refine ⟨fun y hy => ?_, h.ip.filter _⟩
      have := (List.mem_filter.1 hy).2
      rw [sGt_lt] at this
      exact this
    · intro a ha b hb
      have h1 := (List.mem_filter.1 ha).2
      rcases List.mem_append.1 hb with hb | hb
      · simp at hb; subst hb; exact h1
      · have h2 := (List.mem_filter.1 hb).2
        rw [sGt_lt] at h2
        exact sLt_trans h1 h2
  refine ⟨h.sp, h.so, by rw [e]; exact hpw, fun x hx => ?_, h.sl, by rw [e]; omega⟩
  rw [e] at hx
  rcases mem_putL hx with hx | rfl
  · exact h.io x hx
  · exact hi
structure CIn (x : Command) : Prop where
  t : 0 ≤ x.token ∧ x.token ≤ 1000000
  s : 0 ≤ x.seq ∧ x.seq ≤ 1000000
  o : 1 ≤ x.op ∧ x.op ≤ 5
  k : x.op ≠ 1 → 1 ≤ x.key.size ∧ x.key.size ≤ 8 ∧ x.val.size ≤ 20
theorem CIn.of {x : Command} (h : cmdOk x = true) : CIn x := by
  simp only [cmdOk, inR, Bool.and_eq_true, decide_eq_true_eq] at h
  refine ⟨by omega, by omega, by omega, fun h1 => ?_⟩
  have h2 := h.2
  rw [if_neg (by simpa using h1)] at h2
  simp only [Bool.and_eq_true, decide_eq_true_eq] at h2
  omega
theorem do_ok {k : Keep} {n : Int} {x : Command} (h : KOk k) (hn : 1 ≤ n ∧ n ≤ 400000) (hx : CIn x) (h1 : x.op ≠ 1) : KOk (doK k n x).1 ∧ (doK k n x).2.size ≤ 40 := by
  have hc := hx.k h1
  have hit : (itemOf k x.key).2 = true → ItIn (itemOf k x.key).1 := item_in h.to
  have a1 := itoa_len (n := n) (by omega) (by omega)
  have c1 : tIs.size = 3 := rfl
  have c2 : tNo.size = 2 := rfl
  have c3 : tDrop.size = 4 := rfl
  have c4 : tNot.size = 4 := rfl
  have c5 : tFull.size = 4 := rfl
  have c6 : tPut.size = 4 := rfl
  have c7 : (⟨#[32]⟩ : ByteArray).size = 1 := rfl
  unfold doK
  simp only []
  by_cases hb : (itemOf k x.key).2 = true
  · have hI := hit hb
    have hl := hI.len; have hv := hI.v
    by_cases o3 : (x.op == 3) = true
    · rw [if_pos o3, if_pos hb]
      exact ⟨h, by simp only [ByteArray.size_append]; omega⟩
    rw [if_neg o3]
    by_cases o4 : (x.op == 4) = true
    · rw [if_pos o4, if_pos hb]
      exact ⟨h.withoutK _, by simp only []; omega⟩
    rw [if_neg o4, if_neg (by simp [hb])]
    split
    · exact ⟨h, by simp only [ByteArray.size_append]; omega⟩
    · rw [if_neg (by simp [hb])]
      exact ⟨h.putK (it := ⟨x.key, x.val, n⟩) (by simp [itemOk, inR]; omega) (by simp [hb]), by simp only [ByteArray.size_append]; omega⟩
  · have hb : (itemOf k x.key).2 = false := by simpa using hb
    by_cases o3 : (x.op == 3) = true
    · rw [if_pos o3, if_neg (by simp [hb])]
      exact ⟨h, by simp only []; omega⟩
    rw [if_neg o3]
    by_cases o4 : (x.op == 4) = true
    · rw [if_pos o4, if_neg (by simp [hb])]
      exact ⟨h.withoutK _, by simp only []; omega⟩
    rw [if_neg o4]
    split
    · exact ⟨h, by simp only []; omega⟩
    · rename_i h5
      rw [if_neg (by intro h6; simp only [Bool.and_eq_true] at h6; exact h5 (by simp [h6.1, hb]))]
      split
      · exact ⟨h, by simp only []; omega⟩
      · rename_i hf
        exact ⟨h.putK (it := ⟨x.key, x.val, n⟩) (by simp [itemOk, inR]; omega) (by simpa using hf), by simp only [ByteArray.size_append]; omega⟩
theorem KOk.set {k : Keep} {i : Nat} {s : Session} {q : Int} {r : ByteArray} (h : KOk k) (hs : k.sessions[i]? = some s) (h0 : 1 ≤ q) (h1 : q ≤ 1000000) (h2 : r.size ≤ 40) : KOk ⟨k.sessions.set i ⟨s.token, q, r⟩, k.items⟩ := by
  obtain ⟨hi, rfl⟩ := List.getElem?_eq_some_iff.1 hs
  refine ⟨?_, fun y hy => ?_, h.ip, h.io, by simp; exact h.sl, h.il⟩
  · have e : (k.sessions.set i ⟨k.sessions[i].token, q, r⟩).map Session.token = k.sessions.map Session.token := by
      rw [List.map_set]
      apply List.ext_getElem?
      intro j
      rw [List.getElem?_set]
      split
      · rename_i hj; subst hj
        split
        · simp [hi]
        · rename_i h3; simp at h3; omega
      · rfl
    have h3 : (k.sessions.map Session.token).Pairwise (· < ·) := List.pairwise_map.2 h.sp
    rw [← e] at h3
    exact List.pairwise_map.1 h3
  · rcases List.mem_or_eq_of_mem_set hy with hy | rfl
    · exact h.so y hy
    · have h4 := h.so _ (List.getElem_mem hi)
      simp only [sessOk, inR, Bool.and_eq_true, decide_eq_true_eq] at h4 ⊢
      refine ⟨⟨⟨h4.1.1.1, by omega, by omega⟩, by omega⟩, ?_⟩
      have : (q == 0) = false := by simp; omega
      simp [this]
theorem KOk.items {k k' : Keep} (h : KOk k) (h' : KOk k') : KOk ⟨k.sessions, k'.items⟩ := ⟨h.sp, h.so, h'.ip, h'.io, h.sl, h'.il⟩
inductive Pf (k : Keep) (n : Int) (x : Command) : Keep × ByteArray × Bool → Prop
  | op : x.op = 1 → Pf k n x (openK k n, tOpen ++ itoaB n, true)
  | stay (r : ByteArray) : x.op ≠ 1 → Pf k n x (k, r, true)
  | does (i : Nat) (s : Session) : x.op ≠ 1 → At k x i s → x.seq = s.last + 1 → 0 ≤ s.last → Pf k n x (⟨k.sessions.set i ⟨s.token, x.seq, (doK k n x).2⟩, (doK k n x).1.items⟩, (doK k n x).2, true)
theorem wrap_last {l : Int} (h : 0 ≤ l ∧ l ≤ 1000000) : IntKind.i64.wrap (l + 1) = l + 1 := by rw [IntKind.wrap_i64]; omega
theorem pf_of {k : Keep} {n : Int} {x : Command} (h : PfOk k n x) : Pf k n x (perfK k n x) := by
  by_cases h1 : (x.op == 1) = true
  · rw [perf_open h h1]; exact .op (by simpa using h1)
  have h1 : (x.op == 1) = false := by simpa using h1
  have h2 : x.op ≠ 1 := by simpa using h1
  cases e : k.sessions.findIdx? (isTok x.token) with
  | none =>
    have : (k.sessions.take k.sessions.length).any (isTok x.token) = false := by
      rw [List.take_length, List.any_eq_false]
      intro y hy
      have := List.findIdx?_eq_none_iff.1 e y hy
      simp [this]
    rw [perf_none h h1 this (Nat.le_refl _)]
    exact .stay _ h2
  | some i =>
    obtain ⟨hi, hp, _⟩ := List.findIdx?_eq_some_iff_getElem.1 e
    have ha : At k x i k.sessions[i] := ⟨e, List.getElem?_eq_getElem hi, hp⟩
    have hl := sess_in h.k ha
    have hw := wrap_last hl
    by_cases c1 : decide (x.seq > IntKind.i64.wrap (k.sessions[i].last + 1)) = true
    · rw [perf_gap h h1 ha c1]; exact .stay _ h2
    have c1 : decide (x.seq > IntKind.i64.wrap (k.sessions[i].last + 1)) = false := by simpa using c1
    by_cases c2 : (decide (x.seq < k.sessions[i].last) || x.seq == 0) = true
    · rw [perf_old h h1 ha c1 c2]; exact .stay _ h2
    have c2 : (decide (x.seq < k.sessions[i].last) || x.seq == 0) = false := by simpa using c2
    by_cases c3 : (x.seq == k.sessions[i].last) = true
    · rw [perf_same h h1 ha c1 c2 c3]; exact .stay _ h2
    have c3 : (x.seq == k.sessions[i].last) = false := by simpa using c3
    rw [perf_do h h1 ha c1 c2 c3]
    refine .does i _ h2 ha ?_ hl.1
    rw [hw] at c1
    simp at c1 c2 c3
    omega
theorem pf_ok {k : Keep} {n : Int} {x : Command} (h : PfOk k n x) : KOk (perfK k n x).1 ∧ (perfK k n x).2.2 = true := by
  have hk := KOk.of h.k
  have hx := CIn.of h.x
  have hn := h.n
  have hf := pf_of h
  generalize perfK k n x = r at hf ⊢
  cases hf with
  | op h1 => exact ⟨hk.open hn, rfl⟩
  | stay r h1 => exact ⟨hk, rfl⟩
  | does i s h1 ha hs h0 =>
    have hd := do_ok hk hn hx h1
    have hl := sess_in h.k ha
    exact ⟨(hk.items hd.1).set ha.fs (by omega) (by have := hx.s; omega) hd.2, rfl⟩
theorem mem_insL {it : Item} : ∀ {l : List Item} {y : Item}, y ∈ insL it l → y = it ∨ y ∈ l
  | [], y, h => by simp [insL] at h; exact .inl h
  | x :: r, y, h => by
    rw [insL] at h
    split at h
    · rcases List.mem_cons.1 h with rfl | h
      · exact .inl rfl
      · exact .inr h
    · rcases List.mem_cons.1 h with rfl | h
      · exact .inr (List.mem_cons_self ..)
      · rcases mem_insL h with h | h
        · exact .inl h
        · exact .inr (List.mem_cons_of_mem _ h)
def keepNew : Keep := ⟨[], [⟨⟨#[114, 111, 111, 116]⟩, ⟨#[]⟩, 1⟩]⟩
theorem KOk.okTo {k : Keep} (h : KOk k) : okToKeep k := by
  have h1 := h.sl; have h2 := h.il
  refine ⟨⟨by omega, fun s hs => ?_⟩, ⟨by omega, fun x hx => ?_⟩⟩
  · have := h.so s hs
    simp only [sessOk, inR, Bool.and_eq_true, decide_eq_true_eq] at this
    show s.reply.size ≤ 1048576
    omega
  · have := itemOk_in (h.io x hx)
    have h3 := this.k8; have h4 := this.v
    refine ⟨?_, ?_⟩
    · show x.key.size ≤ 1048576; omega
    · show x.val.size ≤ 1048576; omega
theorem eqS_step {α : Type} {f : α → α → Bool} {a b : List α} {i : Nat} {x y : α} (ha : a[i]? = some x) (hb : b[i]? = some y) : eqS f (a.drop i) (b.drop i) = if f x y then eqS f (a.drop (i + 1)) (b.drop (i + 1)) else false := by
  rw [drop_get ha, drop_get hb]; rfl
theorem eqS_end {α : Type} {f : α → α → Bool} {a b : List α} {i : Nat} (h : a.length ≤ i) (hl : a.length = b.length) : eqS f (a.drop i) (b.drop i) = true := by
  rw [List.drop_of_length_le h, List.drop_of_length_le (by omega)]; rfl
theorem eqK_len {a b : Keep} (h : (!((a.sessions.length : Int) == (b.sessions.length : Int)) || !((a.items.length : Int) == (b.items.length : Int))) = true) : eqKeep a b = false := by
  rw [eqKeep]
  by_cases h1 : a.sessions.length = b.sessions.length
  · have h2 : a.items.length ≠ b.items.length := by simp [h1] at h; omega
    rw [eqS_ne h2]; simp
  · rw [eqS_ne h1]; simp
theorem find_at : ∀ {l : List Item} {i : Nat} {e : Item}, l.Pairwise (fun a b => sLt a.key b.key = true) → l[i]? = some e → l.find? (isKey e.key) = some e
  | [], i, e, _, h => by simp at h
  | x :: r, 0, e, _, h => by simp at h; subst h; simp [isKey, sEq]
  | x :: r, i + 1, e, hp, h => by
    cases hp with
    | cons h1 h2 =>
      have h := (show r[i]? = some e by simpa using h)
      have h3 := sLt_ne (h1 e (List.mem_of_getElem? h))
      rw [List.find?_cons, show isKey e.key x = false from h3]
      exact find_at h2 h
theorem itemOf_of {k : Keep} {key : ByteArray} {x : Item} (h : k.items.find? (isKey key) = some x) : itemOf k key = (x, true) := by rw [itemOf, h]
def val : List UInt8 → Nat
  | [] => 0
  | c :: r => c.toNat % 128 + 128 * val r
theorem val_snoc : ∀ (l : List UInt8) (c : UInt8), val (l ++ [c]) = val l + 128 ^ l.length * (c.toNat % 128)
  | [], c => by simp [val]
  | b :: l, c => by
    rw [List.cons_append, val, val_snoc l c, val, List.length_cons, Nat.pow_succ, Nat.mul_add]
    rw [Nat.mul_comm (128 ^ l.length) 128, Nat.mul_assoc]
    omega
theorem val_lt : ∀ l : List UInt8, val l < 128 ^ l.length
  | [] => by simp [val]
  | c :: l => by
    have := val_lt l
    rw [val, List.length_cons, Nat.pow_succ]
    omega
def varL (n : Nat) : List UInt8 := if h : n > 127 then UInt8.ofNat (n % 128 + 128) :: varL (n / 128) else [UInt8.ofNat n]
termination_by n
decreasing_by omega
def varB (n : Nat) : ByteArray := ⟨(varL n).toArray⟩
theorem varL_big {n : Nat} (h : n > 127) : varL n = UInt8.ofNat (n % 128 + 128) :: varL (n / 128) := by rw [varL, dif_pos h]
theorem varL_small {n : Nat} (h : ¬ n > 127) : varL n = [UInt8.ofNat n] := by rw [varL, dif_neg h]
theorem u8_of {n : Nat} (h : n < 256) : (UInt8.ofNat n).toNat = n := by simp; omega
theorem ofNat_toNat (c : UInt8) : UInt8.ofNat c.toNat = c := by simp
theorem varL_len : ∀ (k n : Nat), 0 < k → n < 128 ^ k → (varL n).length ≤ k
  | 0, n, h, _ => by omega
  | k + 1, n, _, h => by
    by_cases hn : n > 127
    · rw [varL_big hn, List.length_cons]
      have hk : 0 < k := by
        rcases Nat.eq_zero_or_pos k with rfl | hk
        · simp at h; omega
        · exact hk
      have := varL_len k (n / 128) hk (by rw [Nat.pow_succ] at h; omega)
      omega
    · rw [varL_small hn]; simp
theorem varL_form : ∀ n : Nat, ∃ pre c, varL n = pre ++ [c] ∧ pre.any (fun c => decide (c.toNat ≤ 127)) = false ∧ c.toNat ≤ 127 ∧ (pre ≠ [] → c.toNat ≠ 0) ∧ val (pre ++ [c]) = n := by
  intro n
  induction n using Nat.strongRecOn with
  | _ n ih =>
    by_cases hn : n > 127
    · obtain ⟨pre, c, h1, h2, h3, h4, h5⟩ := ih (n / 128) (by omega)
      have hb : (UInt8.ofNat (n % 128 + 128)).toNat = n % 128 + 128 := u8_of (by omega)
      refine ⟨UInt8.ofNat (n % 128 + 128) :: pre, c, by rw [varL_big hn, h1]; rfl, ?_, h3, fun _ => ?_, ?_⟩
      · rw [List.any_cons, h2, hb]
        simp
      · cases pre with
        | nil => intro h0; simp [val, h0] at h5; omega
        | cons x y => exact h4 (by simp)
      · rw [List.cons_append, val, h5, hb]; omega
    · refine ⟨[], UInt8.ofNat n, by rw [varL_small hn]; rfl, rfl, by rw [u8_of (by omega)]; omega, by simp, ?_⟩
      simp only [List.nil_append, val]
      rw [u8_of (by omega)]; omega
theorem varL_val : ∀ (pre : List UInt8) (c : UInt8), pre.any (fun c => decide (c.toNat ≤ 127)) = false → c.toNat ≤ 127 → (pre ≠ [] → c.toNat ≠ 0) → varL (val (pre ++ [c])) = pre ++ [c]
  | [], c, _, hc, _ => by
    simp only [List.nil_append, val]
    have : c.toNat % 128 + 128 * 0 = c.toNat := by omega
    rw [this, varL_small (by omega), ofNat_toNat]
  | b :: pre, c, hp, hc, h0 => by
    rw [List.any_cons, Bool.or_eq_false_iff] at hp
    have hb : ¬ b.toNat ≤ 127 := by simpa using hp.1
    have hb2 := b.toNat_lt
    have h1 : c.toNat ≠ 0 := h0 (by simp)
    have ih := varL_val pre c hp.2 hc (fun _ => h1)
    have hpos : 0 < val (pre ++ [c]) := by
      rw [val_snoc]
      have : 0 < 128 ^ pre.length := Nat.pow_pos (by omega)
      have : 128 ^ pre.length * 1 ≤ 128 ^ pre.length * (c.toNat % 128) := Nat.mul_le_mul_left _ (by omega)
      omega
    rw [List.cons_append, val, varL_big (by omega)]
    have e1 : (b.toNat % 128 + 128 * val (pre ++ [c])) % 128 + 128 = b.toNat := by omega
    have e2 : (b.toNat % 128 + 128 * val (pre ++ [c])) / 128 = val (pre ++ [c]) := by omega
    rw [e1, e2, ih, ofNat_toNat]
theorem varL_not {pre : List UInt8} {c : UInt8} (hn : pre ≠ []) (hc : c.toNat = 0) : varL (val (pre ++ [c])) ≠ pre ++ [c] := by
  intro h
  obtain ⟨p, d, h1, _, _, h4, _⟩ := varL_form (val (pre ++ [c]))
  rw [h] at h1
  obtain ⟨rfl, h5⟩ := List.append_inj' h1 rfl
  simp at h5
  subst h5
  exact h4 hn hc
def rdv (l : List UInt8) : Option (Nat × Nat) :=
  match l.findIdx? (fun c => decide (c.toNat ≤ 127)) with
  | none => none
  | some k => if k < 5 then (if (k ≠ 0 ∧ (l.getD k 0).toNat = 0) then none else some (val (l.take (k + 1)), k + 1)) else none
def rdVar (t : ByteArray) (a : Int) : Int × Int × Bool :=
  if inR a 0 t.size then
    match rdv (t.toList.drop a.toNat) with
    | none => (0, 0, false)
    | some p => if (p.1 : Int) ≤ 1000000000 then ((p.1 : Int), a + (p.2 : Int), true) else (0, 0, false)
  else (0, 0, false)
structure RvP (t : ByteArray) (a : Int) (j : Nat) (n : Int) : Prop where
  a0 : 0 ≤ a ∧ a ≤ t.size
  sz : t.size ≤ 4611686018427387904
  j5 : j ≤ 5
  jl : a.toNat + j ≤ t.size
  hi : ((t.toList.drop a.toNat).take j).any (fun c => decide (c.toNat ≤ 127)) = false
  eq : n = (val ((t.toList.drop a.toNat).take j) : Nat)
theorem rdVar_out {t : ByteArray} {a : Int} (h : inR a 0 t.size = false) : rdVar t a = (0, 0, false) := by rw [rdVar, if_neg (by rw [h]; simp)]
theorem RvP.init {t : ByteArray} {a : Int} (h : inR a 0 t.size = true) (hs : t.size ≤ 4611686018427387904) : RvP t a 0 0 := by
  simp [inR] at h
  exact ⟨by omega, by omega, by omega, by omega, by simp, by simp [val]⟩
theorem RvP.inR {t : ByteArray} {a n : Int} {j : Nat} (h : RvP t a j n) : inR a 0 t.size = true := by
  have := h.a0
  simp [Y.inR]; omega
theorem RvP.end_ {t : ByteArray} {a n : Int} {j : Nat} (h : RvP t a j n) (hj : 5 ≤ j ∨ t.size ≤ a.toNat + j) : rdVar t a = (0, 0, false) := by
  rw [rdVar, if_pos h.inR]
  have : rdv (t.toList.drop a.toNat) = none := by
    rw [rdv]
    cases e : (t.toList.drop a.toNat).findIdx? (fun c => decide (c.toNat ≤ 127)) with
    | none => rfl
    | some k =>
      obtain ⟨hk, hp, _⟩ := List.findIdx?_eq_some_iff_getElem.1 e
      have hkj : j ≤ k := by
        rcases Nat.lt_or_ge k j with h1 | h1
        · have h2 := List.any_eq_false.1 h.hi ((t.toList.drop a.toNat)[k]) (by
            rw [List.mem_take_iff_getElem]
            exact ⟨k, by omega, rfl⟩)
          exact absurd hp h2
        · exact h1
      simp only []
      rw [if_neg]
      rcases hj with hj | hj
      · omega
      · rw [List.length_drop, toL_len] at hk; omega
  rw [this]
theorem bat_at {t : ByteArray} {m : Nat} (h : m < t.size) : bat t m = ((t.toList.getD m 0).toNat : Int) ∧ t.toList[m]? = some (t.toList.getD m 0) := by
  have e : t[m]? = some t[m] := getElem?_pos t m h
  have e2 := toL_get h
  have e3 : t.toList.getD m 0 = t[m] := by rw [List.getD_eq_getElem?_getD, e2]; rfl
  rw [e3]
  exact ⟨by rw [bat, e], e2⟩
structure RvB (t : ByteArray) (a : Int) (j : Nat) (c : UInt8) : Prop where
  at_ : (t.toList.drop a.toNat)[j]? = some c
  bt : bat t (a.toNat + j) = (c.toNat : Int)
  wb : IntKind.i64.wrap (bat t (a.toNat + j)) = (c.toNat : Int)
  lt : c.toNat < 256
theorem RvP.byte {t : ByteArray} {a n : Int} {j : Nat} (_h : RvP t a j n) (hlt : a.toNat + j < t.size) : ∃ c, RvB t a j c := by
  obtain ⟨h1, h2⟩ := bat_at hlt
  have h3 := (t.toList.getD (a.toNat + j) 0).toNat_lt
  refine ⟨t.toList.getD (a.toNat + j) 0, by rw [List.getElem?_drop]; exact h2, h1, ?_, h3⟩
  rw [h1]; exact wrap_small (by omega) (by omega)
theorem RvB.take {t : ByteArray} {a : Int} {j : Nat} {c : UInt8} (h : RvB t a j c) : (t.toList.drop a.toNat).take (j + 1) = (t.toList.drop a.toNat).take j ++ [c] := take_snoc h.at_
theorem RvP.len {t : ByteArray} {a n : Int} {j : Nat} (h : RvP t a j n) : ((t.toList.drop a.toNat).take j).length = j := by
  have := h.jl; have := h.a0
  rw [List.length_take, List.length_drop, toL_len]; omega
theorem RvP.next {t : ByteArray} {a n : Int} {j : Nat} {c : UInt8} {m : Int} (h : RvP t a j n) (hb : RvB t a j c) (h5 : j < 5) (hlt : a.toNat + j < t.size) (hc : (c.toNat : Int) > 127) (hm : m = (val ((t.toList.drop a.toNat).take (j + 1)) : Nat)) : RvP t a (j + 1) m := by
  refine ⟨h.a0, h.sz, by omega, by omega, ?_, hm⟩
  rw [hb.take, List.any_append, h.hi]
  simp; omega
theorem pow128 {j : Nat} (h : j ≤ 5) : 128 ^ j ≤ 34359738368 := by
  have : j = 0 ∨ j = 1 ∨ j = 2 ∨ j = 3 ∨ j = 4 ∨ j = 5 := by omega
  rcases this with rfl | rfl | rfl | rfl | rfl | rfl <;> decide
theorem RvP.n_lt {t : ByteArray} {a n : Int} {j : Nat} (h : RvP t a j n) : 0 ≤ n ∧ n < 34359738368 := by
  have h1 := val_lt ((t.toList.drop a.toNat).take j)
  rw [h.len] at h1
  have h2 := pow128 h.j5
  rw [h.eq]; omega
theorem RvP.more {t : ByteArray} {a n : Int} {j : Nat} {c : UInt8} (h : RvP t a j n) (hb : RvB t a j c) (h5 : j < 5) : ((val ((t.toList.drop a.toNat).take (j + 1)) : Nat) : Int) = n + ((128 ^ j : Nat) : Int) * ((c.toNat % 128 : Nat) : Int) ∧ n + ((128 ^ j : Nat) : Int) * ((c.toNat % 128 : Nat) : Int) < 34359738368 := by
  have e : (val ((t.toList.drop a.toNat).take (j + 1)) : Nat) = val ((t.toList.drop a.toNat).take j) + 128 ^ j * (c.toNat % 128) := by
    rw [hb.take, val_snoc, h.len]
  have h1 := val_lt ((t.toList.drop a.toNat).take (j + 1))
  have h2 : ((t.toList.drop a.toNat).take (j + 1)).length = j + 1 := by rw [hb.take, List.length_append, h.len]; rfl
  rw [h2] at h1
  have h3 := pow128 (j := j + 1) (by omega)
  rw [h.eq]
  have e2 : ((val ((t.toList.drop a.toNat).take (j + 1)) : Nat) : Int) = (val ((t.toList.drop a.toNat).take j) : Nat) + ((128 ^ j : Nat) : Int) * ((c.toNat % 128 : Nat) : Int) := by
    rw [e, Int.natCast_add, Int.natCast_mul]
  exact ⟨e2, by rw [← e2]; omega⟩
theorem tmod128 {n : Nat} : Int.tmod (n : Int) 128 = ((n % 128 : Nat) : Int) := by
  rw [Int.tmod_eq_emod_of_nonneg (by omega)]; omega
theorem RvP.nI {t : ByteArray} {a n : Int} {j : Nat} {c : UInt8} (h : RvP t a j n) (hb : RvB t a j c) (h5 : j < 5) :
    IntKind.i64.wrap (n + shlI (Int.tmod (IntKind.i64.wrap (bat t (a.toNat + j))) 128) (IntKind.i64.wrap (7 * (j : Int)))) = (val ((t.toList.drop a.toNat).take (j + 1)) : Nat) := by
  obtain ⟨h1, h2⟩ := h.more hb h5
  have h3 := h.n_lt
  rw [hb.wb, tmod128, shlI, wrap_small (x := 7 * (j : Int)) (by omega) (by omega)]
  have e : min (7 * (j : Int)).toNat 64 = 7 * j := by omega
  have e2 : ((c.toNat % 128 : Nat) : Int) * 2 ^ (7 * j) = ((128 ^ j : Nat) : Int) * ((c.toNat % 128 : Nat) : Int) := by
    rw [Int.mul_comm]
    congr 1
    rw [show (128 : Nat) = 2 ^ 7 from rfl, ← Nat.pow_mul, Int.natCast_pow]
    rfl
  have h4 : 0 ≤ ((128 ^ j : Nat) : Int) * ((c.toNat % 128 : Nat) : Int) := Int.mul_nonneg (Int.natCast_nonneg _) (Int.natCast_nonneg _)
  rw [e, e2, wrap_small (x := ((128 ^ j : Nat) : Int) * ((c.toNat % 128 : Nat) : Int)) (by omega) (by omega), wrap_small (by omega) (by omega), h1]
theorem RvP.nS {t : ByteArray} {a n : Int} {j : Nat} {c : UInt8} (h : RvP t a j n) (hb : RvB t a j c) (h5 : j < 5) :
    IntKind.i64.wrap (n + IntKind.i64.wrap (Int.tmod (IntKind.i64.wrap (bat t (a.toNat + j))) 128 * ((128 ^ j : Nat) : Int))) = (val ((t.toList.drop a.toNat).take (j + 1)) : Nat) := by
  obtain ⟨h1, h2⟩ := h.more hb h5
  have h3 := h.n_lt
  have h4 : 0 ≤ ((128 ^ j : Nat) : Int) * ((c.toNat % 128 : Nat) : Int) := Int.mul_nonneg (Int.natCast_nonneg _) (Int.natCast_nonneg _)
  rw [hb.wb, tmod128, Int.mul_comm, wrap_small (x := ((128 ^ j : Nat) : Int) * ((c.toNat % 128 : Nat) : Int)) (by omega) (by omega), wrap_small (by omega) (by omega), h1]
theorem rdv_at {l : List UInt8} {j : Nat} {c : UInt8} (hi : (l.take j).any (fun c => decide (c.toNat ≤ 127)) = false) (hc : l[j]? = some c) (hl : c.toNat ≤ 127) (h5 : j < 5) : rdv l = if (j ≠ 0 ∧ c.toNat = 0) then none else some (val (l.take (j + 1)), j + 1) := by
  have e : l.findIdx? (fun c => decide (c.toNat ≤ 127)) = some j := findIdx_at hi hc (by simpa using hl)
  have e2 : l.getD j 0 = c := by rw [List.getD_eq_getElem?_getD, hc]; rfl
  rw [rdv, e]
  simp only [h5, if_true, e2]
theorem RvP.bad {t : ByteArray} {a n : Int} {j : Nat} {c : UInt8} (h : RvP t a j n) (hb : RvB t a j c) (h5 : j < 5) (hc : (c.toNat : Int) ≤ 127) (hz : (j ≠ 0 ∧ (c.toNat : Int) = 0) ∨ ((val ((t.toList.drop a.toNat).take (j + 1)) : Nat) : Int) > 1000000000) : rdVar t a = (0, 0, false) := by
  rw [rdVar, if_pos h.inR, rdv_at h.hi hb.at_ (by omega) h5]
  by_cases h1 : j ≠ 0 ∧ c.toNat = 0
  · rw [if_pos h1]
  · rw [if_neg h1]
    simp only []
    rw [if_neg (by omega)]
theorem RvP.good {t : ByteArray} {a n : Int} {j : Nat} {c : UInt8} (h : RvP t a j n) (hb : RvB t a j c) (h5 : j < 5) (hc : (c.toNat : Int) ≤ 127) (h0 : ¬ (j ≠ 0 ∧ (c.toNat : Int) = 0)) (hz : ((val ((t.toList.drop a.toNat).take (j + 1)) : Nat) : Int) ≤ 1000000000) : rdVar t a = (((val ((t.toList.drop a.toNat).take (j + 1)) : Nat) : Int), a + ((j + 1 : Nat) : Int), true) := by
  rw [rdVar, if_pos h.inR, rdv_at h.hi hb.at_ (by omega) h5]
  rw [if_neg (by omega)]
  simp only []
  rw [if_pos hz]
theorem RvP.canon {t : ByteArray} {a n : Int} {j : Nat} {c : UInt8} (h : RvP t a j n) (hb : RvB t a j c) (hc : (c.toNat : Int) ≤ 127) (hlt : a.toNat + j < t.size) : ((varB (val ((t.toList.drop a.toNat).take (j + 1)))).toList == (t.extract a.toNat (a + (j : Int) + 1).toNat).toList) = !decide (j ≠ 0 ∧ (c.toNat : Int) = 0) := by
  have ha := h.a0
  have e1 : (t.extract a.toNat (a + (j : Int) + 1).toNat).toList = (t.toList.drop a.toNat).take (j + 1) := by
    rw [ByteArray.toList_eq, ByteArray.toList_eq, ByteArray.data_extract, Array.toList_extract, List.extract_eq_take_drop]
    congr 1
    omega
  have e2 : (varB (val ((t.toList.drop a.toNat).take (j + 1)))).toList = varL (val ((t.toList.drop a.toNat).take (j + 1))) := by
    rw [ByteArray.toList_eq]; rfl
  rw [e1, e2, hb.take]
  by_cases h1 : j ≠ 0 ∧ (c.toNat : Int) = 0
  · rw [decide_eq_true h1]
    have hn : (t.toList.drop a.toNat).take j ≠ [] := by
      intro h2
      have := h.len
      rw [h2] at this
      simp at this
      omega
    have := varL_not (c := c) hn (by omega)
    simpa using this
  · rw [decide_eq_false h1, varL_val _ _ h.hi (by omega) (fun hn => ?_)]
    · simp
    · intro h2
      apply h1
      refine ⟨fun hj => hn ?_, by omega⟩
      subst hj; simp
def RvZ (t : ByteArray) (a : Int) (j : Nat) (c : UInt8) : Prop := (j ≠ 0 ∧ (c.toNat : Int) = 0) ∨ ((val ((t.toList.drop a.toNat).take (j + 1)) : Nat) : Int) > 1000000000
theorem RvP.implT {t : ByteArray} {a n : Int} {j : Nat} {c : UInt8} {b : Bool} (h : RvP t a j n) (hb : RvB t a j c) (h5 : j < 5) (hv : b = ((decide ((j : Int) > 0) && (IntKind.i64.wrap (bat t (a.toNat + j)) == 0)) || decide (IntKind.i64.wrap (n + shlI (Int.tmod (IntKind.i64.wrap (bat t (a.toNat + j))) 128) (IntKind.i64.wrap (7 * (j : Int)))) > 1000000000))) : (b = true → RvZ t a j c) ∧ (b = false → ¬ RvZ t a j c) := by
  rw [h.nI hb h5, hb.wb] at hv
  subst hv
  simp only [RvZ, Bool.or_eq_true, Bool.and_eq_true, decide_eq_true_eq, beq_iff_eq, Bool.or_eq_false_iff, Bool.and_eq_false_iff, decide_eq_false_iff_not, beq_eq_false_iff_ne]
  omega
theorem RvP.specT {t : ByteArray} {a n : Int} {j : Nat} {c : UInt8} {b : Bool} (h : RvP t a j n) (hb : RvB t a j c) (h5 : j < 5) (hc : (c.toNat : Int) ≤ 127) (hlt : a.toNat + j < t.size)
    (hv : b = (decide (IntKind.i64.wrap (n + IntKind.i64.wrap (Int.tmod (IntKind.i64.wrap (bat t (a.toNat + j))) 128 * ((128 ^ j : Nat) : Int))) > 1000000000) || !((varB (IntKind.i64.wrap (n + IntKind.i64.wrap (Int.tmod (IntKind.i64.wrap (bat t (a.toNat + j))) 128 * ((128 ^ j : Nat) : Int)))).toNat).toList == (t.extract a.toNat (IntKind.i64.wrap (a + (j : Int) + 1)).toNat).toList))) : (b = true → RvZ t a j c) ∧ (b = false → ¬ RvZ t a j c) := by
  have ha := h.a0; have hs := h.sz
  have hw : IntKind.i64.wrap (a + (j : Int) + 1) = a + (j : Int) + 1 := wrap_small (by omega) (by omega)
  rw [h.nS hb h5, hw, Int.toNat_natCast, h.canon hb hc hlt] at hv
  subst hv
  simp only [RvZ, Bool.or_eq_true, Bool.not_not, decide_eq_true_eq, Bool.or_eq_false_iff, decide_eq_false_iff_not]
  omega
theorem RvP.badZ {t : ByteArray} {a n : Int} {j : Nat} {c : UInt8} (h : RvP t a j n) (hb : RvB t a j c) (h5 : j < 5) (hc : (c.toNat : Int) ≤ 127) (hz : RvZ t a j c) : rdVar t a = (0, 0, false) := h.bad hb h5 hc hz
theorem RvP.goodZ {t : ByteArray} {a n : Int} {j : Nat} {c : UInt8} (h : RvP t a j n) (hb : RvB t a j c) (h5 : j < 5) (hc : (c.toNat : Int) ≤ 127) (hz : ¬ RvZ t a j c) : rdVar t a = (((val ((t.toList.drop a.toNat).take (j + 1)) : Nat) : Int), a + ((j + 1 : Nat) : Int), true) :=
  h.good hb h5 hc (fun h1 => hz (.inl h1)) (by rcases Int.lt_or_le 1000000000 ((val ((t.toList.drop a.toNat).take (j + 1)) : Nat) : Int) with h1 | h1; exact absurd (.inr h1) hz; exact h1)
theorem RvP.lt {t : ByteArray} {a n : Int} {j : Nat} (h : RvP t a j n) (h1 : IntKind.i64.wrap (a + (j : Int)) < (t.size : Int)) : a.toNat + j < t.size := by
  have ha := h.a0; have hs := h.sz; have := h.j5
  rw [wrap_small (by omega) (by omega)] at h1
  omega
theorem RvP.ix {t : ByteArray} {a n : Int} {j : Nat} (h : RvP t a j n) : IntKind.i64.wrap (a + (j : Int)) = ((a.toNat + j : Nat) : Int) := by
  have ha := h.a0; have hs := h.sz; have := h.j5
  rw [wrap_small (by omega) (by omega)]
  omega
theorem RvP.nx {t : ByteArray} {a n : Int} {j : Nat} (h : RvP t a j n) : IntKind.i64.wrap (IntKind.i64.wrap (a + (j : Int)) + 1) = a + ((j + 1 : Nat) : Int) := by
  have ha := h.a0; have hs := h.sz; have := h.j5
  rw [h.ix, wrap_small (by omega) (by omega)]
  omega
theorem bytesOf_snoc (l : List Int) (x : Int) : bytesOf (l ++ [x]) = bytesOf l ++ bytesOf [x] := by
  have : ∀ (b : ByteArray) (c : UInt8), b.push c = b ++ ⟨#[c]⟩ := by
    intro b c
    apply ByteArray.ext
    rw [ByteArray.data_append]
    simp [ByteArray.push]
  show (l ++ [x]).foldl _ _ = _
  rw [List.foldl_append]
  exact this _ _
theorem bytesOf_size (l : List Int) : (bytesOf l).size = l.length := by
  have : ∀ (l : List Int) (b : ByteArray), (l.foldl (fun r n => r.push (UInt8.ofNat n.toNat)) b).size = b.size + l.length := by
    intro l
    induction l with
    | nil => intro b; rfl
    | cons x r ih =>
      intro b
      rw [List.foldl_cons, ih, ByteArray.size_push, List.length_cons]
      omega
  have h := this l ByteArray.empty
  have h0 : ByteArray.empty.size = 0 := rfl
  rw [h0, Nat.zero_add] at h
  exact h
structure VbP (n m : Int) (l : List Int) : Prop where
  m0 : 0 ≤ m
  m1 : m ≤ 9223372036854775807
  n1 : 0 ≤ n ∧ n ≤ 9223372036854775807
  eq : bytesOf l ++ varB m.toNat = varB n.toNat
theorem VbP.init {n : Int} (h : 0 ≤ n ∧ n ≤ 9223372036854775807) : VbP n n [] := ⟨h.1, h.2, h, ByteArray.empty_append⟩
theorem VbP.len {n m : Int} {l : List Int} (h : VbP n m l) : l.length ≤ 9 := by
  have h1 := congrArg ByteArray.size h.eq
  rw [ByteArray.size_append, bytesOf_size] at h1
  have h2 : (varB n.toNat).size ≤ 9 := varL_len 9 n.toNat (by omega) (by have := h.n1; omega)
  omega
theorem u8w' (x : Int) : IntKind.u8.wrap x = x % 256 := by simp [IntKind.wrap, IntKind.bits, IntKind.signed]
theorem VbP.step {n m : Int} {l : List Int} (h : VbP n m l) (hm : decide (m > 127) = true) : VbP n (IntKind.i64.wrap (Int.tdiv m 128)) (l ++ [IntKind.u8.wrap (IntKind.i64.wrap (Int.tmod m 128 + 128))]) ∧ (IntKind.i64.wrap (Int.tdiv m 128)).toNat < m.toNat := by
  have hm : m > 127 := of_decide_eq_true hm
  have h0 := h.m0; have h1 := h.m1
  have e1 : Int.tdiv m 128 = m / 128 := Int.tdiv_eq_ediv_of_nonneg h0
  have e2 : Int.tmod m 128 = m % 128 := Int.tmod_eq_emod_of_nonneg h0
  have e3 : IntKind.i64.wrap (Int.tdiv m 128) = m / 128 := by rw [e1]; exact wrap_small (by omega) (by omega)
  rw [e3]
  refine ⟨⟨by omega, by omega, h.n1, ?_⟩, by omega⟩
  rw [← h.eq, bytesOf_snoc, e2, wrap_small (x := m % 128 + 128) (by omega) (by omega), u8w', ByteArray.append_assoc]
  congr 1
  have e4 : (m / 128).toNat = m.toNat / 128 := by omega
  have e5 : ((m % 128 + 128) % 256).toNat = m.toNat % 128 + 128 := by omega
  apply ByteArray.ext
  apply Array.ext'
  rw [ByteArray.data_append, Array.toList_append]
  show [UInt8.ofNat ((m % 128 + 128) % 256).toNat] ++ varL (m / 128).toNat = varL m.toNat
  rw [varL_big (n := m.toNat) (by omega), e4, e5]
  rfl
theorem VbP.fin {n m : Int} {l : List Int} (h : VbP n m l) (hm : decide (m > 127) = false) : bytesOf (l ++ [IntKind.u8.wrap m]) = varB n.toNat := by
  have hm : ¬ m > 127 := of_decide_eq_false hm
  have h0 := h.m0
  rw [← h.eq, bytesOf_snoc, u8w']
  congr 1
  apply ByteArray.ext
  apply Array.ext'
  show [UInt8.ofNat (m % 256).toNat] = varL m.toNat
  rw [varL_small (by omega)]
  congr 2
  omega
theorem pow_next {j : Nat} (h : j < 5) : IntKind.i64.wrap (((128 ^ j : Nat) : Int) * 128) = ((128 ^ (j + 1) : Nat) : Int) := by
  have h1 := pow128 (j := j + 1) (by omega)
  have h2 : ((128 ^ (j + 1) : Nat) : Int) = ((128 ^ j : Nat) : Int) * 128 := by rw [Nat.pow_succ, Int.natCast_mul]; rfl
  have h3 := Int.natCast_nonneg (128 ^ j)
  rw [← h2]
  exact wrap_small (by omega) (by omega)
theorem rdVar_ok {t : ByteArray} {a : Int} (h : (rdVar t a).2.2 = true) : ∃ n : Nat, (rdVar t a).1 = (n : Int) ∧ n ≤ 1000000000 ∧ 0 ≤ a ∧ (rdVar t a).2.1 = a + ((varL n).length : Int) ∧ (rdVar t a).2.1 ≤ t.size ∧ t.toList.drop a.toNat = varL n ++ t.toList.drop (rdVar t a).2.1.toNat ∧ 0 < (varL n).length := by
  unfold rdVar at h ⊢
  by_cases hi : inR a 0 t.size = true
  · rw [if_pos hi] at h ⊢
    have ha : 0 ≤ a ∧ a ≤ t.size := by simp [inR] at hi; omega
    cases e : rdv (t.toList.drop a.toNat) with
    | none => rw [e] at h; simp at h
    | some p =>
      rw [e] at h
      simp only [] at h ⊢
      by_cases hp : (p.1 : Int) ≤ 1000000000
      · rw [if_pos hp] at h ⊢
        rw [rdv] at e
        cases e2 : (t.toList.drop a.toNat).findIdx? (fun c => decide (c.toNat ≤ 127)) with
        | none => rw [e2] at e; cases e
        | some k =>
          rw [e2] at e
          simp only [] at e
          by_cases h5 : k < 5
          · rw [if_pos h5] at e
            by_cases hz : k ≠ 0 ∧ ((t.toList.drop a.toNat).getD k 0).toNat = 0
            · rw [if_pos hz] at e; cases e
            · rw [if_neg hz] at e
              cases e
              obtain ⟨hk, hpk, hlt⟩ := List.findIdx?_eq_some_iff_getElem.1 e2
              have hg : (t.toList.drop a.toNat)[k]? = some (t.toList.drop a.toNat)[k] := List.getElem?_eq_getElem hk
              have hgd : (t.toList.drop a.toNat).getD k 0 = (t.toList.drop a.toNat)[k] := by rw [List.getD_eq_getElem?_getD, hg]; rfl
              rw [hgd] at hz
              have htk : (t.toList.drop a.toNat).take (k + 1) = (t.toList.drop a.toNat).take k ++ [(t.toList.drop a.toNat)[k]] := take_snoc hg
              have hany : ((t.toList.drop a.toNat).take k).any (fun c => decide (c.toNat ≤ 127)) = false := by
                rw [List.any_eq_false]
                intro y hy
                obtain ⟨m, hm, rfl⟩ := List.mem_iff_getElem.1 hy
                rw [List.length_take] at hm
                have := hlt m (by omega)
                rw [List.getElem_take]
                simpa using this
              have hv : varL (val ((t.toList.drop a.toNat).take (k + 1))) = (t.toList.drop a.toNat).take (k + 1) := by
                rw [htk]
                refine varL_val _ _ hany (by simpa using hpk) (fun hn h0 => hz ⟨fun hk0 => hn ?_, h0⟩)
                subst hk0; simp
              have hlen : ((t.toList.drop a.toNat).take (k + 1)).length = k + 1 := by rw [List.length_take]; omega
              rw [List.length_drop, toL_len] at hk
              refine ⟨val ((t.toList.drop a.toNat).take (k + 1)), rfl, by omega, ha.1, ?_, ?_, ?_, ?_⟩
              · rw [hv, hlen]
              · show a + ((k + 1 : Nat) : Int) ≤ _; omega
              · rw [hv]
                show _ = _ ++ t.toList.drop (a + ((k + 1 : Nat) : Int)).toNat
                rw [show (a + ((k + 1 : Nat) : Int)).toNat = a.toNat + (k + 1) by omega, ← List.drop_drop, List.take_append_drop]
              · rw [hv, hlen]; omega
          · rw [if_neg h5] at e; cases e
      · rw [if_neg hp] at h; simp at h
  · rw [if_neg hi] at h; simp at h
def rdShort (t : ByteArray) (a : Int) : ByteArray × Int × Bool :=
  if (rdVar t a).2.2 && decide ((rdVar t a).1 ≤ 20000) && decide ((rdVar t a).1 ≤ (t.size : Int) - (rdVar t a).2.1) then (t.extract (rdVar t a).2.1.toNat ((rdVar t a).2.1 + (rdVar t a).1).toNat, (rdVar t a).2.1 + (rdVar t a).1, true) else (⟨#[]⟩, 0, false)
def shL (s : ByteArray) : List UInt8 := varL s.size ++ s.toList
theorem rdShort_ok {t : ByteArray} {a : Int} (h : (rdShort t a).2.2 = true) : 0 ≤ a ∧ (rdShort t a).2.1 ≤ t.size ∧ (rdShort t a).1.size ≤ 20000 ∧ (rdShort t a).2.1 = a + ((shL (rdShort t a).1).length : Int) ∧ t.toList.drop a.toNat = shL (rdShort t a).1 ++ t.toList.drop (rdShort t a).2.1.toNat := by
  unfold rdShort at h ⊢
  by_cases hc : ((rdVar t a).2.2 && decide ((rdVar t a).1 ≤ 20000) && decide ((rdVar t a).1 ≤ (t.size : Int) - (rdVar t a).2.1)) = true
  · rw [if_pos hc] at h ⊢
    simp only [Bool.and_eq_true, decide_eq_true_eq] at hc
    obtain ⟨n, h1, h2, h3, h4, h5, h6, h7⟩ := rdVar_ok hc.1.1
    rw [h1] at hc ⊢
    generalize (rdVar t a).2.1 = b at *
    have hb : 0 ≤ b := by omega
    have hsz : (t.extract b.toNat (b + (n : Int)).toNat).size = n := by rw [ByteArray.size_extract]; omega
    have hex : (t.extract b.toNat (b + (n : Int)).toNat).toList = (t.toList.drop b.toNat).take n := by
      rw [ByteArray.toList_eq, ByteArray.toList_eq, ByteArray.data_extract, Array.toList_extract, List.extract_eq_take_drop]
      congr 1
      omega
    refine ⟨h3, by show b + (n : Int) ≤ _; omega, by show ByteArray.size _ ≤ _; rw [hsz]; omega, ?_, ?_⟩
    · show b + (n : Int) = a + ((shL _).length : Int)
      rw [shL, hsz, List.length_append, toL_len, hsz, h4]
      omega
    · show t.toList.drop a.toNat = shL _ ++ t.toList.drop (b + (n : Int)).toNat
      rw [shL, hsz, hex, h6, List.append_assoc]
      congr 1
      rw [show (b + (n : Int)).toNat = b.toNat + n by omega, ← List.drop_drop, List.take_append_drop]
  · rw [if_neg hc] at h; simp at h
def scNum (t : ByteArray) (a : Int) (b : Bool) : Int × Int × Bool := if b || !(rdVar t a).2.2 then (0, a, true) else ((rdVar t a).1, (rdVar t a).2.1, false)
def scShort (t : ByteArray) (a : Int) (b : Bool) : ByteArray × Int × Bool := if b || !(rdShort t a).2.2 then (⟨#[]⟩, a, true) else ((rdShort t a).1, (rdShort t a).2.1, false)
def scOne (t : ByteArray) (a : Int) (b : Bool) : Int × Int × Bool := if b || decide (a ≥ (t.size : Int)) then (0, a, true) else (IntKind.i64.wrap (bat t a.toNat), a + 1, false)
def atOk (t : ByteArray) (a : Int) : Prop := 0 ≤ a ∧ a ≤ t.size ∧ t.size ≤ 1048576
theorem scNum_at {t : ByteArray} {a : Int} {b : Bool} (h : atOk t a) : atOk t (scNum t a b).2.1 := by
  unfold scNum
  split
  · exact h
  · rename_i hc
    obtain ⟨n, h1, h2, h3, h4, h5, h6, h7⟩ := rdVar_ok (t := t) (a := a) (by simp at hc; exact hc.2)
    exact ⟨by simp only []; omega, by simp only []; omega, h.2.2⟩
theorem scShort_at {t : ByteArray} {a : Int} {b : Bool} (h : atOk t a) : atOk t (scShort t a b).2.1 := by
  unfold scShort
  split
  · exact h
  · rename_i hc
    obtain ⟨h1, h2, h3, h4, h5⟩ := rdShort_ok (t := t) (a := a) (by simp at hc; exact hc.2)
    exact ⟨by simp only []; omega, by simp only []; omega, h.2.2⟩
theorem scOne_at {t : ByteArray} {a : Int} {b : Bool} (h : atOk t a) : atOk t (scOne t a b).2.1 := by
  unfold scOne
  split
  · exact h
  · rename_i hc
    simp at hc
    exact ⟨by have := h.1; simp only []; omega, by simp only []; omega, h.2.2⟩
theorem scNum_ok {t : ByteArray} {a : Int} {b : Bool} (h : (scNum t a b).2.2 = false) : b = false ∧ ∃ n : Nat, (scNum t a b).1 = (n : Int) ∧ n ≤ 1000000000 ∧ t.toList.drop a.toNat = varL n ++ t.toList.drop (scNum t a b).2.1.toNat := by
  unfold scNum at h ⊢
  split at h
  · cases h
  · rename_i hc
    rw [if_neg hc]
    simp at hc
    obtain ⟨n, h1, h2, h3, h4, h5, h6, h7⟩ := rdVar_ok hc.2
    exact ⟨by simpa using hc.1, n, h1, h2, h6⟩
theorem scShort_ok {t : ByteArray} {a : Int} {b : Bool} (h : (scShort t a b).2.2 = false) : b = false ∧ (scShort t a b).1.size ≤ 20000 ∧ t.toList.drop a.toNat = shL (scShort t a b).1 ++ t.toList.drop (scShort t a b).2.1.toNat := by
  unfold scShort at h ⊢
  split at h
  · cases h
  · rename_i hc
    rw [if_neg hc]
    simp at hc
    obtain ⟨h1, h2, h3, h4, h5⟩ := rdShort_ok hc.2
    exact ⟨by simpa using hc.1, h3, h5⟩
theorem rdS_no {t : ByteArray} {a : Int} (h : ((!(rdVar t a).2.2 || decide ((rdVar t a).1 > 20000)) || decide ((rdVar t a).1 > IntKind.i64.wrap ((t.size : Int) - (rdVar t a).2.1))) = true) (ht : t.size ≤ 1048576) : rdShort t a = (⟨#[]⟩, 0, false) := by
  unfold rdShort
  rw [if_neg]
  intro hc
  simp only [Bool.and_eq_true, decide_eq_true_eq] at hc
  obtain ⟨n, h1, h2, h3, h4, h5, h6, h7⟩ := rdVar_ok hc.1.1
  rw [wrap_small (by omega) (by omega), hc.1.1] at h
  simp at h
  omega
theorem rdS_yes {t : ByteArray} {a : Int} (h : ((!(rdVar t a).2.2 || decide ((rdVar t a).1 > 20000)) || decide ((rdVar t a).1 > IntKind.i64.wrap ((t.size : Int) - (rdVar t a).2.1))) = false) (ht : t.size ≤ 1048576) : rdShort t a = (t.extract (rdVar t a).2.1.toNat (IntKind.i64.wrap ((rdVar t a).2.1 + (rdVar t a).1)).toNat, IntKind.i64.wrap ((rdVar t a).2.1 + (rdVar t a).1), true) ∧
    0 ≤ (rdVar t a).2.1 ∧ (rdVar t a).2.1 ≤ IntKind.i64.wrap ((rdVar t a).2.1 + (rdVar t a).1) ∧ IntKind.i64.wrap ((rdVar t a).2.1 + (rdVar t a).1) ≤ t.size := by
  simp only [Bool.or_eq_false_iff, Bool.not_eq_false', decide_eq_false_iff_not] at h
  obtain ⟨n, h1, h2, h3, h4, h5, h6, h7⟩ := rdVar_ok h.1.1
  have hw : IntKind.i64.wrap ((rdVar t a).2.1 + (rdVar t a).1) = (rdVar t a).2.1 + (rdVar t a).1 := wrap_small (by omega) (by omega)
  have h8 := h.2
  rw [wrap_small (by omega) (by omega)] at h8
  rw [hw]
  refine ⟨?_, by omega, by omega, by omega⟩
  unfold rdShort
  rw [if_pos]
  simp only [Bool.and_eq_true, decide_eq_true_eq]
  exact ⟨⟨h.1.1, by omega⟩, by omega⟩
def scan.ok (s : scan) : Prop := atOk s.text s.at_
def numV (s : scan) : Int := (scNum s.text s.at_ s.bad).1
def numS (s : scan) : scan := ⟨s.text, (scNum s.text s.at_ s.bad).2.1, (scNum s.text s.at_ s.bad).2.2⟩
def shV (s : scan) : ByteArray := (scShort s.text s.at_ s.bad).1
def shS (s : scan) : scan := ⟨s.text, (scShort s.text s.at_ s.bad).2.1, (scShort s.text s.at_ s.bad).2.2⟩
def oneV (s : scan) : Int := (scOne s.text s.at_ s.bad).1
def oneS (s : scan) : scan := ⟨s.text, (scOne s.text s.at_ s.bad).2.1, (scOne s.text s.at_ s.bad).2.2⟩
def doneB (s : scan) : Bool := !s.bad && s.at_ == (s.text.size : Int)
theorem numS_ok {s : scan} (h : s.ok) : (numS s).ok := scNum_at h
theorem shS_ok {s : scan} (h : s.ok) : (shS s).ok := scShort_at h
theorem oneS_ok {s : scan} (h : s.ok) : (oneS s).ok := scOne_at h
theorem numS_bad {s : scan} (h : s.bad = true) : (numS s).bad = true := by simp [numS, scNum, h]
theorem shS_bad {s : scan} (h : s.bad = true) : (shS s).bad = true := by simp [shS, scShort, h]
def scan.left (s : scan) : List UInt8 := s.text.toList.drop s.at_.toNat
theorem numS_good {s : scan} (h : (numS s).bad = false) : s.bad = false ∧ ∃ n : Nat, numV s = (n : Int) ∧ n ≤ 1000000000 ∧ s.left = varL n ++ (numS s).left := scNum_ok h
theorem shS_good {s : scan} (h : (shS s).bad = false) : s.bad = false ∧ (shV s).size ≤ 20000 ∧ s.left = shL (shV s) ++ (shS s).left := scShort_ok h
theorem done_left {s : scan} (h : s.ok) (hb : s.bad = false) : doneB s = decide (s.left = []) := by
  have h1 := h.1; have h2 := h.2.1
  rw [doneB, hb, scan.left, Bool.eq_iff_iff, decide_eq_true_iff, List.drop_eq_nil_iff, toL_len]
  simp
  omega
def cmdI (s0 : scan) (o : Int) : Command := ⟨o, numV s0, numV (numS s0), shV (numS (numS s0)), shV (shS (numS (numS s0))), numV (shS (shS (numS (numS s0))))⟩
def cmdS (s0 : scan) : scan := numS (shS (shS (numS (numS s0))))
def rdCmd (t : ByteArray) : Command × Bool :=
  if !doneB (cmdS (oneS ⟨t, 0, false⟩)) || !cmdOk (cmdI (oneS ⟨t, 0, false⟩) (oneV ⟨t, 0, false⟩)) then (Command.z, false) else (cmdI (oneS ⟨t, 0, false⟩) (oneV ⟨t, 0, false⟩), true)
def shB (s : ByteArray) : ByteArray := varB s.size ++ s
def cmdText (x : Command) : ByteArray := bytesOf [IntKind.u8.wrap x.op] ++ varB x.token.toNat ++ varB x.seq.toNat ++ shB x.key ++ shB x.val ++ varB x.ver.toNat
def cmdT (x : Command) : ByteArray × Bool := if cmdOk x then (cmdText x, true) else (⟨#[]⟩, false)
theorem varB_L (n : Nat) : (varB n).toList = varL n := by rw [ByteArray.toList_eq]; rfl
theorem shB_L (s : ByteArray) : (shB s).toList = shL s := by rw [shB, toL_app, varB_L]; rfl
theorem u8w {x : Int} (h0 : 0 ≤ x) (h1 : x < 256) : IntKind.u8.wrap x = x := by
  simp [IntKind.wrap, IntKind.bits, IntKind.signed]; omega
theorem bytesOf_L1 (x : Int) : (bytesOf [x]).toList = [UInt8.ofNat x.toNat] := by
  rw [ByteArray.toList_eq]; rfl
theorem cmdText_L (x : Command) : (cmdText x).toList = UInt8.ofNat (IntKind.u8.wrap x.op).toNat :: (varL x.token.toNat ++ (varL x.seq.toNat ++ (shL x.key ++ (shL x.val ++ varL x.ver.toNat)))) := by
  rw [cmdText]
  simp only [toL_app, varB_L, shB_L, bytesOf_L1, List.append_assoc, List.singleton_append]
  rfl
theorem rd_text {t : ByteArray} (ht : t.size ≤ 1048576) (h0 : 0 < t.size) (hb : (cmdS (oneS ⟨t, 0, false⟩)).bad = false) :
    ((cmdText (cmdI (oneS ⟨t, 0, false⟩) (oneV ⟨t, 0, false⟩))).toList == t.toList) = doneB (cmdS (oneS ⟨t, 0, false⟩)) := by
  obtain ⟨bt1, bt2⟩ := bat_at h0
  have hlt := (t.toList.getD 0 0).toNat_lt
  have hs0 : scan.ok ⟨t, 0, false⟩ := ⟨by simp, by simp, ht⟩
  have e1 : oneS ⟨t, 0, false⟩ = ⟨t, 1, false⟩ := by
    simp only [oneS, scOne]
    rw [if_neg (by rw [Bool.false_or, decide_eq_false (by omega)]; simp)]
    rfl
  have e2 : oneV ⟨t, 0, false⟩ = ((t.toList.getD 0 0).toNat : Int) := by
    simp only [oneV, scOne]
    rw [if_neg (by rw [Bool.false_or, decide_eq_false (by omega)]; simp)]
    show IntKind.i64.wrap (bat t 0) = _
    rw [bt1]; exact wrap_small (by omega) (by omega)
  have hs1 := oneS_ok hs0
  rw [e1] at hb hs1 ⊢
  rw [e2]
  have hs6 : (cmdS ⟨t, 1, false⟩).ok := numS_ok (shS_ok (shS_ok (numS_ok (numS_ok hs1))))
  rw [done_left hs6 hb, cmdText_L]
  unfold cmdS at hb
  obtain ⟨b5, n5, v5, _, l5⟩ := numS_good hb
  obtain ⟨b4, _, l4⟩ := shS_good b5
  obtain ⟨b3, _, l3⟩ := shS_good b4
  obtain ⟨b2, n2, v2, _, l2⟩ := numS_good b3
  obtain ⟨b1, n1, v1, _, l1⟩ := numS_good b2
  have l0 : t.toList = t.toList.getD 0 0 :: scan.left ⟨t, 1, false⟩ := by
    have := drop_get bt2
    rw [List.drop_zero] at this
    exact this
  have w : UInt8.ofNat (IntKind.u8.wrap ((t.toList.getD 0 0).toNat : Int)).toNat = t.toList.getD 0 0 := by
    rw [u8w (by omega) (by omega)]; simp
  simp only [cmdI, v1, v2, v5, Int.toNat_natCast, w]
  conv => lhs; rhs; rw [l0, l1, l2, l3, l4, l5]
  show (_ == _ :: (_ ++ (_ ++ (_ ++ (_ ++ (varL n5 ++ (cmdS ⟨t, 1, false⟩).left)))))) = _
  rw [Bool.eq_iff_iff, decide_eq_true_iff, beq_iff_eq]
  constructor
  · intro h
    simp only [List.cons.injEq, List.append_cancel_left_eq, true_and] at h
    have := congrArg List.length h
    rw [List.length_append] at this
    exact List.eq_nil_of_length_eq_zero (by omega)
  · intro h; rw [h, List.append_nil]
def rdCmdS (t : ByteArray) : Command × Bool :=
  if t.toList == (⟨#[]⟩ : ByteArray).toList then (Command.z, false)
  else if ((cmdS ⟨t, 1, false⟩).bad || !(cmdT (cmdI ⟨t, 1, false⟩ (IntKind.i64.wrap (bat t 0)))).2) || !((cmdT (cmdI ⟨t, 1, false⟩ (IntKind.i64.wrap (bat t 0)))).1.toList == t.toList) then (Command.z, false)
  else (cmdI ⟨t, 1, false⟩ (IntKind.i64.wrap (bat t 0)), true)
theorem rd_eq {t : ByteArray} (ht : t.size ≤ 1048576) : rdCmdS t = rdCmd t := by
  rcases Nat.eq_zero_or_pos t.size with h0 | h0
  · have e : t = ⟨#[]⟩ := by
      apply ByteArray.ext
      exact Array.eq_empty_of_size_eq_zero h0
    subst e
    have hb : (oneS ⟨⟨#[]⟩, 0, false⟩).bad = true := by simp [oneS, scOne]; decide
    have hb2 : (cmdS (oneS ⟨⟨#[]⟩, 0, false⟩)).bad = true := numS_bad (shS_bad (shS_bad (numS_bad (numS_bad hb))))
    rw [rdCmdS, if_pos (by simp), rdCmd, if_pos (by simp [doneB, hb2])]
  · have e1 : oneS ⟨t, 0, false⟩ = ⟨t, 1, false⟩ := by
      simp only [oneS, scOne]
      rw [if_neg (by rw [Bool.false_or, decide_eq_false (by omega)]; simp)]
      rfl
    have e2 : oneV ⟨t, 0, false⟩ = IntKind.i64.wrap (bat t 0) := by
      simp only [oneV, scOne]
      rw [if_neg (by rw [Bool.false_or, decide_eq_false (by omega)]; simp)]
      rfl
    have hne : ¬ (t.toList == (⟨#[]⟩ : ByteArray).toList) = true := by
      intro h
      have := congrArg List.length (eq_of_beq h)
      rw [toL_len, toL_len] at this
      have e3 : (⟨#[]⟩ : ByteArray).size = 0 := rfl
      omega
    have hrd := rd_text ht h0
    rw [rdCmdS, if_neg hne, rdCmd]
    rw [e1, e2] at hrd ⊢
    generalize cmdI ⟨t, 1, false⟩ (IntKind.i64.wrap (bat t 0)) = x at *
    cases hb : (cmdS ⟨t, 1, false⟩).bad with
    | true => rw [if_pos (by simp), if_pos (by simp [doneB, hb])]
    | false =>
      cases hc : cmdOk x with
      | false => rw [if_pos (by simp [cmdT, hc]), if_pos (by simp)]
      | true =>
        have h9 := hrd hb
        have e4 : cmdT x = (cmdText x, true) := by rw [cmdT, if_pos hc]
        rw [e4]
        simp only [h9]
        cases doneB (cmdS ⟨t, 1, false⟩) <;> simp
def l16Cur.sc (c : l16Cur) : scan := ⟨c.text, c.at_, c.bad⟩
def numC (c : l16Cur) : l16Cur := ⟨c.text, (numS c.sc).at_, (numS c.sc).bad⟩
def shC (c : l16Cur) : l16Cur := ⟨c.text, (shS c.sc).at_, (shS c.sc).bad⟩
theorem varB_len9 {n : Nat} (h : n ≤ 9223372036854775807) : (varB n).size ≤ 9 := varL_len 9 n (by omega) (by omega)
def numW (c : l16Cur) : Int := numV c.sc
def shW (c : l16Cur) : ByteArray := shV c.sc
theorem oneS_go {s : scan} (hs : s.ok) (h : (s.bad || decide (s.at_ ≥ (s.text.size : Int))) = false) : (⟨s.text, IntKind.i64.wrap (s.at_ + 1), s.bad⟩ : scan) = oneS s := by
  have h9 := hs.1; have h8 := hs.2.1; have h7 := hs.2.2
  simp only [oneS]
  rw [scOne, if_neg (by rw [h]; simp), wrap_small (by omega) (by omega), (Bool.or_eq_false_iff.1 h).1]
theorem one_ix {s : scan} (hs : s.ok) : IntKind.i64.wrap (IntKind.i64.wrap (s.at_ + 1) - 1) = ((s.at_.toNat : Nat) : Int) := by
  have h9 := hs.1; have h8 := hs.2.1; have h7 := hs.2.2
  rw [wrap_small (x := s.at_ + 1) (by omega) (by omega), wrap_small (by omega) (by omega)]
  omega
theorem one_lt {s : scan} (hs : s.ok) (h : (s.bad || decide (s.at_ ≥ (s.text.size : Int))) = false) : s.at_.toNat < s.text.size := by
  have h9 := hs.1
  have := of_decide_eq_false (Bool.or_eq_false_iff.1 h).2
  omega
theorem scan.ok0 {t : ByteArray} (ht : t.size ≤ 1048576) : scan.ok ⟨t, 0, false⟩ := ⟨by simp, by simp, ht⟩
theorem l16Cur.ok1 {t : ByteArray} (ht : t.size ≤ 1048576) (h0 : 0 < t.size) : scan.ok (l16Cur.sc ⟨t, 1, false⟩) := ⟨by show (0 : Int) ≤ 1; omega, by show (1 : Int) ≤ _; simp only [l16Cur.sc]; omega, ht⟩
theorem size_pos {t : ByteArray} (h : (t.toList == (⟨#[]⟩ : ByteArray).toList) = false) : 0 < t.size := by
  rcases Nat.eq_zero_or_pos t.size with h0 | h0
  · have e : t = ⟨#[]⟩ := by
      apply ByteArray.ext
      exact Array.eq_empty_of_size_eq_zero h0
    subst e
    simp at h
  · exact h0
theorem rdCmd_no {t : ByteArray} (h : (!doneB (cmdS (oneS ⟨t, 0, false⟩)) || !cmdOk (cmdI (oneS ⟨t, 0, false⟩) (oneV ⟨t, 0, false⟩))) = true) : rdCmd t = (Command.z, false) := by rw [rdCmd, if_pos h]
theorem rdCmd_yes {t : ByteArray} (h : (!doneB (cmdS (oneS ⟨t, 0, false⟩)) || !cmdOk (cmdI (oneS ⟨t, 0, false⟩) (oneV ⟨t, 0, false⟩))) = false) : rdCmd t = (cmdI (oneS ⟨t, 0, false⟩) (oneV ⟨t, 0, false⟩), true) := by rw [rdCmd, if_neg (by rw [h]; simp)]
structure CSz (x : Command) : Prop where
  t : 0 ≤ x.token ∧ x.token ≤ 9223372036854775807
  s : 0 ≤ x.seq ∧ x.seq ≤ 9223372036854775807
  v : 0 ≤ x.ver ∧ x.ver ≤ 9223372036854775807
  k : x.key.size ≤ 1048576
  l : x.val.size ≤ 1048576
  zt : (varB x.token.toNat).size ≤ 9
  zs : (varB x.seq.toNat).size ≤ 9
  zv : (varB x.ver.toNat).size ≤ 9
  zk : (shB x.key).size ≤ 40
  zl : (shB x.val).size ≤ 40
theorem CSz.of {x : Command} (h : cmdOk x = true) : CSz x := by
  have hc := CIn.of h
  have ht := hc.t; have hs := hc.s
  have hv : 0 ≤ x.ver ∧ x.ver ≤ 1000000000 := by
    simp only [cmdOk, inR, Bool.and_eq_true, decide_eq_true_eq] at h
    have h2 := h.2
    split at h2
    · simp at h2; omega
    · simp only [Bool.and_eq_true] at h2
      have h3 := h2.2
      split at h3
      · simp at h3; omega
      · split at h3
        · simp at h3; omega
        · simp at h3; omega
  have hk : x.key.size ≤ 8 ∧ x.val.size ≤ 20 := by
    by_cases h1 : x.op = 1
    · simp only [cmdOk, h1, emp, Bool.and_eq_true] at h
      have h2 := h.2
      simp at h2
      have e1 : x.key.size = 0 := by have h9 := congrArg List.length h2.1.1.2; rw [toL_len] at h9; exact h9
      have e2 : x.val.size = 0 := by have h9 := congrArg List.length h2.1.2; rw [toL_len] at h9; exact h9
      omega
    · have := hc.k h1; omega
  have e : ∀ s : ByteArray, (shB s).size = (varB s.size).size + s.size := fun s => by rw [shB, ByteArray.size_append]
  have a1 := varB_len9 (n := x.key.size) (by omega)
  have a2 := varB_len9 (n := x.val.size) (by omega)
  refine ⟨by omega, by omega, by omega, by omega, by omega, varB_len9 (by omega), varB_len9 (by omega), varB_len9 (by omega), ?_, ?_⟩
  · rw [e]; omega
  · rw [e]; omega
def rdX (t : ByteArray) : Command := ⟨IntKind.i64.wrap (bat t 0), numW ⟨t, 1, false⟩, numW (numC ⟨t, 1, false⟩), shW (numC (numC ⟨t, 1, false⟩)), shW (shC (numC (numC ⟨t, 1, false⟩))), numW (shC (shC (numC (numC ⟨t, 1, false⟩))))⟩
def rdB (t : ByteArray) : Bool := ((numC (shC (shC (numC (numC ⟨t, 1, false⟩))))).bad || !(cmdT (rdX t)).2) || !((cmdT (rdX t)).1.toList == t.toList)
theorem rdX_eq (t : ByteArray) : rdX t = cmdI ⟨t, 1, false⟩ (IntKind.i64.wrap (bat t 0)) := rfl
theorem rdB_eq (t : ByteArray) : rdB t = (((cmdS ⟨t, 1, false⟩).bad || !(cmdT (cmdI ⟨t, 1, false⟩ (IntKind.i64.wrap (bat t 0)))).2) || !((cmdT (cmdI ⟨t, 1, false⟩ (IntKind.i64.wrap (bat t 0)))).1.toList == t.toList)) := rfl
theorem rdS_bad {t : ByteArray} (hne : ¬ (t.toList == (⟨#[]⟩ : ByteArray).toList) = true) (h : rdB t = true) : rdCmdS t = (Command.z, false) := by
  rw [rdCmdS, if_neg hne, ← rdB_eq, if_pos h]
theorem rdS_good {t : ByteArray} (hne : ¬ (t.toList == (⟨#[]⟩ : ByteArray).toList) = true) (h : rdB t = false) : rdCmdS t = (rdX t, true) := by
  rw [rdCmdS, if_neg hne, ← rdB_eq, if_neg (by rw [h]; simp), rdX_eq]
def foldR (index : Int) : List Entry → Nat → Keep → Keep × List ByteArray
  | [], _, k => (k, [])
  | e :: r, i, k =>
    let x := rdCmd e.data
    let p := perfK k (IntKind.i64.wrap (index + (i : Int))) x.1
    if (e.kind == 3 && x.2) && p.2.2 then ((foldR index r (i + 1) p.1).1, p.2.1 :: (foldR index r (i + 1) p.1).2)
    else ((foldR index r (i + 1) k).1, ⟨#[]⟩ :: (foldR index r (i + 1) k).2)
structure FoP (index : Int) (k0 : Keep) (l : List Entry) (i : Nat) (k : Keep) (rs : List ByteArray) : Prop where
  le : i ≤ l.length
  ok : KOk k
  len : rs.length = i
  eq : foldR index l 0 k0 = ((foldR index (l.drop i) i k).1, rs ++ (foldR index (l.drop i) i k).2)
theorem FoP.init {index : Int} {k0 : Keep} {l : List Entry} (h : KOk k0) : FoP index k0 l 0 k0 [] := ⟨by omega, h, rfl, rfl⟩
theorem perf_kok {k : Keep} {n : Int} {x : Command} (h : (perfK k n x).2.2 = true) : KOk (perfK k n x).1 := by
  cases hp : perfOk k n x with
  | true => exact (pf_ok (PfOk.of hp)).1
  | false => rw [perf_no hp] at h; cases h
theorem FoP.yes {index : Int} {k0 k : Keep} {l : List Entry} {i : Nat} {rs : List ByteArray} {e : Entry} (h : FoP index k0 l i k rs) (he : l[i]? = some e) (h1 : (e.kind == 3 && (rdCmd e.data).2) = true) (h2 : (perfK k (IntKind.i64.wrap (index + (i : Int))) (rdCmd e.data).1).2.2 = true) :
    FoP index k0 l (i + 1) (perfK k (IntKind.i64.wrap (index + (i : Int))) (rdCmd e.data).1).1 (rs ++ [(perfK k (IntKind.i64.wrap (index + (i : Int))) (rdCmd e.data).1).2.1]) := by
  have hi := (List.getElem?_eq_some_iff.1 he).1
  refine ⟨hi, perf_kok h2, by simp [h.len], ?_⟩
  rw [h.eq, drop_get he, foldR]
  (try simp only [])
  rw [if_pos (by rw [h1, h2]; rfl)]
  simp
theorem FoP.no {index : Int} {k0 k : Keep} {l : List Entry} {i : Nat} {rs : List ByteArray} {e : Entry} (h : FoP index k0 l i k rs) (he : l[i]? = some e) (h1 : ((e.kind == 3 && (rdCmd e.data).2) && (perfK k (IntKind.i64.wrap (index + (i : Int))) (rdCmd e.data).1).2.2) = false) :
    FoP index k0 l (i + 1) k (rs ++ [⟨#[]⟩]) := by
  have hi := (List.getElem?_eq_some_iff.1 he).1
  refine ⟨hi, h.ok, by simp [h.len], ?_⟩
  rw [h.eq, drop_get he, foldR]
  (try simp only [])
  rw [if_neg (by rw [h1]; simp)]
  simp
theorem FoP.fin {index : Int} {k0 k : Keep} {l : List Entry} {i : Nat} {rs : List ByteArray} (h : FoP index k0 l i k rs) (hi : l.length ≤ i) : foldR index l 0 k0 = (k, rs) := by
  rw [h.eq, List.drop_of_length_le hi, foldR, List.append_nil]
def idxOk (index : Int) (n : Nat) : Prop := (-1000000 ≤ index ∧ index ≤ 1000000) ∨ ∀ i : Nat, i < n → inR (IntKind.i64.wrap (index + (i : Int))) 1 400000 = false
theorem perf_out {k : Keep} {n : Int} {x : Command} (h : inR n 1 400000 = false) : (perfK k n x).2.2 = false := by
  rw [perf_no (by rw [perfOk, h]; simp)]
theorem idx_no {k : Keep} {x : Command} {index : Int} {n i : Nat} {a b : Bool} (h : idxOk index n) (hi : i < n) (hv : (((a && decide (index ≥ -1000000)) && decide (index ≤ 1000000))) = false) : ((a && b) && (perfK k (IntKind.i64.wrap (index + (i : Int))) x).2.2) = false := by
  rcases h with h | h
  · have h1 : decide (index ≥ -1000000) = true := by simp; omega
    have h2 : decide (index ≤ 1000000) = true := by simp; omega
    rw [h1, h2] at hv
    simp at hv
    simp [hv]
  · rw [perf_out (h i hi)]; simp
theorem foldR_ok (index : Int) : ∀ (l : List Entry) (i : Nat) (k : Keep), KOk k → KOk (foldR index l i k).1
  | [], _, _, h => h
  | e :: r, i, k, h => by
    rw [foldR]
    (try simp only [])
    split
    · rename_i hc
      simp only [Bool.and_eq_true] at hc
      exact foldR_ok index r _ _ (perf_kok hc.2)
    · exact foldR_ok index r _ _ h
def entSz (e : Entry) : Prop := e.data.size ≤ 1048576
theorem fo_y {a b c g1 g2 : Bool} (h1 : ((a && g1) && g2) = true) (h2 : (b && c) = true) : (a && b) = true ∧ c = true := by
  simp only [Bool.and_eq_true] at *
  exact ⟨⟨h1.1.1, h2.1⟩, h2.2⟩
theorem fo_n {a b c : Bool} (h2 : (b && c) = false) : ((a && b) && c) = false := by rw [Bool.and_assoc, h2]; simp

def badApplied (x y : Applied) : Bool := x.index == y.index && !eqEntry x.entry y.entry
theorem eqEntry_eq {x y : Entry} (h : eqEntry x y = true) : x = y := by
  cases x; cases y
  simp [eqEntry] at h
  obtain ⟨rfl, rfl, h⟩ := h
  rw [ba_ext h]
def GoodE (a : List Applied) (out : List Entry) : Prop := ∀ (j : Nat) (e : Entry), out[j]? = some e → ∃ x ∈ a, x.index = (j : Int) + 1 ∧ x.entry = e
def FinE (a : List Applied) (out : List Entry) : Prop := ∀ x ∈ a, x.index ≠ (out.length : Int) + 1
open Classical in
noncomputable def ents (a : List Applied) : List Entry := if h : pairs badApplied [] a = true ∧ ∃ out, GoodE a out ∧ FinE a out then h.2.choose else []
theorem good_nil (a : List Applied) : GoodE a [] := by intro j e h; simp at h
theorem good_snoc {a : List Applied} {out : List Entry} (h : GoodE a out) {x : Applied} (hx : x ∈ a) (hi : x.index = (out.length : Int) + 1) : GoodE a (out ++ [x.entry]) := by
  intro j e he
  rcases Nat.lt_or_ge j out.length with hj | hj
  · rw [List.getElem?_append_left hj] at he
    exact h j e he
  · rw [List.getElem?_append_right hj] at he
    have h0 : j - out.length = 0 := by
      rcases Nat.eq_zero_or_pos (j - out.length) with h0 | h0
      · exact h0
      · rw [List.getElem?_eq_none (by simp; omega)] at he; cases he
    rw [h0] at he
    simp at he
    exact ⟨x, hx, by omega, he⟩
theorem nodup_len : ∀ {l1 l2 : List Int}, l1.Nodup → (∀ x ∈ l1, x ∈ l2) → l1.length ≤ l2.length
  | [], _, _, _ => by simp
  | x :: r, l2, h, hs => by
    rw [List.nodup_cons] at h
    have hx := hs x (by simp)
    have := nodup_len (l2 := l2.erase x) h.2 (fun y hy => (List.mem_erase_of_ne (fun e => h.1 (by rw [← e]; exact hy))).2 (hs y (by simp [hy])))
    rw [List.length_erase_of_mem hx] at this
    have := List.length_pos_of_mem hx
    simp
    omega
theorem good_len {a : List Applied} {out : List Entry} (h : GoodE a out) : out.length ≤ a.length := by
  have := nodup_len (l1 := (List.range out.length).map (fun (j : Nat) => (j : Int) + 1)) (l2 := a.map (·.index)) ?_ ?_
  · simpa using this
  · refine List.Pairwise.map _ (fun x y hxy => ?_) List.nodup_range
    omega
  · intro x hx
    simp only [List.mem_map, List.mem_range] at hx
    obtain ⟨j, hj, rfl⟩ := hx
    obtain ⟨y, hy, hyi, _⟩ := h j _ (List.getElem?_eq_getElem hj)
    exact List.mem_map.2 ⟨y, hy, hyi⟩
theorem pairs_pw {α : Type} {bad : α → α → Bool} : ∀ {r pre : List α}, pairs bad pre r = true → (∀ y ∈ r, ∀ x ∈ pre, bad y x = false) ∧ r.Pairwise (fun x y => bad y x = false)
  | [], pre, _ => by simp
  | x :: r, pre, h => by
    rw [pairs] at h
    split at h
    · cases h
    · rename_i hc
      obtain ⟨h1, h2⟩ := pairs_pw h
      have hp : ∀ z ∈ pre, bad x z = false := by simpa using hc
      refine ⟨fun y hy z hz => ?_, List.pairwise_cons.2 ⟨fun y hy => h1 y hy x (by simp), h2⟩⟩
      rcases List.mem_cons.1 hy with rfl | hy
      · exact hp z hz
      · exact h1 y hy z (by simp [hz])
theorem same_of {a : List Applied} (h : pairs badApplied [] a = true) {x y : Applied} (hx : x ∈ a) (hy : y ∈ a) (he : x.index = y.index) : x.entry = y.entry := by
  have hp := (pairs_pw h).2
  have key : ∀ {l : List Applied}, l.Pairwise (fun x y => badApplied y x = false) → ∀ x ∈ l, ∀ y ∈ l, x.index = y.index → x.entry = y.entry := by
    intro l hl
    induction hl with
    | nil => intro x hx; simp at hx
    | cons h1 h2 ih =>
      rename_i z l
      intro x hx y hy he
      have hb : ∀ y ∈ l, z.index = y.index → z.entry = y.entry := fun y hy e => by
        have := h1 y hy
        simp [badApplied, e] at this
        exact (eqEntry_eq this).symm
      rcases List.mem_cons.1 hx with hx | hx <;> rcases List.mem_cons.1 hy with hy | hy
      · rw [hx, hy]
      · rw [hx]; exact hb y hy (hx ▸ he)
      · rw [hy]; exact (hb x hx (hy ▸ he.symm)).symm
      · exact ih x hx y hy he
  exact key hp x hx y hy he
theorem good_uniq {a : List Applied} (hs : pairs badApplied [] a = true) {o1 o2 : List Entry} (g1 : GoodE a o1) (f1 : FinE a o1) (g2 : GoodE a o2) (f2 : FinE a o2) : o1 = o2 := by
  have key : ∀ {o1 o2 : List Entry}, FinE a o1 → GoodE a o2 → o2.length ≤ o1.length := fun {o1 o2} f g => by
    rcases Nat.lt_or_ge o1.length o2.length with h | h
    · obtain ⟨x, hx, hi, _⟩ := g o1.length _ (List.getElem?_eq_getElem h)
      exact absurd hi (f x hx)
    · exact h
  have hl : o1.length = o2.length := Nat.le_antisymm (key f2 g1) (key f1 g2)
  refine List.ext_getElem hl (fun j h1 h2 => ?_)
  obtain ⟨x, hx, hi, he⟩ := g1 j _ (List.getElem?_eq_getElem h1)
  obtain ⟨y, hy, hi', he'⟩ := g2 j _ (List.getElem?_eq_getElem h2)
  rw [← he, ← he', same_of hs hx hy (by omega)]
theorem ents_eq {a : List Applied} {out : List Entry} (hs : pairs badApplied [] a = true) (g : GoodE a out) (f : FinE a out) : out = ents a := by
  unfold ents
  rw [dif_pos ⟨hs, out, g, f⟩]
  have := (show ∃ out, GoodE a out ∧ FinE a out from ⟨out, g, f⟩).choose_spec
  exact good_uniq hs g f this.1 this.2
theorem ents_no {a : List Applied} (hs : pairs badApplied [] a = false) : ents a = [] := by
  unfold ents
  rw [dif_neg (by simp [hs])]
theorem wrap_len {n : Nat} (h : n ≤ 1048576) : IntKind.i64.wrap ((n : Int) + 1) = (n : Int) + 1 := by
  rw [IntKind.wrap_i64]; omega
theorem mem_take_snoc {α : Type} {l : List α} {i : Nat} {e x : α} (h : l[i]? = some e) (hx : x ∈ l.take (i + 1)) : x ∈ l.take i ∨ x = e := by
  rw [take_snoc h] at hx
  simpa using hx
def EntP (a : List Applied) (out : List Entry) (k : Nat) (f2 : Bool) (out2 : List Entry) : Prop :=
  k ≤ a.length ∧ GoodE a out2 ∧ (f2 = false → out2 = out ∧ ∀ x ∈ a.take k, x.index ≠ (out.length : Int) + 1) ∧ (f2 = true → out.length < out2.length)
theorem EntP.init {a : List Applied} {out : List Entry} (hg : GoodE a out) : EntP a out 0 false out := ⟨by omega, hg, fun _ => ⟨rfl, by simp⟩, by simp⟩
theorem EntP.yes {a : List Applied} {out out2 : List Entry} {k : Nat} {f2 : Bool} {ek : Applied} (hm : a.length ≤ 1048576) (h : EntP a out k f2 out2) (hek : a[k]? = some ek) (hi : (ek.index == IntKind.i64.wrap ((out2.length : Int) + 1)) = true) : EntP a out (k + 1) true (out2 ++ [ek.entry]) := by
  obtain ⟨h1, h2, h3, h4⟩ := h
  have hl := good_len h2
  have hk : k < a.length := (List.getElem?_eq_some_iff.1 hek).1
  rw [wrap_len (by omega)] at hi
  refine ⟨by omega, good_snoc h2 (List.mem_of_getElem? hek) (by simpa using hi), by simp, fun _ => ?_⟩
  cases f2 with
  | false => simp [(h3 rfl).1]
  | true => have := h4 rfl; simp; omega
theorem EntP.no {a : List Applied} {out out2 : List Entry} {k : Nat} {f2 : Bool} {ek : Applied} (hm : a.length ≤ 1048576) (h : EntP a out k f2 out2) (hek : a[k]? = some ek) (hi : (ek.index == IntKind.i64.wrap ((out2.length : Int) + 1)) = false) : EntP a out (k + 1) f2 out2 := by
  obtain ⟨h1, h2, h3, h4⟩ := h
  have hl := good_len h2
  have hk : k < a.length := (List.getElem?_eq_some_iff.1 hek).1
  rw [wrap_len (by omega)] at hi
  refine ⟨by omega, h2, fun hf => ?_, h4⟩
  obtain ⟨rfl, h5⟩ := h3 hf
  refine ⟨rfl, fun x hx => ?_⟩
  rcases mem_take_snoc hek hx with hx | rfl
  · exact h5 x hx
  · simpa using hi
theorem EntP.fin {a : List Applied} {out out2 : List Entry} {k : Nat} {f2 : Bool} (h : EntP a out k f2 out2) (hk : a.length ≤ k) : f2 = false → FinE a out2 := fun hf => by
  obtain ⟨h1, h2, h3, h4⟩ := h
  obtain ⟨rfl, h5⟩ := h3 hf
  rw [List.take_of_length_le hk] at h5
  exact h5
theorem EntP.fin2 {a : List Applied} {out out2 : List Entry} {k : Nat} {f2 v : Bool} (h : EntP a out k f2 out2) (hv : v = (decide ((k : Int) < (a.length : Int)) && (!f2))) (hn : v = false) : f2 = false → FinE a out2 := fun hf => by
  subst hf
  rw [hv] at hn
  simp at hn
  exact h.fin hn rfl
theorem EntP.dec {a : List Applied} {out out2 : List Entry} {k : Nat} {f f2 : Bool} (h : EntP a out k f2 out2) (hol : out.length ≤ a.length) (hf : f = true) : 2 * (a.length - out2.length) + (if f2 = true then 1 else 0) < 2 * (a.length - out.length) + (if f = true then 1 else 0) := by
  obtain ⟨h1, h2, h3, h4⟩ := h
  have hl := good_len h2
  subst hf
  cases f2 with
  | false => simp [(h3 rfl).1]
  | true => have := h4 rfl; simp; omega
theorem ents_len (a : List Applied) : (ents a).length ≤ a.length := by
  unfold ents
  split
  · rename_i h
    exact good_len h.2.choose_spec.1
  · simp
def hasI (a : List Int) (n : Int) : Bool := a.any (fun y => y == n)
theorem hasI_at {a : List Int} {i : Nat} {e n : Int} (h : a[i]? = some e) (hp : (e == n) = true) : hasI a n = true := by
  unfold hasI
  rw [List.any_eq_true]
  exact ⟨e, List.mem_of_getElem? h, hp⟩
theorem hasI_no {a : List Int} {i : Nat} {n : Int} (h : (a.take i).any (fun y => y == n) = false) (hi : a.length ≤ i) : hasI a n = false := by
  rw [List.take_of_length_le hi] at h
  exact h
def n1 (i : Int) : Node := ⟨i, 0, 0, 0, 0, [i], ⟨0, 0, []⟩, 0, 0, 1, [], []⟩
def someT : ByteArray := ⟨#[115, 111, 109, 101]⟩
def oth (i : Int) : Int := IntKind.i64.wrap (Int.tmod i 4 + 1)
def two (i : Int) : List Int := if decide (i > oth i) then [oth i, i] else [i, oth i]
def txt (a : List Int) : ByteArray := bytesOf (a.map fun x => IntKind.u8.wrap x)
def nS (i : Int) : Node := ⟨i, 1, i, 2, i, [i], ⟨1, 1, [⟨1, 3, someT⟩, ⟨1, 2, txt (two i)⟩]⟩, 2, 0, 5, [], [⟨oth i, 3, 0, 0⟩]⟩
def badTime (x y : Reply) : Bool := decide (x.call > y.when_) && decide (x.index ≤ y.index)
def badLeader (x y : Leader) : Bool := x.term_ == y.term_ && !(x.node == y.node)
def plain (s : ByteArray) : Bool := s.toList == (⟨#[103, 97, 112]⟩ : ByteArray).toList || (s.toList == (⟨#[110, 111, 110, 101]⟩ : ByteArray).toList || s.toList == (⟨#[111, 108, 100]⟩ : ByteArray).toList)
def badOnce (x y : Reply) : Bool := x.command.token == y.command.token && (x.command.seq == y.command.seq && (x.command.token != 0 && (!plain x.text && (!plain y.text && !(x.text.toList == y.text.toList)))))
theorem do_items {k : Keep} {n : Int} {x : Command} {y : Item} (hy : y ∈ (doK k n x).1.items) : y ∈ k.items ∨ y.ver = n := by
  unfold doK at hy
  dsimp only at hy
  split at hy
  · exact .inl hy
  split at hy
  · exact .inl (List.mem_filter.1 hy).1
  split at hy
  · exact .inl hy
  split at hy
  · exact .inl hy
  split at hy
  · exact .inl hy
  · rcases mem_insL hy with rfl | h
    · exact .inr rfl
    · exact .inl (List.mem_filter.1 h).1
theorem perf_items {k : Keep} {n : Int} {x : Command} {y : Item} (hy : y ∈ (perfK k n x).1.items) : y ∈ k.items ∨ y.ver = n := by
  unfold perfK at hy
  split at hy
  · split at hy
    · exact .inl hy
    · split at hy
      · exact .inl hy
      · dsimp only at hy
        split at hy
        · exact .inl hy
        split at hy
        · exact .inl hy
        split at hy
        · exact .inl hy
        · exact do_items hy
  · cases hy
theorem item_self {k : Keep} (hk : KOk k) {y : Item} (hy : y ∈ k.items) : itemOf k y.key = (y, true) := by
  obtain ⟨i, hi⟩ := List.getElem?_of_mem hy
  exact itemOf_of (find_at hk.ip hi)
theorem item_mem {k : Keep} {key : ByteArray} (h : (itemOf k key).2 = true) : (itemOf k key).1 ∈ k.items := by
  unfold itemOf at h ⊢
  split at h
  · rename_i x hx
    exact List.mem_of_find?_eq_some hx
  · cases h
structure VsP (L : List Entry) (i : Nat) (k : Keep) (idx : List Int) : Prop where
  le : i ≤ L.length
  ok : KOk k
  vr : ∀ y ∈ k.items, y.ver ∈ idx
  ix : ∀ v ∈ idx, 1 ≤ v ∧ (v = 1 ∨ v ≤ (i : Int))
  ln : idx.length ≤ i + 1
theorem kn_ok : KOk keepNew := KOk.of (by kernel_rfl)
theorem kn_ver {y : Item} (h : y ∈ keepNew.items) : y.ver = 1 := by
  rw [List.mem_singleton.1 (show y ∈ [_] from h)]
theorem VsP.init (L : List Entry) : VsP L 0 keepNew [1] :=
  ⟨Nat.zero_le _, kn_ok, fun y hy => by rw [kn_ver hy]; simp, fun v hv => by rw [List.mem_singleton.1 hv]; exact ⟨by omega, .inl rfl⟩, Nat.le_refl 1⟩
theorem VsP.skip {L : List Entry} {i : Nat} {k : Keep} {idx : List Int} (h : VsP L i k idx) (hi : i < L.length) : VsP L (i + 1) k idx :=
  ⟨hi, h.ok, h.vr, fun v hv => ⟨(h.ix v hv).1, (h.ix v hv).2.elim .inl (fun h1 => .inr (by omega))⟩, by have := h.ln; omega⟩
theorem VsP.perf {L : List Entry} {i : Nat} {k : Keep} {idx : List Int} {x : Command} (h : VsP L i k idx) (hi : i < L.length) (hp : (perfK k ((i : Int) + 1) x).2.2 = true) : VsP L (i + 1) (perfK k ((i : Int) + 1) x).1 (idx ++ [(i : Int) + 1]) := by
  refine ⟨hi, perf_kok hp, fun y hy => ?_, fun v hv => ?_, by have := h.ln; simp; omega⟩
  · rcases perf_items hy with h1 | h1
    · exact List.mem_append.2 (.inl (h.vr y h1))
    · rw [h1]; simp
  · rcases List.mem_append.1 hv with h1 | h1
    · have := h.ix v h1
      refine ⟨this.1, ?_⟩
      rcases this.2 with h2 | h2
      · exact .inl h2
      · exact .inr (by omega)
    · rw [List.mem_singleton.1 h1]; exact ⟨by omega, .inr (by omega)⟩
theorem VsP.was {L : List Entry} {i : Nat} {k : Keep} {idx : List Int} {x : Command} {y : Item} (h : VsP L i k idx) (hy : y ∈ (perfK k ((i : Int) + 1) x).1.items) (hb : (itemOf k y.key).2 = true) : (itemOf k y.key).1.ver ≤ y.ver := by
  rcases perf_items hy with h1 | h1
  · rw [item_self h.ok h1]; exact Int.le_refl _
  · have h2 := h.ix _ (h.vr _ (item_mem hb))
    rcases h2.2 with h3 | h3 <;> omega
theorem VsP.has {L : List Entry} {i : Nat} {k : Keep} {idx : List Int} {x : Command} {y : Item} (h : VsP L i k idx) (hi : i < L.length) (hp : (perfK k ((i : Int) + 1) x).2.2 = true) (hy : y ∈ (perfK k ((i : Int) + 1) x).1.items) : y.ver ∈ idx ++ [(i : Int) + 1] := (h.perf hi hp).vr y hy
def verA (was : Keep) (x : Item) : Bool := (itemOf was x.key).2 && decide (x.ver < (itemOf was x.key).1.ver)
def verC (L : List Entry) (x : Item) : Bool := inR x.ver 1 (L.length : Int) && (L.getD (x.ver.toNat - 1) Entry.z).kind == 3
def verOk (was now : Keep) (L : List Entry) : Bool := now.items.all fun x => !verA was x && !(x.ver != 1 && !verC L x)
structure ViP (L : List Entry) (i : Nat) (k : Keep) : Prop where
  le : i ≤ L.length
  ok : KOk k
  vr : ∀ y ∈ k.items, y.ver = 1 ∨ (1 ≤ y.ver ∧ y.ver ≤ (i : Int) ∧ (L.getD (y.ver.toNat - 1) Entry.z).kind = 3)
theorem ViP.init (L : List Entry) : ViP L 0 keepNew := ⟨Nat.zero_le _, kn_ok, fun y hy => .inl (kn_ver hy)⟩
def nxt (k : Keep) (e : Entry) (i : Nat) : Keep := (foldR ((i + 1 : Nat) : Int) [e] 0 k).1
theorem ViP.next {L : List Entry} {i : Nat} {k : Keep} {e : Entry} (h : ViP L i k) (he : L[i]? = some e) (hl : L.length ≤ 1048576) : ViP L (i + 1) (nxt k e i) ∧ verOk k (nxt k e i) L = true := by
  have hi := (List.getElem?_eq_some_iff.1 he).1
  have hw : IntKind.i64.wrap (((i + 1 : Nat) : Int) + ((0 : Nat) : Int)) = (i : Int) + 1 := by rw [IntKind.wrap_i64]; omega
  have key : ViP L (i + 1) (nxt k e i) ∧ ∀ y ∈ (nxt k e i).items, (itemOf k y.key).2 = true → (itemOf k y.key).1.ver ≤ y.ver := by
    unfold nxt
    rw [foldR, hw]
    split
    · rename_i hc
      simp only [Bool.and_eq_true, beq_iff_eq] at hc
      rw [foldR]
      refine ⟨⟨hi, perf_kok hc.2, fun y hy => ?_⟩, fun y hy hb => ?_⟩
      · rcases perf_items hy with h1 | h1
        · rcases h.vr y h1 with h2 | ⟨h2, h3, h4⟩
          · exact .inl h2
          · exact .inr ⟨h2, by omega, h4⟩
        · refine .inr ⟨by omega, by omega, ?_⟩
          have e1 : y.ver.toNat - 1 = i := by omega
          rw [e1, List.getD_eq_getElem?_getD, he]; exact hc.1.1
      · rcases perf_items hy with h1 | h1
        · rw [item_self h.ok h1]; exact Int.le_refl _
        · have h2 := h.vr _ (item_mem hb)
          rcases h2 with h3 | h3 <;> omega
    · rw [foldR]
      refine ⟨⟨hi, h.ok, fun y hy => ?_⟩, fun y hy hb => ?_⟩
      · rcases h.vr y hy with h2 | ⟨h2, h3, h4⟩
        · exact .inl h2
        · exact .inr ⟨h2, by omega, h4⟩
      · rw [item_self h.ok hy]; exact Int.le_refl _
  refine ⟨key.1, ?_⟩
  rw [verOk, List.all_eq_true]
  intro y hy
  have h1 := key.2 y hy
  have h2 := key.1.vr y hy
  have hA : verA k y = false := by
    cases hb : (itemOf k y.key).2 with
    | false => simp [verA, hb]
    | true => have := h1 hb; simp [verA, hb]; omega
  rw [hA]
  rcases h2 with h3 | ⟨h3, h4, h5⟩
  · simp [h3]
  · have : verC L y = true := by
      simp only [verC, Bool.and_eq_true, beq_iff_eq]
      refine ⟨?_, h5⟩
      simp [inR]; have := key.1.le; omega
    simp [this]
theorem ents_mem {a : List Applied} {e : Entry} (h : e ∈ ents a) : ∃ x ∈ a, x.entry = e := by
  unfold ents at h
  split at h
  · rename_i hx
    obtain ⟨j, hj⟩ := List.getElem?_of_mem h
    obtain ⟨x, h1, _, h3⟩ := hx.2.choose_spec.1 j e hj
    exact ⟨x, h1, h3⟩
  · cases h
theorem ents_in {a : List Applied} (h : okSl okToApplied a) : ∀ e ∈ ents a, entSz e := fun e he => by
  obtain ⟨x, hx, rfl⟩ := ents_mem he
  exact h.2 x hx
theorem take_in {α : Type} {p : α → Prop} {l : List α} {n : Nat} (h : ∀ x ∈ l, p x) : ∀ x ∈ l.take n, p x := fun x hx => h x (List.mem_of_mem_take hx)
theorem drop_in {α : Type} {p : α → Prop} {l : List α} {n : Nat} (h : ∀ x ∈ l, p x) : ∀ x ∈ l.drop n, p x := fun x hx => h x (List.mem_of_mem_drop hx)
def srvAt (w : World) (n : Int) : Server := w.servers.getD (n.toNat - 1) Server.z
noncomputable def fdB (w : World) (n : Int) : Bool := (pairs badApplied [] w.applied && inR n 1 (w.servers.length : Int)) && (inR (srvAt w n).applied 0 ((ents w.applied).length : Int) && eqKeep (foldR 1 ((ents w.applied).take (srvAt w n).applied.toNat) 0 keepNew).1 (srvAt w n).keep)
noncomputable def fdAll (w : World) : Bool := (List.range w.servers.length).all fun i => fdB w ((i : Int) + 1)
noncomputable def soundB (w : World) : Bool := fdAll w && ((((pairs badLeader [] w.leaders && pairs badApplied [] w.applied) && pairs badOnce [] w.replies) && pairsW badTime w.replies w.replies) && pairs badApplied [] w.applied)
def FdP (w : World) (i : Nat) : Prop := i ≤ w.servers.length ∧ ∀ j < i, fdB w ((j : Int) + 1) = true
theorem FdP.init (w : World) : FdP w 0 := ⟨Nat.zero_le _, fun j hj => by omega⟩
theorem FdP.step {w : World} {i : Nat} (h : FdP w i) (hi : i < w.servers.length) (hb : fdB w ((i : Int) + 1) = true) : FdP w (i + 1) :=
  ⟨hi, fun j hj => (Nat.lt_or_ge j i).elim (h.2 j) (fun h1 => by have e : j = i := (by omega); rw [e]; exact hb)⟩
theorem FdP.no {w : World} {i : Nat} (hi : i < w.servers.length) (hb : fdB w ((i : Int) + 1) = false) : soundB w = false := by
  have : fdAll w = false := by
    unfold fdAll
    rw [List.all_eq_false]
    exact ⟨i, List.mem_range.2 hi, by rw [hb]; simp⟩
  rw [soundB, this]; rfl
theorem FdP.all {w : World} {i : Nat} (h : FdP w i) (hi : ¬ i < w.servers.length) : fdAll w = true := by
  unfold fdAll
  rw [List.all_eq_true]
  intro j hj
  exact h.2 j (by have := List.mem_range.1 hj; omega)
theorem srv_some {w : World} {n : Int} (h : inR n 1 (w.servers.length : Int) = true) : w.servers[n.toNat - 1]? = some (srvAt w n) := getD_some (by simp [inR] at h; omega)
theorem srv_ix {w : World} {n : Int} (h : inR n 1 (w.servers.length : Int) = true) (hl : w.servers.length ≤ 1048576) : IntKind.i64.wrap (n - 1) = ((n.toNat - 1 : Nat) : Int) := by
  simp [inR] at h; rw [IntKind.wrap_i64]; omega
theorem fd_no1 {w : World} {n : Int} (h : (!(pairs badApplied [] w.applied) || !(inR n 1 (w.servers.length : Int))) = true) : fdB w n = false := by
  simp only [Bool.or_eq_true, Bool.not_eq_true'] at h
  rcases h with h | h <;> simp [fdB, h]
theorem fd_2 {w : World} {n : Int} (h : (!(pairs badApplied [] w.applied) || !(inR n 1 (w.servers.length : Int))) = false) : pairs badApplied [] w.applied = true ∧ inR n 1 (w.servers.length : Int) = true := by
  simpa [Bool.or_eq_false_iff] using h
theorem fd_no2 {w : World} {n : Int} (h : inR (srvAt w n).applied 0 ((ents w.applied).length : Int) = false) : fdB w n = false := by simp [fdB, h]
theorem fd_yes {w : World} {n : Int} (h1 : pairs badApplied [] w.applied = true ∧ inR n 1 (w.servers.length : Int) = true) (h : inR (srvAt w n).applied 0 ((ents w.applied).length : Int) = true) : fdB w n = eqKeep (foldR 1 ((ents w.applied).take (srvAt w n).applied.toNat) 0 keepNew).1 (srvAt w n).keep := by
  rw [fdB, h1.1, h1.2, h]; simp
theorem idx1 (n : Nat) : idxOk 1 n := .inl (by decide)
theorem fs_no1 {w : World} {n : Int} (h : inR n 1 (w.servers.length : Int) = false) : fdB w n = false := by simp [fdB, h]
theorem inR_of {n a b : Int} (h : inR n a b = true) : a ≤ n ∧ n ≤ b := by simpa [inR] using h
theorem fs_no2 {w : World} {n : Int} (hin : inR n 1 (w.servers.length : Int) = true) (h : ((!(pairs badApplied [] w.applied) || decide ((srvAt w n).applied < 0)) || decide ((srvAt w n).applied > ((ents w.applied).length : Int))) = true) : fdB w n = false := by
  cases hp : pairs badApplied [] w.applied with
  | false => simp [fdB, hp]
  | true =>
    have : inR (srvAt w n).applied 0 ((ents w.applied).length : Int) = false := by
      rw [hp] at h; simp at h; simp [inR]; omega
    simp [fdB, this]
theorem fs_2 {w : World} {n : Int} (h : ((!(pairs badApplied [] w.applied) || decide ((srvAt w n).applied < 0)) || decide ((srvAt w n).applied > ((ents w.applied).length : Int))) = false) : pairs badApplied [] w.applied = true ∧ inR (srvAt w n).applied 0 ((ents w.applied).length : Int) = true := by
  simp at h
  refine ⟨h.1.1, ?_⟩
  simp [inR]; omega
theorem vo_yes {a : Keep} {l : List Entry} {x : Item} (h1 : verA a x = false) (h2 : (x.ver != 1 && !verC l x) = false) : (!verA a x && !(x.ver != 1 && !verC l x)) = true := by rw [h1, h2]; rfl
theorem vo_noA {a : Keep} {l : List Entry} {x : Item} (h1 : verA a x = true) : (!verA a x && !(x.ver != 1 && !verC l x)) = false := by rw [h1]; rfl
theorem vo_noB {a : Keep} {l : List Entry} {x : Item} (h2 : (x.ver != 1 && !verC l x) = true) : (!verA a x && !(x.ver != 1 && !verC l x)) = false := by rw [h2, Bool.not_true, Bool.and_false]
theorem one_slice {L : List Entry} {i : Nat} {e : Entry} (h : L[i]? = some e) : (L.drop i).take 1 = [e] := by
  rw [drop_get h]; rfl
structure Bk (k0 : Int) (c : Nat) (e : Int) : Prop where
  z : 0 ≤ k0 ∧ k0 ≤ 1000000000000000000
  c9 : c ≤ 1000000000
  lo : k0 ≤ e
  hi : e ≤ k0 + c
theorem Bk.s0 {k0 : Int} (h0 : 0 ≤ k0) (h1 : k0 ≤ 1000000000000000000) : Bk k0 0 k0 := ⟨⟨h0, h1⟩, by omega, by omega, by omega⟩
theorem Bk.i {k0 e x : Int} {c : Nat} (h : Bk k0 c e) (hc : c < 1000000000) : Bk k0 (c + 1) (mkI x e).2 := by
  obtain ⟨h0, h1, h2, h3⟩ := h
  refine ⟨h0, hc, ?_, ?_⟩ <;> simp only [mkI, inc, IntKind.wrap_i64] <;> omega
theorem Bk.b {k0 e : Int} {x : Bool} {c : Nat} (h : Bk k0 c e) (hc : c < 1000000000) : Bk k0 (c + 1) (mkB x e).2 := by
  obtain ⟨h0, h1, h2, h3⟩ := h
  refine ⟨h0, hc, ?_, ?_⟩ <;> simp only [mkB, inc, IntKind.wrap_i64] <;> omega
theorem Bk.s {k0 e : Int} {x : ByteArray} {c : Nat} (h : Bk k0 c e) (hc : c < 1000000000) : Bk k0 (c + 1) (mkS x e).2 := by
  obtain ⟨h0, h1, h2, h3⟩ := h
  refine ⟨h0, hc, ?_, ?_⟩ <;> simp only [mkS, inc, IntKind.wrap_i64] <;> omega
theorem Bk.l {α : Type} {f : α → Int → α × Int} {k0 e : Int} {c : Nat} (m : Nat) (hm : m ≤ 4) (hf : ∀ (x : α) (k : Int), 0 ≤ k → k + m ≤ 4611686018427387904 → (f x k).2 = k + m) {l : List α} (hl : l.length ≤ 1048576) (h : Bk k0 c e) (hc : c < 900000000) : Bk k0 (c + 5000000) (mkL f l e).2 := by
  obtain ⟨h0, h1, h2, h3⟩ := h
  have h4 : m * l.length ≤ 4 * 1048576 := Nat.mul_le_mul hm hl
  have := mkL_cnt m hf l e (by omega) (by omega)
  exact ⟨h0, by omega, by omega, by omega⟩
theorem hasI_mem {a : List Int} {n : Int} (h : n ∈ a) : hasI a n = true := by
  unfold hasI
  rw [List.any_eq_true]
  exact ⟨n, h, by simp⟩
theorem vs_bad {L : List Entry} {i : Nat} {k : Keep} {idx : List Int} {x : Command} {y : Item} {m : Int} (h : VsP L i k idx) (hi : i < L.length) (hm : m = (i : Int) + 1) (hp : (perfK k m x).2.2 = true) (hy : y ∈ (perfK k m x).1.items) (hv : (((itemOf k y.key).2 && decide ((itemOf k y.key).1.ver > y.ver)) || !(hasI (idx ++ [m]) y.ver)) = true) : False := by
  subst hm
  have h1 := h.has hi hp hy
  have h2 : hasI (idx ++ [(i : Int) + 1]) y.ver = true := hasI_mem h1
  rw [h2] at hv
  simp at hv
  have := h.was hy hv.1
  omega
theorem vs_perf {L : List Entry} {i : Nat} {k : Keep} {idx : List Int} {x : Command} {m : Int} (h : VsP L i k idx) (hi : i < L.length) (hm : m = (i : Int) + 1) (hp : (perfK k m x).2.2 = true) : VsP L (i + 1) (perfK k m x).1 (idx ++ [m]) := by
  subst hm; exact h.perf hi hp
theorem ver_ix {l : List Entry} {x : Item} (h : inR x.ver 1 (l.length : Int) = true) (hl : l.length ≤ 1048576) : IntKind.i64.wrap (x.ver - 1) = ((x.ver.toNat - 1 : Nat) : Int) := by
  have := inR_of h; rw [IntKind.wrap_i64]; omega
theorem ver_at {l : List Entry} {x : Item} (h : inR x.ver 1 (l.length : Int) = true) : l[x.ver.toNat - 1]? = some (l.getD (x.ver.toNat - 1) Entry.z) := getD_some (by have := inR_of h; omega)
theorem vi_eq {L : List Entry} {i : Nat} {k : Keep} {e : Entry} (he : L[i]? = some e) : (foldR ((i + 1 : Nat) : Int) ((L.drop i).take 1) 0 k).1 = nxt k e i := by rw [one_slice he, nxt]
theorem vi_next {L : List Entry} {i : Nat} {k : Keep} {e : Entry} (h : ViP L i k) (he : L[i]? = some e) (hl : L.length ≤ 1048576) : ViP L (i + 1) (foldR ((i + 1 : Nat) : Int) ((L.drop i).take 1) 0 k).1 := by rw [vi_eq he]; exact (h.next he hl).1
theorem vi_bad {L : List Entry} {i : Nat} {k : Keep} {e : Entry} (h : ViP L i k) (he : L[i]? = some e) (hl : L.length ≤ 1048576) (hb : verOk k (foldR ((i + 1 : Nat) : Int) ((L.drop i).take 1) 0 k).1 L = false) : False := by
  rw [vi_eq he, (h.next he hl).2] at hb; cases hb
end Go.Proofs.YtdipdkfbaehglaaGreatDoor.Y
