import Derived.Test.YthkiegfcahigkaaEng16
import Derived.Test.YthkiegfcahigkaaEng18
namespace Go.Proofs.Ythkiegfcahigkaa.Y
open Go Go.RowKit Go.Eng

def szL {α : Type} (f : α → Int → Int) : List α → Int → Int
  | [], l => l
  | x :: r, l => if f x l < 0 then -1 else szL f r (f x l)
def szS {α : Type} (f : α → Int → Int) (a : List α) (left : Int) : Int :=
  if IntKind.i64.wrap (left - a.length) < 0 then -1 else szL f a (IntKind.i64.wrap (left - a.length))
def szI {α : Type} (a : List α) (left : Int) : Int :=
  if IntKind.i64.wrap (left - a.length) < 0 then -1 else IntKind.i64.wrap (left - a.length)
def szStr (s : ByteArray) (left : Int) : Int := IntKind.i64.wrap (left - s.size)
def okSl {α : Type} (ok : α → Prop) (l : List α) : Prop := l.length ≤ 1048576 ∧ ∀ x ∈ l, ok x
def eqI (x y : Int) : Bool := x == y
theorem eqI_refl (x : Int) : eqI x x = true := by simp [eqI]
def eqB (x y : Bool) : Bool := x == y
theorem eqB_refl (x : Bool) : eqB x x = true := by simp [eqB]
def eqStr (x y : ByteArray) : Bool := x.toList == y.toList
theorem eqStr_refl (x : ByteArray) : eqStr x x = true := by simp [eqStr]
def eqS {α : Type} (f : α → α → Bool) : List α → List α → Bool
  | [], [] => true
  | x :: r, y :: s => if f x y then eqS f r s else false
  | _, _ => false
theorem eqS_refl {α : Type} {f : α → α → Bool} (h : ∀ x, f x x = true) : ∀ a : List α, eqS f a a = true
  | [] => rfl
  | x :: r => by rw [eqS, h x, if_pos rfl, eqS_refl h r]
theorem szS_len {α : Type} {f : α → Int → Int} {a : List α} (hl : a.length ≤ maxLen) (h : 0 ≤ szS f a 1048576) : a.length ≤ 1048576 := by
  unfold szS at h
  split at h
  · omega
  · rename_i h2
    rw [IntKind.wrap_i64] at h2
    simp only [maxLen] at hl
    omega
theorem eqS_ne {α : Type} {f : α → α → Bool} : ∀ {a b : List α}, a.length ≠ b.length → eqS f a b = false
  | [], [], h => absurd rfl h
  | [], _ :: _, _ => rfl
  | _ :: _, [], _ => rfl
  | x :: r, y :: s, h => by
    simp only [eqS]
    rw [eqS_ne (by simpa using h)]
    simp
def pairs {α : Type} (bad : α → α → Bool) : List α → List α → Bool
  | _, [] => true
  | pre, x :: r => if pre.any (bad x) then false else pairs bad (pre ++ [x]) r
def pairsW {α : Type} (bad : α → α → Bool) (a : List α) : List α → Bool
  | [] => true
  | x :: r => if a.any (bad x) then false else pairsW bad a r
theorem take_snoc {α : Type} {l : List α} {i : Nat} {e : α} (h : l[i]? = some e) : l.take (i + 1) = l.take i ++ [e] := by
  obtain ⟨h1, h2⟩ := List.getElem?_eq_some_iff.1 h
  rw [List.take_succ_eq_append_getElem h1, h2]
/-- What is sized without falling under zero is short enough, and lowers the count. -/
def SzOk {α : Type} (f : α → Int → Int) (fit ok : α → Prop) : Prop := ∀ x l, fit x → 0 ≤ l → l ≤ 1048576 → 0 ≤ f x l → ok x ∧ f x l ≤ l
theorem wrapSub {n : Nat} {l : Int} (hn : n ≤ maxLen) (h0 : 0 ≤ l) (h1 : l ≤ 1048576) : IntKind.i64.wrap (l - n) = l - n := by
  rw [IntKind.wrap_i64]
  simp only [maxLen] at hn
  omega
theorem szStr_ok : SzOk szStr okS (fun _ => True) := by
  intro s l hk h0 h1 hs
  unfold szStr at hs ⊢
  rw [wrapSub hk h0 h1] at hs ⊢
  exact ⟨trivial, by omega⟩
theorem szI_ok {α : Type} {fit : α → Prop} : SzOk (szI : List α → Int → Int) (okL fit) (okSl (fun _ => True)) := by
  intro a l hk h0 h1 hs
  unfold szI at hs ⊢
  rw [wrapSub hk.1 h0 h1] at hs ⊢
  split at hs
  · omega
  · rename_i hc
    rw [if_neg hc]
    exact ⟨⟨by omega, fun _ _ => trivial⟩, by omega⟩
theorem szL_ok {α : Type} {f : α → Int → Int} {fit ok : α → Prop} (h : SzOk f fit ok) : ∀ (a : List α) (l : Int), (∀ x ∈ a, fit x) → 0 ≤ l → l ≤ 1048576 → 0 ≤ szL f a l → (∀ x ∈ a, ok x) ∧ szL f a l ≤ l
  | [], l, _, _, _, _ => ⟨by simp, by simp [szL]⟩
  | x :: r, l, hf, h0, h1, hs => by
    simp only [szL] at hs ⊢
    split at hs
    · omega
    · rename_i hc
      rw [if_neg hc]
      have p := h x l (hf x (by simp)) h0 h1 (by omega)
      have q := szL_ok h r (f x l) (fun y hy => hf y (by simp [hy])) (by omega) (by omega) hs
      refine ⟨fun y hy => ?_, by omega⟩
      rcases List.mem_cons.1 hy with rfl | hy
      · exact p.1
      · exact q.1 y hy
theorem szS_ok {α : Type} {f : α → Int → Int} {fit ok : α → Prop} (h : SzOk f fit ok) : SzOk (szS f) (okL fit) (okSl ok) := by
  intro a l hk h0 h1 hs
  unfold szS at hs ⊢
  rw [wrapSub hk.1 h0 h1] at hs ⊢
  split at hs
  · omega
  · rename_i hc
    rw [if_neg hc]
    have p := szL_ok h a (l - a.length) hk.2 (by omega) (by omega) hs
    exact ⟨⟨by omega, p.1⟩, by omega⟩
structure Command where
  op : Int
  token : Int
  seq : Int
  key : ByteArray
  val : ByteArray
  ver : Int
def Command.c (e : Command) : List T := [.v (.int .i64 e.op), .v (.int .i64 e.token), .v (.int .i64 e.seq), .v (.string e.key), .v (.string e.val), .v (.int .i64 e.ver)]
theorem Command.len (e : Command) : e.c.length = 6 := rfl
def Command.z : Command := ⟨0, 0, 0, ⟨#[]⟩, ⟨#[]⟩, 0⟩
def Command.vs (e : Command) : List Value := [.int .i64 e.op, .int .i64 e.token, .int .i64 e.seq, .string e.key, .string e.val, .int .i64 e.ver]
def eqCommand (x y : Command) : Bool := x.op == y.op && (x.token == y.token && (x.seq == y.seq && (x.key.toList == y.key.toList && (x.val.toList == y.val.toList && (x.ver == y.ver)))))
theorem eqCommand_refl (x : Command) : eqCommand x x = true := by simp [eqCommand]
def szCommand (e : Command) (left : Int) : Int := if IntKind.i64.wrap (left - e.key.size) < 0 then -1 else if IntKind.i64.wrap ((IntKind.i64.wrap (left - e.key.size)) - e.val.size) < 0 then -1 else IntKind.i64.wrap ((IntKind.i64.wrap (left - e.key.size)) - e.val.size)
structure Happen where
  kind : Int
  node : Int
  at_ : Int
  limit : Int
  command : Command
  conf : List Int
  cut : Bool
  whole : Int
  left : List Int
def Happen.c (e : Happen) : List T := [.v (.int .i64 e.kind), .v (.int .i64 e.node), .v (.int .i64 e.at_), .v (.int .i64 e.limit), .v (.int .i64 e.command.op), .v (.int .i64 e.command.token), .v (.int .i64 e.command.seq), .v (.string e.command.key), .v (.string e.command.val), .v (.int .i64 e.command.ver), sl 1 cI e.conf, .v (.bool e.cut), .v (.int .i64 e.whole), sl 1 cI e.left]
theorem Happen.len (e : Happen) : e.c.length = 14 := rfl
def Happen.z : Happen := ⟨0, 0, 0, 0, Command.z, [], false, 0, []⟩
def eqHappen (x y : Happen) : Bool := x.kind == y.kind && (x.node == y.node && (x.at_ == y.at_ && (x.limit == y.limit && (eqCommand x.command y.command && ((eqS eqI) x.conf y.conf && (x.cut == y.cut && (x.whole == y.whole && ((eqS eqI) x.left y.left))))))))
theorem eqHappen_refl (x : Happen) : eqHappen x x = true := by simp [eqHappen, eqS_refl eqI_refl, eqCommand_refl]
def szHappen (e : Happen) (left : Int) : Int := if szCommand e.command (left) < 0 then -1 else if szI e.conf ((szCommand e.command (left))) < 0 then -1 else if szI e.left ((szI e.conf ((szCommand e.command (left))))) < 0 then -1 else szI e.left ((szI e.conf ((szCommand e.command (left)))))
structure Entry where
  term_ : Int
  kind : Int
  data : ByteArray
def Entry.c (e : Entry) : List T := [.v (.int .i64 e.term_), .v (.int .i64 e.kind), .v (.string e.data)]
theorem Entry.len (e : Entry) : e.c.length = 3 := rfl
def Entry.z : Entry := ⟨0, 0, ⟨#[]⟩⟩
def Entry.vs (e : Entry) : List Value := [.int .i64 e.term_, .int .i64 e.kind, .string e.data]
def eqEntry (x y : Entry) : Bool := x.term_ == y.term_ && (x.kind == y.kind && (x.data.toList == y.data.toList))
theorem eqEntry_refl (x : Entry) : eqEntry x x = true := by simp [eqEntry]
def szEntry (e : Entry) (left : Int) : Int := if IntKind.i64.wrap (left - e.data.size) < 0 then -1 else IntKind.i64.wrap (left - e.data.size)
structure Applied where
  node : Int
  term_ : Int
  index : Int
  entry : Entry
def Applied.c (e : Applied) : List T := [.v (.int .i64 e.node), .v (.int .i64 e.term_), .v (.int .i64 e.index), .v (.int .i64 e.entry.term_), .v (.int .i64 e.entry.kind), .v (.string e.entry.data)]
theorem Applied.len (e : Applied) : e.c.length = 6 := rfl
def Applied.z : Applied := ⟨0, 0, 0, Entry.z⟩
def Applied.vs (e : Applied) : List Value := [.int .i64 e.node, .int .i64 e.term_, .int .i64 e.index, .int .i64 e.entry.term_, .int .i64 e.entry.kind, .string e.entry.data]
def eqApplied (x y : Applied) : Bool := x.node == y.node && (x.term_ == y.term_ && (x.index == y.index && (eqEntry x.entry y.entry)))
theorem eqApplied_refl (x : Applied) : eqApplied x x = true := by simp [eqApplied, eqEntry_refl]
def szApplied (e : Applied) (left : Int) : Int := if szEntry e.entry (left) < 0 then -1 else szEntry e.entry (left)
structure Reply where
  call : Int
  when_ : Int
  index : Int
  command : Command
  text : ByteArray
def Reply.c (e : Reply) : List T := [.v (.int .i64 e.call), .v (.int .i64 e.when_), .v (.int .i64 e.index), .v (.int .i64 e.command.op), .v (.int .i64 e.command.token), .v (.int .i64 e.command.seq), .v (.string e.command.key), .v (.string e.command.val), .v (.int .i64 e.command.ver), .v (.string e.text)]
theorem Reply.len (e : Reply) : e.c.length = 10 := rfl
def Reply.z : Reply := ⟨0, 0, 0, Command.z, ⟨#[]⟩⟩
def Reply.vs (e : Reply) : List Value := [.int .i64 e.call, .int .i64 e.when_, .int .i64 e.index, .int .i64 e.command.op, .int .i64 e.command.token, .int .i64 e.command.seq, .string e.command.key, .string e.command.val, .int .i64 e.command.ver, .string e.text]
def eqReply (x y : Reply) : Bool := x.call == y.call && (x.when_ == y.when_ && (x.index == y.index && (eqCommand x.command y.command && (x.text.toList == y.text.toList))))
theorem eqReply_refl (x : Reply) : eqReply x x = true := by simp [eqReply, eqCommand_refl]
def szReply (e : Reply) (left : Int) : Int := if szCommand e.command (left) < 0 then -1 else if IntKind.i64.wrap ((szCommand e.command (left)) - e.text.size) < 0 then -1 else IntKind.i64.wrap ((szCommand e.command (left)) - e.text.size)
structure Log where
  start : Int
  startTerm : Int
  entries : List Entry
def Log.c (e : Log) : List T := [.v (.int .i64 e.start), .v (.int .i64 e.startTerm), sl 3 Entry.c e.entries]
theorem Log.len (e : Log) : e.c.length = 3 := rfl
def Log.z : Log := ⟨0, 0, []⟩
def eqLog (x y : Log) : Bool := x.start == y.start && (x.startTerm == y.startTerm && ((eqS eqEntry) x.entries y.entries))
theorem eqLog_refl (x : Log) : eqLog x x = true := by simp [eqLog, eqS_refl eqEntry_refl]
def szLog (e : Log) (left : Int) : Int := if szS szEntry e.entries (left) < 0 then -1 else szS szEntry e.entries (left)
structure Leader where
  node : Int
  term_ : Int
  log : Log
def Leader.c (e : Leader) : List T := [.v (.int .i64 e.node), .v (.int .i64 e.term_), .v (.int .i64 e.log.start), .v (.int .i64 e.log.startTerm), sl 3 Entry.c e.log.entries]
theorem Leader.len (e : Leader) : e.c.length = 5 := rfl
def Leader.z : Leader := ⟨0, 0, Log.z⟩
def eqLeader (x y : Leader) : Bool := x.node == y.node && (x.term_ == y.term_ && (eqLog x.log y.log))
theorem eqLeader_refl (x : Leader) : eqLeader x x = true := by simp [eqLeader, eqLog_refl]
def szLeader (e : Leader) (left : Int) : Int := if szLog e.log (left) < 0 then -1 else szLog e.log (left)
def okToHappen (e : Happen) : Prop := okSl (fun _ => True) e.conf ∧ okSl (fun _ => True) e.left
def okToLog (e : Log) : Prop := okSl (fun _ => True) e.entries
def okToLeader (e : Leader) : Prop := okToLog e.log
def okCommand (e : Command) : Prop := okI e.op ∧ okI e.token ∧ okI e.seq ∧ okS e.key ∧ okS e.val ∧ okI e.ver
def okHappen (e : Happen) : Prop := okI e.kind ∧ okI e.node ∧ okI e.at_ ∧ okI e.limit ∧ okCommand e.command ∧ (okL okI) e.conf ∧ okB e.cut ∧ okI e.whole ∧ (okL okI) e.left
def okEntry (e : Entry) : Prop := okI e.term_ ∧ okI e.kind ∧ okS e.data
def okApplied (e : Applied) : Prop := okI e.node ∧ okI e.term_ ∧ okI e.index ∧ okEntry e.entry
def okReply (e : Reply) : Prop := okI e.call ∧ okI e.when_ ∧ okI e.index ∧ okCommand e.command ∧ okS e.text
def okLog (e : Log) : Prop := okI e.start ∧ okI e.startTerm ∧ (okL okEntry) e.entries
def okLeader (e : Leader) : Prop := okI e.node ∧ okI e.term_ ∧ okLog e.log
theorem szCommand_ok : SzOk szCommand okCommand (fun _ => True) := by
  intro e l hk h0 h1 hs
  unfold szCommand at hs ⊢
  by_cases c0 : IntKind.i64.wrap (l - e.key.size) < 0
  · rw [if_pos c0] at hs; omega
  rw [if_neg c0] at hs ⊢
  have p0 := szStr_ok e.key (l) hk.2.2.2.1 (by omega) (by omega) (by show 0 ≤ IntKind.i64.wrap (l - e.key.size); omega)
  have q0 : IntKind.i64.wrap (l - e.key.size) ≤ l := p0.2
  by_cases c1 : IntKind.i64.wrap ((IntKind.i64.wrap (l - e.key.size)) - e.val.size) < 0
  · rw [if_pos c1] at hs; omega
  rw [if_neg c1] at hs ⊢
  have p1 := szStr_ok e.val ((IntKind.i64.wrap (l - e.key.size))) hk.2.2.2.2.1 (by omega) (by omega) (by show 0 ≤ IntKind.i64.wrap ((IntKind.i64.wrap (l - e.key.size)) - e.val.size); omega)
  have q1 : IntKind.i64.wrap ((IntKind.i64.wrap (l - e.key.size)) - e.val.size) ≤ (IntKind.i64.wrap (l - e.key.size)) := p1.2
  exact ⟨trivial, by omega⟩
theorem szHappen_ok : SzOk szHappen okHappen okToHappen := by
  intro e l hk h0 h1 hs
  unfold szHappen at hs ⊢
  by_cases c0 : szCommand e.command (l) < 0
  · rw [if_pos c0] at hs; omega
  rw [if_neg c0] at hs ⊢
  have p0 := szCommand_ok e.command (l) hk.2.2.2.2.1 (by omega) (by omega) (by show 0 ≤ szCommand e.command (l); omega)
  have q0 : szCommand e.command (l) ≤ l := p0.2
  by_cases c1 : szI e.conf ((szCommand e.command (l))) < 0
  · rw [if_pos c1] at hs; omega
  rw [if_neg c1] at hs ⊢
  have p1 := szI_ok e.conf ((szCommand e.command (l))) hk.2.2.2.2.2.1 (by omega) (by omega) (by show 0 ≤ szI e.conf ((szCommand e.command (l))); omega)
  have q1 : szI e.conf ((szCommand e.command (l))) ≤ (szCommand e.command (l)) := p1.2
  by_cases c2 : szI e.left ((szI e.conf ((szCommand e.command (l))))) < 0
  · rw [if_pos c2] at hs; omega
  rw [if_neg c2] at hs ⊢
  have p2 := szI_ok e.left ((szI e.conf ((szCommand e.command (l))))) hk.2.2.2.2.2.2.2.2 (by omega) (by omega) (by show 0 ≤ szI e.left ((szI e.conf ((szCommand e.command (l))))); omega)
  have q2 : szI e.left ((szI e.conf ((szCommand e.command (l))))) ≤ (szI e.conf ((szCommand e.command (l)))) := p2.2
  exact ⟨⟨p1.1, p2.1⟩, by omega⟩
theorem szEntry_ok : SzOk szEntry okEntry (fun _ => True) := by
  intro e l hk h0 h1 hs
  unfold szEntry at hs ⊢
  by_cases c0 : IntKind.i64.wrap (l - e.data.size) < 0
  · rw [if_pos c0] at hs; omega
  rw [if_neg c0] at hs ⊢
  have p0 := szStr_ok e.data (l) hk.2.2 (by omega) (by omega) (by show 0 ≤ IntKind.i64.wrap (l - e.data.size); omega)
  have q0 : IntKind.i64.wrap (l - e.data.size) ≤ l := p0.2
  exact ⟨trivial, by omega⟩
theorem szApplied_ok : SzOk szApplied okApplied (fun _ => True) := by
  intro e l hk h0 h1 hs
  unfold szApplied at hs ⊢
  by_cases c0 : szEntry e.entry (l) < 0
  · rw [if_pos c0] at hs; omega
  rw [if_neg c0] at hs ⊢
  have p0 := szEntry_ok e.entry (l) hk.2.2.2 (by omega) (by omega) (by show 0 ≤ szEntry e.entry (l); omega)
  have q0 : szEntry e.entry (l) ≤ l := p0.2
  exact ⟨trivial, by omega⟩
theorem szReply_ok : SzOk szReply okReply (fun _ => True) := by
  intro e l hk h0 h1 hs
  unfold szReply at hs ⊢
  by_cases c0 : szCommand e.command (l) < 0
  · rw [if_pos c0] at hs; omega
  rw [if_neg c0] at hs ⊢
  have p0 := szCommand_ok e.command (l) hk.2.2.2.1 (by omega) (by omega) (by show 0 ≤ szCommand e.command (l); omega)
  have q0 : szCommand e.command (l) ≤ l := p0.2
  by_cases c1 : IntKind.i64.wrap ((szCommand e.command (l)) - e.text.size) < 0
  · rw [if_pos c1] at hs; omega
  rw [if_neg c1] at hs ⊢
  have p1 := szStr_ok e.text ((szCommand e.command (l))) hk.2.2.2.2 (by omega) (by omega) (by show 0 ≤ IntKind.i64.wrap ((szCommand e.command (l)) - e.text.size); omega)
  have q1 : IntKind.i64.wrap ((szCommand e.command (l)) - e.text.size) ≤ (szCommand e.command (l)) := p1.2
  exact ⟨trivial, by omega⟩
theorem szLog_ok : SzOk szLog okLog okToLog := by
  intro e l hk h0 h1 hs
  unfold szLog at hs ⊢
  by_cases c0 : szS szEntry e.entries (l) < 0
  · rw [if_pos c0] at hs; omega
  rw [if_neg c0] at hs ⊢
  have p0 := (szS_ok szEntry_ok) e.entries (l) hk.2.2 (by omega) (by omega) (by show 0 ≤ szS szEntry e.entries (l); omega)
  have q0 : szS szEntry e.entries (l) ≤ l := p0.2
  exact ⟨p0.1, by omega⟩
theorem szLeader_ok : SzOk szLeader okLeader okToLeader := by
  intro e l hk h0 h1 hs
  unfold szLeader at hs ⊢
  by_cases c0 : szLog e.log (l) < 0
  · rw [if_pos c0] at hs; omega
  rw [if_neg c0] at hs ⊢
  have p0 := szLog_ok e.log (l) hk.2.2 (by omega) (by omega) (by show 0 ≤ szLog e.log (l); omega)
  have q0 : szLog e.log (l) ≤ l := p0.2
  exact ⟨p0.1, by omega⟩
def badApplied (x y : Applied) : Bool := x.index == y.index && !eqEntry x.entry y.entry
def badTime (x y : Reply) : Bool := decide (x.call > y.when_) && decide (x.index ≤ y.index)
def badLeader (x y : Leader) : Bool := x.term_ == y.term_ && !(x.node == y.node)
def plain (s : ByteArray) : Bool := s.toList == (⟨#[103, 97, 112]⟩ : ByteArray).toList || (s.toList == (⟨#[110, 111, 110, 101]⟩ : ByteArray).toList || s.toList == (⟨#[111, 108, 100]⟩ : ByteArray).toList)
def badOnce (x y : Reply) : Bool := x.command.token == y.command.token && (x.command.seq == y.command.seq && (x.command.token != 0 && (!plain x.text && (!plain y.text && !(x.text.toList == y.text.toList)))))
def inR (n x y : Int) : Bool := decide (n ≥ x) && decide (n ≤ y)
def riseOk (lo hi : Int) : Option Int → List Int → Bool
  | _, [] => true
  | p, x :: r => if !(inR x lo hi) || (match p with | none => false | some q => decide (q ≥ x)) then false else riseOk lo hi (some x) r
theorem riseOk_cons (lo hi : Int) (p : Option Int) (x : Int) (r : List Int) : riseOk lo hi p (x :: r) = if !(inR x lo hi) || (match p with | none => false | some q => decide (q ≥ x)) then false else riseOk lo hi (some x) r := by
  cases p <;> rfl
theorem riseOk_nil (lo hi : Int) (p : Option Int) : riseOk lo hi p [] = true := by
  cases p <;> rfl
def prevI (a : List Int) (i : Nat) : Option Int := if i = 0 then none else some (a.getD (i - 1) 0)
theorem prevI_succ {a : List Int} {i : Nat} {e : Int} (h : a[i]? = some e) : prevI a (i + 1) = some e := by
  simp [prevI, List.getD_eq_getElem?_getD, h]
def confOk (a : List Int) : Bool := inR (a.length : Int) 1 4 && riseOk 1 4 none a
theorem confOk_pos {a : List Int} (h : confOk a = true) : 0 < a.length := by
  simp [confOk, inR] at h
  omega
theorem riseOk_len : ∀ (a : List Int) (q : Int), riseOk 1 4 (some q) a = true → (a.length : Int) ≤ max 0 (4 - q)
  | [], q, _ => by simp; omega
  | x :: r, q, h => by
    rw [riseOk] at h
    split at h
    · cases h
    · rename_i hc
      have ih := riseOk_len r x h
      simp [inR] at hc
      simp only [List.length_cons]
      omega
theorem confOk_impl (a : List Int) : (decide ((a.length : Int) > 0) && riseOk 1 4 none a) = confOk a := by
  unfold confOk inR
  cases a with
  | nil => simp
  | cons x r =>
    cases hr : riseOk 1 4 none (x :: r) with
    | false => simp
    | true =>
      rw [riseOk] at hr
      split at hr
      · cases hr
      · rename_i hc
        have ih := riseOk_len r x hr
        simp [inR] at hc
        simp
        omega
def confFits (n : Int) (a : List Int) : Bool := confOk a && decide (a.getD (a.length - 1) 0 ≤ n)
def cmdOk (c : Command) : Bool :=
  if !(inR c.token 0 1000000) || (!(inR c.seq 0 1000000) || !(inR c.op 1 5)) then false
  else if c.op == 1 then (c.token == 0 && (c.seq == 0 && (c.key.toList == (⟨#[]⟩ : ByteArray).toList && (c.val.toList == (⟨#[]⟩ : ByteArray).toList && c.ver == 0))))
  else if !(inR (c.key.size : Int) 1 8) || decide ((c.val.size : Int) > 20) then false
  else if c.op == 2 then c.ver == 0
  else if c.op == 5 then inR c.ver 1 1000000000
  else (c.val.toList == (⟨#[]⟩ : ByteArray).toList && c.ver == 0)
def happenOk (n : Int) (e : Happen) : Bool :=
  if !(inR n 1 4) || (!(inR e.kind 1 9) || (!(inR e.node 1 n) || (decide (e.at_ < 0) || decide ((e.left.length : Int) > 30)))) then false
  else if e.kind == 1 || e.kind == 9 then inR e.limit 1 20
  else if e.kind == 5 then cmdOk e.command
  else if e.kind == 6 then confFits n e.conf
  else true
end Go.Proofs.Ythkiegfcahigkaa.Y
