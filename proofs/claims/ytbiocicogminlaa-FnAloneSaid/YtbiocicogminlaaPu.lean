import Derived.Test.YtbiocicogminlaaEng16
import Derived.Test.YtbiocicogminlaaEng37
import Derived.Laws.Strings
namespace Go.Proofs.Ytbiocicogminlaa.Y
open Go Go.RowKit Go.Eng

def okSl {α : Type} (ok : α → Prop) (l : List α) : Prop := l.length ≤ 1048576 ∧ ∀ x ∈ l, ok x
def eqI (x y : Int) : Bool := x == y
theorem eqI_refl (x : Int) : eqI x x = true := by simp [eqI]
def eqS {α : Type} (f : α → α → Bool) : List α → List α → Bool
  | [], [] => true
  | x :: r, y :: s => if f x y then eqS f r s else false
  | _, _ => false
theorem eqS_refl {α : Type} {f : α → α → Bool} (h : ∀ x, f x x = true) : ∀ a : List α, eqS f a a = true
  | [] => rfl
  | x :: r => by rw [eqS, h x, if_pos rfl, eqS_refl h r]
theorem eqS_ne {α : Type} {f : α → α → Bool} : ∀ {a b : List α}, a.length ≠ b.length → eqS f a b = false
  | [], [], h => absurd rfl h
  | [], _ :: _, _ => rfl
  | _ :: _, [], _ => rfl
  | x :: r, y :: s, h => by
    simp only [eqS]
    rw [eqS_ne (by simpa using h)]
    simp
theorem take_snoc {α : Type} {l : List α} {i : Nat} {e : α} (h : l[i]? = some e) : l.take (i + 1) = l.take i ++ [e] := by
  obtain ⟨h1, h2⟩ := List.getElem?_eq_some_iff.1 h
  rw [List.take_succ_eq_append_getElem h1, h2]
/-! ### marks -/
theorem wrap_le (x : Int) : IntKind.i64.wrap x ≤ 9223372036854775807 := by
  rw [IntKind.wrap_i64]; omega
def inc (k : Int) : Int := IntKind.i64.wrap (k + 1)
structure Entry where
  term_ : Int
  kind : Int
  data : ByteArray
def Entry.c (e : Entry) : List T := [.v (.int .i64 e.term_), .v (.int .i64 e.kind), .v (.string e.data)]
theorem Entry.len (e : Entry) : e.c.length = 3 := rfl
def Entry.z : Entry := ⟨0, 0, ⟨#[]⟩⟩
def Entry.vs (e : Entry) : List Value := [.int .i64 e.term_, .int .i64 e.kind, .string e.data]
structure Log where
  start : Int
  startTerm : Int
  entries : List Entry
def Log.c (e : Log) : List T := [.v (.int .i64 e.start), .v (.int .i64 e.startTerm), sl 3 Entry.c e.entries]
theorem Log.len (e : Log) : e.c.length = 3 := rfl
def Log.z : Log := ⟨0, 0, []⟩
structure Peer where
  id : Int
  next : Int
  match_ : Int
  sent : Int
def Peer.c (e : Peer) : List T := [.v (.int .i64 e.id), .v (.int .i64 e.next), .v (.int .i64 e.match_), .v (.int .i64 e.sent)]
theorem Peer.len (e : Peer) : e.c.length = 4 := rfl
def Peer.z : Peer := ⟨0, 0, 0, 0⟩
def Peer.vs (e : Peer) : List Value := [.int .i64 e.id, .int .i64 e.next, .int .i64 e.match_, .int .i64 e.sent]
structure Node where
  id : Int
  term_ : Int
  vote : Int
  role : Int
  lead : Int
  conf : List Int
  log : Log
  commit : Int
  clock : Int
  limit : Int
  votes : List Int
  peers : List Peer
def Node.c (e : Node) : List T := [.v (.int .i64 e.id), .v (.int .i64 e.term_), .v (.int .i64 e.vote), .v (.int .i64 e.role), .v (.int .i64 e.lead), sl 1 cI e.conf, .v (.int .i64 e.log.start), .v (.int .i64 e.log.startTerm), sl 3 Entry.c e.log.entries, .v (.int .i64 e.commit), .v (.int .i64 e.clock), .v (.int .i64 e.limit), sl 1 cI e.votes, sl 4 Peer.c e.peers]
theorem Node.len (e : Node) : e.c.length = 14 := rfl
def Node.z : Node := ⟨0, 0, 0, 0, 0, [], Log.z, 0, 0, 0, [], []⟩
structure Applied where
  node : Int
  term_ : Int
  index : Int
  entry : Entry
def Applied.c (e : Applied) : List T := [.v (.int .i64 e.node), .v (.int .i64 e.term_), .v (.int .i64 e.index), .v (.int .i64 e.entry.term_), .v (.int .i64 e.entry.kind), .v (.string e.entry.data)]
theorem Applied.len (e : Applied) : e.c.length = 6 := rfl
def Applied.z : Applied := ⟨0, 0, 0, Entry.z⟩
def Applied.vs (e : Applied) : List Value := [.int .i64 e.node, .int .i64 e.term_, .int .i64 e.index, .int .i64 e.entry.term_, .int .i64 e.entry.kind, .string e.entry.data]
structure Message where
  kind : Int
  from_ : Int
  to : Int
  term_ : Int
  index : Int
  logTerm : Int
  commit : Int
  ok : Bool
  entries : List Entry
  conf : List Int
  data : ByteArray
  last : Bool
def Message.c (e : Message) : List T := [.v (.int .i64 e.kind), .v (.int .i64 e.from_), .v (.int .i64 e.to), .v (.int .i64 e.term_), .v (.int .i64 e.index), .v (.int .i64 e.logTerm), .v (.int .i64 e.commit), .v (.bool e.ok), sl 3 Entry.c e.entries, sl 1 cI e.conf, .v (.string e.data), .v (.bool e.last)]
theorem Message.len (e : Message) : e.c.length = 12 := rfl
def Message.z : Message := ⟨0, 0, 0, 0, 0, 0, 0, false, [], [], ⟨#[]⟩, false⟩
structure l18Run where
  n : Node
  told : List Message
def l18Run.c (e : l18Run) : List T := [.v (.int .i64 e.n.id), .v (.int .i64 e.n.term_), .v (.int .i64 e.n.vote), .v (.int .i64 e.n.role), .v (.int .i64 e.n.lead), sl 1 cI e.n.conf, .v (.int .i64 e.n.log.start), .v (.int .i64 e.n.log.startTerm), sl 3 Entry.c e.n.log.entries, .v (.int .i64 e.n.commit), .v (.int .i64 e.n.clock), .v (.int .i64 e.n.limit), sl 1 cI e.n.votes, sl 4 Peer.c e.n.peers, sl 12 Message.c e.told]
theorem l18Run.len (e : l18Run) : e.c.length = 15 := rfl
def l18Run.z : l18Run := ⟨Node.z, []⟩
structure l01Cur where
  b : List Int
  i : Int
  h : Int
def l01Cur.c (e : l01Cur) : List T := [sl 1 cU e.b, .v (.int .i64 e.i), .v (.int .i64 e.h)]
theorem l01Cur.len (e : l01Cur) : e.c.length = 3 := rfl
def l01Cur.z : l01Cur := ⟨[], 0, 0⟩
def okToEntry (e : Entry) : Prop := e.data.size ≤ 1048576
def okToLog (e : Log) : Prop := okSl okToEntry e.entries
def okToNode (e : Node) : Prop := okSl (fun _ => True) e.conf ∧ okToLog e.log ∧ okSl (fun _ => True) e.votes ∧ okSl (fun _ => True) e.peers
def inR (n x y : Int) : Bool := decide (n ≥ x) && decide (n ≤ y)
def riseOk (lo hi : Int) : Option Int → List Int → Bool
  | _, [] => true
  | p, x :: r => if !(inR x lo hi) || (match p with | none => false | some q => decide (q ≥ x)) then false else riseOk lo hi (some x) r
theorem riseOk_cons (lo hi : Int) (p : Option Int) (x : Int) (r : List Int) : riseOk lo hi p (x :: r) = if !(inR x lo hi) || (match p with | none => false | some q => decide (q ≥ x)) then false else riseOk lo hi (some x) r := by
  cases p <;> rfl
theorem riseOk_nil (lo hi : Int) (p : Option Int) : riseOk lo hi p [] = true := by
  cases p <;> rfl
def prevI (a : List Int) (i : Nat) : Option Int := if i = 0 then none else some (a.getD (i - 1) 0)
theorem prevI_succ {a : List Int} {i : Nat} {e : Int} (h : a[i]? = some e) : prevI a (i + 1) = some e := by
  simp [prevI, List.getD_eq_getElem?_getD, h]
def confOk (a : List Int) : Bool := inR (a.length : Int) 1 4 && riseOk 1 4 none a
theorem riseOk_len : ∀ (a : List Int) (q : Int), riseOk 1 4 (some q) a = true → (a.length : Int) ≤ max 0 (4 - q)
  | [], q, _ => by simp; omega
  | x :: r, q, h => by
    rw [riseOk] at h
    split at h
    · cases h
    · rename_i hc
      have ih := riseOk_len r x h
      simp [inR] at hc
      simp only [List.length_cons]
      omega
theorem confOk_impl (a : List Int) : (decide ((a.length : Int) > 0) && riseOk 1 4 none a) = confOk a := by
  unfold confOk inR
  cases a with
  | nil => simp
  | cons x r =>
    cases hr : riseOk 1 4 none (x :: r) with
    | false => simp
    | true =>
      rw [riseOk] at hr
      split at hr
      · cases hr
      · rename_i hc
        have ih := riseOk_len r x hr
        simp [inR] at hc
        simp
        omega
/-! ### Entries -/
def GoodE (a : List Applied) (out : List Entry) : Prop := ∀ (j : Nat) (e : Entry), out[j]? = some e → ∃ x ∈ a, x.index = (j : Int) + 1 ∧ x.entry = e
def FinE (a : List Applied) (out : List Entry) : Prop := ∀ x ∈ a, x.index ≠ (out.length : Int) + 1
open Classical in
theorem good_snoc {a : List Applied} {out : List Entry} (h : GoodE a out) {x : Applied} (hx : x ∈ a) (hi : x.index = (out.length : Int) + 1) : GoodE a (out ++ [x.entry]) := by
  intro j e he
  rcases Nat.lt_or_ge j out.length with hj | hj
  · rw [List.getElem?_append_left hj] at he
    exact h j e he
  · rw [List.getElem?_append_right hj] at he
    have h0 : j - out.length = 0 := by
      rcases Nat.eq_zero_or_pos (j - out.length) with h0 | h0
      · exact h0
      · rw [List.getElem?_eq_none (by simp; omega)] at he; cases he
    rw [h0] at he
    simp at he
    exact ⟨x, hx, by omega, he⟩
theorem nodup_len : ∀ {l1 l2 : List Int}, l1.Nodup → (∀ x ∈ l1, x ∈ l2) → l1.length ≤ l2.length
  | [], _, _, _ => by simp
  | x :: r, l2, h, hs => by
    rw [List.nodup_cons] at h
    have hx := hs x (by simp)
    have := nodup_len (l2 := l2.erase x) h.2 (fun y hy => (List.mem_erase_of_ne (fun e => h.1 (by rw [← e]; exact hy))).2 (hs y (by simp [hy])))
    rw [List.length_erase_of_mem hx] at this
    have := List.length_pos_of_mem hx
    simp
    omega
theorem good_len {a : List Applied} {out : List Entry} (h : GoodE a out) : out.length ≤ a.length := by
  have := nodup_len (l1 := (List.range out.length).map (fun (j : Nat) => (j : Int) + 1)) (l2 := a.map (·.index)) ?_ ?_
  · simpa using this
  · refine List.Pairwise.map _ (fun x y hxy => ?_) List.nodup_range
    omega
  · intro x hx
    simp only [List.mem_map, List.mem_range] at hx
    obtain ⟨j, hj, rfl⟩ := hx
    obtain ⟨y, hy, hyi, _⟩ := h j _ (List.getElem?_eq_getElem hj)
    exact List.mem_map.2 ⟨y, hy, hyi⟩
theorem wrap_len {n : Nat} (h : n ≤ 1048576) : IntKind.i64.wrap ((n : Int) + 1) = (n : Int) + 1 := by
  rw [IntKind.wrap_i64]; omega
theorem mem_take_snoc {α : Type} {l : List α} {i : Nat} {e x : α} (h : l[i]? = some e) (hx : x ∈ l.take (i + 1)) : x ∈ l.take i ∨ x = e := by
  rw [take_snoc h] at hx
  simpa using hx
def EntP (a : List Applied) (out : List Entry) (k : Nat) (f2 : Bool) (out2 : List Entry) : Prop :=
  k ≤ a.length ∧ GoodE a out2 ∧ (f2 = false → out2 = out ∧ ∀ x ∈ a.take k, x.index ≠ (out.length : Int) + 1) ∧ (f2 = true → out.length < out2.length)
theorem EntP.init {a : List Applied} {out : List Entry} (hg : GoodE a out) : EntP a out 0 false out := ⟨by omega, hg, fun _ => ⟨rfl, by simp⟩, by simp⟩
theorem EntP.yes {a : List Applied} {out out2 : List Entry} {k : Nat} {f2 : Bool} {ek : Applied} (hm : a.length ≤ 1048576) (h : EntP a out k f2 out2) (hek : a[k]? = some ek) (hi : (ek.index == IntKind.i64.wrap ((out2.length : Int) + 1)) = true) : EntP a out (k + 1) true (out2 ++ [ek.entry]) := by
  obtain ⟨h1, h2, h3, h4⟩ := h
  have hl := good_len h2
  have hk : k < a.length := (List.getElem?_eq_some_iff.1 hek).1
  rw [wrap_len (by omega)] at hi
  refine ⟨by omega, good_snoc h2 (List.mem_of_getElem? hek) (by simpa using hi), by simp, fun _ => ?_⟩
  cases f2 with
  | false => simp [(h3 rfl).1]
  | true => have := h4 rfl; simp; omega
theorem EntP.no {a : List Applied} {out out2 : List Entry} {k : Nat} {f2 : Bool} {ek : Applied} (hm : a.length ≤ 1048576) (h : EntP a out k f2 out2) (hek : a[k]? = some ek) (hi : (ek.index == IntKind.i64.wrap ((out2.length : Int) + 1)) = false) : EntP a out (k + 1) f2 out2 := by
  obtain ⟨h1, h2, h3, h4⟩ := h
  have hl := good_len h2
  have hk : k < a.length := (List.getElem?_eq_some_iff.1 hek).1
  rw [wrap_len (by omega)] at hi
  refine ⟨by omega, h2, fun hf => ?_, h4⟩
  obtain ⟨rfl, h5⟩ := h3 hf
  refine ⟨rfl, fun x hx => ?_⟩
  rcases mem_take_snoc hek hx with hx | rfl
  · exact h5 x hx
  · simpa using hi
theorem EntP.fin {a : List Applied} {out out2 : List Entry} {k : Nat} {f2 : Bool} (h : EntP a out k f2 out2) (hk : a.length ≤ k) : f2 = false → FinE a out2 := fun hf => by
  obtain ⟨h1, h2, h3, h4⟩ := h
  obtain ⟨rfl, h5⟩ := h3 hf
  rw [List.take_of_length_le hk] at h5
  exact h5
theorem EntP.dec {a : List Applied} {out out2 : List Entry} {k : Nat} {f f2 : Bool} (h : EntP a out k f2 out2) (hol : out.length ≤ a.length) (hf : f = true) : 2 * (a.length - out2.length) + (if f2 = true then 1 else 0) < 2 * (a.length - out.length) + (if f = true then 1 else 0) := by
  obtain ⟨h1, h2, h3, h4⟩ := h
  have hl := good_len h2
  subst hf
  cases f2 with
  | false => simp [(h3 rfl).1]
  | true => have := h4 rfl; simp; omega
/-! ### confs, entries, logs -/
def bys (s : ByteArray) (n : Nat) : List Int := (List.range n).map fun i => IntKind.i64.wrap (bat s i)
theorem bys_succ (s : ByteArray) (n : Nat) : bys s (n + 1) = bys s n ++ [IntKind.i64.wrap (bat s n)] := by simp [bys, List.range_succ]
theorem bys_len (s : ByteArray) (n : Nat) : (bys s n).length = n := by simp [bys]
def readConf (s : ByteArray) : List Int × Bool := if confOk (bys s s.size) then (bys s s.size, true) else ([], false)
theorem confOk_len {a : List Int} (h : confOk a = true) : a.length ≤ 4 := by
  simp [confOk, inR] at h
  omega
theorem rc_no {s : ByteArray} {i : Nat} (hi : i = s.size ∨ (5 ≤ i ∧ i ≤ s.size)) (h : (!(((bys s i).length : Int) == (s.size : Int)) || !confOk (bys s i)) = true) : readConf s = ([], false) := by
  unfold readConf
  split
  · rename_i hc
    exfalso
    rcases hi with rfl | ⟨h1, h2⟩
    · simp [bys_len, hc] at h
    · have := confOk_len hc
      rw [bys_len] at this
      omega
  · rfl
theorem rc_yes {s : ByteArray} {i : Nat} (h : (!(((bys s i).length : Int) == (s.size : Int)) || !confOk (bys s i)) = false) : readConf s = (bys s i, true) := by
  simp [bys_len] at h
  obtain ⟨h1, h2⟩ := h
  have : i = s.size := by omega
  subst this
  simp [readConf, h2]
def entOk (e : Entry) : Bool := inR e.term_ 0 100000 && (if e.kind == 1 then e.data.toList == (⟨#[]⟩ : ByteArray).toList else if e.kind == 2 then (readConf e.data).2 else (e.kind == 3 && decide ((e.data.size : Int) ≤ 120)))
def termsOk : Int → List Entry → Bool
  | _, [] => true
  | t, e :: r => if !entOk e || decide (e.term_ < t) then false else termsOk e.term_ r
def logOk (l : Log) : Bool := inR l.start 0 1000000 && (inR l.startTerm 0 100000 && (decide ((l.entries.length : Int) ≤ 60) && (decide (IntKind.i64.wrap (l.start + (l.entries.length : Int)) ≤ 1000000) && termsOk l.startTerm l.entries)))
def logLast (l : Log) : Int × Int := if l.entries.length = 0 then (l.start, l.startTerm) else (IntKind.i64.wrap (l.start + (l.entries.length : Int)), (l.entries.getD (l.entries.length - 1) Entry.z).term_)
/-! ### lists -/
def idxF {α : Type} (p : α → Bool) (a : List α) : Int := match a.findIdx? p with | none => -1 | some i => (i : Int)
theorem findIdx_at {α : Type} {p : α → Bool} : ∀ {a : List α} {i : Nat} {e : α}, (a.take i).any p = false → a[i]? = some e → p e = true → a.findIdx? p = some i
  | [], i, e, _, h, _ => by simp at h
  | x :: r, 0, e, _, h, hp => by
    simp at h
    subst h
    simp [List.findIdx?_cons, hp]
  | x :: r, i + 1, e, ha, h, hp => by
    simp only [List.take_succ_cons, List.any_cons, Bool.or_eq_false_iff] at ha
    have := findIdx_at (a := r) ha.2 (by simpa using h) hp
    simp [List.findIdx?_cons, ha.1, this]
theorem idxF_at {α : Type} {p : α → Bool} {a : List α} {i : Nat} {e : α} (ha : (a.take i).any p = false) (h : a[i]? = some e) (hp : p e = true) : (i : Int) = idxF p a := by
  simp [idxF, findIdx_at ha h hp]
theorem idxF_no {α : Type} {p : α → Bool} {a : List α} {i : Nat} (ha : (a.take i).any p = false) (hi : a.length ≤ i) : -1 = idxF p a := by
  rw [List.take_of_length_le hi] at ha
  have : a.findIdx? p = none := by
    rw [List.findIdx?_eq_none_iff]
    intro x hx
    have := List.any_eq_false.1 ha x hx
    simpa using this
  simp [idxF, this]
theorem any_snoc {α : Type} {p : α → Bool} {a : List α} {i : Nat} {e : α} (ha : (a.take i).any p = false) (h : a[i]? = some e) (hp : p e = false) : (a.take (i + 1)).any p = false := by
  rw [take_snoc h, List.any_append, ha]
  simp [hp]
theorem idxF_none {α : Type} {p : α → Bool} {a : List α} (h : (idxF p a == -1) = true) : a = a.filter (fun x => !p x) := by
  unfold idxF at h
  cases hf : a.findIdx? p with
  | some i => rw [hf] at h; simp at h
  | none =>
    rw [List.findIdx?_eq_none_iff] at hf
    symm
    rw [List.filter_eq_self]
    intro x hx
    simp [hf x hx]
theorem idxF_some {α : Type} {p : α → Bool} {a : List α} (h : (idxF p a == -1) = false) : ∃ m : Nat, idxF p a = (m : Int) ∧ m < a.length ∧ a.take m = (a.take (m + 1)).filter (fun x => !p x) := by
  unfold idxF at h ⊢
  cases hf : a.findIdx? p with
  | none => rw [hf] at h; simp at h
  | some i =>
    rw [List.findIdx?_eq_some_iff_getElem] at hf
    obtain ⟨h1, h2, h3⟩ := hf
    refine ⟨i, rfl, h1, ?_⟩
    rw [List.take_succ_eq_append_getElem h1, List.filter_append]
    simp [h2]
    symm
    rw [List.filter_eq_self]
    intro x hx
    obtain ⟨j, hj, rfl⟩ := List.getElem_of_mem hx
    simp at hj
    have := h3 j (by omega)
    simpa using this
structure DelP (p : Int → Bool) (a : List Int) (i j : Nat) (b : List Int) : Prop where
  lt : i < j
  le : j ≤ a.length
  len : b.length = a.length
  tk : b.take i = (a.take j).filter (fun x => !p x)
  dr : b.drop j = a.drop j
theorem DelP.elem {p : Int → Bool} {a b : List Int} {i j : Nat} {e : Int} (h : DelP p a i j b) (hb : b[j]? = some e) : a[j]? = some e := by
  have h1 := congrArg (·[0]?) h.dr
  simp at h1
  rw [← h1, hb]
theorem DelP.keep {p : Int → Bool} {a b : List Int} {i j : Nat} {e : Int} (h : DelP p a i j b) (hb : b[j]? = some e) (hp : (!p e) = true) : DelP p a (i + 1) (j + 1) (b.set i e) := by
  have hj : j < b.length := (List.getElem?_eq_some_iff.1 hb).1
  have hl := h.lt
  have hle := h.le
  have hlen := h.len
  refine ⟨by omega, by omega, by simp [hlen], ?_, ?_⟩
  · rw [take_snoc (h.elem hb), List.filter_append, ← h.tk, List.take_succ_eq_append_getElem (by simp; omega)]
    simp [List.take_set_of_le, hp]
  · rw [List.drop_set_of_lt (by omega)]
    have := congrArg List.tail h.dr
    simpa using this
theorem DelP.skip {p : Int → Bool} {a b : List Int} {i j : Nat} {e : Int} (h : DelP p a i j b) (hb : b[j]? = some e) (hp : (!p e) = false) : DelP p a i (j + 1) b := by
  have hj : j < b.length := (List.getElem?_eq_some_iff.1 hb).1
  have hl := h.lt
  have hle := h.le
  have hlen := h.len
  refine ⟨by omega, by omega, hlen, ?_, ?_⟩
  · rw [take_snoc (h.elem hb), List.filter_append, ← h.tk]
    simp [hp]
  · have := congrArg List.tail h.dr
    simpa using this
theorem DelP.fin {p : Int → Bool} {a b c : List Int} {i j : Nat} (h : DelP p a i j b) (hj : b.length ≤ j) : (b.take i ++ c).take i = a.filter (fun x => !p x) := by
  have hl := h.lt
  have hle := h.le
  have hlen := h.len
  rw [List.take_append_of_le_length (by simp; omega), List.take_take, Nat.min_self, h.tk, List.take_of_length_le (by omega)]
/-! ### the conf of a node -/
def lcGo (start idx : Int) (es : List Entry) : Nat → Option (Int × List Int)
  | 0 => none
  | i + 1 => if (readConf (es.getD i Entry.z).data).2 && ((es.getD i Entry.z).kind == 2 && decide (IntKind.i64.wrap (IntKind.i64.wrap (start + (i : Int)) + 1) ≤ idx)) then some (IntKind.i64.wrap (IntKind.i64.wrap (start + (i : Int)) + 1), (readConf (es.getD i Entry.z).data).1) else lcGo start idx es i
def lastC (n : Node) (idx : Int) : Int × List Int := (lcGo n.log.start idx n.log.entries n.log.entries.length).getD (-1, n.conf)
def cfGo (start idx : Int) : Nat → List Entry → List Int → List Int
  | _, [], out => out
  | i, e :: r, out => if IntKind.i64.wrap (IntKind.i64.wrap (start + 1) + (i : Int)) ≤ idx then cfGo start idx (i + 1) r (if e.kind == 2 && (readConf e.data).2 then (readConf e.data).1 else out) else out
def confAtS (n : Node) (idx : Int) : List Int := cfGo n.log.start idx 0 n.log.entries n.conf
def others (c : List Int) (id : Int) : List Int := c.filter (fun x => !(x == id))
def pkOk (last : Int) (p : Peer) : Bool := inR p.next 1 (IntKind.i64.wrap (last + 1)) && (inR p.match_ 0 (IntKind.i64.wrap (p.next - 1)) && inR p.sent 0 20000)
def peersOkB (n : Node) : Bool := n.peers.all (pkOk (logLast n.log).1) && eqS eqI (n.peers.map (·.id)) (others (lastC n (logLast n.log).1).2 n.id)
theorem lc_at {start idx : Int} {es : List Entry} {i : Nat} (h0 : 0 < i) : lcGo start idx es i =
    if (((readConf (es.getD (i - 1) Entry.z).data).2 && ((es.getD (i - 1) Entry.z).kind == 2)) && decide (IntKind.i64.wrap (IntKind.i64.wrap (start + ((i : Int) - 1)) + 1) ≤ idx)) = true then some (IntKind.i64.wrap (IntKind.i64.wrap (start + ((i : Int) - 1)) + 1), (readConf (es.getD (i - 1) Entry.z).data).1) else lcGo start idx es (i - 1) := by
  obtain ⟨j, rfl⟩ : ∃ j, i = j + 1 := ⟨i - 1, by omega⟩
  have e : ((j + 1 : Nat) : Int) - 1 = (j : Int) := by omega
  rw [lcGo, Nat.add_sub_cancel, e, Bool.and_assoc]
theorem wrap_pred {n : Nat} (h : n ≤ maxLen) : IntKind.i64.wrap ((n : Int) - 1) = (n : Int) - 1 := by
  rw [IntKind.wrap_i64]
  simp only [maxLen] at h
  omega
theorem wrap_pp {i n : Nat} (h : 0 < i) (hb : i ≤ n) (hl : n ≤ maxLen) : IntKind.i64.wrap ((i : Int) - 1 - 1) = ((i - 1 : Nat) : Int) - 1 := by
  rw [IntKind.wrap_i64]
  simp only [maxLen] at hl
  omega
theorem getD_mem {α : Type} {l : List α} {j : Nat} {z : α} (h : j < l.length) : l.getD j z ∈ l := by
  rw [List.getD_eq_getElem?_getD, List.getElem?_eq_getElem h]
  exact List.getElem_mem h
theorem all_snoc {α : Type} {p : α → Bool} {a : List α} {i : Nat} {e : α} (ha : (a.take i).all p = true) (h : a[i]? = some e) (hp : p e = true) : (a.take (i + 1)).all p = true := by
  rw [take_snoc h, List.all_append, ha]
  simp [hp]
theorem all_not {α : Type} {p : α → Bool} {a : List α} {i : Nat} {e : α} (h : a[i]? = some e) (hp : p e = false) : a.all p = false := by
  rw [List.all_eq_false]
  exact ⟨e, List.mem_of_getElem? h, by simp [hp]⟩
def nodeOk (n : Node) : Bool :=
  if !(inR n.id 1 4) || (!(confOk n.conf) || (!(logOk n.log) || (!(inR n.term_ 0 100000) || (!(inR n.vote 0 4) || (decide (n.term_ < (logLast n.log).2) || (!(inR n.lead 0 4) || (!(inR n.commit n.log.start (logLast n.log).1) || (!(inR n.clock 0 20) || (!(inR n.limit 1 20) || !(riseOk 1 4 none n.votes)))))))))) then false
  else if n.role == 0 then ((n.votes.length : Int) == 0) && ((n.peers.length : Int) == 0)
  else if n.role == 1 then ((n.peers.length : Int) == 0)
  else (n.role == 2) && (((n.votes.length : Int) == 0) && peersOkB n)
theorem readConf_len (s : ByteArray) : (readConf s).1.length ≤ 4 := by
  unfold readConf
  split
  · rename_i h; exact confOk_len h
  · simp
theorem lcGo_len {start idx : Int} {es : List Entry} : ∀ (i : Nat) (x : Int × List Int), lcGo start idx es i = some x → x.2.length ≤ 4
  | 0, x, h => by simp [lcGo] at h
  | i + 1, x, h => by
    rw [lcGo] at h
    split at h
    · cases h; exact readConf_len _
    · exact lcGo_len i x h
theorem lastC_len {n : Node} (hok : okToNode n) (idx : Int) : (lastC n idx).2.length ≤ 1048576 := by
  unfold lastC
  cases h : lcGo n.log.start idx n.log.entries n.log.entries.length with
  | none => exact hok.1.1
  | some x => have := lcGo_len _ x h; simp; omega
theorem others_len (c : List Int) (id : Int) : (others c id).length ≤ c.length := List.length_filter_le _ _
def cfStep (out : List Int) (e : Entry) : List Int := if e.kind == 2 && (readConf e.data).2 then (readConf e.data).1 else out
theorem logOk_facts {l : Log} (h : logOk l = true) : 0 ≤ l.start ∧ l.start ≤ 1000000 ∧ l.entries.length ≤ 60 ∧ (logLast l).1 = l.start + (l.entries.length : Int) ∧ l.start + (l.entries.length : Int) ≤ 1000000 := by
  simp only [logOk, inR, Bool.and_eq_true, decide_eq_true_eq] at h
  obtain ⟨h1, h2, h3, h4, h5⟩ := h
  have hw : IntKind.i64.wrap (l.start + (l.entries.length : Int)) = l.start + (l.entries.length : Int) := by rw [IntKind.wrap_i64]; omega
  refine ⟨by omega, by omega, by omega, ?_, by omega⟩
  unfold logLast
  split
  · simp_all
  · exact hw
def logTerm (l : Log) (i : Int) : Int := if i == l.start then l.startTerm else if decide (i < l.start) || decide (i > l.start + (l.entries.length : Int)) then -1 else (l.entries.getD (i - l.start - 1).toNat Entry.z).term_
theorem lt_at {l : Log} {i : Int} (h : (i == l.start) = true) : l.startTerm = logTerm l i := by simp [logTerm, h]
theorem lt_out {l : Log} {i : Int} (h : (i == l.start) = false) (ho : i < l.start ∨ i > l.start + (l.entries.length : Int)) : -1 = logTerm l i := by
  have : (decide (i < l.start) || decide (i > l.start + (l.entries.length : Int))) = true := by simpa using ho
  simp only [logTerm, h, this]
  rfl
theorem lt_in {l : Log} {i : Int} (h : (i == l.start) = false) (hA : l.start < i ∧ i ≤ l.start + (l.entries.length : Int)) : (l.entries.getD (i - l.start - 1).toNat Entry.z).term_ = logTerm l i := by
  have : (decide (i < l.start) || decide (i > l.start + (l.entries.length : Int))) = false := by simp; omega
  simp only [logTerm, h, this]
  rfl
theorem logOk_hs {l : Log} (h : logOk l = true) : 0 ≤ l.start ∧ l.start ≤ 1000000 ∧ l.entries.length ≤ 60 := by
  obtain ⟨h1, h2, h3, _⟩ := logOk_facts h
  exact ⟨h1, h2, h3⟩
theorem termsOk_all : ∀ {es : List Entry} {t : Int}, termsOk t es = true → ∀ e ∈ es, entOk e = true
  | [], _, _, e, he => by simp at he
  | x :: r, t, h, e, he => by
    rw [termsOk] at h
    split at h
    · cases h
    · rename_i hc
      simp at hc
      rcases List.mem_cons.1 he with rfl | he
      · exact hc.1
      · exact termsOk_all h e he
theorem logTerm_pos {l : Log} {b : Int} (h : logOk l = true) (hb : l.start ≤ b ∧ b ≤ l.start + (l.entries.length : Int)) : 0 ≤ logTerm l b := by
  simp only [logOk, Bool.and_eq_true] at h
  obtain ⟨h1, h2, h3, h4, h5⟩ := h
  by_cases he : (b == l.start) = true
  · rw [← lt_at he]
    simp only [inR, Bool.and_eq_true, decide_eq_true_eq] at h2
    omega
  · have he' : (b == l.start) = false := by simpa using he
    have hne : b ≠ l.start := by simpa using he
    rw [← lt_in he' ⟨by omega, hb.2⟩]
    have hm := termsOk_all h5 _ (getD_mem (l := l.entries) (j := (b - l.start - 1).toNat) (z := Entry.z) (by omega))
    simp only [entOk, inR, Bool.and_eq_true, decide_eq_true_eq] at hm
    omega
def logBehind (l : Log) (b t : Int) : Log := ⟨b, t, if logOk l && (inR b l.start (l.start + (l.entries.length : Int)) && (logTerm l b == t)) then l.entries.drop (b - l.start).toNat else []⟩
theorem lb_yes {l : Log} {b t : Int} (h1 : logOk l = true) (h2 : l.start ≤ b ∧ b ≤ l.start + (l.entries.length : Int)) (h3 : (logTerm l b == t) = true) : logBehind l b t = ⟨b, t, l.entries.drop (b - l.start).toNat⟩ := by
  have : inR b l.start (l.start + (l.entries.length : Int)) = true := by simp [inR, h2]
  simp [logBehind, h1, this, h3]
theorem lb_no {l : Log} {b t : Int} (h : (logOk l && (inR b l.start (l.start + (l.entries.length : Int)) && (logTerm l b == t))) = false) : logBehind l b t = ⟨b, t, []⟩ := by
  simp [logBehind, h]
theorem lb_impl {l : Log} {b t : Int} (h1 : logOk l = true) : ((logTerm l b == t) && decide (t ≥ 0)) = (inR b l.start (l.start + (l.entries.length : Int)) && (logTerm l b == t)) := by
  by_cases hr : l.start ≤ b ∧ b ≤ l.start + (l.entries.length : Int)
  · have h2 : inR b l.start (l.start + (l.entries.length : Int)) = true := by simp [inR, hr]
    have hp := logTerm_pos h1 hr
    rw [h2]
    by_cases ht : logTerm l b = t
    · subst ht; simp [hp]
    · simp [ht]
  · have h2 : inR b l.start (l.start + (l.entries.length : Int)) = false := by simp [inR]; omega
    have hs := logOk_hs h1
    have : -1 = logTerm l b := lt_out (by simp; omega) (by omega)
    rw [h2, ← this]
    by_cases ht : (-1 : Int) = t
    · subst ht; simp
    · simp [ht]
/-! ### new nodes -/
def nodeOf (id : Int) (conf : List Int) : Node := ⟨id, 0, 0, 0, 0, conf, ⟨0, 0, []⟩, 0, 0, 20, [], []⟩
def nodeNew (id : Int) (conf : List Int) : Node × Bool := if nodeOk (nodeOf id conf) then (nodeOf id conf, true) else (Node.z, false)
theorem okNodeOf {id : Int} {conf : List Int} (h : conf.length ≤ 1048576) : okToNode (nodeOf id conf) := ⟨⟨h, by simp⟩, ⟨by simp [nodeOf], by simp [nodeOf]⟩, ⟨by simp [nodeOf], by simp⟩, ⟨by simp [nodeOf], by simp⟩⟩
/-! ### a node's marks -/
theorem lb_impl2 {l : Log} {b t : Int} : (logOk l && (logTerm l b == t) && decide (t ≥ 0)) = (logOk l && (inR b l.start (l.start + (l.entries.length : Int)) && (logTerm l b == t))) := by
  cases h : logOk l with
  | false => simp
  | true => rw [← lb_impl h, Bool.and_assoc]
theorem nodeOk_facts {n : Node} (h : nodeOk n = true) : confOk n.conf = true ∧ logOk n.log = true ∧ inR n.commit n.log.start (logLast n.log).1 = true ∧ inR n.id 1 4 = true := by
  unfold nodeOk at h
  split at h
  · cases h
  · rename_i hc
    simp only [Bool.or_eq_true, Bool.not_eq_true', not_or] at hc
    obtain ⟨a1, a2, a3, a4, a5, a6, a7, a8, _⟩ := hc
    exact ⟨by simpa using a2, by simpa using a3, by simpa using a8, by simpa using a1⟩
theorem cfGo_take {s idx : Int} (h0 : 0 ≤ s) (h1 : s ≤ 1000000) : ∀ (es : List Entry) (k : Nat) (out : List Int), k + es.length ≤ 60 → cfGo s idx k es out = (es.take (idx - s - k).toNat).foldl cfStep out
  | [], _, _, _ => by simp [cfGo]
  | e :: r, k, out, h => by
    simp only [List.length_cons] at h
    have hw : IntKind.i64.wrap (IntKind.i64.wrap (s + 1) + (k : Int)) = s + 1 + k := by rw [IntKind.wrap_i64, IntKind.wrap_i64]; omega
    rw [cfGo, hw]
    by_cases hc : s + 1 + (k : Int) ≤ idx
    · have e1 : (idx - s - k).toNat = (idx - s - ((k + 1 : Nat) : Int)).toNat + 1 := by omega
      rw [if_pos hc, cfGo_take h0 h1 r (k + 1) _ (by omega), e1, List.take_succ_cons, List.foldl_cons]
      rfl
    · have e1 : (idx - s - k).toNat = 0 := by omega
      rw [if_neg hc, e1]
      rfl
theorem lcGo_take {s idx : Int} {es : List Entry} {c : List Int} (h0 : 0 ≤ s) (h1 : s ≤ 1000000) (hl : es.length ≤ 60) : ∀ i : Nat, i ≤ es.length → ((lcGo s idx es i).getD (-1, c)).2 = (es.take (min i (idx - s).toNat)).foldl cfStep c
  | 0, _ => by simp [lcGo]
  | i + 1, h => by
    have ih := lcGo_take (c := c) (idx := idx) h0 h1 hl i (by omega)
    have hw : IntKind.i64.wrap (IntKind.i64.wrap (s + (i : Int)) + 1) = s + i + 1 := by rw [IntKind.wrap_i64, IntKind.wrap_i64]; omega
    rw [lcGo, hw]
    by_cases hc : s + (i : Int) + 1 ≤ idx
    · have hg : es[i]? = some (es.getD i Entry.z) := getD_some (by omega)
      have e1 : min (i + 1) (idx - s).toNat = i + 1 := by omega
      have e2 : min i (idx - s).toNat = i := by omega
      rw [e2] at ih
      rw [e1, take_snoc hg, List.foldl_append, ← ih]
      simp only [List.foldl_cons, List.foldl_nil, cfStep]
      by_cases hk : ((es.getD i Entry.z).kind == 2 && (readConf (es.getD i Entry.z).data).2) = true
      · rw [if_pos hk, if_pos]
        · rfl
        · simp only [Bool.and_eq_true] at hk ⊢
          exact ⟨hk.2, hk.1, by simpa using hc⟩
      · rw [if_neg hk, if_neg]
        intro hc2
        simp only [Bool.and_eq_true] at hc2
        exact hk (by rw [hc2.1, hc2.2.1]; rfl)
    · have e1 : min (i + 1) (idx - s).toNat = min i (idx - s).toNat := by omega
      rw [e1, ← ih, if_neg]
      simp [hc]
theorem conf_at_eq {n : Node} {i : Int} (hl : logOk n.log = true) (hi : i ≤ n.log.start + (n.log.entries.length : Int)) : (lastC n i).2 = confAtS n i := by
  obtain ⟨h1, h2, h3, h4, h5⟩ := logOk_facts hl
  have e : min n.log.entries.length (i - n.log.start).toNat = (i - n.log.start).toNat := by omega
  have e2 : (i - n.log.start - ((0 : Nat) : Int)).toNat = (i - n.log.start).toNat := by simp
  rw [confAtS, cfGo_take h1 h2 _ _ _ (by omega), lastC, lcGo_take h1 h2 h3 _ (Nat.le_refl _), e, e2]
def settle (n : Node) (i : Int) : Node × Bool := if nodeOk n && inR i n.log.start n.commit then (⟨n.id, n.term_, n.vote, n.role, n.lead, confAtS n i, logBehind n.log i (logTerm n.log i), n.commit, n.clock, n.limit, n.votes, n.peers⟩, true) else (Node.z, false)
theorem settle_in {n : Node} {i : Int} (hn : nodeOk n = true) (hin : inR i n.log.start n.commit = true) : logOk n.log = true ∧ (0 ≤ n.log.start ∧ n.log.start ≤ 1000000 ∧ n.log.entries.length ≤ 60) ∧ i ≤ 9223372036854775807 ∧ i ≤ n.log.start + (n.log.entries.length : Int) := by
  obtain ⟨_, hl, hc, _⟩ := nodeOk_facts hn
  obtain ⟨h1, h2, h3, h4, h5⟩ := logOk_facts hl
  simp only [inR, Bool.and_eq_true, decide_eq_true_eq] at hc hin
  exact ⟨hl, ⟨h1, h2, h3⟩, by omega, by omega⟩
theorem settle_yes {n : Node} {i : Int} (hn : nodeOk n = true) (hin : inR i n.log.start n.commit = true) : settle n i = (⟨n.id, n.term_, n.vote, n.role, n.lead, confAtS n i, logBehind n.log i (logTerm n.log i), n.commit, n.clock, n.limit, n.votes, n.peers⟩, true) := by simp [settle, hn, hin]
theorem settle_no {n : Node} {i : Int} (h : (!nodeOk n || !inR i n.log.start n.commit) = true) : settle n i = (Node.z, false) := by
  unfold settle
  rw [if_neg]
  intro hc
  simp only [Bool.and_eq_true] at hc
  simp [hc] at h
/-! ### a node at work -/
def hasI (a : List Int) (n : Int) : Bool := a.any (fun y => y == n)
theorem hasI_idx (a : List Int) (n : Int) : decide (idxF (fun y => n == y) a ≥ 0) = hasI a n := by
  have e : (fun y : Int => y == n) = (fun y => n == y) := by
    funext y
    by_cases h : y = n
    · subst h; rfl
    · rw [show (y == n) = false by simpa using h, show (n == y) = false by simpa using Ne.symm h]
  unfold hasI idxF
  rw [e]
  cases h : a.findIdx? (fun y => n == y) with
  | none =>
    rw [List.findIdx?_eq_none_iff] at h
    symm
    simp only []
    rw [show decide ((-1 : Int) ≥ 0) = false from rfl, List.any_eq_false]
    intro x hx
    simp [h x hx]
  | some i =>
    rw [List.findIdx?_eq_some_iff_getElem] at h
    obtain ⟨h1, h2, _⟩ := h
    have : decide ((i : Int) ≥ 0) = true := by simp
    simp only [this]
    symm
    rw [List.any_eq_true]
    exact ⟨a[i], List.getElem_mem h1, h2⟩
def mostGo (l : List Int) : List Int → Int → Int
  | [], c => c
  | x :: r, c => mostGo l r (if hasI l x then IntKind.i64.wrap (c + 1) else c)
def most (conf l : List Int) : Bool := confOk conf && decide (IntKind.i64.wrap (2 * mostGo l conf 0) > (conf.length : Int))
def followN (n : Node) (l : Int) : Node := ⟨n.id, n.term_, n.vote, 0, l, n.conf, n.log, n.commit, n.clock, n.limit, [], []⟩
def msgN (n : Node) (k t : Int) : Message := ⟨k, n.id, t, n.term_, 0, 0, 0, false, [], [], ⟨#[]⟩, false⟩
def sendN (n : Node) (p : Peer) : Message :=
  if p.next ≤ n.log.start then ⟨5, n.id, p.id, n.term_, n.log.start, n.log.startTerm, p.sent, false, [], n.conf, ⟨#[]⟩, false⟩ else
  ⟨3, n.id, p.id, n.term_, IntKind.i64.wrap (p.next - 1), logTerm n.log (IntKind.i64.wrap (p.next - 1)), n.commit, false,
    (n.log.entries.drop (p.next - 1 - n.log.start).toNat).take (min 4 (n.log.entries.drop (p.next - 1 - n.log.start).toNat).length), [], ⟨#[]⟩, false⟩
/-- A log whose indexes are small. -/
def logB (l : Log) : Prop := 0 ≤ l.start ∧ l.start ≤ 1000000 ∧ l.entries.length ≤ 60
/-- What is next for a peer lies at most behind the log. -/
def peerB (l : Log) (p : Peer) : Prop := 1 ≤ p.next ∧ p.next ≤ l.start + (l.entries.length : Int) + 1
def votesAt (n : Node) (i : Int) : List Int := [n.id] ++ (n.peers.filter (fun p => decide (p.match_ ≥ i))).map (·.id)
def cGo (n : Node) (conf : List Int) : Nat → Int → Int → Int
  | 0, _, c => c
  | f + 1, i, c => if decide (i > c) && logTerm n.log i == n.term_ then cGo n conf f (IntKind.i64.wrap (i - 1)) (if most conf (votesAt n i) then i else c) else c
def confN (n : Node) : List Int := (lastC n (logLast n.log).1).2
def commitN (n : Node) : Node :=
  let c := cGo n (confN n) 70 (logLast n.log).1 n.commit
  let m : Node := { n with commit := c }
  if n.role == 2 && !hasI (confN n) n.id && decide ((lastC m (logLast n.log).1).1 ≤ c) then followN m 0 else m
theorem logLast_1 {l : Log} (h : logB l) : (logLast l).1 = l.start + (l.entries.length : Int) := by
  obtain ⟨h1, h2, h3⟩ := h
  unfold logLast
  split
  · rename_i h4
    simp [h4]
  · simp only [IntKind.wrap_i64]
    omega
theorem logTerm_low {l : Log} {i : Int} (h : i < l.start) : logTerm l i = -1 := by
  unfold logTerm
  have h1 : (i == l.start) = false := by simp; omega
  rw [h1]
  simp [h]
structure CmP (n : Node) (f : Nat) (i c : Int) : Prop where
  f70 : f ≤ 70
  at_ : i = (logLast n.log).1 - (70 - (f : Int))
  eq : cGo n (confN n) f i c = cGo n (confN n) 70 (logLast n.log).1 n.commit
theorem CmP.init (n : Node) : CmP n 70 (logLast n.log).1 n.commit := ⟨by omega, by omega, rfl⟩
theorem CmP.low {n : Node} {f : Nat} {i c : Int} (h : CmP n f i c) (hl : logB n.log) (ht : 0 ≤ n.term_) (hg : (decide (i > c) && logTerm n.log i == n.term_) = true) : n.log.start ≤ i ∧ 10 ≤ f ∧ IntKind.i64.wrap (i - 1) = i - 1 := by
  have h1 := h.at_
  have h2 := logLast_1 hl
  have h3 := hl.2.2
  have h4 := h.f70
  have h5 : n.log.start ≤ i := by
    rcases Int.lt_or_le i n.log.start with h6 | h6
    · simp only [Bool.and_eq_true, beq_iff_eq] at hg
      have := logTerm_low h6
      omega
    · exact h6
  have h7 := hl.1
  have h8 := hl.2.1
  refine ⟨h5, by omega, ?_⟩
  rw [IntKind.wrap_i64]
  omega
theorem CmP.step {n : Node} {f : Nat} {i c : Int} (h : CmP n f i c) (hl : logB n.log) (ht : 0 ≤ n.term_) (hg : (decide (i > c) && logTerm n.log i == n.term_) = true) : CmP n (f - 1) (IntKind.i64.wrap (i - 1)) (if most (confN n) (votesAt n i) then i else c) := by
  obtain ⟨h1, h2, h3⟩ := h.low hl ht hg
  obtain ⟨m, rfl⟩ : ∃ m, f = m + 1 := ⟨f - 1, by omega⟩
  have h4 := h.at_
  have h5 := h.f70
  refine ⟨by omega, by rw [h3]; omega, ?_⟩
  rw [← h.eq, cGo, if_pos hg]
  rfl
theorem CmP.yes {n : Node} {f : Nat} {i c : Int} (h : CmP n f i c) (hl : logB n.log) (ht : 0 ≤ n.term_) (hg : (decide (i > c) && logTerm n.log i == n.term_) = true) (hm : most (confN n) (votesAt n i) = true) : CmP n (f - 1) (IntKind.i64.wrap (i - 1)) i := by
  have := h.step hl ht hg
  rwa [if_pos hm] at this
theorem CmP.no {n : Node} {f : Nat} {i c : Int} (h : CmP n f i c) (hl : logB n.log) (ht : 0 ≤ n.term_) (hg : (decide (i > c) && logTerm n.log i == n.term_) = true) (hm : most (confN n) (votesAt n i) = false) : CmP n (f - 1) (IntKind.i64.wrap (i - 1)) c := by
  have := h.step hl ht hg
  rwa [if_neg (by rw [hm]; simp)] at this
theorem CmP.fin {n : Node} {f : Nat} {i c : Int} (h : CmP n f i c) (hg : (decide (i > c) && logTerm n.log i == n.term_) = false) : cGo n (confN n) 70 (logLast n.log).1 n.commit = c := by
  rw [← h.eq]
  cases f with
  | zero => rfl
  | succ f => rw [cGo, if_neg (by rw [hg]; simp)]
theorem votes_yes {ps : List Peer} {k : Nat} {e : Peer} {i : Int} {l : List Int} (h : ps[k]? = some e) (hm : decide (e.match_ ≥ i) = true) : l ++ ((ps.take k).filter (fun p => decide (p.match_ ≥ i))).map (·.id) ++ [e.id] = l ++ ((ps.take (k + 1)).filter (fun p => decide (p.match_ ≥ i))).map (·.id) := by
  rw [take_snoc h, List.filter_append]
  simp at hm
  simp [hm]
theorem votes_no {ps : List Peer} {k : Nat} {e : Peer} {i : Int} {l : List Int} (h : ps[k]? = some e) (hm : decide (e.match_ ≥ i) = false) : l ++ ((ps.take k).filter (fun p => decide (p.match_ ≥ i))).map (·.id) = l ++ ((ps.take (k + 1)).filter (fun p => decide (p.match_ ≥ i))).map (·.id) := by
  rw [take_snoc h, List.filter_append]
  simp at hm
  simp [hm]
theorem votes_len (ps : List Peer) (k : Nat) (i : Int) : (((ps.take k).filter (fun p => decide (p.match_ ≥ i))).map (·.id)).length ≤ ps.length := by
  rw [List.length_map]
  refine Nat.le_trans (List.length_filter_le _ _) ?_
  rw [List.length_take]
  omega
def room (l : Log) : Bool := decide ((l.entries.length : Int) < 60) && decide ((logLast l).1 < 1000000)
def leadN (n : Node) : Node :=
  let n1 : Node := { n with role := 2, lead := n.id, votes := [], peers := (others (confN n) n.id).map fun i => ⟨i, IntKind.i64.wrap ((logLast n.log).1 + 1), 0, 0⟩ }
  commitN (if room n.log then { n1 with log := { n1.log with entries := n1.log.entries ++ [⟨n.term_, 1, ⟨#[]⟩⟩] } } else n1)
theorem commitN_log (n : Node) : (commitN n).log = n.log ∧ (commitN n).conf = n.conf ∧ ((commitN n).peers = n.peers ∨ (commitN n).peers = []) := by
  unfold commitN
  simp only []
  split
  · exact ⟨rfl, rfl, .inr rfl⟩
  · exact ⟨rfl, rfl, .inl rfl⟩
theorem lead_wrap {l : Log} (h : logB l) : IntKind.i64.wrap ((logLast l).1 + 1) = l.start + (l.entries.length : Int) + 1 := by
  rw [logLast_1 h, IntKind.wrap_i64]
  obtain ⟨h1, h2, h3⟩ := h
  omega
/-- What a leader's node is well-formed by. -/
structure LeadOk (n m : Node) : Prop where
  log : logB m.log
  ok : okToNode m
  peers : ∀ p ∈ m.peers, peerB m.log p
theorem LeadOk.send {n m : Node} (h : LeadOk n m) : logB (commitN m).log ∧ (∀ p ∈ (commitN m).peers, peerB (commitN m).log p) ∧ (commitN m).conf.length ≤ 1048576 ∧ (commitN m).peers.length ≤ 1048576 := by
  obtain ⟨h1, h2, h3⟩ := commitN_log m
  rw [h1, h2]
  refine ⟨h.log, ?_, h.ok.1.1, ?_⟩
  · rcases h3 with h3 | h3 <;> rw [h3]
    · exact h.peers
    · intro p hp
      cases hp
  · rcases h3 with h3 | h3 <;> rw [h3]
    · exact h.ok.2.2.2.1
    · simp
theorem okLead {n : Node} (h : okToNode n) (r l : Int) : okToNode { n with role := r, lead := l, votes := [], peers := [] } := ⟨h.1, h.2.1, ⟨by simp, by simp⟩, ⟨by simp, by simp⟩⟩
def leadPs (n : Node) : List Peer := (others (confN n) n.id).map fun i => ⟨i, IntKind.i64.wrap ((logLast n.log).1 + 1), 0, 0⟩
theorem leadPs_len {n : Node} (h : okToNode n) : (leadPs n).length ≤ 1048576 := by
  rw [leadPs, List.length_map]
  exact Nat.le_trans (others_len _ _) (lastC_len h _)
theorem lead_ok1 {n : Node} (hl : logB n.log) (h : okToNode n) (r l : Int) : LeadOk n { n with role := r, lead := l, votes := [], peers := leadPs n } := by
  refine ⟨hl, ⟨h.1, h.2.1, ⟨by simp, by simp⟩, ⟨leadPs_len h, fun _ _ => trivial⟩⟩, fun p hp => ?_⟩
  simp only [leadPs, List.mem_map] at hp
  obtain ⟨i, _, rfl⟩ := hp
  rw [lead_wrap hl]
  obtain ⟨h1, h2, h3⟩ := hl
  constructor <;> (simp only []; omega)
theorem lead_ok2 {n : Node} (hl : logB n.log) (h : okToNode n) (hr : n.log.entries.length < 60) (r l t : Int) : LeadOk n { n with role := r, lead := l, votes := [], peers := leadPs n, log := { n.log with entries := n.log.entries ++ [⟨t, 1, ⟨#[]⟩⟩] } } := by
  refine ⟨⟨hl.1, hl.2.1, by simp; omega⟩, ⟨h.1, ⟨by simp; omega, fun e he => ?_⟩, ⟨by simp, by simp⟩, ⟨leadPs_len h, fun _ _ => trivial⟩⟩, fun p hp => ?_⟩
  · rcases List.mem_append.1 he with he | he
    · exact h.2.1.2 e he
    · obtain rfl := List.mem_singleton.1 he
      exact Nat.zero_le _
  · simp only [leadPs, List.mem_map] at hp
    obtain ⟨i, _, rfl⟩ := hp
    rw [lead_wrap hl]
    obtain ⟨h1, h2, h3⟩ := hl
    constructor <;> (simp only [List.length_append, List.length_singleton]; omega)
theorem leadN_yes {n : Node} (h : room n.log = true) : leadN n = commitN { n with role := 2, lead := n.id, votes := [], peers := leadPs n, log := { n.log with entries := n.log.entries ++ [⟨n.term_, 1, ⟨#[]⟩⟩] } } := by
  unfold leadN
  simp only [h, if_true]
  rfl
theorem leadN_no {n : Node} (h : room n.log = false) : leadN n = commitN { n with role := 2, lead := n.id, votes := [], peers := leadPs n } := by
  unfold leadN
  simp only [h]
  rfl
def standS (n : Node) : Node := { n with term_ := IntKind.i64.wrap (n.term_ + 1), vote := n.id, role := 1, lead := 0, votes := [n.id] }
def standN (n : Node) : Node × List Message :=
  if most (confN n) [n.id] then (leadN (standS n), (leadN (standS n)).peers.map (sendN (leadN (standS n)))) else
  (standS n, (others (confN n) n.id).map fun i => ⟨1, n.id, i, IntKind.i64.wrap (n.term_ + 1), (logLast n.log).1, (logLast n.log).2, 0, false, [], [], ⟨#[]⟩, false⟩)
theorem okStand {n : Node} (h : okToNode n) : okToNode (standS n) := ⟨h.1, h.2.1, ⟨by simp [standS], by simp⟩, h.2.2.2⟩
theorem standN_yes {n : Node} (h : most (confN n) [n.id] = true) : standN n = (leadN (standS n), (leadN (standS n)).peers.map (sendN (leadN (standS n)))) := by
  unfold standN
  rw [if_pos h]
theorem standN_no {n : Node} (h : most (confN n) [n.id] = false) : standN n = (standS n, (others (confN n) n.id).map fun i => ⟨1, n.id, i, IntKind.i64.wrap (n.term_ + 1), (logLast n.log).1, (logLast n.log).2, 0, false, [], [], ⟨#[]⟩, false⟩) := by
  unfold standN
  rw [if_neg (by rw [h]; simp)]
def tickN (n : Node) (limit : Int) : Node × List Message × Bool :=
  if !(nodeOk n && inR limit 1 20) then (Node.z, [], false) else
  if n.role == 2 then (n, n.peers.map (sendN n), true) else
  if IntKind.i64.wrap (n.clock + 1) < n.limit then ({ n with clock := IntKind.i64.wrap (n.clock + 1) }, [], true) else
  if decide (n.term_ ≥ 100000) || !hasI (confN n) n.id then ({ n with clock := 0, limit := limit }, [], true) else
  ((standN { n with clock := 0, limit := limit }).1, (standN { n with clock := 0, limit := limit }).2, true)
theorem nodeOk_in {n : Node} (h : nodeOk n = true) : logOk n.log = true ∧ inR n.term_ 0 100000 = true ∧ (n.role = 2 → peersOkB n = true) := by
  unfold nodeOk at h
  split at h
  · cases h
  · rename_i h1
    simp only [Bool.or_eq_true, not_or, Bool.not_eq_true, Bool.not_eq_false'] at h1
    refine ⟨h1.2.2.1, h1.2.2.2.1, fun hr => ?_⟩
    rw [hr] at h
    have h2 : n.votes = [] ∧ peersOkB n = true := by simpa using h
    exact h2.2
theorem nodeOk_peers {n : Node} (h : nodeOk n = true) (hl : logB n.log) (hr : n.role = 2) : ∀ p ∈ n.peers, peerB n.log p := by
  intro p hp
  have h1 := (nodeOk_in h).2.2 hr
  unfold peersOkB at h1
  simp only [Bool.and_eq_true] at h1
  have h2 := List.all_eq_true.1 h1.1 p hp
  unfold pkOk inR at h2
  rw [lead_wrap hl] at h2
  simp only [Bool.and_eq_true, decide_eq_true_eq] at h2
  exact ⟨h2.1.1, h2.1.2⟩
theorem tick_bad {n : Node} {limit : Int} (h : (nodeOk n && inR limit 1 20) = false) : tickN n limit = (Node.z, [], false) := by
  unfold tickN
  rw [if_pos (by rw [h]; rfl)]
theorem tick_lead {n : Node} {limit : Int} (h : (nodeOk n && inR limit 1 20) = true) (hr : (n.role == 2) = true) : tickN n limit = (n, n.peers.map (sendN n), true) := by
  unfold tickN
  rw [if_neg (by rw [h]; simp), if_pos hr]
theorem tick_wait {n : Node} {limit : Int} (h : (nodeOk n && inR limit 1 20) = true) (hr : (n.role == 2) = false) (hc : decide (IntKind.i64.wrap (n.clock + 1) < n.limit) = true) : tickN n limit = ({ n with clock := IntKind.i64.wrap (n.clock + 1) }, [], true) := by
  unfold tickN
  rw [if_neg (by rw [h]; simp), if_neg (by rw [hr]; simp), if_pos (by simpa using hc)]
theorem tick_stay {n : Node} {limit : Int} (h : (nodeOk n && inR limit 1 20) = true) (hr : (n.role == 2) = false) (hc : decide (IntKind.i64.wrap (n.clock + 1) < n.limit) = false) (hs : (decide (n.term_ ≥ 100000) || !hasI (confN n) n.id) = true) : tickN n limit = ({ n with clock := 0, limit := limit }, [], true) := by
  unfold tickN
  rw [if_neg (by rw [h]; simp), if_neg (by rw [hr]; simp), if_neg (by simpa using hc), if_pos hs]
theorem tick_go {n : Node} {limit : Int} (h : (nodeOk n && inR limit 1 20) = true) (hr : (n.role == 2) = false) (hc : decide (IntKind.i64.wrap (n.clock + 1) < n.limit) = false) (hs : (decide (n.term_ ≥ 100000) || !hasI (confN n) n.id) = false) :
    tickN n limit = ((standN { n with clock := 0, limit := limit }).1, (standN { n with clock := 0, limit := limit }).2, true) := by
  unfold tickN
  rw [if_neg (by rw [h]; simp), if_neg (by rw [hr]; simp), if_neg (by simpa using hc), if_neg (by rw [hs]; simp)]
def dst (a : List Int) (c x : Int) : Int := if hasI a x then c else IntKind.i64.wrap (c + 1)
def diffs (a b : List Int) (c : Int) : Int := b.foldl (dst a) c
def nextConf (was now : List Int) : Bool := IntKind.i64.wrap (diffs was now 0 + diffs now was 0) == 1
def mayTurn (n : Node) (data : ByteArray) : Bool :=
  (readConf data).2 && logTerm n.log n.commit == n.term_ && decide ((lastC n (logLast n.log).1).1 ≤ n.commit) && nextConf (confN n) (readConf data).1
def pickP (n : Node) (i : Int) : Peer := match n.peers.find? (fun p => p.id == i) with | none => ⟨i, IntKind.i64.wrap ((logLast n.log).1 + 1), 0, 0⟩ | some p => p
def newPeers (n : Node) (conf : List Int) : List Peer := (others conf n.id).map (pickP n)
theorem idxF_neg {α : Type} {p : α → Bool} {a : List α} (h : idxF p a < 0) : a.find? p = none := by
  unfold idxF at h
  split at h
  · rename_i hh
    rw [List.findIdx?_eq_none_iff] at hh
    rw [List.find?_eq_none]
    intro x hx
    simp [hh x hx]
  · omega
theorem idxF_find {α : Type} {p : α → Bool} {a : List α} (h : ¬ idxF p a < 0) : ∃ (q : Nat) (e : α), idxF p a = (q : Int) ∧ a[q]? = some e ∧ a.find? p = some e := by
  unfold idxF at h ⊢
  split at h
  · omega
  · rename_i q hq
    rw [List.findIdx?_eq_some_iff_getElem] at hq
    obtain ⟨h1, h2, h3⟩ := hq
    refine ⟨q, a[q], rfl, List.getElem?_eq_getElem h1, ?_⟩
    rw [List.find?_eq_some_iff_getElem]
    exact ⟨h2, q, h1, rfl, fun j hj => by simpa using h3 j hj⟩
def confText (a : List Int) : ByteArray × Bool := if confOk a then (bytesOf (a.map fun x => IntKind.u8.wrap x), true) else (⟨#[]⟩, false)
def propS (n : Node) (kind : Int) (data : ByteArray) : Node :=
  let o : Node := { n with log := { n.log with entries := n.log.entries ++ [⟨n.term_, kind, data⟩] } }
  commitN (if kind == 2 then { o with peers := newPeers n (confN o) } else o)
def proposeN (n : Node) (kind : Int) (data : ByteArray) : Node × List Message × Int × Bool :=
  if !(nodeOk n && n.role == 2 && entOk ⟨n.term_, kind, data⟩ && room n.log) then (Node.z, [], 0, false) else
  if kind == 2 && !mayTurn n data then (Node.z, [], 0, false) else
  (propS n kind data, (propS n kind data).peers.map (sendN (propS n kind data)), IntKind.i64.wrap ((logLast n.log).1 + 1), true)
theorem prop_bad {n : Node} {k : Int} {d : ByteArray} (h : (nodeOk n && n.role == 2 && entOk ⟨n.term_, k, d⟩ && room n.log) = false) : proposeN n k d = (Node.z, [], 0, false) := by
  unfold proposeN
  rw [if_pos (by rw [h]; rfl)]
theorem prop_no {n : Node} {k : Int} {d : ByteArray} (h : (nodeOk n && n.role == 2 && entOk ⟨n.term_, k, d⟩ && room n.log) = true) (h2 : (k == 2 && !mayTurn n d) = true) : proposeN n k d = (Node.z, [], 0, false) := by
  unfold proposeN
  rw [if_neg (by rw [h]; simp), if_pos h2]
theorem prop_yes {n : Node} {k : Int} {d : ByteArray} (h : (nodeOk n && n.role == 2 && entOk ⟨n.term_, k, d⟩ && room n.log) = true) (h2 : (k == 2 && !mayTurn n d) = false) :
    proposeN n k d = (propS n k d, (propS n k d).peers.map (sendN (propS n k d)), IntKind.i64.wrap ((logLast n.log).1 + 1), true) := by
  unfold proposeN
  rw [if_neg (by rw [h]; simp), if_neg (by rw [h2]; simp)]
def outP (n : Node) (k : Int) (d : ByteArray) : Node := { n with log := { n.log with entries := n.log.entries ++ [⟨n.term_, k, d⟩] } }
theorem propS_conf {n : Node} {k : Int} {d : ByteArray} (h : (k == 2) = true) : propS n k d = commitN { outP n k d with peers := newPeers n (confN (outP n k d)) } := by
  unfold propS
  simp only [h, if_true]
  rfl
theorem propS_plain {n : Node} {k : Int} {d : ByteArray} (h : (k == 2) = false) : propS n k d = commitN (outP n k d) := by
  unfold propS
  simp only [h]
  rfl
theorem outP_ok {n : Node} {k : Int} {d : ByteArray} (h : okToNode n) (hr : n.log.entries.length < 60) (hd : d.size ≤ 1048576) : okToNode (outP n k d) := by
  refine ⟨h.1, ⟨by simp [outP]; omega, fun e he => ?_⟩, h.2.2⟩
  rcases List.mem_append.1 he with he | he
  · exact h.2.1.2 e he
  · obtain rfl := List.mem_singleton.1 he
    exact hd
theorem outP_log {n : Node} {k : Int} {d : ByteArray} (hl : logB n.log) (hr : n.log.entries.length < 60) : logB (outP n k d).log := ⟨hl.1, hl.2.1, by simp [outP]; omega⟩
theorem peerB_up {n : Node} {k : Int} {d : ByteArray} {p : Peer} (h : peerB n.log p) : peerB (outP n k d).log p := by
  refine ⟨h.1, ?_⟩
  have := h.2
  simp [outP]
  omega
theorem prop_ok1 {n : Node} {k : Int} {d : ByteArray} (hl : logB n.log) (h : okToNode n) (hr : n.log.entries.length < 60) (hd : d.size ≤ 1048576) (hp : ∀ p ∈ n.peers, peerB n.log p) : LeadOk n (outP n k d) :=
  ⟨outP_log hl hr, outP_ok h hr hd, fun p hm => peerB_up (hp p hm)⟩
theorem prop_ok2 {n : Node} {k : Int} {d : ByteArray} (hl : logB n.log) (h : okToNode n) (hr : n.log.entries.length < 60) (hd : d.size ≤ 1048576) (hp : ∀ p ∈ n.peers, peerB n.log p) : LeadOk n { outP n k d with peers := newPeers n (confN (outP n k d)) } := by
  have ho := outP_ok (k := k) (d := d) h hr hd
  refine ⟨outP_log hl hr, ⟨ho.1, ho.2.1, ho.2.2.1, ⟨?_, fun _ _ => trivial⟩⟩, fun p hm => ?_⟩
  · simp only [newPeers, List.length_map]
    exact Nat.le_trans (others_len _ _) (lastC_len ho _)
  · simp only [newPeers, List.mem_map] at hm
    obtain ⟨i, _, rfl⟩ := hm
    unfold pickP
    split
    · rw [lead_wrap hl]
      obtain ⟨h1, h2, h3⟩ := hl
      refine ⟨by simp only []; omega, ?_⟩
      simp [outP]
      omega
    · rename_i q hq
      exact peerB_up (hp q (List.mem_of_find?_eq_some hq))
theorem take_min {α : Type} {l : List α} {i n : Nat} (h1 : i ≤ l.length) (h2 : i ≤ n) (h3 : i < l.length → n ≤ i) : l.take i = l.take n := by
  rcases Nat.lt_or_ge i l.length with h | h
  · rw [show i = n from Nat.le_antisymm h2 (h3 h)]
  · rw [List.take_of_length_le h, List.take_of_length_le (by omega)]
/-! ### what is drawn -/
def hashStep (h c : Int) : Int := andI (IntKind.i64.wrap (IntKind.i64.wrap (IntKind.i64.wrap (h * 131) + IntKind.i64.wrap c) + 7)) 1073741823
def cur0 (code : List Int) : l01Cur := ⟨code, 0, (code.take 4000).foldl hashStep (IntKind.i64.wrap (37401 + (code.length : Int)))⟩
def byteH (c : l01Cur) : Int := IntKind.i64.wrap (IntKind.i64.wrap (c.h * 6364136223846793005) + 1442695040888963407)
def byteX (c : l01Cur) : Int := andI (xorI (shrI (byteH c) 33) (shrI (byteH c) 45)) 255
def byteN (c : l01Cur) : Int × l01Cur :=
  if c.i < (c.b.length : Int) then (andI (IntKind.i64.wrap (byteX c + IntKind.i64.wrap (c.b.getD c.i.toNat 0))) 255, ⟨c.b, IntKind.i64.wrap (c.i + 1), byteH c⟩) else (byteX c, ⟨c.b, c.i, byteH c⟩)
def curOk (c : l01Cur) : Prop := 0 ≤ c.i ∧ c.i ≤ (c.b.length : Int) ∧ c.b.length ≤ maxLen
theorem byteN_ok {c : l01Cur} (h : curOk c) : curOk (byteN c).2 := by
  obtain ⟨h1, h2, h3⟩ := h
  simp only [maxLen] at h3
  unfold byteN
  split
  · refine ⟨?_, ?_, h3⟩ <;> (simp only []; rw [IntKind.wrap_i64]; omega)
  · exact ⟨h1, h2, h3⟩
theorem andI255 (x : Int) : 0 ≤ andI x 255 ∧ andI x 255 ≤ 255 := by
  unfold andI
  have h1 : (BitVec.ofInt 64 x &&& BitVec.ofInt 64 255).toNat ≤ 255 := by
    rw [BitVec.toNat_and]
    have : (BitVec.ofInt 64 255).toNat = 2 ^ 8 - 1 := by decide
    rw [this, Nat.and_two_pow_sub_one_eq_mod]
    omega
  rw [IntKind.wrap_i64]
  omega
theorem byteN_in (c : l01Cur) : 0 ≤ (byteN c).1 ∧ (byteN c).1 ≤ 255 := by
  unfold byteN
  split
  · exact andI255 _
  · exact andI255 _
def belowN (c : l01Cur) (n : Int) : Int × l01Cur :=
  if n ≤ 0 then (0, c) else if n ≤ 256 then (Int.tmod (byteN c).1 n, (byteN c).2) else
  (Int.tmod (IntKind.i64.wrap (IntKind.i64.wrap (IntKind.i64.wrap (IntKind.i64.wrap ((byteN c).1 * 16777216) + IntKind.i64.wrap ((byteN (byteN c).2).1 * 65536)) + IntKind.i64.wrap ((byteN (byteN (byteN c).2).2).1 * 256)) + (byteN (byteN (byteN (byteN c).2).2).2).1)) n,
    (byteN (byteN (byteN (byteN c).2).2).2).2)
theorem belowN_ok {c : l01Cur} (h : curOk c) (n : Int) : curOk (belowN c n).2 := by
  unfold belowN
  split
  · exact h
  · split
    · exact byteN_ok h
    · exact byteN_ok (byteN_ok (byteN_ok (byteN_ok h)))
theorem belowN_in (c : l01Cur) {n : Int} (h : 0 < n) : 0 ≤ (belowN c n).1 ∧ (belowN c n).1 < n := by
  unfold belowN
  rw [if_neg (by omega)]
  split
  · have := byteN_in c
    exact ⟨Int.tmod_nonneg _ this.1, Int.tmod_lt_of_pos _ h⟩
  · have h1 := byteN_in c
    have h2 := byteN_in (byteN c).2
    have h3 := byteN_in (byteN (byteN c).2).2
    have h4 := byteN_in (byteN (byteN (byteN c).2).2).2
    generalize (byteN c).1 = a at *
    generalize (byteN (byteN c).2).1 = b at *
    generalize (byteN (byteN (byteN c).2).2).1 = d at *
    generalize (byteN (byteN (byteN (byteN c).2).2).2).1 = e at *
    refine ⟨Int.tmod_nonneg _ ?_, Int.tmod_lt_of_pos _ h⟩
    simp only [IntKind.wrap_i64]
    omega
def places : Nat → l01Cur → List Int × l01Cur
  | 0, c => ([], c)
  | n + 1, c => ((belowN c 10000).1 :: (places n (belowN c 10000).2).1, (places n (belowN c 10000).2).2)
theorem places_len : ∀ (n : Nat) (c : l01Cur), (places n c).1.length = n
  | 0, _ => rfl
  | n + 1, c => by simp [places, places_len n]
theorem places_in : ∀ (n : Nat) (c : l01Cur), ∀ x ∈ (places n c).1, 0 ≤ x ∧ x < 10000
  | 0, _, x, h => by simp [places] at h
  | n + 1, c, x, h => by
    simp only [places, List.mem_cons] at h
    rcases h with rfl | h
    · exact belowN_in c (by omega)
    · exact places_in n _ x h
def drawPlaces (code : List Int) : List Int := (places 12 (byteN (cur0 code)).2).1
theorem cur0_ok {code : List Int} (h : code.length ≤ maxLen) : curOk (byteN (cur0 code)).2 ∧ curOk (cur0 code) := by
  have : curOk (cur0 code) := ⟨by simp [cur0], by simp [cur0], h⟩
  exact ⟨byteN_ok this, this⟩
def PlP (code : List Int) (i : Nat) (l : List Int) (c : l01Cur) : Prop := curOk c ∧ l.length = i ∧ i ≤ 12 ∧ l ++ (places (12 - i) c).1 = drawPlaces code
theorem PlP.init {code : List Int} (h : code.length ≤ maxLen) : PlP code 0 [] (byteN (cur0 code)).2 := ⟨(cur0_ok h).1, rfl, by omega, rfl⟩
theorem PlP.step {code l : List Int} {i : Nat} {c : l01Cur} (h : PlP code i l c) (hi : i < 12) : PlP code (i + 1) (l ++ [(belowN c 10000).1]) (belowN c 10000).2 := by
  obtain ⟨h1, h2, h3, h4⟩ := h
  refine ⟨belowN_ok h1 _, by simp [h2], by omega, ?_⟩
  rw [← h4, show 12 - i = (12 - (i + 1)) + 1 by omega, places]
  simp
theorem PlP.fin {code l : List Int} {i : Nat} {c : l01Cur} (h : PlP code i l c) (hi : 12 ≤ i) : l = drawPlaces code := by
  obtain ⟨h1, h2, h3, h4⟩ := h
  rw [← h4, show 12 - i = 0 by omega]
  simp [places]
theorem draw_at (code : List Int) (i : Nat) : 0 ≤ (drawPlaces code).getD i 0 ∧ (drawPlaces code).getD i 0 < 10000 := by
  rw [List.getD_eq_getElem?_getD]
  cases h : (drawPlaces code)[i]? with
  | none => simp
  | some x => exact places_in 12 _ x (List.mem_of_getElem? h)
theorem draw_len (code : List Int) : (drawPlaces code).length = 12 := places_len 12 _
/-! ### a node alone -/
def idN (code : List Int) : Int := IntKind.i64.wrap (1 + Int.tmod ((drawPlaces code).getD 0 0) 4)
def four (i : Int) : Prop := i = 1 ∨ i = 2 ∨ i = 3 ∨ i = 4
theorem idN_in (code : List Int) : four (idN code) := by
  have := draw_at code 0
  unfold four idN
  rw [IntKind.wrap_i64, Int.tmod_eq_emod_of_nonneg this.1]
  omega
def n0 (i : Int) : Node := ⟨i, 0, 0, 0, 0, [i], ⟨0, 0, []⟩, 0, 0, 20, [], []⟩
def n1 (i : Int) : Node := ⟨i, 0, 0, 0, 0, [i], ⟨0, 0, []⟩, 0, 0, 1, [], []⟩
def nA (i : Int) : Node := ⟨i, 1, i, 2, i, [i], ⟨0, 0, [⟨1, 1, ⟨#[]⟩⟩]⟩, 1, 0, 5, [], []⟩
def someT : ByteArray := ⟨#[115, 111, 109, 101]⟩
def nB (i : Int) : Node := ⟨i, 1, i, 2, i, [i], ⟨0, 0, [⟨1, 1, ⟨#[]⟩⟩, ⟨1, 3, someT⟩]⟩, 2, 0, 5, [], []⟩
def oth (i : Int) : Int := IntKind.i64.wrap (Int.tmod i 4 + 1)
def two (i : Int) : List Int := if decide (i > oth i) then [oth i, i] else [i, oth i]
def txt (a : List Int) : ByteArray := bytesOf (a.map fun x => IntKind.u8.wrap x)
def nC (i : Int) : Node := ⟨i, 1, i, 2, i, [i], ⟨0, 0, [⟨1, 1, ⟨#[]⟩⟩, ⟨1, 3, someT⟩, ⟨1, 2, txt (two i)⟩]⟩, 2, 0, 5, [], [⟨oth i, 3, 0, 0⟩]⟩
def nS (i : Int) : Node := ⟨i, 1, i, 2, i, [i], ⟨1, 1, [⟨1, 3, someT⟩, ⟨1, 2, txt (two i)⟩]⟩, 2, 0, 5, [], [⟨oth i, 3, 0, 0⟩]⟩
theorem new_0 {i : Int} (h : four i) : nodeNew i [i] = (n0 i, true) := by rcases h with rfl | rfl | rfl | rfl <;> kernel_rfl
theorem tick_1 {i : Int} (h : four i) : tickN (n1 i) 5 = (nA i, [], true) := by rcases h with rfl | rfl | rfl | rfl <;> kernel_rfl
theorem prop_A {i : Int} (h : four i) : proposeN (nA i) 3 someT = (nB i, [], 2, true) := by rcases h with rfl | rfl | rfl | rfl <;> kernel_rfl
theorem prop_B {i : Int} (h : four i) : proposeN (nB i) 2 (txt (two i)) = (nC i, [sendN (nC i) ⟨oth i, 3, 0, 0⟩], 3, true) := by rcases h with rfl | rfl | rfl | rfl <;> kernel_rfl
theorem prop_C {i : Int} (h : four i) : proposeN (nC i) 2 (txt [i]) = (Node.z, [], 0, false) := by rcases h with rfl | rfl | rfl | rfl <;> kernel_rfl
theorem settle_C {i : Int} (h : four i) : settle (nC i) 1 = (nS i, true) := by rcases h with rfl | rfl | rfl | rfl <;> kernel_rfl
theorem text_two {i : Int} (h : four i) : confText (two i) = (txt (two i), true) := by rcases h with rfl | rfl | rfl | rfl <;> kernel_rfl
theorem text_one {i : Int} (h : four i) : confText [i] = (txt [i], true) := by rcases h with rfl | rfl | rfl | rfl <;> kernel_rfl
theorem conf_C {i : Int} (h : four i) : confN (nC i) = two i := by rcases h with rfl | rfl | rfl | rfl <;> kernel_rfl
theorem at_C {i : Int} (h : four i) : (lastC (nC i) 2).2 = [i] := by rcases h with rfl | rfl | rfl | rfl <;> kernel_rfl
theorem ok_S {i : Int} (h : four i) : nodeOk (nS i) = true := by rcases h with rfl | rfl | rfl | rfl <;> kernel_rfl
def okNB (n : Node) : Bool := decide (n.conf.length ≤ 1048576) && (decide (n.log.entries.length ≤ 1048576) && (n.log.entries.all (fun e => decide (e.data.size ≤ 1048576)) && (decide (n.votes.length ≤ 1048576) && decide (n.peers.length ≤ 1048576))))
theorem okNB_ok {n : Node} (h : okNB n = true) : okToNode n := by
  unfold okNB at h
  simp only [Bool.and_eq_true, decide_eq_true_eq] at h
  obtain ⟨h1, h2, h3, h4, h5⟩ := h
  exact ⟨⟨h1, fun _ _ => trivial⟩, ⟨h2, fun e he => by show e.data.size ≤ 1048576; simpa using List.all_eq_true.1 h3 e he⟩, ⟨h4, fun _ _ => trivial⟩, ⟨h5, fun _ _ => trivial⟩⟩
theorem ok_n1 {i : Int} (h : four i) : okToNode (n1 i) := okNB_ok (by rcases h with rfl | rfl | rfl | rfl <;> kernel_rfl)
theorem ok_nA {i : Int} (h : four i) : okToNode (nA i) := okNB_ok (by rcases h with rfl | rfl | rfl | rfl <;> kernel_rfl)
theorem ok_nB {i : Int} (h : four i) : okToNode (nB i) := okNB_ok (by rcases h with rfl | rfl | rfl | rfl <;> kernel_rfl)
theorem ok_nC {i : Int} (h : four i) : okToNode (nC i) := okNB_ok (by rcases h with rfl | rfl | rfl | rfl <;> kernel_rfl)
theorem ok_nS {i : Int} (h : four i) : okToNode (nS i) := okNB_ok (by rcases h with rfl | rfl | rfl | rfl <;> kernel_rfl)
theorem txt_len {i : Int} (h : four i) : (txt (two i)).size ≤ 1048576 ∧ (txt [i]).size ≤ 1048576 ∧ (two i).length ≤ 1048576 := by
  have h1 : (decide ((txt (two i)).size ≤ 1048576) && (decide ((txt [i]).size ≤ 1048576) && decide ((two i).length ≤ 1048576))) = true := by rcases h with rfl | rfl | rfl | rfl <;> kernel_rfl
  simpa using h1
theorem two_yes {i : Int} (h : decide (i > oth i) = true) : [oth i, i] = two i := by
  unfold two
  rw [if_pos h]
theorem two_no {i : Int} (h : decide (i > oth i) = false) : [i, oth i] = two i := by
  unfold two
  rw [if_neg (by rw [h]; simp)]
end Go.Proofs.Ytbiocicogminlaa.Y
