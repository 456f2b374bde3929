import Derived.Test.YthkiegfcahigkaaEng15
namespace Go.Proofs.Ythkiegfcahigkaa.Y
open Go Go.RowKit Go.Eng

structure Entry where
  term : Int
  kind : Int
  data : ByteArray
structure Applied where
  node : Int
  term : Int
  index : Int
  entry : Entry
def Entry.c (e : Entry) : List T := [.v (.int .i64 e.term), .v (.int .i64 e.kind), .v (.string e.data)]
theorem Entry.len (e : Entry) : e.c.length = 3 := rfl
def Entry.z : Entry := ⟨0, 0, ⟨#[]⟩⟩
def Entry.vs (e : Entry) : List Value := [.int .i64 e.term, .int .i64 e.kind, .string e.data]
def Entry.eq (x y : Entry) : Bool := x.term == y.term && (x.kind == y.kind && x.data.toList == y.data.toList)
def Applied.c (e : Applied) : List T := [.v (.int .i64 e.node), .v (.int .i64 e.term), .v (.int .i64 e.index), .v (.int .i64 e.entry.term), .v (.int .i64 e.entry.kind), .v (.string e.entry.data)]
theorem Applied.len (e : Applied) : e.c.length = 6 := rfl
def Applied.z : Applied := ⟨0, 0, 0, Entry.z⟩

def szEntry (e : Entry) (left : Int) : Int := if IntKind.i64.wrap (left - e.data.size) < 0 then -1 else IntKind.i64.wrap (left - e.data.size)
def szApplied (e : Applied) (left : Int) : Int := if szEntry e.entry left < 0 then -1 else szEntry e.entry left
def szL {α : Type} (f : α → Int → Int) : List α → Int → Int
  | [], l => l
  | x :: r, l => if f x l < 0 then -1 else szL f r (f x l)
def szS {α : Type} (f : α → Int → Int) (a : List α) (left : Int) : Int :=
  if IntKind.i64.wrap (left - a.length) < 0 then -1 else szL f a (IntKind.i64.wrap (left - a.length))
def eqS {α : Type} (f : α → α → Bool) : List α → List α → Bool
  | [], [] => true
  | x :: r, y :: s => if f x y then eqS f r s else false
  | _, _ => false
theorem eqS_refl {α : Type} {f : α → α → Bool} (h : ∀ x, f x x = true) : ∀ a : List α, eqS f a a = true
  | [] => rfl
  | x :: r => by rw [eqS, h x, if_pos rfl, eqS_refl h r]
theorem szS_len {α : Type} {f : α → Int → Int} {a : List α} (hl : a.length ≤ maxLen) (h : 0 ≤ szS f a 1048576) : a.length ≤ 1048576 := by
  unfold szS at h
  split at h
  · omega
  · rename_i h2
    rw [IntKind.wrap_i64] at h2
    simp only [maxLen] at hl
    omega
theorem eqS_ne {α : Type} {f : α → α → Bool} : ∀ {a b : List α}, a.length ≠ b.length → eqS f a b = false
  | [], [], h => absurd rfl h
  | [], _ :: _, _ => rfl
  | _ :: _, [], _ => rfl
  | x :: r, y :: s, h => by
    simp only [eqS]
    rw [eqS_ne (by simpa using h)]
    simp
def eqEntry (x y : Entry) : Bool := x.term == y.term && (x.kind == y.kind && x.data.toList == y.data.toList)
def eqApplied (x y : Applied) : Bool := x.node == y.node && (x.term == y.term && (x.index == y.index && eqEntry x.entry y.entry))
theorem eqEntry_refl (x : Entry) : eqEntry x x = true := by simp [eqEntry]
theorem eqApplied_refl (x : Applied) : eqApplied x x = true := by simp [eqApplied, eqEntry_refl]
def pairs {α : Type} (bad : α → α → Bool) : List α → List α → Bool
  | _, [] => true
  | pre, x :: r => if pre.any (bad x) then false else pairs bad (pre ++ [x]) r
theorem take_snoc {α : Type} {l : List α} {i : Nat} {e : α} (h : l[i]? = some e) : l.take (i + 1) = l.take i ++ [e] := by
  obtain ⟨h1, h2⟩ := List.getElem?_eq_some_iff.1 h
  rw [List.take_succ_eq_append_getElem h1, h2]
def badApplied (x y : Applied) : Bool := x.index == y.index && !Entry.eq x.entry y.entry
end Go.Proofs.Ythkiegfcahigkaa.Y
