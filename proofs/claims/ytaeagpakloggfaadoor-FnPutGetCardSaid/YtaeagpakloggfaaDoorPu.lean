import Derived.Test.YtaeagpakloggfaaDoorEng16
import Derived.Test.YtaeagpakloggfaaDoorEng42
import Derived.Test.YtaeagpakloggfaaDoorIt
import Derived.Sort.Walk0
import Derived.Laws.Strings
namespace Go.Proofs.YtaeagpakloggfaaDoor.Y
open Go Go.RowKit Go.Eng

def okSl {α : Type} (ok : α → Prop) (l : List α) : Prop := l.length ≤ 1048576 ∧ ∀ x ∈ l, ok x
theorem take_snoc {α : Type} {l : List α} {i : Nat} {e : α} (h : l[i]? = some e) : l.take (i + 1) = l.take i ++ [e] := by
  obtain ⟨h1, h2⟩ := List.getElem?_eq_some_iff.1 h
  rw [List.take_succ_eq_append_getElem h1, h2]
def inc (k : Int) : Int := IntKind.i64.wrap (k + 1)
def dgs (n : Nat) (out : ByteArray) : ByteArray :=
  if h : n = 0 then out else dgs (n / 10) (bytesOf [IntKind.u8.wrap (IntKind.i64.wrap (48 + Int.tmod (n : Int) 10))] ++ out)
termination_by n
decreasing_by omega
theorem dgs_step {n : Int} {out : ByteArray} (h : n > 0) : dgs n.toNat out = dgs (Int.tdiv n 10).toNat (bytesOf [IntKind.u8.wrap (IntKind.i64.wrap (48 + Int.tmod n 10))] ++ out) := by
  rw [dgs, dif_neg (by omega)]
  have e : ((n.toNat : Nat) : Int) = n := by omega
  rw [e]
  congr 1
  rw [Int.tdiv_eq_ediv_of_nonneg (by omega)]
  omega
theorem bytesOf_one (x : Int) : (bytesOf [x]).size = 1 := rfl
theorem mt_dec {n : Int} {s : Nat} (h0 : 0 ≤ n) (hp : n * 10 ^ s ≤ 9223372036854775807) (h : decide (n > 0) = true) : (IntKind.i64.wrap (Int.tdiv n 10)).toNat < n.toNat := by
  have hn : n > 0 := by simpa using h
  have hpos : (0 : Int) < 10 ^ s := Int.pow_pos (by omega)
  have : n * 1 ≤ n * 10 ^ s := Int.mul_le_mul_of_nonneg_left (by omega) (by omega)
  rw [IntKind.wrap_i64, Int.tdiv_eq_ediv_of_nonneg h0]
  omega
theorem mt_step {n k : Int} {out : ByteArray} (h0 : 0 ≤ n) (hp : n * 10 ^ out.size ≤ 9223372036854775807) (hr : dgs n.toNat out = dgs k.toNat ⟨#[]⟩) (h : decide (n > 0) = true) :
    0 ≤ IntKind.i64.wrap (Int.tdiv n 10) ∧ (bytesOf [IntKind.u8.wrap (IntKind.i64.wrap (48 + Int.tmod n 10))] ++ out).size ≤ 60 ∧
      IntKind.i64.wrap (Int.tdiv n 10) * 10 ^ (bytesOf [IntKind.u8.wrap (IntKind.i64.wrap (48 + Int.tmod n 10))] ++ out).size ≤ 9223372036854775807 ∧
      dgs (IntKind.i64.wrap (Int.tdiv n 10)).toNat (bytesOf [IntKind.u8.wrap (IntKind.i64.wrap (48 + Int.tmod n 10))] ++ out) = dgs k.toNat ⟨#[]⟩ := by
  have hn : n > 0 := by simpa using h
  have hpos : (0 : Int) < 10 ^ out.size := Int.pow_pos (by omega)
  have hle : (10 : Int) ^ out.size ≤ 9223372036854775807 := by
    have : (10 : Int) ^ out.size * 1 ≤ 10 ^ out.size * n := Int.mul_le_mul_of_nonneg_left (by omega) (by omega)
    rw [Int.mul_comm (10 ^ out.size) n] at this
    omega
  have hs : out.size < 19 := by
    rcases Nat.lt_or_ge out.size 19 with h1 | h1
    · exact h1
    · exfalso
      have h2 : (10 : Nat) ^ 19 ≤ 10 ^ out.size := Nat.pow_le_pow_right (by omega) h1
      have h3 : ((10 ^ out.size : Nat) : Int) ≤ 9223372036854775807 := by simpa using hle
      omega
  have hnM : n ≤ 9223372036854775807 := by
    have : n * 1 ≤ n * 10 ^ out.size := Int.mul_le_mul_of_nonneg_left (by omega) (by omega)
    omega
  have hw : IntKind.i64.wrap (Int.tdiv n 10) = n / 10 := by
    rw [IntKind.wrap_i64, Int.tdiv_eq_ediv_of_nonneg h0]
    omega
  have hsz : (bytesOf [IntKind.u8.wrap (IntKind.i64.wrap (48 + Int.tmod n 10))] ++ out).size = out.size + 1 := by
    rw [ByteArray.size_append, bytesOf_one]
    omega
  rw [hw, hsz]
  refine ⟨by omega, by omega, ?_, ?_⟩
  · rw [Int.pow_succ, Int.mul_comm (10 ^ out.size) 10, ← Int.mul_assoc]
    have : n / 10 * 10 * 10 ^ out.size ≤ n * 10 ^ out.size := Int.mul_le_mul_of_nonneg_right (by omega) (by omega)
    omega
  · rw [← hr, dgs_step hn, Int.tdiv_eq_ediv_of_nonneg h0]
structure Session where
  token : Int
  last : Int
  reply : ByteArray
def Session.c (e : Session) : List T := [.v (.int .i64 e.token), .v (.int .i64 e.last), .v (.string e.reply)]
theorem Session.len (e : Session) : e.c.length = 3 := rfl
def Session.z : Session := ⟨0, 0, ⟨#[]⟩⟩
def Session.vs (e : Session) : List Value := [.int .i64 e.token, .int .i64 e.last, .string e.reply]
def eqSession (x y : Session) : Bool := x.token == y.token && (x.last == y.last && (x.reply.toList == y.reply.toList))
def szSession (e : Session) (left : Int) : Int := if IntKind.i64.wrap (left - e.reply.size) < 0 then -1 else IntKind.i64.wrap (left - e.reply.size)
structure Item where
  key : ByteArray
  val : ByteArray
  ver : Int
def Item.c (e : Item) : List T := [.v (.string e.key), .v (.string e.val), .v (.int .i64 e.ver)]
theorem Item.len (e : Item) : e.c.length = 3 := rfl
def Item.z : Item := ⟨⟨#[]⟩, ⟨#[]⟩, 0⟩
def Item.vs (e : Item) : List Value := [.string e.key, .string e.val, .int .i64 e.ver]
def eqItem (x y : Item) : Bool := x.key.toList == y.key.toList && (x.val.toList == y.val.toList && (x.ver == y.ver))
theorem eqItem_refl (x : Item) : eqItem x x = true := by simp [eqItem]
structure Keep where
  sessions : List Session
  items : List Item
def Keep.c (e : Keep) : List T := [sl 3 Session.c e.sessions, sl 3 Item.c e.items]
theorem Keep.len (e : Keep) : e.c.length = 2 := rfl
def Keep.z : Keep := ⟨[], []⟩
structure Command where
  op : Int
  token : Int
  seq : Int
  key : ByteArray
  val : ByteArray
  ver : Int
def Command.c (e : Command) : List T := [.v (.int .i64 e.op), .v (.int .i64 e.token), .v (.int .i64 e.seq), .v (.string e.key), .v (.string e.val), .v (.int .i64 e.ver)]
theorem Command.len (e : Command) : e.c.length = 6 := rfl
def Command.z : Command := ⟨0, 0, 0, ⟨#[]⟩, ⟨#[]⟩, 0⟩
def Command.vs (e : Command) : List Value := [.int .i64 e.op, .int .i64 e.token, .int .i64 e.seq, .string e.key, .string e.val, .int .i64 e.ver]
def eqCommand (x y : Command) : Bool := x.op == y.op && (x.token == y.token && (x.seq == y.seq && (x.key.toList == y.key.toList && (x.val.toList == y.val.toList && (x.ver == y.ver)))))
structure Entry where
  term_ : Int
  kind : Int
  data : ByteArray
def Entry.c (e : Entry) : List T := [.v (.int .i64 e.term_), .v (.int .i64 e.kind), .v (.string e.data)]
theorem Entry.len (e : Entry) : e.c.length = 3 := rfl
def Entry.z : Entry := ⟨0, 0, ⟨#[]⟩⟩
def Entry.vs (e : Entry) : List Value := [.int .i64 e.term_, .int .i64 e.kind, .string e.data]
structure l01Cur where
  b : List Int
  i : Int
  h : Int
def l01Cur.c (e : l01Cur) : List T := [sl 1 cU e.b, .v (.int .i64 e.i), .v (.int .i64 e.h)]
theorem l01Cur.len (e : l01Cur) : e.c.length = 3 := rfl
def l01Cur.z : l01Cur := ⟨[], 0, 0⟩
structure scan where
  text : ByteArray
  at_ : Int
  bad : Bool
def scan.c (e : scan) : List T := [.v (.string e.text), .v (.int .i64 e.at_), .v (.bool e.bad)]
theorem scan.len (e : scan) : e.c.length = 3 := rfl
def scan.z : scan := ⟨⟨#[]⟩, 0, false⟩
def scan.vs (e : scan) : List Value := [.string e.text, .int .i64 e.at_, .bool e.bad]
structure l16Cur where
  text : ByteArray
  at_ : Int
  bad : Bool
def l16Cur.c (e : l16Cur) : List T := [.v (.string e.text), .v (.int .i64 e.at_), .v (.bool e.bad)]
theorem l16Cur.len (e : l16Cur) : e.c.length = 3 := rfl
def l16Cur.z : l16Cur := ⟨⟨#[]⟩, 0, false⟩
def l16Cur.vs (e : l16Cur) : List Value := [.string e.text, .int .i64 e.at_, .bool e.bad]
def okToSession (e : Session) : Prop := e.reply.size ≤ 1048576
def okToItem (e : Item) : Prop := e.key.size ≤ 1048576 ∧ e.val.size ≤ 1048576
def okToKeep (e : Keep) : Prop := okSl okToSession e.sessions ∧ okSl okToItem e.items
def inR (n x y : Int) : Bool := decide (n ≥ x) && decide (n ≤ y)
theorem ba_ext {x y : ByteArray} (h : x.toList = y.toList) : x = y := by
  rw [ByteArray.toList_eq, ByteArray.toList_eq] at h
  exact ByteArray.ext (Array.ext' h)
theorem findIdx_at {α : Type} {p : α → Bool} : ∀ {a : List α} {i : Nat} {e : α}, (a.take i).any p = false → a[i]? = some e → p e = true → a.findIdx? p = some i
  | [], i, e, _, h, _ => by simp at h
  | x :: r, 0, e, _, h, hp => by
    simp at h
    subst h
    simp [List.findIdx?_cons, hp]
  | x :: r, i + 1, e, ha, h, hp => by
    simp only [List.take_succ_cons, List.any_cons, Bool.or_eq_false_iff] at ha
    have := findIdx_at (a := r) ha.2 (by simpa using h) hp
    simp [List.findIdx?_cons, ha.1, this]
theorem any_snoc {α : Type} {p : α → Bool} {a : List α} {i : Nat} {e : α} (ha : (a.take i).any p = false) (h : a[i]? = some e) (hp : p e = false) : (a.take (i + 1)).any p = false := by
  rw [take_snoc h, List.any_append, ha]
  simp [hp]
theorem getD_mem {α : Type} {l : List α} {j : Nat} {z : α} (h : j < l.length) : l.getD j z ∈ l := by
  rw [List.getD_eq_getElem?_getD, List.getElem?_eq_getElem h]
  exact List.getElem_mem h
theorem dgs_dec (u : Nat) (out : ByteArray) (h : 0 < u) : dgs u out = ⟨(Lib.decDigits u).toArray⟩ ++ out := by
  induction u using Nat.strongRecOn generalizing out with
  | _ u ih =>
    have hb : bytesOf [IntKind.u8.wrap (IntKind.i64.wrap (48 + Int.tmod (u : Int) 10))] = ⟨#[UInt8.ofNat (48 + u % 10)]⟩ := by
      rw [Int.tmod_eq_emod_of_nonneg (by omega), show IntKind.i64.wrap (48 + (u : Int) % 10) = ((48 + u % 10 : Nat) : Int) from by rw [IntKind.wrap_i64]; omega]
      have : u % 10 < 10 := Nat.mod_lt _ (by omega)
      generalize u % 10 = d at *
      have : d = 0 ∨ d = 1 ∨ d = 2 ∨ d = 3 ∨ d = 4 ∨ d = 5 ∨ d = 6 ∨ d = 7 ∨ d = 8 ∨ d = 9 := by omega
      rcases this with rfl | rfl | rfl | rfl | rfl | rfl | rfl | rfl | rfl | rfl <;> rfl
    rw [dgs, dif_neg (by omega), hb]
    by_cases h10 : u < 10
    · rw [show u / 10 = 0 by omega, dgs, dif_pos rfl, Lib.decDigits, dif_pos h10, show u % 10 = u by omega]
    · rw [ih (u / 10) (by omega) _ (by omega), Lib.decDigits.eq_def u, dif_neg h10, ← ByteArray.append_assoc]
      rfl
theorem itoa_pos {n : Int} (h : 0 < n) : itoaB n = dgs n.toNat ⟨#[]⟩ := by
  rw [dgs_dec _ _ (by omega), itoaB, Lib.itoa, if_neg (by omega)]
  exact ByteArray.append_empty.symm
theorem itoa_zero : itoaB 0 = ⟨#[48]⟩ := by
  rw [itoaB, Lib.itoa, if_neg (by omega), Lib.decDigits_one (by decide)]; rfl
theorem nd_le : ∀ (k u : Nat), 0 < k → u < 10 ^ k → Lib.nDigits u ≤ k
  | 0, _, h, _ => by omega
  | k + 1, u, _, h => by
    by_cases h10 : u < 10
    · rw [Lib.nDigits_small h10]; omega
    · rw [Lib.nDigits_big h10]
      have hk : 0 < k := by
        rcases Nat.eq_zero_or_pos k with rfl | hk
        · simp at h; omega
        · exact hk
      have := nd_le k (u / 10) hk (by rw [Nat.pow_succ] at h; omega)
      omega
theorem itoa_len {n : Int} (h0 : 0 ≤ n) (h1 : n ≤ 1000000000) : (itoaB n).size ≤ 10 := by
  have : (itoaB n).size = (Lib.decDigits n.toNat).length := by
    rw [itoaB, Lib.itoa, if_neg (by omega)]; rfl
  rw [this, Lib.decDigits_length]
  exact nd_le 10 _ (by omega) (by omega)
theorem okI_of {n : Int} (h0 : -9223372036854775808 ≤ n) (h1 : n ≤ 9223372036854775807) : okI n := by
  simp [okI, Lit.wf]
  exact ⟨h0, h1⟩
def emp (s : ByteArray) : Bool := s.toList == (⟨#[]⟩ : ByteArray).toList
def sessOk (s : Session) : Bool := inR s.token 1 1000000 && inR s.last 0 1000000 && decide ((s.reply.size : Int) ≤ 40) && !(s.last == 0 && !emp s.reply)
def prevGe (p : Option Int) (x : Int) : Bool := match p with | none => false | some q => decide (q ≥ x)
def sessF : Option Int → List Session → Bool
  | _, [] => true
  | p, s :: r => if !sessOk s || prevGe p s.token then false else sessF (some s.token) r
def itemOk (x : Item) : Bool := inR (x.key.size : Int) 1 8 && decide ((x.val.size : Int) ≤ 20) && inR x.ver 1 1000000000
def prevS (p : Option ByteArray) (x : ByteArray) : Bool := match p with | none => false | some q => !(Op.bytesLess q.toList x.toList)
def itemF : Option ByteArray → List Item → Bool
  | _, [] => true
  | p, x :: r => if !itemOk x || prevS p x.key then false else itemF (some x.key) r
def keepOk (k : Keep) : Bool := sessF none k.sessions && itemF none k.items && decide ((k.sessions.length : Int) ≤ 3) && decide ((k.items.length : Int) ≤ 8)
def prevO {α β : Type} (f : α → β) (z : α) (a : List α) (i : Nat) : Option β := if i = 0 then none else some (f (a.getD (i - 1) z))
theorem prevO_succ {α β : Type} {f : α → β} {z : α} {a : List α} {i : Nat} {e : α} (h : a[i]? = some e) : prevO f z a (i + 1) = some (f e) := by
  simp [prevO, List.getD_eq_getElem?_getD, h]
def line (x : Item) : ByteArray := x.key ++ ⟨#[32]⟩ ++ itoaB x.ver ++ ⟨#[32]⟩ ++ x.val ++ ⟨#[10]⟩
def showL (l : List Item) : ByteArray := l.foldl (fun o x => o ++ line x) ⟨#[]⟩
def showK (k : Keep) : ByteArray := if keepOk k then showL k.items else ⟨#[]⟩
theorem itemF_all : ∀ (l : List Item) (p : Option ByteArray), itemF p l = true → ∀ x ∈ l, itemOk x = true
  | [], _, _, x, h => by cases h
  | y :: r, p, h, x, hx => by
    rw [itemF] at h
    split at h
    · cases h
    · rename_i hc
      rcases List.mem_cons.1 hx with rfl | hx
      · simp at hc; exact hc.1
      · exact itemF_all r _ h x hx
structure ItIn (x : Item) : Prop where
  k1 : 1 ≤ x.key.size
  k8 : x.key.size ≤ 8
  v : x.val.size ≤ 20
  n1 : 1 ≤ x.ver
  n9 : x.ver ≤ 1000000000
theorem itemOk_in {x : Item} (h : itemOk x = true) : ItIn x := by
  simp [itemOk, inR] at h
  exact ⟨by omega, by omega, by omega, by omega, by omega⟩
theorem ItIn.len {x : Item} (h : ItIn x) : (itoaB x.ver).size ≤ 10 := itoa_len (by have := h.n1; omega) h.n9
theorem keepOk_it {k : Keep} (h : keepOk k = true) : ∀ x ∈ k.items, ItIn x := fun x hx => by
  simp only [keepOk, Bool.and_eq_true] at h
  exact itemOk_in (itemF_all _ _ h.1.1.2 x hx)
theorem keepOk_len {k : Keep} (h : keepOk k = true) : k.items.length ≤ 8 ∧ k.sessions.length ≤ 3 := by
  simp only [keepOk, Bool.and_eq_true, decide_eq_true_eq] at h
  omega
def cmdOk (x : Command) : Bool :=
  inR x.token 0 1000000 && inR x.seq 0 1000000 && inR x.op 1 5 &&
    (if x.op == 1 then x.token == 0 && x.seq == 0 && emp x.key && emp x.val && x.ver == 0
     else inR (x.key.size : Int) 1 8 && decide ((x.val.size : Int) ≤ 20) && (if x.op == 2 then x.ver == 0 else if x.op == 5 then inR x.ver 1 1000000000 else emp x.val && x.ver == 0))
theorem cmd_open {x : Command} (h : x.op = 1) : eqCommand x ⟨1, 0, 0, ⟨#[]⟩, ⟨#[]⟩, 0⟩ = cmdOk x := by
  rw [Bool.eq_iff_iff]
  simp only [eqCommand, cmdOk, emp, inR, h]
  simp
  constructor
  · rintro ⟨h1, h2, h3, h4, h5⟩; simp_all
  · rintro h1; simp_all
theorem bl_irr (a : List UInt8) : Op.bytesLess a a = false := by
  rw [Go.Proofs.bytesLess_eq]; simp [List.lt_irrefl]
theorem bl_trans {a b c : List UInt8} (h1 : Op.bytesLess a b = true) (h2 : Op.bytesLess b c = true) : Op.bytesLess a c = true := by
  rw [Go.Proofs.bytesLess_eq] at *; simp at *; exact List.lt_trans h1 h2
theorem bl_tri {a b : List UInt8} (h1 : Op.bytesLess a b = false) (h2 : a ≠ b) : Op.bytesLess b a = true := by
  rw [Go.Proofs.bytesLess_eq] at *; simp at *
  by_cases h : b < a
  · exact h
  · exact absurd (List.le_antisymm (List.not_lt.1 h) h1) h2
def sEq (a b : ByteArray) : Bool := a.toList == b.toList
def sLt (a b : ByteArray) : Bool := Op.bytesLess a.toList b.toList
def sGt (a b : ByteArray) : Bool := !(Op.bytesLess a.toList b.toList || a.toList == b.toList)
theorem sGt_lt (a b : ByteArray) : sGt a b = sLt b a := by
  unfold sGt sLt
  by_cases h : a.toList = b.toList
  · simp [h, bl_irr]
  · cases h1 : Op.bytesLess a.toList b.toList with
    | true =>
      cases h2 : Op.bytesLess b.toList a.toList with
      | true => have := bl_trans h1 h2; rw [bl_irr] at this; cases this
      | false => simp
    | false => simp [h, bl_tri h1 h]
theorem sLt_irr (a : ByteArray) : sLt a a = false := bl_irr _
theorem sLt_trans {a b c : ByteArray} (h1 : sLt a b = true) (h2 : sLt b c = true) : sLt a c = true := bl_trans h1 h2
theorem sLt_asymm {a b : ByteArray} (h1 : sLt a b = true) : sLt b a = false := by
  cases h : sLt b a with
  | false => rfl
  | true => have := sLt_trans h1 h; rw [sLt_irr] at this; cases this
theorem sLt_ne {a b : ByteArray} (h : sLt a b = true) : sEq a b = false := by
  cases h1 : sEq a b with
  | false => rfl
  | true =>
    simp [sEq] at h1
    simp [sLt, h1, bl_irr] at h
theorem sEq_symm (a b : ByteArray) : sEq a b = sEq b a := by
  unfold sEq; exact Bool.beq_comm
theorem sTri (a b : ByteArray) : sLt a b = true ∨ sEq a b = true ∨ sLt b a = true := by
  by_cases h : a.toList = b.toList
  · exact .inr (.inl (by simp [sEq, h]))
  · cases h1 : sLt a b with
    | true => exact .inl rfl
    | false => exact .inr (.inr (bl_tri h1 h))
def Up (p : Option ByteArray) : List Item → Prop
  | [] => True
  | x :: r => (∀ q, p = some q → sLt q x.key = true) ∧ Up (some x.key) r
theorem Up.of : ∀ {l : List Item} {p : Option ByteArray}, itemF p l = true → Up p l
  | [], _, _ => trivial
  | x :: r, p, h => by
    rw [itemF] at h
    split at h
    · cases h
    · rename_i hc
      refine ⟨fun q hq => ?_, Up.of h⟩
      subst hq
      simp [prevS] at hc
      exact hc.2
theorem Up.all : ∀ {l : List Item} {q : ByteArray}, Up (some q) l → ∀ x ∈ l, sLt q x.key = true
  | [], _, _, x, hx => by cases hx
  | y :: r, q, h, x, hx => by
    rcases List.mem_cons.1 hx with rfl | hx
    · exact h.1 q rfl
    · exact sLt_trans (h.1 q rfl) (Up.all h.2 x hx)
def isKey (key : ByteArray) (x : Item) : Bool := sEq x.key key
def itemOf (k : Keep) (key : ByteArray) : Item × Bool := match k.items.find? (isKey key) with | some x => (x, true) | none => (Item.z, false)
def withoutL (l : List Item) (key : ByteArray) : List Item := l.filter fun x => !isKey key x
def insL (it : Item) : List Item → List Item
  | [] => [it]
  | x :: r => if sGt x.key it.key then it :: x :: r else x :: insL it r
def putL (l : List Item) (it : Item) : List Item := (l.filter fun x => sLt x.key it.key) ++ [it] ++ l.filter fun x => sGt x.key it.key
theorem all_gt {it : Item} : ∀ {r : List Item}, (∀ x ∈ r, sLt it.key x.key = true) → withoutL r it.key = r ∧ (r.filter fun x => sLt x.key it.key) = [] ∧ (r.filter fun x => sGt x.key it.key) = r ∧ r.find? (isKey it.key) = none ∧ insL it r = it :: r := by
  intro r h
  have h1 : ∀ x ∈ r, isKey it.key x = false := fun x hx => by rw [isKey, sEq_symm]; exact sLt_ne (h x hx)
  refine ⟨?_, ?_, ?_, ?_, ?_⟩
  · unfold withoutL
    rw [List.filter_eq_self]
    intro x hx
    simp [h1 x hx]
  · rw [List.filter_eq_nil_iff]
    intro x hx
    simp [sLt_asymm (h x hx)]
  · rw [List.filter_eq_self]
    intro x hx
    rw [sGt_lt]; exact h x hx
  · rw [List.find?_eq_none]
    intro x hx
    simp [h1 x hx]
  · cases r with
    | nil => rfl
    | cons x r => rw [insL, sGt_lt, if_pos (h x (List.mem_cons_self ..))]
theorem put_eq {it : Item} : ∀ {l : List Item} {p : Option ByteArray}, Up p l → insL it (withoutL l it.key) = putL l it ∧ (putL l it).length = (if (l.find? (isKey it.key)).isSome then l.length else l.length + 1)
  | [], _, _ => ⟨rfl, rfl⟩
  | x :: r, p, h => by
    obtain ⟨i1, i2⟩ := put_eq (it := it) h.2
    rcases sTri x.key it.key with hl | he | hg
    · have e1 : isKey it.key x = false := sLt_ne hl
      have e2 : sGt x.key it.key = false := by rw [sGt_lt]; exact sLt_asymm hl
      have e3 : putL (x :: r) it = x :: putL r it := by simp [putL, List.filter_cons, hl, e2]
      refine ⟨?_, ?_⟩
      · rw [e3, ← i1]
        simp [withoutL, List.filter_cons, e1, insL, e2]
      · rw [e3]
        simp only [List.length_cons, i2, List.find?_cons, e1]
        split <;> rfl
    · have hk : x.key.toList = it.key.toList := by simpa [sEq] using he
      have e0 : ∀ y ∈ r, sLt it.key y.key = true := fun y hy => by
        have := Up.all h.2 y hy
        simp only [sLt, ← hk] at this ⊢
        exact this
      obtain ⟨a1, a2, a3, a4, a5⟩ := all_gt e0
      have e1 : isKey it.key x = true := he
      have e2 : sLt x.key it.key = false := by simp [sLt, hk, bl_irr]
      have e3 : sGt x.key it.key = false := by simp [sGt, hk]
      have e4 : withoutL (x :: r) it.key = r := by
        rw [← a1]; simp only [withoutL, List.filter_cons, e1]; simp
      have e5 : putL (x :: r) it = it :: r := by simp [putL, List.filter_cons, e2, e3, a2, a3]
      refine ⟨by rw [e4, a5, e5], ?_⟩
      rw [e5]
      simp [List.find?_cons, e1]
    · have e0 : ∀ y ∈ x :: r, sLt it.key y.key = true := fun y hy => by
        rcases List.mem_cons.1 hy with rfl | hy
        · exact hg
        · exact sLt_trans hg (Up.all h.2 y hy)
      obtain ⟨a1, a2, a3, a4, a5⟩ := all_gt e0
      refine ⟨by rw [a1, a5, putL, a2, a3]; rfl, ?_⟩
      rw [putL, a2, a3, a4]
      simp
theorem without_none {l : List Item} {key : ByteArray} (h : l.find? (isKey key) = none) : withoutL l key = l := by
  unfold withoutL
  rw [List.filter_eq_self]
  intro x hx
  have := List.find?_eq_none.1 h x hx
  simpa using this
def UpS (p : Option Int) : List Session → Prop
  | [] => True
  | x :: r => (∀ q, p = some q → q < x.token) ∧ UpS (some x.token) r
theorem UpS.of : ∀ {l : List Session} {p : Option Int}, sessF p l = true → UpS p l
  | [], _, _ => trivial
  | x :: r, p, h => by
    rw [sessF] at h
    split at h
    · cases h
    · rename_i hc
      refine ⟨fun q hq => ?_, UpS.of h⟩
      subst hq
      simp [prevGe] at hc
      omega
theorem UpS.all : ∀ {l : List Session} {q : Int}, UpS (some q) l → ∀ x ∈ l, q < x.token
  | [], _, _, x, hx => by cases hx
  | y :: r, q, h, x, hx => by
    rcases List.mem_cons.1 hx with rfl | hx
    · exact h.1 q rfl
    · have := h.1 q rfl
      have := UpS.all h.2 x hx
      omega
def newS (n : Int) : Session := ⟨n, 0, ⟨#[]⟩⟩
def openL (n : Int) : List Session → List Session
  | [] => [newS n]
  | x :: r => if decide (x.token ≥ n) then newS n :: (x :: r).filter (fun y => !(y.token == n)) else x :: openL n r
def openS (l : List Session) (n : Int) : List Session := (l.filter fun x => decide (x.token < n)) ++ [newS n] ++ l.filter fun x => decide (x.token > n)
theorem open_eq {n : Int} : ∀ {l : List Session} {p : Option Int}, UpS p l → openL n l = openS l n
  | [], _, _ => rfl
  | x :: r, p, h => by
    have ih := open_eq (n := n) h.2
    have ha := UpS.all h.2
    rw [openL]
    by_cases hl : x.token < n
    · have e2 : ¬ x.token > n := by omega
      rw [if_neg (by simp; omega), ih]
      simp [openS, List.filter_cons, hl, e2]
    · rw [if_pos (by simp; omega)]
      have h1 : (r.filter fun y => decide (y.token < n)) = [] := by
        rw [List.filter_eq_nil_iff]; intro y hy; have := ha y hy; simp; omega
      have h2 : (r.filter fun y => decide (y.token > n)) = r := by
        rw [List.filter_eq_self]; intro y hy; have := ha y hy; simp; omega
      have h3 : (r.filter fun y => !(y.token == n)) = r := by
        rw [List.filter_eq_self]; intro y hy; have := ha y hy; simp; omega
      by_cases he : x.token = n
      · simp [openS, List.filter_cons, he, h1, h2, h3]
      · have : x.token > n := by omega
        simp [openS, List.filter_cons, hl, he, this, h1, h2, h3]
def cut3 (l : List Session) : List Session := if (l.length : Int) > 3 then l.drop 1 else l
def tOpen : ByteArray := ⟨#[111, 112, 101, 110, 32]⟩
def tIs : ByteArray := ⟨#[105, 115, 32]⟩
def tNo : ByteArray := ⟨#[110, 111]⟩
def tDrop : ByteArray := ⟨#[100, 114, 111, 112]⟩
def tNot : ByteArray := ⟨#[110, 111, 116, 32]⟩
def tFull : ByteArray := ⟨#[102, 117, 108, 108]⟩
def tPut : ByteArray := ⟨#[112, 117, 116, 32]⟩
def tNone : ByteArray := ⟨#[110, 111, 110, 101]⟩
def tOld : ByteArray := ⟨#[111, 108, 100]⟩
def tGap : ByteArray := ⟨#[103, 97, 112]⟩
def openK (k : Keep) (n : Int) : Keep := ⟨cut3 (openL n k.sessions), k.items⟩
def doK (k : Keep) (n : Int) (x : Command) : Keep × ByteArray :=
  let it := itemOf k x.key
  if x.op == 3 then (k, if it.2 then tIs ++ itoaB it.1.ver ++ ⟨#[32]⟩ ++ it.1.val else tNo)
  else if x.op == 4 then (⟨k.sessions, withoutL k.items x.key⟩, if it.2 then tDrop else tNo)
  else if x.op == 5 && !it.2 then (k, tNo)
  else if x.op == 5 && !(it.1.ver == x.ver) then (k, tNot ++ itoaB it.1.ver)
  else if !it.2 && (k.items.length : Int) == 8 then (k, tFull)
  else (⟨k.sessions, insL ⟨x.key, x.val, n⟩ (withoutL k.items x.key)⟩, tPut ++ itoaB n)
def isTok (t : Int) (s : Session) : Bool := s.token == t
def perfK (k : Keep) (n : Int) (x : Command) : Keep × ByteArray × Bool :=
  if keepOk k && inR n 1 400000 && cmdOk x then
    if x.op == 1 then (openK k n, tOpen ++ itoaB n, true)
    else match k.sessions.findIdx? (isTok x.token) with
    | none => (k, tNone, true)
    | some i =>
      let s := k.sessions.getD i Session.z
      if decide (x.seq > IntKind.i64.wrap (s.last + 1)) then (k, tGap, true)
      else if decide (x.seq < s.last) || x.seq == 0 then (k, tOld, true)
      else if x.seq == s.last then (k, s.reply, true)
      else (⟨k.sessions.set i ⟨s.token, x.seq, (doK k n x).2⟩, (doK k n x).1.items⟩, (doK k n x).2, true)
  else (⟨[], []⟩, ⟨#[]⟩, false)

theorem item_at {k : Keep} {key : ByteArray} {i : Nat} {e : Item} (hr : (k.items.drop i).find? (isKey key) = k.items.find? (isKey key)) (hd : k.items.drop i = e :: k.items.drop (i + 1)) (h : isKey key e = true) : itemOf k key = (e, true) := by
  rw [itemOf, ← hr, hd, List.find?_cons, h]
theorem item_no {k : Keep} {key : ByteArray} {i : Nat} (hr : (k.items.drop i).find? (isKey key) = k.items.find? (isKey key)) (hd : k.items.drop i = []) : itemOf k key = (Item.z, false) := by
  rw [itemOf, ← hr, hd]; rfl
theorem item_step {k : Keep} {key : ByteArray} {i : Nat} {e : Item} (hr : (k.items.drop i).find? (isKey key) = k.items.find? (isKey key)) (hd : k.items.drop i = e :: k.items.drop (i + 1)) (h : isKey key e = false) : (k.items.drop (i + 1)).find? (isKey key) = k.items.find? (isKey key) := by
  rw [← hr, hd, List.find?_cons, h]
def withoutK (k : Keep) (key : ByteArray) : Keep := ⟨k.sessions, withoutL k.items key⟩
def putK (k : Keep) (it : Item) : Keep := ⟨k.sessions, insL it (withoutL k.items it.key)⟩
theorem without_snoc {l : List Item} {key : ByteArray} {i : Nat} {e : Item} (h : l[i]? = some e) : withoutL (l.take (i + 1)) key = if isKey key e then withoutL (l.take i) key else withoutL (l.take i) key ++ [e] := by
  unfold withoutL
  rw [take_snoc h, List.filter_append]
  cases hk : isKey key e <;> simp [hk]
theorem without_len (l : List Item) (key : ByteArray) : (withoutL l key).length ≤ l.length := List.length_filter_le _ _
structure PutP (it : Item) (L : List Item) (i : Nat) (rest : List Item) (p : Bool) : Prop where
  le : i ≤ L.length
  len : rest.length ≤ i + if p then 1 else 0
  eq : rest ++ (if p then L.drop i else insL it (L.drop i)) = insL it L
theorem PutP.init (it : Item) (L : List Item) : PutP it L 0 [] false := ⟨by omega, by simp, by simp⟩
theorem PutP.len1 {it : Item} {L rest : List Item} {i : Nat} {p : Bool} (h : PutP it L i rest p) : rest.length ≤ i + 1 := by
  have := h.len
  split at this <;> omega
theorem PutP.ins {it : Item} {L rest : List Item} {i : Nat} {e : Item} {p : Bool} (h : PutP it L i rest p) (he : L[i]? = some e) (hc : (!p && sGt e.key it.key) = true) : PutP it L (i + 1) (rest ++ [it] ++ [e]) true := by
  have hi : i < L.length := (List.getElem?_eq_some_iff.1 he).1
  have hd := drop_get he
  simp only [Bool.and_eq_true, Bool.not_eq_true'] at hc
  obtain ⟨rfl, hg⟩ := hc
  refine ⟨by omega, by have := h.len; simp at this ⊢; omega, ?_⟩
  have := h.eq
  rw [hd] at this
  simp [insL, hg] at this ⊢
  exact this
theorem PutP.go {it : Item} {L rest : List Item} {i : Nat} {e : Item} {p : Bool} (h : PutP it L i rest p) (he : L[i]? = some e) (hg : (!p && sGt e.key it.key) = false) : PutP it L (i + 1) (rest ++ [e]) p := by
  have hi : i < L.length := (List.getElem?_eq_some_iff.1 he).1
  have hd := drop_get he
  refine ⟨by omega, by have := h.len; cases p <;> simp at this ⊢ <;> omega, ?_⟩
  rw [← h.eq, hd]
  cases p with
  | true => simp
  | false =>
    have : sGt e.key it.key = false := by simpa using hg
    simp [insL, this]
theorem PutP.fin1 {it : Item} {L rest : List Item} {i : Nat} {p : Bool} (h : PutP it L i rest p) (hp : (!p) = false) (hi : L.length ≤ i) : rest = insL it L := by
  obtain rfl : p = true := by simpa using hp
  rw [← h.eq, List.drop_of_length_le hi]; simp
theorem PutP.fin0 {it : Item} {L rest : List Item} {i : Nat} {p : Bool} (h : PutP it L i rest p) (hp : (!p) = true) (hi : L.length ≤ i) : rest ++ [it] = insL it L := by
  obtain rfl : p = false := by simpa using hp
  rw [← h.eq, List.drop_of_length_le hi]; simp [insL]
structure OpenP (n : Int) (L : List Session) (i : Nat) (rest : List Session) (p : Bool) : Prop where
  le : i ≤ L.length
  len : rest.length ≤ i + if p then 1 else 0
  eq : rest ++ (if p then (L.drop i).filter (fun y => !(y.token == n)) else openL n (L.drop i)) = openL n L
theorem OpenP.init (n : Int) (L : List Session) : OpenP n L 0 [] false := ⟨by omega, by simp, by simp⟩
theorem OpenP.len1 {n : Int} {L rest : List Session} {i : Nat} {p : Bool} (h : OpenP n L i rest p) : rest.length ≤ i + 1 := by
  have := h.len
  split at this <;> omega
theorem OpenP.s1 {n : Int} {L rest : List Session} {i : Nat} {e : Session} {p : Bool} (h : OpenP n L i rest p) (he : L[i]? = some e) (hc : (!p && decide (e.token ≥ n)) = true) (hq : (!(e.token == n)) = true) : OpenP n L (i + 1) (rest ++ [newS n] ++ [e]) true := by
  have hi : i < L.length := (List.getElem?_eq_some_iff.1 he).1
  have hd := drop_get he
  simp only [Bool.and_eq_true, Bool.not_eq_true'] at hc
  obtain ⟨rfl, hg⟩ := hc
  refine ⟨by omega, by have := h.len; simp at this ⊢; omega, ?_⟩
  have := h.eq
  rw [hd] at this
  simp only [Bool.false_eq_true, if_false, openL, if_pos hg, List.filter_cons, if_pos hq] at this
  simpa using this
theorem OpenP.s2 {n : Int} {L rest : List Session} {i : Nat} {e : Session} {p : Bool} (h : OpenP n L i rest p) (he : L[i]? = some e) (hc : (!p && decide (e.token ≥ n)) = true) (hq : (!(e.token == n)) = false) : OpenP n L (i + 1) (rest ++ [newS n]) true := by
  have hi : i < L.length := (List.getElem?_eq_some_iff.1 he).1
  have hd := drop_get he
  simp only [Bool.and_eq_true, Bool.not_eq_true'] at hc
  obtain ⟨rfl, hg⟩ := hc
  refine ⟨by omega, by have := h.len; simp at this ⊢; omega, ?_⟩
  have := h.eq
  rw [hd] at this
  simp only [Bool.false_eq_true, if_false, openL, if_pos hg, List.filter_cons, hq] at this
  simpa using this
theorem OpenP.s3 {n : Int} {L rest : List Session} {i : Nat} {e : Session} {p : Bool} (h : OpenP n L i rest p) (he : L[i]? = some e) (hc : (!p && decide (e.token ≥ n)) = false) (hq : (!(e.token == n)) = true) : OpenP n L (i + 1) (rest ++ [e]) p := by
  have hi : i < L.length := (List.getElem?_eq_some_iff.1 he).1
  have hd := drop_get he
  refine ⟨by omega, by have := h.len; cases p <;> simp at this ⊢ <;> omega, ?_⟩
  have := h.eq
  rw [hd] at this
  cases p with
  | true => simp only [if_true, List.filter_cons, if_pos hq] at this; simpa using this
  | false =>
    have hg : ¬ decide (e.token ≥ n) = true := by simpa using hc
    simp only [Bool.false_eq_true, if_false, openL, if_neg hg] at this
    simpa using this
theorem OpenP.s4 {n : Int} {L rest : List Session} {i : Nat} {e : Session} {p : Bool} (h : OpenP n L i rest p) (he : L[i]? = some e) (hc : (!p && decide (e.token ≥ n)) = false) (hq : (!(e.token == n)) = false) : OpenP n L (i + 1) rest p := by
  have hi : i < L.length := (List.getElem?_eq_some_iff.1 he).1
  have hd := drop_get he
  refine ⟨by omega, by have := h.len; cases p <;> simp at this ⊢ <;> omega, ?_⟩
  have := h.eq
  rw [hd] at this
  cases p with
  | true => simp only [if_true, List.filter_cons, hq] at this; simpa using this
  | false =>
    simp at hc hq
    omega
theorem OpenP.fin1 {n : Int} {L rest : List Session} {i : Nat} {p : Bool} (h : OpenP n L i rest p) (hp : (!p) = false) (hi : L.length ≤ i) : rest = openL n L := by
  obtain rfl : p = true := by simpa using hp
  rw [← h.eq, List.drop_of_length_le hi]; simp
theorem OpenP.fin0 {n : Int} {L rest : List Session} {i : Nat} {p : Bool} (h : OpenP n L i rest p) (hp : (!p) = true) (hi : L.length ≤ i) : rest ++ [newS n] = openL n L := by
  obtain rfl : p = false := by simpa using hp
  rw [← h.eq, List.drop_of_length_le hi]; simp [openL]
theorem open_cut {k : Keep} {n : Int} {l : List Session} (h : l = openL n k.sessions) (hc : decide ((l.length : Int) > 3) = true) : (⟨l.drop 1, k.items⟩ : Keep) = openK k n := by
  subst h
  have := of_decide_eq_true hc
  rw [openK, cut3, if_pos this]
theorem open_no {k : Keep} {n : Int} {l : List Session} (h : l = openL n k.sessions) (hc : decide ((l.length : Int) > 3) = false) : (⟨l, k.items⟩ : Keep) = openK k n := by
  subst h
  have := of_decide_eq_false hc
  rw [openK, cut3, if_neg this]
theorem item_in {k : Keep} {key : ByteArray} (hko : keepOk k = true) (h : (itemOf k key).2 = true) : ItIn (itemOf k key).1 := by
  unfold itemOf at *
  split at h
  · rename_i x hx
    exact keepOk_it hko x (List.mem_of_find?_eq_some hx)
  · cases h
theorem item_false {k : Keep} {key : ByteArray} (h : (itemOf k key).2 = false) : k.items.find? (isKey key) = none := by
  unfold itemOf at h
  split at h
  · cases h
  · assumption
theorem item_some {k : Keep} {key : ByteArray} : (k.items.find? (isKey key)).isSome = (itemOf k key).2 := by
  unfold itemOf
  split <;> rename_i h <;> simp [h]
theorem do_drop {k : Keep} {key : ByteArray} (h : (itemOf k key).2 = false) : withoutL k.items key = k.items := without_none (item_false h)
theorem keepOk_up {k : Keep} (h : keepOk k = true) : Up none k.items ∧ UpS none k.sessions := by
  simp only [keepOk, Bool.and_eq_true] at h
  exact ⟨Up.of h.1.1.2, UpS.of h.1.1.1⟩
theorem do_put {k : Keep} (hko : keepOk k = true) (it : Item) : putL k.items it = insL it (withoutL k.items it.key) ∧ decide (((putL k.items it).length : Int) > 8) = (!(itemOf k it.key).2 && (k.items.length : Int) == 8) := by
  obtain ⟨h1, h2⟩ := put_eq (it := it) (keepOk_up hko).1
  refine ⟨h1.symm, ?_⟩
  have h3 := (keepOk_len hko).1
  rw [h2, item_some]
  cases (itemOf k it.key).2 with
  | true => simp; omega
  | false =>
    simp only [Bool.false_eq_true, if_false, Bool.not_false, Bool.true_and]
    rw [Bool.eq_iff_iff]
    simp
    omega
section
variable {k : Keep} {n : Int} {x : Command}
theorem do_get1 (h : (x.op == 3) = true) (ht : (itemOf k x.key).2 = true) : doK k n x = (k, tIs ++ itoaB (itemOf k x.key).1.ver ++ ⟨#[32]⟩ ++ (itemOf k x.key).1.val) := by
  simp only [doK, h, ht, if_true]
theorem do_get0 (h : (x.op == 3) = true) (ht : (itemOf k x.key).2 = false) : doK k n x = (k, tNo) := by
  simp [doK, h, ht]
theorem do_drop1 (h : (x.op == 3) = false) (h4 : (x.op == 4) = true) (ht : (itemOf k x.key).2 = true) : doK k n x = (withoutK k x.key, tDrop) := by
  simp [doK, h, h4, ht, withoutK]
theorem do_drop0 (h : (x.op == 3) = false) (h4 : (x.op == 4) = true) (ht : (itemOf k x.key).2 = false) : doK k n x = (withoutK k x.key, tNo) := by
  simp [doK, h, h4, ht, withoutK]
theorem do_dropS (h : (x.op == 3) = false) (h4 : (x.op == 4) = true) (ht : (itemOf k x.key).2 = false) : doK k n x = (k, tNo) := by
  rw [do_drop0 h h4 ht, withoutK, do_drop ht]
theorem do_swap0 (h : (x.op == 3) = false) (h4 : (x.op == 4) = false) (h5 : (x.op == 5) = true) (ht : (!(itemOf k x.key).2) = true) : doK k n x = (k, tNo) := by
  simp only [Bool.not_eq_true'] at ht
  simp [doK, h, h4, h5, ht]
theorem do_swapN (h : (x.op == 3) = false) (h4 : (x.op == 4) = false) (h5 : (x.op == 5) = true) (ht : (!(itemOf k x.key).2) = false) (hv : (!((itemOf k x.key).1.ver == x.ver)) = true) : doK k n x = (k, tNot ++ itoaB (itemOf k x.key).1.ver) := by
  simp only [doK, h, h4, h5, ht, hv, Bool.and_self, Bool.and_false, Bool.false_eq_true, if_false, if_true]
theorem do_full (h : (x.op == 3) = false) (h4 : (x.op == 4) = false) (h5 : (x.op == 5) = false ∨ ((!(itemOf k x.key).2) = false ∧ (!((itemOf k x.key).1.ver == x.ver)) = false)) (hf : (!(itemOf k x.key).2 && (k.items.length : Int) == 8) = true) : doK k n x = (k, tFull) := by
  rcases h5 with h5 | ⟨h5, h6⟩
  · simp only [doK, h, h4, h5, hf, Bool.false_and, Bool.false_eq_true, if_false, if_true]
  · rw [h5] at hf; simp at hf
theorem do_putI (h : (x.op == 3) = false) (h4 : (x.op == 4) = false) (h5 : (x.op == 5) = false ∨ ((!(itemOf k x.key).2) = false ∧ (!((itemOf k x.key).1.ver == x.ver)) = false)) (hf : (!(itemOf k x.key).2 && (k.items.length : Int) == 8) = false) : doK k n x = (putK k ⟨x.key, x.val, n⟩, tPut ++ itoaB n) := by
  rcases h5 with h5 | ⟨h5, h6⟩
  · simp only [doK, h, h4, h5, hf, Bool.false_and, Bool.false_eq_true, if_false]; rfl
  · simp only [doK, h, h4, h5, h6, hf, Bool.and_false, Bool.false_eq_true, if_false]; rfl
end
theorem nT {b : Bool} (h : (!b) = true) : b = false := by simpa using h
theorem nF {b : Bool} (h : (!b) = false) : b = true := by simpa using h
theorem filt_snoc {α : Type} {p : α → Bool} {l : List α} {i : Nat} {e : α} (h : l[i]? = some e) : (l.take (i + 1)).filter p = if p e then (l.take i).filter p ++ [e] else (l.take i).filter p := by
  rw [take_snoc h, List.filter_append]
  cases hk : p e <;> simp [hk]
def lowL (l : List Item) (it : Item) : List Item := l.filter fun x => sLt x.key it.key
def highL (l : List Item) (it : Item) : List Item := l.filter fun x => sGt x.key it.key
theorem lowL_snoc {l : List Item} {i : Nat} {e it : Item} (h : l[i]? = some e) : lowL (l.take (i + 1)) it = if sLt e.key it.key then lowL (l.take i) it ++ [e] else lowL (l.take i) it := filt_snoc h
theorem highL_snoc {l : List Item} {i : Nat} {e it : Item} (h : l[i]? = some e) : highL (l.take (i + 1)) it = if sGt e.key it.key then highL (l.take i) it ++ [e] else highL (l.take i) it := filt_snoc h
theorem lowL_len (l : List Item) (it : Item) : (lowL l it).length ≤ l.length := List.length_filter_le _ _
theorem highL_len (l : List Item) (it : Item) : (highL l it).length ≤ l.length := List.length_filter_le _ _
theorem putL_take {l : List Item} {it : Item} {j : Nat} (h : l.length ≤ j) : lowL l it ++ [it] ++ highL (l.take j) it = putL l it := by
  rw [List.take_of_length_le h]; rfl
def bigP (k : Keep) (it : Item) : Bool := decide (((putL k.items it).length : Int) > 8)
def putSK (k : Keep) (it : Item) : Keep := if bigP k it then k else ⟨k.sessions, putL k.items it⟩
theorem bigP_of {k : Keep} {it : Item} {j : Nat} {b : Bool} (h : k.items.length ≤ j) (hc : decide (((lowL k.items it ++ [it] ++ highL (k.items.take j) it).length : Int) > 8) = b) : bigP k it = b := by
  rw [putL_take h] at hc; exact hc
theorem putSK_t {k : Keep} {it : Item} (h : bigP k it = true) : putSK k it = k := by rw [putSK, if_pos h]
theorem putSK_f {k : Keep} {it : Item} {j : Nat} (h : bigP k it = false) (hj : k.items.length ≤ j) : (⟨k.sessions, lowL k.items it ++ [it] ++ highL (k.items.take j) it⟩ : Keep) = putSK k it := by
  rw [putL_take hj, putSK, if_neg (by simp [h])]
section
variable {k : Keep} {n : Int} {x : Command}
theorem do_fullS (hko : keepOk k = true) (h : (x.op == 3) = false) (h4 : (x.op == 4) = false) (h5 : (x.op == 5) = false ∨ ((!(itemOf k x.key).2) = false ∧ (!((itemOf k x.key).1.ver == x.ver)) = false)) (hf : bigP k ⟨x.key, x.val, n⟩ = true) : doK k n x = (putSK k ⟨x.key, x.val, n⟩, tFull) := by
  rw [putSK_t hf]
  exact do_full h h4 h5 ((do_put hko ⟨x.key, x.val, n⟩).2.symm.trans hf)
theorem do_putS (hko : keepOk k = true) (h : (x.op == 3) = false) (h4 : (x.op == 4) = false) (h5 : (x.op == 5) = false ∨ ((!(itemOf k x.key).2) = false ∧ (!((itemOf k x.key).1.ver == x.ver)) = false)) (hf : bigP k ⟨x.key, x.val, n⟩ = false) : doK k n x = (putSK k ⟨x.key, x.val, n⟩, tPut ++ itoaB n) := by
  rw [do_putI h h4 h5 ((do_put hko ⟨x.key, x.val, n⟩).2.symm.trans hf), putSK, if_neg (by simp [hf]), putK, (do_put hko ⟨x.key, x.val, n⟩).1]
end
def lowS (l : List Session) (n : Int) : List Session := l.filter fun x => decide (x.token < n)
def highS (l : List Session) (n : Int) : List Session := l.filter fun x => decide (x.token > n)
theorem lowS_snoc {l : List Session} {i : Nat} {e : Session} {n : Int} (h : l[i]? = some e) : lowS (l.take (i + 1)) n = if decide (e.token < n) then lowS (l.take i) n ++ [e] else lowS (l.take i) n := filt_snoc h
theorem highS_snoc {l : List Session} {i : Nat} {e : Session} {n : Int} (h : l[i]? = some e) : highS (l.take (i + 1)) n = if decide (e.token > n) then highS (l.take i) n ++ [e] else highS (l.take i) n := filt_snoc h
theorem lowS_len (l : List Session) (n : Int) : (lowS l n).length ≤ l.length := List.length_filter_le _ _
theorem highS_len (l : List Session) (n : Int) : (highS l n).length ≤ l.length := List.length_filter_le _ _
theorem openS_take {k : Keep} {n : Int} {j : Nat} (hko : keepOk k = true) (h : k.sessions.length ≤ j) : lowS k.sessions n ++ [newS n] ++ highS (k.sessions.take j) n = openL n k.sessions := by
  rw [List.take_of_length_le h, open_eq (keepOk_up hko).2]; rfl
theorem openS_cut {k : Keep} {n : Int} {j : Nat} (hko : keepOk k = true) (h : k.sessions.length ≤ j) (hc : decide (((lowS k.sessions n ++ [newS n] ++ highS (k.sessions.take j) n).length : Int) > 3) = true) :
    (⟨(lowS k.sessions n ++ [newS n] ++ highS (k.sessions.take j) n).drop 1, k.items⟩ : Keep) = openK k n := open_cut (openS_take hko h) hc
theorem openS_no {k : Keep} {n : Int} {j : Nat} (hko : keepOk k = true) (h : k.sessions.length ≤ j) (hc : decide (((lowS k.sessions n ++ [newS n] ++ highS (k.sessions.take j) n).length : Int) > 3) = false) :
    (⟨lowS k.sessions n ++ [newS n] ++ highS (k.sessions.take j) n, k.items⟩ : Keep) = openK k n := open_no (openS_take hko h) hc
def perfOk (k : Keep) (n : Int) (x : Command) : Bool := keepOk k && inR n 1 400000 && cmdOk x
structure PfOk (k : Keep) (n : Int) (x : Command) : Prop where
  k : keepOk k = true
  n : 1 ≤ n ∧ n ≤ 400000
  x : cmdOk x = true
theorem PfOk.of {k : Keep} {n : Int} {x : Command} (h : perfOk k n x = true) : PfOk k n x := by
  simp [perfOk, inR] at h
  exact ⟨h.1.1, by omega, h.2⟩
theorem perf_no {k : Keep} {n : Int} {x : Command} (h : perfOk k n x = false) : perfK k n x = (⟨[], []⟩, ⟨#[]⟩, false) := by
  rw [perfK, if_neg (by rw [perfOk] at h; rw [h]; simp)]
theorem perf_yes {k : Keep} {n : Int} {x : Command} (h : PfOk k n x) : (keepOk k && inR n 1 400000 && cmdOk x) = true := by
  have := h.n
  simp [h.k, h.x, inR]
  omega
theorem perf_open {k : Keep} {n : Int} {x : Command} (h : PfOk k n x) (h1 : (x.op == 1) = true) : perfK k n x = (openK k n, tOpen ++ itoaB n, true) := by
  rw [perfK, if_pos (perf_yes h), if_pos h1]
structure At (k : Keep) (x : Command) (i : Nat) (s : Session) : Prop where
  fi : k.sessions.findIdx? (isTok x.token) = some i
  fs : k.sessions[i]? = some s
  ft : isTok x.token s = true
theorem at_of {k : Keep} {x : Command} {i : Nat} {s : Session} (ha : (k.sessions.take i).any (isTok x.token) = false) (h : k.sessions[i]? = some s) (hp : isTok x.token s = true) : At k x i s := ⟨findIdx_at ha h hp, h, hp⟩
theorem At.d {k : Keep} {x : Command} {i : Nat} {s : Session} (h : At k x i s) : k.sessions.getD i Session.z = s := by
  rw [List.getD_eq_getElem?_getD, h.fs]; rfl
theorem perf_none {k : Keep} {n : Int} {x : Command} {i : Nat} (h : PfOk k n x) (h1 : (x.op == 1) = false) (ha : (k.sessions.take i).any (isTok x.token) = false) (hi : k.sessions.length ≤ i) : perfK k n x = (k, tNone, true) := by
  have : k.sessions.findIdx? (isTok x.token) = none := by
    rw [List.findIdx?_eq_none_iff]
    intro y hy
    rw [List.take_of_length_le hi] at ha
    simpa using List.any_eq_false.1 ha y hy
  rw [perfK, if_pos (perf_yes h), if_neg (by rw [h1]; simp), this]
section
variable {k : Keep} {n : Int} {x : Command} {i : Nat} {s : Session}
theorem perf_gap (h : PfOk k n x) (h1 : (x.op == 1) = false) (ha : At k x i s) (hg : decide (x.seq > IntKind.i64.wrap (s.last + 1)) = true) : perfK k n x = (k, tGap, true) := by
  rw [perfK, if_pos (perf_yes h), if_neg (by rw [h1]; simp), ha.fi]
  simp only [ha.d, hg, if_true]
theorem perf_old (h : PfOk k n x) (h1 : (x.op == 1) = false) (ha : At k x i s) (hg : decide (x.seq > IntKind.i64.wrap (s.last + 1)) = false) (ho : (decide (x.seq < s.last) || x.seq == 0) = true) : perfK k n x = (k, tOld, true) := by
  rw [perfK, if_pos (perf_yes h), if_neg (by rw [h1]; simp), ha.fi]
  simp only [ha.d, hg, ho, Bool.false_eq_true, if_false, if_true]
theorem perf_same (h : PfOk k n x) (h1 : (x.op == 1) = false) (ha : At k x i s) (hg : decide (x.seq > IntKind.i64.wrap (s.last + 1)) = false) (ho : (decide (x.seq < s.last) || x.seq == 0) = false) (hs : (x.seq == s.last) = true) : perfK k n x = (k, s.reply, true) := by
  rw [perfK, if_pos (perf_yes h), if_neg (by rw [h1]; simp), ha.fi]
  simp only [ha.d, hg, ho, hs, Bool.false_eq_true, if_false, if_true]
theorem perf_do (h : PfOk k n x) (h1 : (x.op == 1) = false) (ha : At k x i s) (hg : decide (x.seq > IntKind.i64.wrap (s.last + 1)) = false) (ho : (decide (x.seq < s.last) || x.seq == 0) = false) (hs : (x.seq == s.last) = false) :
    perfK k n x = (⟨k.sessions.set i ⟨s.token, x.seq, (doK k n x).2⟩, (doK k n x).1.items⟩, (doK k n x).2, true) := by
  rw [perfK, if_pos (perf_yes h), if_neg (by rw [h1]; simp), ha.fi]
  simp only [ha.d, hg, ho, hs, Bool.false_eq_true, if_false]
end
theorem do_sess (k : Keep) (n : Int) (x : Command) : (doK k n x).1.sessions = k.sessions := by
  unfold doK
  simp only []
  split
  · rfl
  · split
    · rfl
    · split
      · rfl
      · split
        · rfl
        · split <;> rfl
theorem UpS.lt : ∀ {l : List Session} {p : Option Int}, UpS p l → ∀ {m i : Nat} {s e : Session}, m < i → l[m]? = some s → l[i]? = some e → s.token < e.token
  | [], _, _, m, i, s, e, _, h, _ => by simp at h
  | y :: r, p, hu, 0, i + 1, s, e, _, h1, h2 => by
    simp at h1 h2
    subst h1
    exact UpS.all hu.2 e (List.mem_of_getElem? h2)
  | y :: r, p, hu, m + 1, i + 1, s, e, hlt, h1, h2 => by
    simp at h1 h2
    exact UpS.lt hu.2 (by omega) h1 h2
structure SP (k : Keep) (x : Command) (i : Nat) (a : Int) : Prop where
  le : i ≤ k.sessions.length
  or : (a = -1 ∧ (k.sessions.take i).any (isTok x.token) = false) ∨ ∃ (m : Nat) (s : Session), a = (m : Int) ∧ m < i ∧ At k x m s
theorem SP.init (k : Keep) (x : Command) : SP k x 0 (-1) := ⟨by omega, .inl ⟨rfl, by simp⟩⟩
theorem SP.hit {k : Keep} {x : Command} {i : Nat} {a : Int} {e : Session} (h : SP k x i a) (hko : keepOk k = true) (he : k.sessions[i]? = some e) (ht : (e.token == x.token) = true) : SP k x (i + 1) (i : Int) := by
  have hi : i < k.sessions.length := (List.getElem?_eq_some_iff.1 he).1
  refine ⟨hi, .inr ⟨i, e, rfl, by omega, ?_⟩⟩
  rcases h.or with ⟨_, h1⟩ | ⟨m, s, _, h1, h2⟩
  · exact at_of h1 he ht
  · have h3 := UpS.lt (keepOk_up hko).2 h1 h2.fs he
    have h4 := h2.ft
    simp [isTok] at h4 ht
    omega
theorem SP.miss {k : Keep} {x : Command} {i : Nat} {a : Int} {e : Session} (h : SP k x i a) (he : k.sessions[i]? = some e) (ht : (e.token == x.token) = false) : SP k x (i + 1) a := by
  have hi : i < k.sessions.length := (List.getElem?_eq_some_iff.1 he).1
  refine ⟨hi, ?_⟩
  rcases h.or with ⟨h0, h1⟩ | ⟨m, s, h0, h1, h2⟩
  · exact .inl ⟨h0, any_snoc h1 he ht⟩
  · exact .inr ⟨m, s, h0, by omega, h2⟩
theorem SP.none {k : Keep} {x : Command} {i : Nat} {a : Int} (h : SP k x i a) (hd : decide (a < 0) = true) : (k.sessions.take i).any (isTok x.token) = false := by
  rcases h.or with ⟨_, h1⟩ | ⟨m, s, h0, h1, h2⟩
  · exact h1
  · simp at hd; omega
theorem SP.some {k : Keep} {x : Command} {i : Nat} {a : Int} (h : SP k x i a) (hd : decide (a < 0) = false) : ∃ (m : Nat) (s : Session), a = (m : Int) ∧ At k x m s := by
  rcases h.or with ⟨h0, h1⟩ | ⟨m, s, h0, h1, h2⟩
  · simp at hd; omega
  · exact ⟨m, s, h0, h2⟩
theorem pfS {k : Keep} {n : Int} {x : Command} : (((!keepOk k || !inR n 1 1000000) || decide (n > 400000)) || !cmdOk x) = !perfOk k n x := by
  unfold perfOk inR
  cases keepOk k <;> cases cmdOk x <;> simp
  rw [Bool.eq_iff_iff]
  simp
  omega
theorem sess_in {k : Keep} {x : Command} {i : Nat} {s : Session} (hko : keepOk k = true) (h : At k x i s) : 0 ≤ s.last ∧ s.last ≤ 1000000 := by
  have hall : ∀ (l : List Session) (p : Option Int), sessF p l = true → ∀ y ∈ l, sessOk y = true := by
    intro l
    induction l with
    | nil => intro p _ y hy; cases hy
    | cons z r ih =>
      intro p hp y hy
      rw [sessF] at hp
      split at hp
      · cases hp
      · rename_i hc
        rcases List.mem_cons.1 hy with rfl | hy
        · simp at hc; exact hc.1
        · exact ih _ hp y hy
  simp only [keepOk, Bool.and_eq_true] at hko
  have := hall _ _ hko.1.1.1 s (List.mem_of_getElem? h.fs)
  simp [sessOk, inR] at this
  omega
section
variable {k : Keep} {n : Int} {x : Command} {i : Nat} {s : Session}
theorem perfS_old (h : PfOk k n x) (h1 : (x.op == 1) = false) (ha : At k x i s) (ho : (x.seq == 0 || decide (x.seq < s.last)) = true) : perfK k n x = (k, tOld, true) := by
  have hb := sess_in h.k ha
  refine perf_old h h1 ha ?_ (by rw [Bool.or_comm]; exact ho)
  have : IntKind.i64.wrap (s.last + 1) = s.last + 1 := by rw [IntKind.wrap_i64]; omega
  rw [this]
  simp at ho ⊢
  omega
theorem perfS_same (h : PfOk k n x) (h1 : (x.op == 1) = false) (ha : At k x i s) (ho : (x.seq == 0 || decide (x.seq < s.last)) = false) (hs : (x.seq == s.last) = true) : perfK k n x = (k, s.reply, true) := by
  have hb := sess_in h.k ha
  refine perf_same h h1 ha ?_ (by rw [Bool.or_comm]; exact ho) hs
  have : IntKind.i64.wrap (s.last + 1) = s.last + 1 := by rw [IntKind.wrap_i64]; omega
  rw [this]
  simp at hs ⊢
  omega
theorem perfS_gap (h : PfOk k n x) (h1 : (x.op == 1) = false) (ha : At k x i s) (hg : decide (x.seq > IntKind.i64.wrap (s.last + 1)) = true) : perfK k n x = (k, tGap, true) := perf_gap h h1 ha hg
theorem perfS_do (h : PfOk k n x) (h1 : (x.op == 1) = false) (ha : At k x i s) (ho : (x.seq == 0 || decide (x.seq < s.last)) = false) (hs : (x.seq == s.last) = false) (hg : decide (x.seq > IntKind.i64.wrap (s.last + 1)) = false) :
    perfK k n x = (⟨k.sessions.set i ⟨s.token, x.seq, (doK k n x).2⟩, (doK k n x).1.items⟩, (doK k n x).2, true) := perf_do h h1 ha hg (by rw [Bool.or_comm]; exact ho) hs
end
theorem openL_len (n : Int) : ∀ l : List Session, (openL n l).length ≤ l.length + 1
  | [] => by simp [openL]
  | x :: r => by
    rw [openL]
    split
    · have := List.length_filter_le (fun y : Session => !(y.token == n)) (x :: r)
      simp only [List.length_cons] at this ⊢
      omega
    · have := openL_len n r
      simp only [List.length_cons]
      omega
-- DRAWS
theorem take_min {α : Type} {l : List α} {i n : Nat} (h1 : i ≤ l.length) (h2 : i ≤ n) (h3 : i < l.length → n ≤ i) : l.take i = l.take n := by
  rcases Nat.lt_or_ge i l.length with h | h
  · rw [show i = n from Nat.le_antisymm h2 (h3 h)]
  · rw [List.take_of_length_le h, List.take_of_length_le (by omega)]
def hashStep (h c : Int) : Int := andI (IntKind.i64.wrap (IntKind.i64.wrap (IntKind.i64.wrap (h * 131) + IntKind.i64.wrap c) + 7)) 1073741823
def cur0 (code : List Int) : l01Cur := ⟨code, 0, (code.take 4000).foldl hashStep (IntKind.i64.wrap (37401 + (code.length : Int)))⟩
def byteH (c : l01Cur) : Int := IntKind.i64.wrap (IntKind.i64.wrap (c.h * 6364136223846793005) + 1442695040888963407)
def byteX (c : l01Cur) : Int := andI (xorI (shrI (byteH c) 33) (shrI (byteH c) 45)) 255
def byteN (c : l01Cur) : Int × l01Cur :=
  if c.i < (c.b.length : Int) then (andI (IntKind.i64.wrap (byteX c + IntKind.i64.wrap (c.b.getD c.i.toNat 0))) 255, ⟨c.b, IntKind.i64.wrap (c.i + 1), byteH c⟩) else (byteX c, ⟨c.b, c.i, byteH c⟩)
def curOk (c : l01Cur) : Prop := 0 ≤ c.i ∧ c.i ≤ (c.b.length : Int) ∧ c.b.length ≤ maxLen
theorem byteN_ok {c : l01Cur} (h : curOk c) : curOk (byteN c).2 := by
  obtain ⟨h1, h2, h3⟩ := h
  simp only [maxLen] at h3
  unfold byteN
  split
  · refine ⟨?_, ?_, h3⟩ <;> (simp only []; rw [IntKind.wrap_i64]; omega)
  · exact ⟨h1, h2, h3⟩
theorem andI255 (x : Int) : 0 ≤ andI x 255 ∧ andI x 255 ≤ 255 := by
  unfold andI
  have h1 : (BitVec.ofInt 64 x &&& BitVec.ofInt 64 255).toNat ≤ 255 := by
    rw [BitVec.toNat_and]
    have : (BitVec.ofInt 64 255).toNat = 2 ^ 8 - 1 := by decide
    rw [this, Nat.and_two_pow_sub_one_eq_mod]
    omega
  rw [IntKind.wrap_i64]
  omega
theorem byteN_in (c : l01Cur) : 0 ≤ (byteN c).1 ∧ (byteN c).1 ≤ 255 := by
  unfold byteN
  split
  · exact andI255 _
  · exact andI255 _
def belowN (c : l01Cur) (n : Int) : Int × l01Cur :=
  if n ≤ 0 then (0, c) else if n ≤ 256 then (Int.tmod (byteN c).1 n, (byteN c).2) else
  (Int.tmod (IntKind.i64.wrap (IntKind.i64.wrap (IntKind.i64.wrap (IntKind.i64.wrap ((byteN c).1 * 16777216) + IntKind.i64.wrap ((byteN (byteN c).2).1 * 65536)) + IntKind.i64.wrap ((byteN (byteN (byteN c).2).2).1 * 256)) + (byteN (byteN (byteN (byteN c).2).2).2).1)) n,
    (byteN (byteN (byteN (byteN c).2).2).2).2)
theorem belowN_ok {c : l01Cur} (h : curOk c) (n : Int) : curOk (belowN c n).2 := by
  unfold belowN
  split
  · exact h
  · split
    · exact byteN_ok h
    · exact byteN_ok (byteN_ok (byteN_ok (byteN_ok h)))
theorem belowN_in (c : l01Cur) {n : Int} (h : 0 < n) : 0 ≤ (belowN c n).1 ∧ (belowN c n).1 < n := by
  unfold belowN
  rw [if_neg (by omega)]
  split
  · have := byteN_in c
    exact ⟨Int.tmod_nonneg _ this.1, Int.tmod_lt_of_pos _ h⟩
  · have h1 := byteN_in c
    have h2 := byteN_in (byteN c).2
    have h3 := byteN_in (byteN (byteN c).2).2
    have h4 := byteN_in (byteN (byteN (byteN c).2).2).2
    generalize (byteN c).1 = a at *
    generalize (byteN (byteN c).2).1 = b at *
    generalize (byteN (byteN (byteN c).2).2).1 = d at *
    generalize (byteN (byteN (byteN (byteN c).2).2).2).1 = e at *
    refine ⟨Int.tmod_nonneg _ ?_, Int.tmod_lt_of_pos _ h⟩
    simp only [IntKind.wrap_i64]
    omega
def places : Nat → l01Cur → List Int × l01Cur
  | 0, c => ([], c)
  | n + 1, c => ((belowN c 10000).1 :: (places n (belowN c 10000).2).1, (places n (belowN c 10000).2).2)
theorem places_len : ∀ (n : Nat) (c : l01Cur), (places n c).1.length = n
  | 0, _ => rfl
  | n + 1, c => by simp [places, places_len n]
theorem places_in : ∀ (n : Nat) (c : l01Cur), ∀ x ∈ (places n c).1, 0 ≤ x ∧ x < 10000
  | 0, _, x, h => by simp [places] at h
  | n + 1, c, x, h => by
    simp only [places, List.mem_cons] at h
    rcases h with rfl | h
    · exact belowN_in c (by omega)
    · exact places_in n _ x h
def drawPlaces (code : List Int) : List Int := (places 12 (byteN (cur0 code)).2).1
theorem cur0_ok {code : List Int} (h : code.length ≤ maxLen) : curOk (byteN (cur0 code)).2 ∧ curOk (cur0 code) := by
  have : curOk (cur0 code) := ⟨by simp [cur0], by simp [cur0], h⟩
  exact ⟨byteN_ok this, this⟩
def PlP (code : List Int) (i : Nat) (l : List Int) (c : l01Cur) : Prop := curOk c ∧ l.length = i ∧ i ≤ 12 ∧ l ++ (places (12 - i) c).1 = drawPlaces code
theorem PlP.init {code : List Int} (h : code.length ≤ maxLen) : PlP code 0 [] (byteN (cur0 code)).2 := ⟨(cur0_ok h).1, rfl, by omega, rfl⟩
theorem PlP.step {code l : List Int} {i : Nat} {c : l01Cur} (h : PlP code i l c) (hi : i < 12) : PlP code (i + 1) (l ++ [(belowN c 10000).1]) (belowN c 10000).2 := by
  obtain ⟨h1, h2, h3, h4⟩ := h
  refine ⟨belowN_ok h1 _, by simp [h2], by omega, ?_⟩
  rw [← h4, show 12 - i = (12 - (i + 1)) + 1 by omega, places]
  simp
theorem PlP.fin {code l : List Int} {i : Nat} {c : l01Cur} (h : PlP code i l c) (hi : 12 ≤ i) : l = drawPlaces code := by
  obtain ⟨h1, h2, h3, h4⟩ := h
  rw [← h4, show 12 - i = 0 by omega]
  simp [places]
theorem sessF_iff : ∀ (l : List Session) (p : Option Int), sessF p l = true ↔ UpS p l ∧ ∀ y ∈ l, sessOk y = true
  | [], p => by simp [sessF, UpS]
  | x :: r, p => by
    have ih := sessF_iff r (some x.token)
    rw [sessF]
    split
    · rename_i h
      refine Iff.intro (fun h => by cases h) ?_
      rintro ⟨hu, ha⟩
      have h1 := ha x (List.mem_cons_self ..)
      cases p with
      | none => simp [h1, prevGe] at h
      | some q => have := hu.1 q rfl; simp [h1, prevGe] at h; omega
    · rename_i h
      rw [ih]
      simp at h
      constructor
      · rintro ⟨hu, ha⟩
        refine ⟨⟨fun q hq => ?_, hu⟩, ?_⟩
        · subst hq; simp [prevGe] at h; omega
        · intro y hy
          rcases List.mem_cons.1 hy with rfl | hy
          · exact h.1
          · exact ha y hy
      · rintro ⟨hu, ha⟩
        exact ⟨hu.2, fun y hy => ha y (List.mem_cons_of_mem _ hy)⟩
theorem itemF_iff : ∀ (l : List Item) (p : Option ByteArray), itemF p l = true ↔ Up p l ∧ ∀ y ∈ l, itemOk y = true
  | [], p => by simp [itemF, Up]
  | x :: r, p => by
    have ih := itemF_iff r (some x.key)
    rw [itemF]
    split
    · rename_i h
      refine Iff.intro (fun h => by cases h) ?_
      rintro ⟨hu, ha⟩
      have h1 := ha x (List.mem_cons_self ..)
      cases p with
      | none => simp [h1, prevS] at h
      | some q => have := hu.1 q rfl; simp [sLt] at this; simp [h1, prevS, this] at h
    · rename_i h
      rw [ih]
      simp at h
      constructor
      · rintro ⟨hu, ha⟩
        refine ⟨⟨fun q hq => ?_, hu⟩, ?_⟩
        · subst hq; simp [prevS] at h; exact h.2
        · intro y hy
          rcases List.mem_cons.1 hy with rfl | hy
          · exact h.1
          · exact ha y hy
      · rintro ⟨hu, ha⟩
        exact ⟨hu.2, fun y hy => ha y (List.mem_cons_of_mem _ hy)⟩
theorem UpS.pw : ∀ {l : List Session} {p : Option Int}, UpS p l → l.Pairwise (fun a b => a.token < b.token)
  | [], _, _ => List.Pairwise.nil
  | _ :: _, _, h => List.Pairwise.cons (UpS.all h.2) (UpS.pw h.2)
theorem UpS.mk : ∀ {l : List Session}, l.Pairwise (fun a b => a.token < b.token) → ∀ {p : Option Int}, (∀ q, p = some q → ∀ x ∈ l, q < x.token) → UpS p l
  | [], _, _, _ => trivial
  | x :: r, h, p, hp => by
    cases h with
    | cons h1 h2 => exact ⟨fun q hq => hp q hq x (List.mem_cons_self ..), UpS.mk h2 (fun q hq y hy => by cases hq; exact h1 y hy)⟩
theorem Up.pw : ∀ {l : List Item} {p : Option ByteArray}, Up p l → l.Pairwise (fun a b => sLt a.key b.key = true)
  | [], _, _ => List.Pairwise.nil
  | _ :: _, _, h => List.Pairwise.cons (Up.all h.2) (Up.pw h.2)
theorem Up.mk : ∀ {l : List Item}, l.Pairwise (fun a b => sLt a.key b.key = true) → ∀ {p : Option ByteArray}, (∀ q, p = some q → ∀ x ∈ l, sLt q x.key = true) → Up p l
  | [], _, _, _ => trivial
  | x :: r, h, p, hp => by
    cases h with
    | cons h1 h2 => exact ⟨fun q hq => hp q hq x (List.mem_cons_self ..), Up.mk h2 (fun q hq y hy => by cases hq; exact h1 y hy)⟩
structure KOk (k : Keep) : Prop where
  sp : k.sessions.Pairwise (fun a b => a.token < b.token)
  so : ∀ s ∈ k.sessions, sessOk s = true
  ip : k.items.Pairwise (fun a b => sLt a.key b.key = true)
  io : ∀ x ∈ k.items, itemOk x = true
  sl : k.sessions.length ≤ 3
  il : k.items.length ≤ 8
theorem KOk.of {k : Keep} (h : keepOk k = true) : KOk k := by
  have hl := keepOk_len h
  simp only [keepOk, Bool.and_eq_true] at h
  have h1 := (sessF_iff _ _).1 h.1.1.1
  have h2 := (itemF_iff _ _).1 h.1.1.2
  exact ⟨h1.1.pw, h1.2, h2.1.pw, h2.2, hl.2, hl.1⟩
theorem KOk.to {k : Keep} (h : KOk k) : keepOk k = true := by
  have h1 := (sessF_iff _ none).2 ⟨UpS.mk h.sp nofun, h.so⟩
  have h2 := (itemF_iff _ none).2 ⟨Up.mk h.ip nofun, h.io⟩
  have h3 := h.sl; have h4 := h.il
  simp only [keepOk, h1, h2, Bool.and_eq_true, decide_eq_true_eq, true_and]
  omega
theorem sessOk_new {n : Int} (h0 : 1 ≤ n) (h1 : n ≤ 1000000) : sessOk (newS n) = true := by
  simp [sessOk, newS, inR, emp, h0, h1]; rfl
theorem KOk.open {k : Keep} {n : Int} (h : KOk k) (hn : 1 ≤ n ∧ n ≤ 400000) : KOk (openK k n) := by
  have e : openL n k.sessions = openS k.sessions n := open_eq (keepOk_up h.to).2
  have hsub : ∀ s ∈ cut3 (openL n k.sessions), s ∈ openL n k.sessions := by
    intro s hs
    unfold cut3 at hs
    split at hs
    · exact List.mem_of_mem_drop hs
    · exact hs
  have hpw : (openL n k.sessions).Pairwise (fun a b => a.token < b.token) := by
    rw [e, openS, List.append_assoc, List.pairwise_append]
    refine ⟨h.sp.filter _, ?_, ?_⟩
    · rw [List.singleton_append, List.pairwise_cons]
      refine ⟨fun y hy => ?_, h.sp.filter _⟩
      have := (List.mem_filter.1 hy).2
      simp at this
      exact this
    · intro a ha b hb
      have h1 := (List.mem_filter.1 ha).2
      simp at h1
      rcases List.mem_append.1 hb with hb | hb
      · simp at hb; subst hb; exact h1
      · have h2 := (List.mem_filter.1 hb).2
        simp at h2
        omega
  have hl := openL_len n k.sessions
  have := h.sl
  refine ⟨?_, fun s hs => ?_, h.ip, h.io, ?_, h.il⟩
  · show (cut3 (openL n k.sessions)).Pairwise _
    unfold cut3
    split
    · exact hpw.drop
    · exact hpw
  · have hs := hsub s hs
    rw [e, openS, List.append_assoc] at hs
    rcases List.mem_append.1 hs with hs | hs
    · exact h.so s (List.mem_filter.1 hs).1
    · rcases List.mem_append.1 hs with hs | hs
      · simp at hs; subst hs; exact sessOk_new hn.1 (by omega)
      · exact h.so s (List.mem_filter.1 hs).1
  · show (cut3 (openL n k.sessions)).length ≤ 3
    unfold cut3
    split
    · simp; omega
    · omega
theorem KOk.withoutK {k : Keep} (h : KOk k) (key : ByteArray) : KOk (withoutK k key) :=
  ⟨h.sp, h.so, h.ip.filter _, fun x hx => h.io x (List.mem_filter.1 hx).1, h.sl, Nat.le_trans (List.length_filter_le _ _) h.il⟩
theorem mem_putL {l : List Item} {it x : Item} (h : x ∈ putL l it) : x ∈ l ∨ x = it := by
  rw [putL, List.append_assoc] at h
  rcases List.mem_append.1 h with h | h
  · exact .inl (List.mem_filter.1 h).1
  · rcases List.mem_append.1 h with h | h
    · exact .inr (by simpa using h)
    · exact .inl (List.mem_filter.1 h).1
theorem KOk.putK {k : Keep} {it : Item} (h : KOk k) (hi : itemOk it = true) (hf : (!(itemOf k it.key).2 && (k.items.length : Int) == 8) = false) : KOk (putK k it) := by
  have h1 := do_put h.to it
  have e : (Y.putK k it).items = putL k.items it := h1.1.symm
  have h2 := h1.2
  rw [hf] at h2
  simp at h2
  have hpw : (putL k.items it).Pairwise (fun a b => sLt a.key b.key = true) := by
    rw [putL, List.append_assoc, List.pairwise_append]
    refine ⟨h.ip.filter _, ?_, ?_⟩
    · rw [List.singleton_append, List.pairwise_cons]
      refine ⟨fun y hy => ?_, h.ip.filter _⟩
      have := (List.mem_filter.1 hy).2
      rw [sGt_lt] at this
      exact this
    · intro a ha b hb
      have h1 := (List.mem_filter.1 ha).2
      rcases List.mem_append.1 hb with hb | hb
      · simp at hb; subst hb; exact h1
      · have h2 := (List.mem_filter.1 hb).2
        rw [sGt_lt] at h2
        exact sLt_trans h1 h2
  refine ⟨h.sp, h.so, by rw [e]; exact hpw, fun x hx => ?_, h.sl, by rw [e]; omega⟩
  rw [e] at hx
  rcases mem_putL hx with hx | rfl
  · exact h.io x hx
  · exact hi
structure CIn (x : Command) : Prop where
  t : 0 ≤ x.token ∧ x.token ≤ 1000000
  s : 0 ≤ x.seq ∧ x.seq ≤ 1000000
  o : 1 ≤ x.op ∧ x.op ≤ 5
  k : x.op ≠ 1 → 1 ≤ x.key.size ∧ x.key.size ≤ 8 ∧ x.val.size ≤ 20
theorem CIn.of {x : Command} (h : cmdOk x = true) : CIn x := by
  simp only [cmdOk, inR, Bool.and_eq_true, decide_eq_true_eq] at h
  refine ⟨by omega, by omega, by omega, fun h1 => ?_⟩
  have h2 := h.2
  rw [if_neg (by simpa using h1)] at h2
  simp only [Bool.and_eq_true, decide_eq_true_eq] at h2
  omega
theorem do_ok {k : Keep} {n : Int} {x : Command} (h : KOk k) (hn : 1 ≤ n ∧ n ≤ 400000) (hx : CIn x) (h1 : x.op ≠ 1) : KOk (doK k n x).1 ∧ (doK k n x).2.size ≤ 40 := by
  have hc := hx.k h1
  have hit : (itemOf k x.key).2 = true → ItIn (itemOf k x.key).1 := item_in h.to
  have a1 := itoa_len (n := n) (by omega) (by omega)
  have c1 : tIs.size = 3 := rfl
  have c2 : tNo.size = 2 := rfl
  have c3 : tDrop.size = 4 := rfl
  have c4 : tNot.size = 4 := rfl
  have c5 : tFull.size = 4 := rfl
  have c6 : tPut.size = 4 := rfl
  have c7 : (⟨#[32]⟩ : ByteArray).size = 1 := rfl
  unfold doK
  simp only []
  by_cases hb : (itemOf k x.key).2 = true
  · have hI := hit hb
    have hl := hI.len; have hv := hI.v
    by_cases o3 : (x.op == 3) = true
    · rw [if_pos o3, if_pos hb]
      exact ⟨h, by simp only [ByteArray.size_append]; omega⟩
    rw [if_neg o3]
    by_cases o4 : (x.op == 4) = true
    · rw [if_pos o4, if_pos hb]
      exact ⟨h.withoutK _, by simp only []; omega⟩
    rw [if_neg o4, if_neg (by simp [hb])]
    split
    · exact ⟨h, by simp only [ByteArray.size_append]; omega⟩
    · rw [if_neg (by simp [hb])]
      exact ⟨h.putK (it := ⟨x.key, x.val, n⟩) (by simp [itemOk, inR]; omega) (by simp [hb]), by simp only [ByteArray.size_append]; omega⟩
  · have hb : (itemOf k x.key).2 = false := by simpa using hb
    by_cases o3 : (x.op == 3) = true
    · rw [if_pos o3, if_neg (by simp [hb])]
      exact ⟨h, by simp only []; omega⟩
    rw [if_neg o3]
    by_cases o4 : (x.op == 4) = true
    · rw [if_pos o4, if_neg (by simp [hb])]
      exact ⟨h.withoutK _, by simp only []; omega⟩
    rw [if_neg o4]
    split
    · exact ⟨h, by simp only []; omega⟩
    · rename_i h5
      rw [if_neg (by intro h6; simp only [Bool.and_eq_true] at h6; exact h5 (by simp [h6.1, hb]))]
      split
      · exact ⟨h, by simp only []; omega⟩
      · rename_i hf
        exact ⟨h.putK (it := ⟨x.key, x.val, n⟩) (by simp [itemOk, inR]; omega) (by simpa using hf), by simp only [ByteArray.size_append]; omega⟩
theorem KOk.set {k : Keep} {i : Nat} {s : Session} {q : Int} {r : ByteArray} (h : KOk k) (hs : k.sessions[i]? = some s) (h0 : 1 ≤ q) (h1 : q ≤ 1000000) (h2 : r.size ≤ 40) : KOk ⟨k.sessions.set i ⟨s.token, q, r⟩, k.items⟩ := by
  obtain ⟨hi, rfl⟩ := List.getElem?_eq_some_iff.1 hs
  refine ⟨?_, fun y hy => ?_, h.ip, h.io, by simp; exact h.sl, h.il⟩
  · have e : (k.sessions.set i ⟨k.sessions[i].token, q, r⟩).map Session.token = k.sessions.map Session.token := by
      rw [List.map_set]
      apply List.ext_getElem?
      intro j
      rw [List.getElem?_set]
      split
      · rename_i hj; subst hj
        split
        · simp [hi]
        · rename_i h3; simp at h3; omega
      · rfl
    have h3 : (k.sessions.map Session.token).Pairwise (· < ·) := List.pairwise_map.2 h.sp
    rw [← e] at h3
    exact List.pairwise_map.1 h3
  · rcases List.mem_or_eq_of_mem_set hy with hy | rfl
    · exact h.so y hy
    · have h4 := h.so _ (List.getElem_mem hi)
      simp only [sessOk, inR, Bool.and_eq_true, decide_eq_true_eq] at h4 ⊢
      refine ⟨⟨⟨h4.1.1.1, by omega, by omega⟩, by omega⟩, ?_⟩
      have : (q == 0) = false := by simp; omega
      simp [this]
theorem KOk.items {k k' : Keep} (h : KOk k) (h' : KOk k') : KOk ⟨k.sessions, k'.items⟩ := ⟨h.sp, h.so, h'.ip, h'.io, h.sl, h'.il⟩
inductive Pf (k : Keep) (n : Int) (x : Command) : Keep × ByteArray × Bool → Prop
  | op : x.op = 1 → Pf k n x (openK k n, tOpen ++ itoaB n, true)
  | stay (r : ByteArray) : x.op ≠ 1 → Pf k n x (k, r, true)
  | does (i : Nat) (s : Session) : x.op ≠ 1 → At k x i s → x.seq = s.last + 1 → 0 ≤ s.last → Pf k n x (⟨k.sessions.set i ⟨s.token, x.seq, (doK k n x).2⟩, (doK k n x).1.items⟩, (doK k n x).2, true)
theorem wrap_last {l : Int} (h : 0 ≤ l ∧ l ≤ 1000000) : IntKind.i64.wrap (l + 1) = l + 1 := by rw [IntKind.wrap_i64]; omega
theorem pf_of {k : Keep} {n : Int} {x : Command} (h : PfOk k n x) : Pf k n x (perfK k n x) := by
  by_cases h1 : (x.op == 1) = true
  · rw [perf_open h h1]; exact .op (by simpa using h1)
  have h1 : (x.op == 1) = false := by simpa using h1
  have h2 : x.op ≠ 1 := by simpa using h1
  cases e : k.sessions.findIdx? (isTok x.token) with
  | none =>
    have : (k.sessions.take k.sessions.length).any (isTok x.token) = false := by
      rw [List.take_length, List.any_eq_false]
      intro y hy
      have := List.findIdx?_eq_none_iff.1 e y hy
      simp [this]
    rw [perf_none h h1 this (Nat.le_refl _)]
    exact .stay _ h2
  | some i =>
    obtain ⟨hi, hp, _⟩ := List.findIdx?_eq_some_iff_getElem.1 e
    have ha : At k x i k.sessions[i] := ⟨e, List.getElem?_eq_getElem hi, hp⟩
    have hl := sess_in h.k ha
    have hw := wrap_last hl
    by_cases c1 : decide (x.seq > IntKind.i64.wrap (k.sessions[i].last + 1)) = true
    · rw [perf_gap h h1 ha c1]; exact .stay _ h2
    have c1 : decide (x.seq > IntKind.i64.wrap (k.sessions[i].last + 1)) = false := by simpa using c1
    by_cases c2 : (decide (x.seq < k.sessions[i].last) || x.seq == 0) = true
    · rw [perf_old h h1 ha c1 c2]; exact .stay _ h2
    have c2 : (decide (x.seq < k.sessions[i].last) || x.seq == 0) = false := by simpa using c2
    by_cases c3 : (x.seq == k.sessions[i].last) = true
    · rw [perf_same h h1 ha c1 c2 c3]; exact .stay _ h2
    have c3 : (x.seq == k.sessions[i].last) = false := by simpa using c3
    rw [perf_do h h1 ha c1 c2 c3]
    refine .does i _ h2 ha ?_ hl.1
    rw [hw] at c1
    simp at c1 c2 c3
    omega
theorem pf_ok {k : Keep} {n : Int} {x : Command} (h : PfOk k n x) : KOk (perfK k n x).1 ∧ (perfK k n x).2.2 = true := by
  have hk := KOk.of h.k
  have hx := CIn.of h.x
  have hn := h.n
  have hf := pf_of h
  generalize perfK k n x = r at hf ⊢
  cases hf with
  | op h1 => exact ⟨hk.open hn, rfl⟩
  | stay r h1 => exact ⟨hk, rfl⟩
  | does i s h1 ha hs h0 =>
    have hd := do_ok hk hn hx h1
    have hl := sess_in h.k ha
    exact ⟨(hk.items hd.1).set ha.fs (by omega) (by have := hx.s; omega) hd.2, rfl⟩
def onceN (c : l01Cur) (n : Int) : Bool × l01Cur := ((belowN c n).1 == 0, (belowN c n).2)
def pickI (c : l01Cur) (l : List Int) : Int × l01Cur := (l.getD (belowN c l.length).1.toNat 0, (belowN c l.length).2)
def pickS (c : l01Cur) (l : List ByteArray) : ByteArray × l01Cur := (l.getD (belowN c l.length).1.toNat ⟨#[]⟩, (belowN c l.length).2)
def ops : List Int := [2, 2, 2, 3, 3, 4, 5, 5]
def keys : List ByteArray := [⟨#[97]⟩, ⟨#[98]⟩, ⟨#[99]⟩, ⟨#[114, 111, 111, 116]⟩, ⟨#[120, 49]⟩]
def vals : List ByteArray := [⟨#[]⟩, ⟨#[49]⟩, ⟨#[116, 119, 111]⟩, ⟨#[116, 104, 114, 101, 101]⟩]
theorem pickI_mem (c : l01Cur) {l : List Int} (h : 0 < l.length) : (pickI c l).1 ∈ l := by
  have := belowN_in c (n := (l.length : Int)) (by omega)
  exact getD_mem (by omega)
theorem pickS_mem (c : l01Cur) {l : List ByteArray} (h : 0 < l.length) : (pickS c l).1 ∈ l := by
  have := belowN_in c (n := (l.length : Int)) (by omega)
  exact getD_mem (by omega)
def valN (c : l01Cur) (op : Int) : ByteArray × l01Cur := if op == 2 || op == 5 then pickS c vals else (⟨#[]⟩, c)
def verN (c : l01Cur) (op : Int) (it : Item × Bool) : Int × l01Cur :=
  if op == 5 then
    let v := belowN c 20
    if it.2 then (if (onceN v.2 3).1 then IntKind.i64.wrap (1 + v.1) else it.1.ver, (onceN v.2 3).2) else (IntKind.i64.wrap (1 + v.1), v.2)
  else (0, c)
def ofN (c : l01Cur) (k : Keep) : Command × l01Cur :=
  let op := pickI c ops
  let key := pickS op.2 keys
  let val := valN key.2 op.1
  let ver := verN val.2 op.1 (itemOf k key.1)
  (⟨op.1, 0, 0, key.1, val.1, ver.1⟩, ver.2)
def sessD (c : l01Cur) (l : List Session) : Session × l01Cur :=
  if (onceN c 4).1 then (l.getD (belowN (onceN c 4).2 l.length).1.toNat Session.z, (belowN (onceN c 4).2 l.length).2) else (l.getD (l.length - 1) Session.z, (onceN c 4).2)
def lastN (c : l01Cur) (x : Command) (s : Session) : Command × l01Cur :=
  let r := belowN c 16
  let y : Command := ⟨x.op, s.token, IntKind.i64.wrap (s.last + 1), x.key, x.val, x.ver⟩
  if r.1 == 0 then (⟨x.op, s.token, s.last, x.key, x.val, x.ver⟩, r.2)
  else if r.1 == 1 then (⟨x.op, s.token, (belowN r.2 4).1, x.key, x.val, x.ver⟩, (belowN r.2 4).2)
  else if r.1 == 2 then (⟨x.op, (belowN r.2 9).1, IntKind.i64.wrap (s.last + 1), x.key, x.val, x.ver⟩, (belowN r.2 9).2)
  else (y, r.2)
def openC : Command := ⟨1, 0, 0, ⟨#[]⟩, ⟨#[]⟩, 0⟩
def commandN (c : l01Cur) (k : Keep) : Command × l01Cur :=
  if (k.sessions.length : Int) == 0 then (openC, c) else
  if (onceN c 16).1 then (openC, (onceN c 16).2) else
  let x := ofN (onceN c 16).2 k
  let s := sessD x.2 k.sessions
  lastN s.2 x.1 s.1
structure BaseC (x : Command) : Prop where
  o : 2 ≤ x.op ∧ x.op ≤ 5
  k : x.key ∈ keys
  v : x.val ∈ vals
  r : (if x.op == 2 then x.ver == 0 else if x.op == 5 then inR x.ver 1 1000000000 else emp x.val && x.ver == 0) = true
structure GoodC (x : Command) : Prop where
  ok : cmdOk x = true
  kv : x.op ≠ 1 → x.key ∈ keys ∧ x.val ∈ vals
structure GoodK (j : Int) (k : Keep) : Prop where
  ok : KOk k
  tok : ∀ s ∈ k.sessions, s.token ≤ j ∧ s.last ≤ j
  kv : ∀ x ∈ k.items, x.key ∈ keys ∧ x.val ∈ vals
theorem GoodK.mono {i j : Int} {k : Keep} (h : GoodK i k) (hj : i ≤ j) : GoodK j k := ⟨h.ok, fun s hs => by have := h.tok s hs; omega, h.kv⟩
theorem keys_in : ∀ k ∈ keys, 1 ≤ k.size ∧ k.size ≤ 8 := by decide
theorem vals_in : ∀ k ∈ vals, k.size ≤ 20 := by decide
theorem ops_in : ∀ o ∈ ops, 2 ≤ o ∧ o ≤ 5 := by decide
theorem wrap_small {x : Int} (h0 : -9223372036854775808 ≤ x) (h1 : x ≤ 9223372036854775807) : IntKind.i64.wrap x = x := by rw [IntKind.wrap_i64]; omega
theorem item_ver {k : Keep} {key : ByteArray} (h : KOk k) (hb : (itemOf k key).2 = true) : inR (itemOf k key).1.ver 1 1000000000 = true := by
  have := item_in (key := key) h.to hb
  have h1 := this.n1; have h2 := this.n9
  simp [inR]; omega
theorem ofN_base {k : Keep} (h : KOk k) (c : l01Cur) : BaseC (ofN c k).1 := by
  have h1 := ops_in _ (pickI_mem c (l := ops) (by decide))
  have h2 := pickS_mem (pickI c ops).2 (l := keys) (by decide)
  unfold ofN
  simp only []
  generalize pickI c ops = op at *
  generalize pickS op.2 keys = key at *
  refine ⟨h1, h2, ?_, ?_⟩
  · show (valN key.2 op.1).1 ∈ vals
    unfold valN
    split
    · exact pickS_mem _ (by decide)
    · exact List.mem_cons_self ..
  · show (if op.1 == 2 then (verN (valN key.2 op.1).2 op.1 (itemOf k key.1)).1 == 0 else if op.1 == 5 then inR (verN (valN key.2 op.1).2 op.1 (itemOf k key.1)).1 1 1000000000 else emp (valN key.2 op.1).1 && (verN (valN key.2 op.1).2 op.1 (itemOf k key.1)).1 == 0) = true
    by_cases e2 : (op.1 == 2) = true
    · rw [if_pos e2]
      have : (op.1 == 5) = false := by simp at e2 ⊢; omega
      simp [verN, this]
    rw [if_neg e2]
    by_cases e5 : (op.1 == 5) = true
    · rw [if_pos e5]
      unfold verN
      rw [if_pos e5]
      generalize (valN key.2 op.1).2 = c2
      have hb := belowN_in c2 (n := 20) (by omega)
      have hw : IntKind.i64.wrap (1 + (belowN c2 20).1) = 1 + (belowN c2 20).1 := wrap_small (by omega) (by omega)
      have hr : inR (IntKind.i64.wrap (1 + (belowN c2 20).1)) 1 1000000000 = true := by rw [hw]; simp [inR]; omega
      simp only []
      cases hi : (itemOf k key.1).2 with
      | true =>
        rw [if_pos rfl]
        simp only []
        split
        · exact hr
        · exact item_ver h hi
      | false => rw [if_neg (by simp)]; exact hr
    · rw [if_neg e5]
      have f2 : (op.1 == 2) = false := by simpa using e2
      have f5 : (op.1 == 5) = false := by simpa using e5
      simp [verN, valN, f2, f5, emp]
theorem BaseC.good {x : Command} {t q : Int} (h : BaseC x) (ht : 0 ≤ t ∧ t ≤ 1000000) (hq : 0 ≤ q ∧ q ≤ 1000000) : GoodC ⟨x.op, t, q, x.key, x.val, x.ver⟩ := by
  have h1 := h.o; have h2 := keys_in _ h.k; have h3 := vals_in _ h.v; have h4 := h.r
  refine ⟨?_, fun _ => ⟨h.k, h.v⟩⟩
  have h5 : (x.op == 1) = false := by simp; omega
  have h6 : inR t 0 1000000 = true := by simp [inR]; omega
  have h7 : inR q 0 1000000 = true := by simp [inR]; omega
  have h8 : inR x.op 1 5 = true := by simp [inR]; omega
  have h9 : inR (x.key.size : Int) 1 8 = true := by simp [inR]; omega
  have h10 : decide ((x.val.size : Int) ≤ 20) = true := by simp; omega
  simp only [cmdOk, h5, h6, h7, h8, h9, h10, h4, Bool.false_eq_true, if_false, Bool.and_self]
theorem openC_good : GoodC openC := ⟨by kernel_rfl, fun h => absurd rfl h⟩
theorem sess_at {j : Int} {k : Keep} (h : GoodK j k) {s : Session} (hs : s ∈ k.sessions) : 1 ≤ s.token ∧ s.token ≤ j ∧ 0 ≤ s.last ∧ s.last ≤ j := by
  have h1 := h.ok.so s hs
  have h2 := h.tok s hs
  simp only [sessOk, inR, Bool.and_eq_true, decide_eq_true_eq] at h1
  omega
theorem sessD_mem {l : List Session} (h : (l.length : Int) ≠ 0) (c : l01Cur) : (sessD c l).1 ∈ l := by
  unfold sessD
  split
  · have := belowN_in (onceN c 4).2 (n := (l.length : Int)) (by omega)
    exact getD_mem (by omega)
  · exact getD_mem (by omega)
theorem lastN_good {x : Command} {s : Session} {j : Int} (c : l01Cur) (h : BaseC x) (hs : 1 ≤ s.token ∧ s.token ≤ j ∧ 0 ≤ s.last ∧ s.last ≤ j) (hj : j ≤ 900) : GoodC (lastN c x s).1 := by
  have hw : IntKind.i64.wrap (s.last + 1) = s.last + 1 := wrap_small (by omega) (by omega)
  have h4 := belowN_in (belowN c 16).2 (n := 4) (by omega)
  have h9 := belowN_in (belowN c 16).2 (n := 9) (by omega)
  unfold lastN
  simp only [hw]
  split
  · exact h.good (by omega) (by omega)
  · split
    · exact h.good (by omega) (by omega)
    · split
      · exact h.good (by omega) (by omega)
      · exact h.good (by omega) (by omega)
theorem commandN_good {j : Int} {k : Keep} (h : GoodK j k) (hj : j ≤ 900) (c : l01Cur) : GoodC (commandN c k).1 := by
  unfold commandN
  split
  · exact openC_good
  · split
    · exact openC_good
    · rename_i h1 _
      exact lastN_good _ (ofN_base h.ok _) (sess_at h (sessD_mem (by simpa using h1) _)) hj
theorem onceN_ok {c : l01Cur} (h : curOk c) (n : Int) : curOk (onceN c n).2 := belowN_ok h n
theorem pickI_ok {c : l01Cur} (h : curOk c) (l : List Int) : curOk (pickI c l).2 := belowN_ok h _
theorem pickS_ok {c : l01Cur} (h : curOk c) (l : List ByteArray) : curOk (pickS c l).2 := belowN_ok h _
theorem valN_ok {c : l01Cur} (h : curOk c) (o : Int) : curOk (valN c o).2 := by
  unfold valN; split
  · exact pickS_ok h _
  · exact h
theorem verN_ok {c : l01Cur} (h : curOk c) (o : Int) (it : Item × Bool) : curOk (verN c o it).2 := by
  unfold verN; simp only []; split
  · split
    · exact belowN_ok (belowN_ok h _) _
    · exact belowN_ok h _
  · exact h
theorem ofN_ok {c : l01Cur} (h : curOk c) (k : Keep) : curOk (ofN c k).2 := verN_ok (valN_ok (pickS_ok (pickI_ok h _) _) _) _ _
theorem sessD_ok {c : l01Cur} (h : curOk c) (l : List Session) : curOk (sessD c l).2 := by
  unfold sessD; split
  · exact belowN_ok (belowN_ok h _) _
  · exact belowN_ok h _
theorem lastN_ok {c : l01Cur} (h : curOk c) (x : Command) (s : Session) : curOk (lastN c x s).2 := by
  unfold lastN; simp only []; split
  · exact belowN_ok h _
  · split
    · exact belowN_ok (belowN_ok h _) _
    · split
      · exact belowN_ok (belowN_ok h _) _
      · exact belowN_ok h _
theorem commandN_ok {c : l01Cur} (h : curOk c) (k : Keep) : curOk (commandN c k).2 := by
  unfold commandN; split
  · exact h
  · split
    · exact belowN_ok h _
    · exact lastN_ok (sessD_ok (ofN_ok (onceN_ok h _) _) _) _ _
theorem mem_insL {it : Item} : ∀ {l : List Item} {y : Item}, y ∈ insL it l → y = it ∨ y ∈ l
  | [], y, h => by simp [insL] at h; exact .inl h
  | x :: r, y, h => by
    rw [insL] at h
    split at h
    · rcases List.mem_cons.1 h with rfl | h
      · exact .inl rfl
      · exact .inr h
    · rcases List.mem_cons.1 h with rfl | h
      · exact .inr (List.mem_cons_self ..)
      · rcases mem_insL h with h | h
        · exact .inl h
        · exact .inr (List.mem_cons_of_mem _ h)
theorem do_mem {k : Keep} {n : Int} {x : Command} {y : Item} (h : y ∈ (doK k n x).1.items) : y ∈ k.items ∨ y = ⟨x.key, x.val, n⟩ := by
  unfold doK at h
  simp only [] at h
  split at h
  · exact .inl h
  · split at h
    · exact .inl (List.mem_filter.1 h).1
    · split at h
      · exact .inl h
      · split at h
        · exact .inl h
        · split at h
          · exact .inl h
          · rcases mem_insL h with h | h
            · exact .inr h
            · exact .inl (List.mem_filter.1 h).1
theorem mem_open {k : Keep} {n : Int} {s : Session} (h : KOk k) (hs : s ∈ (openK k n).sessions) : s ∈ k.sessions ∨ s = newS n := by
  have e : openL n k.sessions = openS k.sessions n := open_eq (keepOk_up h.to).2
  have hs : s ∈ openL n k.sessions := by
    have hs : s ∈ cut3 (openL n k.sessions) := hs
    unfold cut3 at hs
    split at hs
    · exact List.mem_of_mem_drop hs
    · exact hs
  rw [e, openS, List.append_assoc] at hs
  rcases List.mem_append.1 hs with hs | hs
  · exact .inl (List.mem_filter.1 hs).1
  · rcases List.mem_append.1 hs with hs | hs
    · exact .inr (by simpa using hs)
    · exact .inl (List.mem_filter.1 hs).1
theorem GoodK.pf {j n : Int} {k : Keep} {x : Command} (h : GoodK j k) (hx : GoodC x) (hn : 1 ≤ n ∧ n ≤ 400000) : PfOk k n x := ⟨h.ok.to, hn, hx.ok⟩
theorem GoodK.step {j n : Int} {k : Keep} {x : Command} (h : GoodK j k) (hx : GoodC x) (hj : j < n) (hn : 1 ≤ n ∧ n ≤ 400000) : GoodK n (perfK k n x).1 := by
  have hp := h.pf hx hn
  refine ⟨(pf_ok hp).1, ?_, ?_⟩
  · have hf := pf_of hp
    generalize perfK k n x = r at hf ⊢
    cases hf with
    | op h1 =>
      intro s hs
      rcases mem_open h.ok hs with hs | rfl
      · have := h.tok s hs; omega
      · simp [newS]; omega
    | stay r h1 => intro s hs; have := h.tok s hs; omega
    | does i s h1 ha hs h0 =>
      intro y hy
      have hm := h.tok s (List.mem_of_getElem? ha.fs)
      rcases List.mem_or_eq_of_mem_set hy with hy | rfl
      · have := h.tok y hy; omega
      · simp only []; omega
  · have hf := pf_of hp
    generalize perfK k n x = r at hf ⊢
    cases hf with
    | op h1 => exact h.kv
    | stay r h1 => exact h.kv
    | does i s h1 ha hs h0 =>
      intro y hy
      rcases do_mem hy with hy | rfl
      · exact h.kv y hy
      · exact hx.kv h1
def keep0 : Keep := ⟨[⟨1, 0, ⟨#[]⟩⟩], [⟨⟨#[114, 111, 111, 116]⟩, ⟨#[]⟩, 1⟩]⟩
def keepNew : Keep := ⟨[], [⟨⟨#[114, 111, 111, 116]⟩, ⟨#[]⟩, 1⟩]⟩
theorem keep0_eq : (perfK keepNew 1 openC).1 = keep0 := by kernel_rfl
theorem keepNew_ok : KOk keepNew := KOk.of (by kernel_rfl)
theorem keep0_good : GoodK 1 keep0 := by
  refine ⟨KOk.of (by kernel_rfl), ?_, ?_⟩
  · intro s hs
    simp [keep0] at hs
    subst hs
    exact ⟨by decide, by decide⟩
  · intro s hs
    simp [keep0] at hs
    subst hs
    exact ⟨List.mem_cons_of_mem _ (List.mem_cons_of_mem _ (List.mem_cons_of_mem _ (List.mem_cons_self ..))), List.mem_cons_self ..⟩
def keepL (size : Int) : Nat → Int → l01Cur → Keep → Keep × l01Cur
  | 0, _, c, k => (k, c)
  | f + 1, i, c, k =>
    if i < (belowN c size).1 then
      keepL size f (i + 1) (commandN (belowN c size).2 k).2 (if (perfK k (i + 2) (commandN (belowN c size).2 k).1).2.2 then (perfK k (i + 2) (commandN (belowN c size).2 k).1).1 else k)
    else (k, (belowN c size).2)
def keepN (c : l01Cur) (size : Int) : Keep × l01Cur := keepL size (size.toNat + 1) 0 c keep0
structure KeP (c0 : l01Cur) (size : Int) (i : Nat) (c : l01Cur) (k : Keep) : Prop where
  hc : curOk c
  hi : i ≤ size.toNat
  hk : GoodK (i + 1) k
  eq : keepL size (size.toNat + 1 - i) i c k = keepN c0 size
theorem KeP.init {c : l01Cur} {size : Int} (h : curOk c) : KeP c size 0 c (perfK keepNew 1 openC).1 := by
  rw [keep0_eq]; exact ⟨h, by omega, keep0_good, rfl⟩
theorem KeP.lt {c0 : l01Cur} {size : Int} {i : Nat} {c : l01Cur} {k : Keep} (_ : KeP c0 size i c k) (hc : (i : Int) < (belowN c size).1) : i < size.toNat := by
  rcases Int.lt_or_le 0 size with hs | hs
  · have := belowN_in c hs; omega
  · unfold belowN at hc; rw [if_pos hs] at hc; simp at hc; omega
theorem KeP.step {c0 : l01Cur} {size : Int} {i : Nat} {c : l01Cur} {k k' : Keep} {b : Bool} (h : KeP c0 size i c k) (hs : size ≤ 40) (hc : (i : Int) < (belowN c size).1)
    (hb : (perfK k ((i : Int) + 2) (commandN (belowN c size).2 k).1).2.2 = b) (hk : k' = if b then (perfK k ((i : Int) + 2) (commandN (belowN c size).2 k).1).1 else k) : KeP c0 size (i + 1) (commandN (belowN c size).2 k).2 k' := by
  have hlt := h.lt hc
  have hg := commandN_good h.hk (by omega) (belowN c size).2
  have hst := h.hk.step hg (n := (i : Int) + 2) (by omega) (by omega)
  have hp := pf_ok (h.hk.pf hg (n := (i : Int) + 2) (by omega))
  refine ⟨commandN_ok (belowN_ok h.hc _) _, by omega, ?_, ?_⟩
  · rw [hk, ← hb, hp.2]
    exact hst.mono (by omega)
  · rw [← h.eq, show size.toNat + 1 - i = (size.toNat + 1 - (i + 1)) + 1 by omega, keepL, if_pos hc, hk, ← hb]
    congr 1
theorem KeP.fin {c0 : l01Cur} {size : Int} {i : Nat} {c : l01Cur} {k : Keep} (h : KeP c0 size i c k) (hc : ¬ (i : Int) < (belowN c size).1) : keepN c0 size = (k, (belowN c size).2) := by
  have := h.hi
  rw [← h.eq, show size.toNat + 1 - i = (size.toNat - i) + 1 by omega, keepL, if_neg hc]
theorem keepL_good {size : Int} (hs : size ≤ 40) : ∀ (f : Nat) (i : Int) (c : l01Cur) (k : Keep), 0 ≤ i → i ≤ 40 → GoodK (i + 1) k → curOk c → GoodK 41 (keepL size f i c k).1 ∧ curOk (keepL size f i c k).2
  | 0, i, c, k, h0, h1, hk, hc => ⟨hk.mono (by omega), hc⟩
  | f + 1, i, c, k, h0, h1, hk, hc => by
    rw [keepL]
    split
    · rename_i hlt
      have hg := commandN_good hk (by omega) (belowN c size).2
      have hst := hk.step hg (n := i + 2) (by omega) (by omega)
      have hp := pf_ok (hk.pf hg (n := i + 2) (by omega))
      rw [hp.2, if_pos rfl]
      have h3 : i < size := by
        rcases Int.lt_or_le 0 size with hs | hs
        · have := belowN_in c hs; omega
        · unfold belowN at hlt; rw [if_pos hs] at hlt; simp at hlt; omega
      exact keepL_good hs f (i + 1) _ _ (by omega) (by omega) (hst.mono (by omega)) (commandN_ok (belowN_ok hc _) _)
    · exact ⟨hk.mono (by omega), belowN_ok hc _⟩
theorem keepN_good {c : l01Cur} {size : Int} (hs : size ≤ 40) (hc : curOk c) : GoodK 41 (keepN c size).1 ∧ curOk (keepN c size).2 := keepL_good hs _ 0 c keep0 (by omega) (by omega) keep0_good hc
def talkSize (code : List Int) : Int := if IntKind.i64.wrap (8 + IntKind.i64.wrap (Int.tdiv code.length 8)) > 36 then 36 else IntKind.i64.wrap (8 + IntKind.i64.wrap (Int.tdiv code.length 8))
theorem talkSize_le (code : List Int) : talkSize code ≤ 36 := by unfold talkSize; split <;> omega
def talkK (code : List Int) : Keep × l01Cur := keepN (cur0 code) (talkSize code)
def talkX (code : List Int) : Command := (commandN (talkK code).2 (talkK code).1).1
theorem talk_good {code : List Int} (h : code.length ≤ maxLen) : GoodK 41 (talkK code).1 ∧ curOk (talkK code).2 := keepN_good (by have := talkSize_le code; omega) (cur0_ok h).2
theorem KOk.okTo {k : Keep} (h : KOk k) : okToKeep k := by
  have h1 := h.sl; have h2 := h.il
  refine ⟨⟨by omega, fun s hs => ?_⟩, ⟨by omega, fun x hx => ?_⟩⟩
  · have := h.so s hs
    simp only [sessOk, inR, Bool.and_eq_true, decide_eq_true_eq] at this
    show s.reply.size ≤ 1048576
    omega
  · have := itemOk_in (h.io x hx)
    have h3 := this.k8; have h4 := this.v
    refine ⟨?_, ?_⟩
    · show x.key.size ≤ 1048576; omega
    · show x.val.size ≤ 1048576; omega
theorem KeP.ix {c0 : l01Cur} {size : Int} {i : Nat} {c : l01Cur} {k : Keep} (h : KeP c0 size i c k) (hs : size ≤ 40) : IntKind.i64.wrap ((i : Int) + 2) = (i : Int) + 2 := by
  have := h.hi
  exact wrap_small (by omega) (by omega)
theorem KeP.stepW {c0 : l01Cur} {size : Int} {i : Nat} {c : l01Cur} {k k' : Keep} {b : Bool} (h : KeP c0 size i c k) (hs : size ≤ 40) (hc : (i : Int) < (belowN c size).1)
    (hb : (perfK k (IntKind.i64.wrap ((i : Int) + 2)) (commandN (belowN c size).2 k).1).2.2 = b) (hk : k' = if b then (perfK k (IntKind.i64.wrap ((i : Int) + 2)) (commandN (belowN c size).2 k).1).1 else k) : KeP c0 size (i + 1) (commandN (belowN c size).2 k).2 k' := by
  rw [h.ix hs] at hb hk
  exact h.step hs hc hb hk
def c10 (l : List UInt8) : Nat := l.countP (· == 10)
theorem c10_app (a b : List UInt8) : c10 (a ++ b) = c10 a + c10 b := List.countP_append
theorem toL_app (a b : ByteArray) : (a ++ b).toList = a.toList ++ b.toList := by
  rw [ByteArray.toList_eq, ByteArray.toList_eq, ByteArray.toList_eq, ByteArray.data_append, Array.toList_append]
theorem c10_dec : ∀ u : Nat, c10 (Lib.decDigits u) = 0 := by
  intro u
  induction u using Nat.strongRecOn with
  | _ u ih =>
    have hd : ∀ d : Nat, d < 10 → c10 [UInt8.ofNat (48 + d)] = 0 := by
      intro d hd
      have : d = 0 ∨ d = 1 ∨ d = 2 ∨ d = 3 ∨ d = 4 ∨ d = 5 ∨ d = 6 ∨ d = 7 ∨ d = 8 ∨ d = 9 := by omega
      rcases this with rfl | rfl | rfl | rfl | rfl | rfl | rfl | rfl | rfl | rfl <;> rfl
    rw [Lib.decDigits]
    split
    · exact hd u (by assumption)
    · rw [c10_app, ih (u / 10) (by omega), hd _ (Nat.mod_lt _ (by omega))]
theorem c10_itoa {n : Int} (h : 0 ≤ n) : c10 (itoaB n).toList = 0 := by
  rw [itoaB, ByteArray.toList_eq, Lib.itoa, if_neg (by omega)]
  exact c10_dec _
theorem keys_c10 : ∀ k ∈ keys, c10 k.toList = 0 := by
  intro k hk
  simp [keys] at hk
  rcases hk with rfl | rfl | rfl | rfl | rfl <;> (rw [ByteArray.toList_eq]; rfl)
theorem vals_c10 : ∀ k ∈ vals, c10 k.toList = 0 := by
  intro k hk
  simp [vals] at hk
  rcases hk with rfl | rfl | rfl | rfl <;> (rw [ByteArray.toList_eq]; rfl)
theorem line_c10 {x : Item} (hk : x.key ∈ keys) (hv : x.val ∈ vals) (hn : 0 ≤ x.ver) : c10 (line x).toList = 1 := by
  have h1 : c10 (⟨#[32]⟩ : ByteArray).toList = 0 := by rw [ByteArray.toList_eq]; rfl
  have h2 : c10 (⟨#[10]⟩ : ByteArray).toList = 1 := by rw [ByteArray.toList_eq]; rfl
  simp only [line, toL_app, c10_app, keys_c10 _ hk, vals_c10 _ hv, c10_itoa hn, h1, h2]
theorem showL_c10 : ∀ (l : List Item) (o : ByteArray), (∀ x ∈ l, x.key ∈ keys ∧ x.val ∈ vals ∧ 0 ≤ x.ver) → c10 (l.foldl (fun o x => o ++ line x) o).toList = c10 o.toList + l.length
  | [], o, _ => rfl
  | x :: r, o, h => by
    have hx := h x (List.mem_cons_self ..)
    rw [List.foldl_cons, showL_c10 r _ (fun y hy => h y (List.mem_cons_of_mem _ hy)), toL_app, c10_app, line_c10 hx.1 hx.2.1 hx.2.2, List.length_cons]
    omega
theorem show_c10 {j : Int} {k : Keep} (h : GoodK j k) : c10 (showK k).toList = k.items.length := by
  rw [showK, if_pos h.ok.to, showL, showL_c10 k.items _ (fun x hx => ?_)]
  · have : c10 (⟨#[]⟩ : ByteArray).toList = 0 := by rw [ByteArray.toList_eq]; rfl
    rw [this]; omega
  · have := h.kv x hx
    have h3 := itemOk_in (h.ok.io x hx)
    exact ⟨this.1, this.2, by have := h3.n1; omega⟩
theorem toL_len (s : ByteArray) : s.toList.length = s.size := by rw [ByteArray.toList_eq]; rfl
theorem toL_get {s : ByteArray} {i : Nat} (h : i < s.size) : s.toList[i]? = some s[i] := by
  rw [ByteArray.toList_eq]
  have : s.data.toList[i]? = some s.data[i] := by rw [Array.getElem?_toList]; exact Array.getElem?_eq_getElem h
  exact this
theorem bat_10 {s : ByteArray} {i : Nat} {b : Bool} (h : i < s.size) (hb : (bat s i == 10) = b) : s.toList.take (i + 1) = s.toList.take i ++ [s[i]] ∧ (s[i] == 10) = b := by
  refine ⟨take_snoc (toL_get h), ?_⟩
  have e : s[i]? = some s[i] := getElem?_pos s i h
  rw [← hb, bat, e]
  rw [Bool.eq_iff_iff, beq_iff_eq, beq_iff_eq]
  constructor
  · intro h; rw [h]; rfl
  · intro h; apply UInt8.toNat_inj.1; simp only [] at h; have : (10 : UInt8).toNat = 10 := rfl; omega
structure ShP (s : ByteArray) (i : Nat) (n : Int) : Prop where
  le : i ≤ s.size
  eq : n = (c10 (s.toList.take i) : Nat)
  lt : n ≤ i ∧ 0 ≤ n
theorem ShP.init (s : ByteArray) : ShP s 0 0 := ⟨by omega, rfl, by omega⟩
theorem ShP.no {s : ByteArray} {i : Nat} {n : Int} (h : ShP s i n) (hi : i < s.size) (hb : (bat s i == 10) = false) : ShP s (i + 1) n := by
  obtain ⟨h1, h2⟩ := bat_10 hi hb
  have h3 := h.lt
  refine ⟨hi, ?_, by omega⟩
  rw [h1, c10_app, h.eq]
  have : c10 [s[i]] = 0 := by rw [c10, List.countP_singleton, if_neg (by rw [h2]; simp)]
  omega
theorem ShP.fin {j : Int} {k : Keep} {i : Nat} {n : Int} (hk : GoodK j k) (h : ShP (showK k) i n) (hi : (showK k).size ≤ i) : n = (k.items.length : Int) := by
  rw [h.eq, List.take_of_length_le (by rw [toL_len]; exact hi), show_c10 hk]
def movedL : List Session → List Session → Bool
  | x :: r, y :: s => !(x.last == y.last) || movedL r s
  | _, _ => false
def gkeys : List ByteArray := [⟨#[97]⟩, ⟨#[98]⟩, ⟨#[114, 111, 111, 116]⟩, ⟨#[110, 101, 119]⟩]
theorem cmd_eq {c d : l01Cur} {k : Keep} {z : Session} (h1 : ¬ ((k.sessions.length : Int) == 0) = true) (h2 : ¬ (onceN c 16).1 = true) (hs : sessD (ofN (onceN c 16).2 k).2 k.sessions = (z, d)) : commandN c k = lastN d (ofN (onceN c 16).2 k).1 z := by
  rw [commandN, if_neg h1, if_neg h2]; simp only [hs]
theorem len_pos {α : Type} {l : List α} (h : ((l.length : Int) == 0) = false) : 0 < l.length := by
  simp at h
  exact List.length_pos_iff.2 h
theorem cmd_no {c : l01Cur} {k : Keep} (h : ((k.sessions.length : Int) == 0) = !false) : commandN c k = (openC, c) := by
  have h' : ((k.sessions.length : Int) == 0) = true := h
  rw [commandN, if_pos h']
structure MoP (a b : List Session) (i : Nat) (m : Bool) : Prop where
  ia : i ≤ a.length
  ib : i ≤ b.length
  eq : (m || movedL (a.drop i) (b.drop i)) = movedL a b
theorem MoP.init (a b : List Session) : MoP a b 0 false := ⟨by omega, by omega, by simp⟩
theorem MoP.step {a b : List Session} {i : Nat} {m : Bool} {x y : Session} (h : MoP a b i m) (ha : a[i]? = some x) (hb : b[i]? = some y) {m' : Bool} (hm : m' = (m || !(x.last == y.last))) : MoP a b (i + 1) m' := by
  have h1 := (List.getElem?_eq_some_iff.1 ha).1
  have h2 := (List.getElem?_eq_some_iff.1 hb).1
  refine ⟨h1, h2, ?_⟩
  rw [← h.eq, drop_get ha, drop_get hb, movedL, hm, Bool.or_assoc]
theorem MoP.fin {a b : List Session} {i : Nat} {m : Bool} (h : MoP a b i m) (hi : a.length ≤ i ∨ b.length ≤ i) : m = movedL a b := by
  rw [← h.eq]
  rcases hi with hi | hi
  · rw [List.drop_of_length_le hi]; simp [movedL]
  · rw [List.drop_of_length_le hi]; cases a.drop i <;> simp [movedL]
theorem find_ins {it : Item} : ∀ (l : List Item), (∀ x ∈ l, isKey it.key x = false) → (insL it l).find? (isKey it.key) = some it
  | [], _ => by simp [insL, isKey, sEq]
  | x :: r, h => by
    rw [insL]
    split
    · simp [isKey, sEq]
    · rw [List.find?_cons, h x (List.mem_cons_self ..), find_ins r (fun y hy => h y (List.mem_cons_of_mem _ hy))]
theorem find_ins_o {it : Item} {q : ByteArray} (hq : isKey q it = false) : ∀ (l : List Item), (insL it l).find? (isKey q) = l.find? (isKey q)
  | [] => by simp [insL, hq]
  | x :: r => by
    rw [insL]
    split
    · rw [List.find?_cons, hq]
    · rw [List.find?_cons, List.find?_cons, find_ins_o hq r]
theorem sEq_trans {a b c : ByteArray} (h1 : sEq a b = true) (h2 : sEq b c = true) : sEq a c = true := by simp [sEq] at *; rw [h1, h2]
theorem find_wo {key q : ByteArray} (hq : sEq q key = false) : ∀ (l : List Item), (withoutL l key).find? (isKey q) = l.find? (isKey q)
  | [] => rfl
  | x :: r => by
    unfold withoutL
    rw [List.filter_cons]
    cases h : isKey key x with
    | true =>
      have h2 : isKey q x = false := by
        cases h3 : isKey q x with
        | false => rfl
        | true =>
          have h4 : sEq q key = true := sEq_trans (by rw [sEq_symm]; exact h3) h
          rw [h4] at hq; cases hq
      simp only [Bool.not_true, Bool.false_eq_true, if_false]
      rw [List.find?_cons, h2]
      exact find_wo hq r
    | false =>
      simp only [Bool.not_false, if_true]
      rw [List.find?_cons, List.find?_cons]
      rw [show (List.filter (fun x => !isKey key x) r).find? (isKey q) = r.find? (isKey q) from find_wo hq r]
theorem wo_none (l : List Item) (key : ByteArray) : ∀ x ∈ withoutL l key, isKey key x = false := by
  intro x hx
  have := (List.mem_filter.1 hx).2
  simpa using this
theorem find_wo_s (l : List Item) (key : ByteArray) : (withoutL l key).find? (isKey key) = none := by
  rw [List.find?_eq_none]
  intro x hx
  simp [wo_none l key x hx]
theorem find_at : ∀ {l : List Item} {i : Nat} {e : Item}, l.Pairwise (fun a b => sLt a.key b.key = true) → l[i]? = some e → l.find? (isKey e.key) = some e
  | [], i, e, _, h => by simp at h
  | x :: r, 0, e, _, h => by simp at h; subst h; simp [isKey, sEq]
  | x :: r, i + 1, e, hp, h => by
    cases hp with
    | cons h1 h2 =>
      have h := (show r[i]? = some e by simpa using h)
      have h3 := sLt_ne (h1 e (List.mem_of_getElem? h))
      rw [List.find?_cons, show isKey e.key x = false from h3]
      exact find_at h2 h
theorem itemOf_of {k : Keep} {key : ByteArray} {x : Item} (h : k.items.find? (isKey key) = some x) : itemOf k key = (x, true) := by rw [itemOf, h]
theorem itemOf_no {k : Keep} {key : ByteArray} (h : k.items.find? (isKey key) = none) : itemOf k key = (Item.z, false) := by rw [itemOf, h]
theorem perf_next {k : Keep} {n : Int} {x : Command} {i : Nat} {s : Session} (h : PfOk k n x) (h1 : x.op ≠ 1) (hs : k.sessions[i]? = some s) (ht : x.token = s.token) (hq : x.seq = s.last + 1) (h0 : 0 ≤ s.last ∧ s.last ≤ 999999) :
    perfK k n x = (⟨k.sessions.set i ⟨s.token, x.seq, (doK k n x).2⟩, (doK k n x).1.items⟩, (doK k n x).2, true) := by
  have hu := (keepOk_up h.k).2
  have ha : At k x i s := by
    refine at_of ?_ hs (by simp [isTok, ht])
    rw [List.any_eq_false]
    intro y hy
    obtain ⟨m, hm, rfl⟩ := List.mem_iff_getElem.1 hy
    rw [List.length_take] at hm
    have h2 := UpS.lt hu (show m < i by omega) (List.getElem?_eq_getElem (by omega)) hs
    rw [List.getElem_take]
    simp [isTok, ht]
    omega
  have hw : IntKind.i64.wrap (s.last + 1) = s.last + 1 := wrap_small (by omega) (by omega)
  refine perf_do h (by simpa using h1) ha ?_ ?_ ?_
  · rw [hw, hq]; simp
  · rw [hq]; simp; omega
  · rw [hq]; simp; omega
structure PgS (k : Keep) (i : Nat) (t q : Int) : Prop where
  ok : KOk k
  at_ : ∃ r, k.sessions[i]? = some ⟨t, q, r⟩
theorem PgS.next {k : Keep} {n : Int} {x : Command} {i : Nat} {t q : Int} (h : PgS k i t q) (hn : 1 ≤ n ∧ n ≤ 400000) (hc : cmdOk x = true) (h1 : x.op ≠ 1) (ht : x.token = t) (hq : x.seq = q + 1) (h0 : 0 ≤ q ∧ q ≤ 999998) :
    PgS (perfK k n x).1 i t (q + 1) ∧ (perfK k n x).1.items = (doK k n x).1.items ∧ (perfK k n x).2.1 = (doK k n x).2 ∧ (perfK k n x).2.2 = true := by
  obtain ⟨r, hr⟩ := h.at_
  have hp : PfOk k n x := ⟨h.ok.to, hn, hc⟩
  have e := perf_next hp h1 hr ht hq ⟨h0.1, by show q ≤ _; omega⟩
  have hk := (pf_ok hp).1
  rw [e] at hk ⊢
  refine ⟨⟨hk, (doK k n x).2, ?_⟩, rfl, rfl, rfl⟩
  have := (List.getElem?_eq_some_iff.1 hr).1
  simp [this, hq]
def val3 : ByteArray := ⟨#[118, 97, 108]⟩
def cPut (t q : Int) (key : ByteArray) : Command := ⟨2, t, q, key, val3, 0⟩
def cGet (t q : Int) (key : ByteArray) : Command := ⟨3, t, q, key, ⟨#[]⟩, 0⟩
def cSw1 (t q : Int) (key : ByteArray) : Command := ⟨5, t, q, key, ⟨#[120]⟩, 69⟩
def cSw2 (t q : Int) (key : ByteArray) : Command := ⟨5, t, q, key, ⟨#[121]⟩, 70⟩
def cDrop (t q : Int) (key : ByteArray) : Command := ⟨4, t, q, key, ⟨#[]⟩, 0⟩
theorem cmd_in {o t q v : Int} {key val : ByteArray} (ho : 2 ≤ o ∧ o ≤ 5) (ht : 0 ≤ t ∧ t ≤ 1000000) (hq : 0 ≤ q ∧ q ≤ 1000000) (hk : 1 ≤ key.size ∧ key.size ≤ 8) (hv : val.size ≤ 20)
    (hr : (if o == 2 then v == 0 else if o == 5 then inR v 1 1000000000 else emp val && v == 0) = true) : cmdOk ⟨o, t, q, key, val, v⟩ = true := by
  have h5 : (o == 1) = false := by simp; omega
  have h6 : inR t 0 1000000 = true := by simp [inR]; omega
  have h7 : inR q 0 1000000 = true := by simp [inR]; omega
  have h8 : inR o 1 5 = true := by simp [inR]; omega
  have h9 : inR (key.size : Int) 1 8 = true := by simp [inR]; omega
  have h10 : decide ((val.size : Int) ≤ 20) = true := by simp; omega
  simp only [cmdOk, h5, h6, h7, h8, h9, h10, hr, Bool.false_eq_true, if_false, Bool.and_self]
def kA (k : Keep) (t q : Int) (key : ByteArray) := perfK k 70 (cPut t (IntKind.i64.wrap (q + 1)) key)
def kB (k : Keep) (t q : Int) (key : ByteArray) := perfK (kA k t q key).1 71 (cGet t (IntKind.i64.wrap (q + 2)) key)
def kC (k : Keep) (t q : Int) (key : ByteArray) := perfK (kB k t q key).1 72 (cSw1 t (IntKind.i64.wrap (q + 3)) key)
def kD (k : Keep) (t q : Int) (key : ByteArray) := perfK (kC k t q key).1 73 (cSw2 t (IntKind.i64.wrap (q + 4)) key)
def kE (k : Keep) (t q : Int) (key : ByteArray) := perfK (kD k t q key).1 74 (cDrop t (IntKind.i64.wrap (q + 5)) key)
def hasK (k : Keep) (key : ByteArray) : Bool := (itemOf k key).2
structure PgL (k : Keep) (t q : Int) (key : ByteArray) : Prop where
  oA : KOk (kA k t q key).1
  oB : KOk (kB k t q key).1
  oC : KOk (kC k t q key).1
  oD : KOk (kD k t q key).1
  oE : KOk (kE k t q key).1
  ok : (kA k t q key).2.2 = true
  full : (kA k t q key).2.1 = tFull → k.items.length = 8 ∧ hasK k key = false
  put : (kA k t q key).2.1 ≠ tFull → (kA k t q key).2.1 = tPut ++ itoaB 70
  got : (kA k t q key).2.1 ≠ tFull → (kB k t q key).2.1 = tIs ++ itoaB 70 ++ ⟨#[32]⟩ ++ val3
  not : (kA k t q key).2.1 ≠ tFull → (kC k t q key).2.1 = tNot ++ itoaB 70
  swap : (kA k t q key).2.1 ≠ tFull → (kD k t q key).2.1 = tPut ++ itoaB 73
  drop : (kA k t q key).2.1 ≠ tFull → (kE k t q key).2.1 = tDrop
  y : (kA k t q key).2.1 ≠ tFull → itemOf (kD k t q key).1 key = (⟨key, ⟨#[121]⟩, 73⟩, true)
  gone : (kA k t q key).2.1 ≠ tFull → (itemOf (kE k t q key).1 key).2 = false
  stay : (kA k t q key).2.1 ≠ tFull → ∀ (i : Nat) (e : Item), k.items[i]? = some e → sEq e.key key = false → itemOf (kE k t q key).1 e.key = (e, true)
theorem pgL {k : Keep} {i : Nat} {s : Session} {key : ByteArray} (h : KOk k) (hs : k.sessions[i]? = some s) (hl : 0 ≤ s.last ∧ s.last ≤ 900) (hk : 1 ≤ key.size ∧ key.size ≤ 8) : PgL k s.token s.last key := by
  have ht : 0 ≤ s.token ∧ s.token ≤ 1000000 := by
    have := h.so s (List.mem_of_getElem? hs)
    simp only [sessOk, inR, Bool.and_eq_true, decide_eq_true_eq] at this
    omega
  have w1 : IntKind.i64.wrap (s.last + 1) = s.last + 1 := wrap_small (by omega) (by omega)
  have w2 : IntKind.i64.wrap (s.last + 2) = s.last + 2 := wrap_small (by omega) (by omega)
  have w3 : IntKind.i64.wrap (s.last + 3) = s.last + 3 := wrap_small (by omega) (by omega)
  have w4 : IntKind.i64.wrap (s.last + 4) = s.last + 4 := wrap_small (by omega) (by omega)
  have w5 : IntKind.i64.wrap (s.last + 5) = s.last + 5 := wrap_small (by omega) (by omega)
  have p0 : PgS k i s.token s.last := ⟨h, s.reply, hs⟩
  have v3 : val3.size = 3 := rfl
  obtain ⟨pA, iA, rA, oA⟩ := p0.next (n := 70) (x := cPut s.token (IntKind.i64.wrap (s.last + 1)) key) (by omega) (cmd_in (by omega) ht (by omega) hk (by omega) rfl) (by show (2 : Int) ≠ 1; omega) rfl w1 (by omega)
  obtain ⟨pB, iB, rB, oB⟩ := pA.next (n := 71) (x := cGet s.token (IntKind.i64.wrap (s.last + 2)) key) (by omega) (cmd_in (by omega) ht (by omega) hk (by decide) (by kernel_rfl)) (by show (3 : Int) ≠ 1; omega) rfl (by show _ = _; simp only [cGet]; omega) (by omega)
  obtain ⟨pC, iC, rC, oC⟩ := pB.next (n := 72) (x := cSw1 s.token (IntKind.i64.wrap (s.last + 3)) key) (by omega) (cmd_in (by omega) ht (by omega) hk (by decide) (by kernel_rfl)) (by show (5 : Int) ≠ 1; omega) rfl (by simp only [cSw1]; omega) (by omega)
  obtain ⟨pD, iD, rD, oD⟩ := pC.next (n := 73) (x := cSw2 s.token (IntKind.i64.wrap (s.last + 4)) key) (by omega) (cmd_in (by omega) ht (by omega) hk (by decide) (by kernel_rfl)) (by show (5 : Int) ≠ 1; omega) rfl (by simp only [cSw2]; omega) (by omega)
  obtain ⟨pE, iE, rE, oE⟩ := pD.next (n := 74) (x := cDrop s.token (IntKind.i64.wrap (s.last + 5)) key) (by omega) (cmd_in (by omega) ht (by omega) hk (by decide) (by kernel_rfl)) (by show (4 : Int) ≠ 1; omega) rfl (by simp only [cDrop]; omega) (by omega)
  have f1 : tFull.size = 4 := rfl
  have f2 : tPut.size = 4 := rfl
  change (kA k s.token s.last key).1.items = _ at iA
  change (kA k s.token s.last key).2.1 = _ at rA
  change (kB k s.token s.last key).1.items = _ at iB
  change (kB k s.token s.last key).2.1 = _ at rB
  change (kC k s.token s.last key).1.items = _ at iC
  change (kC k s.token s.last key).2.1 = _ at rC
  change (kD k s.token s.last key).1.items = _ at iD
  change (kD k s.token s.last key).2.1 = _ at rD
  change (kE k s.token s.last key).1.items = _ at iE
  change (kE k s.token s.last key).2.1 = _ at rE
  by_cases hf : (!(itemOf k key).2 && (k.items.length : Int) == 8) = true
  · have e : doK k 70 (cPut s.token (IntKind.i64.wrap (s.last + 1)) key) = (k, tFull) := do_full rfl rfl (.inl rfl) hf
    have hful : (kA k s.token s.last key).2.1 = tFull := by rw [rA, e]
    refine ⟨pA.ok, pB.ok, pC.ok, pD.ok, pE.ok, oA, fun _ => ?_, fun h => absurd hful h, fun h => absurd hful h, fun h => absurd hful h, fun h => absurd hful h, fun h => absurd hful h, fun h => absurd hful h, fun h => absurd hful h, fun h => absurd hful h⟩
    simp only [Bool.and_eq_true, Bool.not_eq_true', beq_iff_eq] at hf
    exact ⟨by omega, hf.1⟩
  have hf : (!(itemOf k key).2 && (k.items.length : Int) == 8) = false := by simpa using hf
  have eA : doK k 70 (cPut s.token (IntKind.i64.wrap (s.last + 1)) key) = (putK k ⟨key, val3, 70⟩, tPut ++ itoaB 70) := do_putI rfl rfl (.inl rfl) hf
  rw [eA] at iA rA
  have gA : (kA k s.token s.last key).1.items.find? (isKey key) = some ⟨key, val3, 70⟩ := by
    rw [iA]; exact find_ins (it := ⟨key, val3, 70⟩) _ (wo_none _ _)
  have jA := itemOf_of gA
  have eB : doK (kA k s.token s.last key).1 71 (cGet s.token (IntKind.i64.wrap (s.last + 2)) key) = ((kA k s.token s.last key).1, tIs ++ itoaB (itemOf (kA k s.token s.last key).1 key).1.ver ++ ⟨#[32]⟩ ++ (itemOf (kA k s.token s.last key).1 key).1.val) := do_get1 rfl (by show (itemOf _ key).2 = true; rw [jA])
  rw [jA] at eB
  have eB' : doK (perfK k 70 (cPut s.token (IntKind.i64.wrap (s.last + 1)) key)).1 71 (cGet s.token (IntKind.i64.wrap (s.last + 2)) key) = _ := eB
  rw [eB'] at iB rB
  have gB : (kB k s.token s.last key).1.items.find? (isKey key) = some ⟨key, val3, 70⟩ := by rw [iB]; exact gA
  have jB := itemOf_of gB
  have eC : doK (kB k s.token s.last key).1 72 (cSw1 s.token (IntKind.i64.wrap (s.last + 3)) key) = ((kB k s.token s.last key).1, tNot ++ itoaB (itemOf (kB k s.token s.last key).1 key).1.ver) := do_swapN rfl rfl rfl (by show (!(itemOf _ key).2) = false; rw [jB]; rfl) (by show (!((itemOf _ key).1.ver == 69)) = true; rw [jB]; rfl)
  rw [jB] at eC
  have eC' : doK (perfK (perfK k 70 (cPut s.token (IntKind.i64.wrap (s.last + 1)) key)).1 71 (cGet s.token (IntKind.i64.wrap (s.last + 2)) key)).1 72 (cSw1 s.token (IntKind.i64.wrap (s.last + 3)) key) = _ := eC
  rw [eC'] at iC rC
  have gC : (kC k s.token s.last key).1.items.find? (isKey key) = some ⟨key, val3, 70⟩ := by rw [iC]; exact gB
  have jC := itemOf_of gC
  have eD : doK (kC k s.token s.last key).1 73 (cSw2 s.token (IntKind.i64.wrap (s.last + 4)) key) = (putK (kC k s.token s.last key).1 ⟨key, ⟨#[121]⟩, 73⟩, tPut ++ itoaB 73) :=
    do_putI rfl rfl (.inr ⟨by show (!(itemOf _ key).2) = false; rw [jC]; rfl, by show (!((itemOf _ key).1.ver == 70)) = false; rw [jC]; rfl⟩) (by show (!(itemOf _ key).2 && _) = false; rw [jC]; rfl)
  have eD' : doK (perfK (perfK (perfK k 70 (cPut s.token (IntKind.i64.wrap (s.last + 1)) key)).1 71 (cGet s.token (IntKind.i64.wrap (s.last + 2)) key)).1 72 (cSw1 s.token (IntKind.i64.wrap (s.last + 3)) key)).1 73 (cSw2 s.token (IntKind.i64.wrap (s.last + 4)) key) = _ := eD
  rw [eD'] at iD rD
  have gD : (kD k s.token s.last key).1.items.find? (isKey key) = some ⟨key, ⟨#[121]⟩, 73⟩ := by
    rw [iD]; exact find_ins (it := ⟨key, ⟨#[121]⟩, 73⟩) _ (wo_none _ _)
  have jD := itemOf_of gD
  have eE : doK (kD k s.token s.last key).1 74 (cDrop s.token (IntKind.i64.wrap (s.last + 5)) key) = (withoutK (kD k s.token s.last key).1 key, tDrop) := do_drop1 rfl rfl (by show (itemOf _ key).2 = true; rw [jD])
  have eE' : doK (perfK (perfK (perfK (perfK k 70 (cPut s.token (IntKind.i64.wrap (s.last + 1)) key)).1 71 (cGet s.token (IntKind.i64.wrap (s.last + 2)) key)).1 72 (cSw1 s.token (IntKind.i64.wrap (s.last + 3)) key)).1 73 (cSw2 s.token (IntKind.i64.wrap (s.last + 4)) key)).1 74 (cDrop s.token (IntKind.i64.wrap (s.last + 5)) key) = _ := eE
  rw [eE'] at iE rE
  have hne : (kA k s.token s.last key).2.1 ≠ tFull := by
    rw [rA]; intro h9
    have := congrArg ByteArray.size h9
    rw [ByteArray.size_append, f1, f2] at this
    have h8 : 0 < (itoaB 70).size := by
      rw [itoaB, Lib.itoa, if_neg (by omega)]
      show 0 < (Lib.decDigits 70).length
      rw [Lib.decDigits_two (by decide) (by decide)]; decide
    omega
  refine ⟨pA.ok, pB.ok, pC.ok, pD.ok, pE.ok, oA, fun h9 => absurd h9 hne, fun _ => rA, fun _ => rB, fun _ => rC, fun _ => rD, fun _ => rE, fun _ => jD, fun _ => ?_, fun _ m e he hek => ?_⟩
  · rw [itemOf_no (by rw [iE]; exact find_wo_s _ _)]
  · refine itemOf_of ?_
    have hq : ∀ (v : ByteArray) (n : Int), isKey e.key ⟨key, v, n⟩ = false := fun v n => by rw [isKey, sEq_symm]; exact hek
    rw [iE]
    show (withoutL _ key).find? (isKey e.key) = _
    rw [find_wo hek, iD]
    show (insL ⟨key, ⟨#[121]⟩, 73⟩ (withoutL _ key)).find? (isKey e.key) = _
    rw [find_ins_o (hq _ _), find_wo hek, iC, iB, iA]
    show (insL ⟨key, val3, 70⟩ (withoutL _ key)).find? (isKey e.key) = _
    rw [find_ins_o (hq _ _), find_wo hek]
    exact find_at h.ip he
theorem draw_len (code : List Int) : (drawPlaces code).length = 12 := places_len 12 _
theorem draw_at (code : List Int) (i : Nat) : 0 ≤ (drawPlaces code).getD i 0 ∧ (drawPlaces code).getD i 0 < 10000 := by
  rw [List.getD_eq_getElem?_getD]
  cases h : (drawPlaces code)[i]? with
  | none => simp
  | some x => exact places_in 12 _ x (List.mem_of_getElem? h)
def sI (code : List Int) : Nat := (Int.tmod ((drawPlaces code).getD 0 0) ((talkK code).1.sessions.length : Int)).toNat
def sP (code : List Int) : Session := (talkK code).1.sessions.getD (sI code) Session.z
def gI (code : List Int) : Nat := (Int.tmod ((drawPlaces code).getD 1 0) 4).toNat
def gP (code : List Int) : ByteArray := gkeys.getD (gI code) ⟨#[]⟩
theorem sI_eq {code : List Int} (h : 0 < (talkK code).1.sessions.length) : ((Int.tmod ((drawPlaces code).getD 0 0) ((talkK code).1.sessions.length : Int)).toNat : Int) = Int.tmod ((drawPlaces code).getD 0 0) ((talkK code).1.sessions.length : Int) := by
  have := Int.tmod_nonneg ((talkK code).1.sessions.length : Int) (draw_at code 0).1
  omega
theorem sP_at {code : List Int} (h : 0 < (talkK code).1.sessions.length) : (talkK code).1.sessions[sI code]? = some (sP code) := by
  have h1 := Int.tmod_nonneg ((talkK code).1.sessions.length : Int) (draw_at code 0).1
  have h2 := Int.tmod_lt_of_pos ((drawPlaces code).getD 0 0) (b := ((talkK code).1.sessions.length : Int)) (by omega)
  exact getD_some (by rw [sI]; omega)
theorem gI_eq (code : List Int) : ((Int.tmod ((drawPlaces code).getD 1 0) 4).toNat : Int) = Int.tmod ((drawPlaces code).getD 1 0) 4 := by
  have := Int.tmod_nonneg 4 (draw_at code 1).1
  omega
theorem gI_lt (code : List Int) : gI code < gkeys.length := by
  have h1 := Int.tmod_nonneg 4 (draw_at code 1).1
  have h2 := Int.tmod_lt_of_pos ((drawPlaces code).getD 1 0) (b := 4) (by omega)
  show gI code < 4
  rw [gI]; omega
theorem gP_at (code : List Int) : gkeys[gI code]? = some (gP code) := getD_some (gI_lt code)
theorem gkeys_in : ∀ k ∈ gkeys, 1 ≤ k.size ∧ k.size ≤ 8 := by decide
theorem gP_in (code : List Int) : 1 ≤ (gP code).size ∧ (gP code).size ≤ 8 := gkeys_in _ (List.mem_of_getElem? (gP_at code))
def qA (code : List Int) := kA (talkK code).1 (sP code).token (sP code).last (gP code)
def qB (code : List Int) := perfK (qA code).1 71 (cGet (sP code).token (IntKind.i64.wrap ((sP code).last + 2)) (gP code))
def qC (code : List Int) := perfK (qB code).1 72 (cSw1 (sP code).token (IntKind.i64.wrap ((sP code).last + 3)) (gP code))
def qD (code : List Int) := perfK (qC code).1 73 (cSw2 (sP code).token (IntKind.i64.wrap ((sP code).last + 4)) (gP code))
def qE (code : List Int) := perfK (qD code).1 74 (cDrop (sP code).token (IntKind.i64.wrap ((sP code).last + 5)) (gP code))
theorem qA_eq (code : List Int) : qA code = kA (talkK code).1 (sP code).token (sP code).last (gP code) := by unfold qA; rfl
theorem qB_eq (code : List Int) : qB code = kB (talkK code).1 (sP code).token (sP code).last (gP code) := by rw [qB, kB, qA_eq]
theorem qC_eq (code : List Int) : qC code = kC (talkK code).1 (sP code).token (sP code).last (gP code) := by rw [qC, kC, qB_eq]
theorem qD_eq (code : List Int) : qD code = kD (talkK code).1 (sP code).token (sP code).last (gP code) := by rw [qD, kD, qC_eq]
theorem qE_eq (code : List Int) : qE code = kE (talkK code).1 (sP code).token (sP code).last (gP code) := by rw [qE, kE, qD_eq]
theorem qL {code : List Int} (hl : code.length ≤ maxLen) (h : 0 < (talkK code).1.sessions.length) : PgL (talkK code).1 (sP code).token (sP code).last (gP code) := by
  have hg := (talk_good hl).1
  have h1 := sess_at hg (List.mem_of_getElem? (sP_at h))
  exact pgL hg.ok (sP_at h) ⟨h1.2.2.1, by omega⟩ (gP_in code)
theorem itoa70 : itoaB 70 = ⟨#[55, 48]⟩ := by
  rw [itoaB, Lib.itoa, if_neg (by omega), show (70 : Int).toNat = 70 from rfl, Lib.decDigits_two (by decide) (by decide)]; rfl
theorem itoa73 : itoaB 73 = ⟨#[55, 51]⟩ := by
  rw [itoaB, Lib.itoa, if_neg (by omega), show (73 : Int).toNat = 73 from rfl, Lib.decDigits_two (by decide) (by decide)]; rfl
theorem pg_stay {qe : Keep} {e : Item} {key : ByteArray} (hs : sEq e.key key = false → itemOf qe e.key = (e, true)) (h : (!(e.key.toList == key.toList) && (!(itemOf qe e.key).2 || !eqItem (itemOf qe e.key).1 e)) = true) : False := by
  cases hk : sEq e.key key with
  | true => rw [show (e.key.toList == key.toList) = true from hk] at h; simp at h
  | false => rw [hs hk] at h; simp [eqItem_refl] at h
theorem pg_and {a b c d e : ByteArray} {y : Item × Bool} {g : Bool} {key : ByteArray} (h1 : a = (⟨#[112, 117, 116, 32, 55, 48]⟩ : ByteArray)) (h2 : b = (⟨#[105, 115, 32, 55, 48, 32, 118, 97, 108]⟩ : ByteArray)) (h3 : c = (⟨#[110, 111, 116, 32, 55, 48]⟩ : ByteArray)) (h4 : d = (⟨#[112, 117, 116, 32, 55, 51]⟩ : ByteArray)) (h5 : e = (⟨#[100, 114, 111, 112]⟩ : ByteArray)) (h6 : y = (⟨key, ⟨#[121]⟩, 73⟩, true)) (h7 : g = false) :
    (((((((((a.toList == (⟨#[112, 117, 116, 32, 55, 48]⟩ : ByteArray).toList) && (b.toList == (⟨#[105, 115, 32, 55, 48, 32, 118, 97, 108]⟩ : ByteArray).toList)) && (c.toList == (⟨#[110, 111, 116, 32, 55, 48]⟩ : ByteArray).toList)) && (d.toList == (⟨#[112, 117, 116, 32, 55, 51]⟩ : ByteArray).toList)) && ((y.1.val).toList == (⟨#[121]⟩ : ByteArray).toList)) && (y.1.ver == 73)) && (e.toList == (⟨#[100, 114, 111, 112]⟩ : ByteArray).toList)) && (!g)) && ((keepNew.items.length : Int) == 1)) = true := by
  subst h1 h2 h3 h4 h5 h6 h7
  simp [keepNew]
theorem pg_end {code : List Int} (hL : PgL (talkK code).1 (sP code).token (sP code).last (gP code)) (hne : (qA code).2.1 ≠ tFull) :
    (((((((((((qA code).2.1).toList == (⟨#[112, 117, 116, 32, 55, 48]⟩ : ByteArray).toList) && (((qB code).2.1).toList == (⟨#[105, 115, 32, 55, 48, 32, 118, 97, 108]⟩ : ByteArray).toList)) && (((qC code).2.1).toList == (⟨#[110, 111, 116, 32, 55, 48]⟩ : ByteArray).toList)) && (((qD code).2.1).toList == (⟨#[112, 117, 116, 32, 55, 51]⟩ : ByteArray).toList)) && ((((itemOf ((qD code).1) (gP code)).1).val).toList == (⟨#[121]⟩ : ByteArray).toList)) && (((itemOf ((qD code).1) (gP code)).1).ver == 73)) && (((qE code).2.1).toList == (⟨#[100, 114, 111, 112]⟩ : ByteArray).toList)) && (!((itemOf ((qE code).1) (gP code)).2))) && ((keepNew.items.length : Int) == 1)) = true := by
  rw [qA_eq] at hne
  rw [qA_eq, qB_eq, qC_eq, qD_eq, qE_eq]
  have e1 : tPut ++ itoaB 70 = (⟨#[112, 117, 116, 32, 55, 48]⟩ : ByteArray) := by rw [itoa70]; rfl
  have e2 : tIs ++ itoaB 70 ++ ⟨#[32]⟩ ++ val3 = (⟨#[105, 115, 32, 55, 48, 32, 118, 97, 108]⟩ : ByteArray) := by rw [itoa70]; rfl
  have e3 : tNot ++ itoaB 70 = (⟨#[110, 111, 116, 32, 55, 48]⟩ : ByteArray) := by rw [itoa70]; rfl
  have e4 : tPut ++ itoaB 73 = (⟨#[112, 117, 116, 32, 55, 51]⟩ : ByteArray) := by rw [itoa73]; rfl
  exact pg_and ((hL.put hne).trans e1) ((hL.got hne).trans e2) ((hL.not hne).trans e3) ((hL.swap hne).trans e4) (hL.drop hne) (hL.y hne) (hL.gone hne)
structure PgQ (code : List Int) : Prop where
  oA : KOk (qA code).1
  oB : KOk (qB code).1
  oC : KOk (qC code).1
  oD : KOk (qD code).1
  oE : KOk (qE code).1
  ok : (qA code).2.2 = true
  full : (qA code).2.1 = tFull → (talkK code).1.items.length = 8 ∧ (itemOf (talkK code).1 (gP code)).2 = false
  stay : (qA code).2.1 ≠ tFull → ∀ (i : Nat) (e : Item), (talkK code).1.items[i]? = some e → sEq e.key (gP code) = false → itemOf (qE code).1 e.key = (e, true)
theorem qQ {code : List Int} (h : PgL (talkK code).1 (sP code).token (sP code).last (gP code)) : PgQ code :=
  ⟨by rw [qA_eq]; exact h.oA, by rw [qB_eq]; exact h.oB, by rw [qC_eq]; exact h.oC, by rw [qD_eq]; exact h.oD, by rw [qE_eq]; exact h.oE, by rw [qA_eq]; exact h.ok, by rw [qA_eq]; exact h.full, by rw [qA_eq, qE_eq]; exact h.stay⟩
end Go.Proofs.YtaeagpakloggfaaDoor.Y
