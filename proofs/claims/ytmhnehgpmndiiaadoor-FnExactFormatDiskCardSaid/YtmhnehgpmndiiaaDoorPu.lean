import Derived.Sort.Walk0
import Derived.Test.YtmhnehgpmndiiaaDoorIt
import Derived.Test.YtmhnehgpmndiiaaDoorEng16
import Derived.Test.YtmhnehgpmndiiaaDoorEng44
import Derived.Test.YtmhnehgpmndiiaaDoorEng46
import Derived.Laws.Strings
namespace Go.Proofs.YtmhnehgpmndiiaaDoor.Y
open Go Go.RowKit Go.Eng

def okSl {α : Type} (ok : α → Prop) (l : List α) : Prop := l.length ≤ 1048576 ∧ ∀ x ∈ l, ok x
def eqI (x y : Int) : Bool := x == y
theorem eqI_refl (x : Int) : eqI x x = true := by simp [eqI]
def eqB (x y : Bool) : Bool := x == y
def eqStr (x y : ByteArray) : Bool := x.toList == y.toList
def eqS {α : Type} (f : α → α → Bool) : List α → List α → Bool
  | [], [] => true
  | x :: r, y :: s => if f x y then eqS f r s else false
  | _, _ => false
theorem eqS_refl {α : Type} {f : α → α → Bool} (h : ∀ x, f x x = true) : ∀ a : List α, eqS f a a = true
  | [] => rfl
  | x :: r => by rw [eqS, h x, if_pos rfl, eqS_refl h r]
theorem eqS_ne {α : Type} {f : α → α → Bool} : ∀ {a b : List α}, a.length ≠ b.length → eqS f a b = false
  | [], [], h => absurd rfl h
  | [], _ :: _, _ => rfl
  | _ :: _, [], _ => rfl
  | x :: r, y :: s, h => by
    simp only [eqS]
    rw [eqS_ne (by simpa using h)]
    simp
theorem take_snoc {α : Type} {l : List α} {i : Nat} {e : α} (h : l[i]? = some e) : l.take (i + 1) = l.take i ++ [e] := by
  obtain ⟨h1, h2⟩ := List.getElem?_eq_some_iff.1 h
  rw [List.take_succ_eq_append_getElem h1, h2]
theorem wrap_le (x : Int) : IntKind.i64.wrap x ≤ 9223372036854775807 := by
  rw [IntKind.wrap_i64]; omega
def inc (k : Int) : Int := IntKind.i64.wrap (k + 1)
def dgs (n : Nat) (out : ByteArray) : ByteArray :=
  if h : n = 0 then out else dgs (n / 10) (bytesOf [IntKind.u8.wrap (IntKind.i64.wrap (48 + Int.tmod (n : Int) 10))] ++ out)
termination_by n
decreasing_by omega
def mtext (k : Int) : ByteArray := if k ≤ 0 then ⟨#[109, 48]⟩ else ⟨#[109]⟩ ++ dgs k.toNat ⟨#[]⟩
def mkI (_x : Int) (k : Int) : Int × Int := (k, inc k)
def mkB (_x : Bool) (k : Int) : Bool × Int := (Int.tmod k 3 == 0, inc k)
def mkS (_x : ByteArray) (k : Int) : ByteArray × Int := (mtext k, inc k)
def mkL {α : Type} (f : α → Int → α × Int) : List α → Int → List α × Int
  | [], k => ([], k)
  | x :: r, k => ((f x k).1 :: (mkL f r (f x k).2).1, (mkL f r (f x k).2).2)
def hdI (x k : Int) : Option Int := if x == k then some (inc k) else none
def hdB (x : Bool) (k : Int) : Option Int := if x == (Int.tmod k 3 == 0) then some (inc k) else none
def hdS (x : ByteArray) (k : Int) : Option Int := if x.toList == (mtext k).toList then some (inc k) else none
def hdL {α : Type} (f : α → Int → Option Int) : List α → Int → Option Int
  | [], k => some k
  | x :: r, k => match f x k with | none => none | some k' => hdL f r k'
def hdN {α : Type} (f : α → Int → Option Int) (x : α) (k : Int) : Option Int := match f x k with | none => none | some k' => if k' < 0 then none else some k'
def HdLe {α : Type} (f : α → Int → Option Int) : Prop := ∀ (x : α) (k k' : Int), k ≤ 9223372036854775807 → f x k = some k' → k' ≤ 9223372036854775807
theorem hdI_le : HdLe hdI := by
  intro x k k' _ h
  unfold hdI at h
  split at h
  · cases h; exact wrap_le _
  · cases h
theorem hdB_le : HdLe hdB := by
  intro x k k' _ h
  unfold hdB at h
  split at h
  · cases h; exact wrap_le _
  · cases h
theorem hdS_le : HdLe hdS := by
  intro x k k' _ h
  unfold hdS at h
  split at h
  · cases h; exact wrap_le _
  · cases h
theorem hdL_le {α : Type} {f : α → Int → Option Int} (hf : HdLe f) : HdLe (hdL f) := by
  intro l
  induction l with
  | nil => intro k k' h0 h; simp only [hdL] at h; cases h; exact h0
  | cons x r ih =>
    intro k k' h0 h
    simp only [hdL] at h
    cases e : f x k with
    | none => rw [e] at h; cases h
    | some k1 => rw [e] at h; exact ih k1 k' (hf x k k1 h0 e) h
theorem hdN_le {α : Type} {f : α → Int → Option Int} (hf : HdLe f) : HdLe (hdN f) := by
  intro x k k' h0 h
  unfold hdN at h
  cases e : f x k with
  | none => rw [e] at h; cases h
  | some k1 =>
    rw [e] at h
    simp only [] at h
    split at h
    · cases h
    · cases h; exact hf x k _ h0 e
theorem leD {α : Type} {f : α → Int → Option Int} {x : α} {k : Int} (hf : HdLe f) (hk : k ≤ 9223372036854775807) : (f x k).getD (-1) ≤ 9223372036854775807 := by
  cases e : f x k with
  | none => decide
  | some k1 => exact hf x k k1 hk e
theorem hdN_ok {α : Type} {f : α → Int → Option Int} {x : α} {k : Int} (h : 0 ≤ (f x k).getD (-1)) : hdN f x k = some ((f x k).getD (-1)) := by
  unfold hdN
  cases e : f x k with
  | none => rw [e] at h; simp at h
  | some k1 => rw [e] at h; simp at h; simp; omega
theorem hdN_bad {α : Type} {f : α → Int → Option Int} {x : α} {k : Int} (h : (f x k).getD (-1) < 0) : hdN f x k = none := by
  unfold hdN
  cases e : f x k with
  | none => rfl
  | some k1 => rw [e] at h; simp at h; simp; omega
theorem mkI_le (x k : Int) : (mkI x k).2 ≤ 9223372036854775807 := wrap_le _
theorem mkB_le (x : Bool) (k : Int) : (mkB x k).2 ≤ 9223372036854775807 := wrap_le _
theorem mkS_le (x : ByteArray) (k : Int) : (mkS x k).2 ≤ 9223372036854775807 := wrap_le _
theorem mkL_le {α : Type} {f : α → Int → α × Int} (hf : ∀ x k, (f x k).2 ≤ 9223372036854775807) : ∀ (l : List α) (k : Int), k ≤ 9223372036854775807 → (mkL f l k).2 ≤ 9223372036854775807
  | [], _, h => h
  | x :: r, k, _ => mkL_le hf r _ (hf x k)
theorem mkL_cnt {α : Type} {f : α → Int → α × Int} (c : Nat) (hf : ∀ (x : α) (k : Int), 0 ≤ k → k + c ≤ 4611686018427387904 → (f x k).2 = k + c) : ∀ (l : List α) (k : Int), 0 ≤ k → k + (c * l.length : Nat) ≤ 4611686018427387904 → (mkL f l k).2 = k + (c * l.length : Nat)
  | [], k, _, _ => by simp [mkL]
  | x :: r, k, h0, h1 => by
    have e : c * (x :: r).length = c + c * r.length := by simp [Nat.mul_add]; omega
    rw [e] at h1 ⊢
    have h2 := hf x k h0 (by omega)
    simp only [mkL]
    rw [h2, mkL_cnt c hf r (k + c) (by omega) (by omega)]
    omega
theorem hdL_mk {α : Type} {f : α → Int → α × Int} {h : α → Int → Option Int} (hm : ∀ x k, h (f x k).1 k = some (f x k).2) : ∀ (l : List α) (k : Int), hdL h (mkL f l k).1 k = some (mkL f l k).2
  | [], _ => rfl
  | x :: r, k => by simp [mkL, hdL, hm, hdL_mk hm r]
theorem mk_step {α : Type} (f : α → Int → α × Int) {a b b' : List α} {i : Nat} {ei : α} {l k : Int} (e' : α) (l' : Int) (hi : b[i]? = some ei) (hlen : b.length = a.length) (hdr : b.drop i = a.drop i) (hr : (b.take i ++ (mkL f (a.drop i) l).1, (mkL f (a.drop i) l).2) = mkL f a k)
    (hb : b' = b.set i e') (hf : f ei l = (e', l')) (hl : l' ≤ 9223372036854775807) : i + 1 ≤ b'.length ∧ l' ≤ 9223372036854775807 ∧ b'.length = a.length ∧ b'.drop (i + 1) = a.drop (i + 1) ∧ (b'.take (i + 1) ++ (mkL f (a.drop (i + 1)) l').1, (mkL f (a.drop (i + 1)) l').2) = mkL f a k := by
  have hlt : i < b.length := (List.getElem?_eq_some_iff.1 hi).1
  subst hb
  have h1 : b.drop i = ei :: b.drop (i + 1) := drop_get hi
  have h2 : a.drop (i + 1) = b.drop (i + 1) := by
    have := congrArg List.tail hdr
    simpa using this.symm
  refine ⟨by simp; omega, hl, by simp [hlen], ?_, ?_⟩
  · rw [List.drop_set_of_lt (by omega), h2]
  · rw [← hr, ← hdr, h1, h2]
    simp only [mkL, hf]
    have h3 : (b.set i e').take (i + 1) = b.take i ++ [e'] := by
      rw [List.take_succ_eq_append_getElem (by simp; omega)]
      simp [List.take_set_of_le]
    rw [h3]
    simp
theorem mtext_dgs {k : Int} (h : ¬ k ≤ 0) : mtext k = ⟨#[109]⟩ ++ dgs k.toNat ⟨#[]⟩ := by simp [mtext, h]
theorem dgs_step {n : Int} {out : ByteArray} (h : n > 0) : dgs n.toNat out = dgs (Int.tdiv n 10).toNat (bytesOf [IntKind.u8.wrap (IntKind.i64.wrap (48 + Int.tmod n 10))] ++ out) := by
  rw [dgs, dif_neg (by omega)]
  have e : ((n.toNat : Nat) : Int) = n := by omega
  rw [e]
  congr 1
  rw [Int.tdiv_eq_ediv_of_nonneg (by omega)]
  omega
theorem bytesOf_one (x : Int) : (bytesOf [x]).size = 1 := rfl
theorem mt_dec {n : Int} {s : Nat} (h0 : 0 ≤ n) (hp : n * 10 ^ s ≤ 9223372036854775807) (h : decide (n > 0) = true) : (IntKind.i64.wrap (Int.tdiv n 10)).toNat < n.toNat := by
  have hn : n > 0 := by simpa using h
  have hpos : (0 : Int) < 10 ^ s := Int.pow_pos (by omega)
  have : n * 1 ≤ n * 10 ^ s := Int.mul_le_mul_of_nonneg_left (by omega) (by omega)
  rw [IntKind.wrap_i64, Int.tdiv_eq_ediv_of_nonneg h0]
  omega
theorem mt_step {n k : Int} {out : ByteArray} (h0 : 0 ≤ n) (hp : n * 10 ^ out.size ≤ 9223372036854775807) (hr : dgs n.toNat out = dgs k.toNat ⟨#[]⟩) (h : decide (n > 0) = true) :
    0 ≤ IntKind.i64.wrap (Int.tdiv n 10) ∧ (bytesOf [IntKind.u8.wrap (IntKind.i64.wrap (48 + Int.tmod n 10))] ++ out).size ≤ 60 ∧
      IntKind.i64.wrap (Int.tdiv n 10) * 10 ^ (bytesOf [IntKind.u8.wrap (IntKind.i64.wrap (48 + Int.tmod n 10))] ++ out).size ≤ 9223372036854775807 ∧
      dgs (IntKind.i64.wrap (Int.tdiv n 10)).toNat (bytesOf [IntKind.u8.wrap (IntKind.i64.wrap (48 + Int.tmod n 10))] ++ out) = dgs k.toNat ⟨#[]⟩ := by
  have hn : n > 0 := by simpa using h
  have hpos : (0 : Int) < 10 ^ out.size := Int.pow_pos (by omega)
  have hle : (10 : Int) ^ out.size ≤ 9223372036854775807 := by
    have : (10 : Int) ^ out.size * 1 ≤ 10 ^ out.size * n := Int.mul_le_mul_of_nonneg_left (by omega) (by omega)
    rw [Int.mul_comm (10 ^ out.size) n] at this
    omega
  have hs : out.size < 19 := by
    rcases Nat.lt_or_ge out.size 19 with h1 | h1
    · exact h1
    · exfalso
      have h2 : (10 : Nat) ^ 19 ≤ 10 ^ out.size := Nat.pow_le_pow_right (by omega) h1
      have h3 : ((10 ^ out.size : Nat) : Int) ≤ 9223372036854775807 := by simpa using hle
      omega
  have hnM : n ≤ 9223372036854775807 := by
    have : n * 1 ≤ n * 10 ^ out.size := Int.mul_le_mul_of_nonneg_left (by omega) (by omega)
    omega
  have hw : IntKind.i64.wrap (Int.tdiv n 10) = n / 10 := by
    rw [IntKind.wrap_i64, Int.tdiv_eq_ediv_of_nonneg h0]
    omega
  have hsz : (bytesOf [IntKind.u8.wrap (IntKind.i64.wrap (48 + Int.tmod n 10))] ++ out).size = out.size + 1 := by
    rw [ByteArray.size_append, bytesOf_one]
    omega
  rw [hw, hsz]
  refine ⟨by omega, by omega, ?_, ?_⟩
  · rw [Int.pow_succ, Int.mul_comm (10 ^ out.size) 10, ← Int.mul_assoc]
    have : n / 10 * 10 * 10 ^ out.size ≤ n * 10 ^ out.size := Int.mul_le_mul_of_nonneg_right (by omega) (by omega)
    omega
  · rw [← hr, dgs_step hn, Int.tdiv_eq_ediv_of_nonneg h0]
structure File where
  name : ByteArray
  text : ByteArray
  kept : Int
def File.c (e : File) : List T := [.v (.string e.name), .v (.string e.text), .v (.int .i64 e.kept)]
theorem File.len (e : File) : e.c.length = 3 := rfl
def File.z : File := ⟨⟨#[]⟩, ⟨#[]⟩, 0⟩
def File.vs (e : File) : List Value := [.string e.name, .string e.text, .int .i64 e.kept]
def eqFile (x y : File) : Bool := x.name.toList == y.name.toList && (x.text.toList == y.text.toList && (x.kept == y.kept))
theorem eqFile_refl (x : File) : eqFile x x = true := by simp [eqFile]
def mkEFile (x : File) (k : Int) : File × Int := ((⟨(mkS x.name k).1, (mkS x.text (mkS x.name k).2).1, (mkI x.kept (mkS x.text (mkS x.name k).2).2).1⟩ : File), (mkI x.kept (mkS x.text (mkS x.name k).2).2).2)
def hdEFile (x : File) (k0 : Int) : Option Int := match hdS x.name k0 with | none => none | some k1 => match hdS x.text k1 with | none => none | some k2 => match hdI x.kept k2 with | none => none | some k3 => some k3
theorem hdEFile_le : HdLe hdEFile := by
  intro x k k9 h0 h
  unfold hdEFile at h
  cases e0 : hdS x.name k with
  | none => rw [e0] at h; cases h
  | some k1 =>
  rw [e0] at h; simp only [] at h
  have h1 := hdS_le _ _ _ h0 e0
  cases e1 : hdS x.text k1 with
  | none => rw [e1] at h; cases h
  | some k2 =>
  rw [e1] at h; simp only [] at h
  have h2 := hdS_le _ _ _ h1 e1
  cases e2 : hdI x.kept k2 with
  | none => rw [e2] at h; cases h
  | some k3 =>
  rw [e2] at h; simp only [] at h
  have h3 := hdI_le _ _ _ h2 e2
  cases h; exact h3
theorem mkEFile_le (x : File) (k : Int) : (mkEFile x k).2 ≤ 9223372036854775807 := by
  simp only [mkEFile, mkI, mkB, mkS, inc]; first | exact wrap_le _ | (apply mkL_le)
theorem mkEFile_cnt (x : File) (k : Int) (h0 : 0 ≤ k) (h1 : k + 3 ≤ 4611686018427387904) : (mkEFile x k).2 = k + 3 := by
  simp only [mkEFile, mkI, mkB, mkS, inc, IntKind.wrap_i64]; omega
theorem hdEFile_mk (x : File) (k : Int) : hdEFile (mkEFile x k).1 k = some (mkEFile x k).2 := by
  simp [hdEFile, mkEFile, mkI, mkB, mkS, hdI, hdB, hdS]
structure Disk where
  files : List File
def Disk.c (e : Disk) : List T := [sl 3 File.c e.files]
theorem Disk.len (e : Disk) : e.c.length = 1 := rfl
def Disk.z : Disk := ⟨[]⟩
def eqDisk (x y : Disk) : Bool := (eqS eqFile) x.files y.files
theorem eqDisk_refl (x : Disk) : eqDisk x x = true := by simp [eqDisk, eqS_refl eqFile_refl]
def mkVDisk (x : Disk) (k : Int) : Disk × Int := ((⟨((mkL mkEFile) x.files k).1⟩ : Disk), ((mkL mkEFile) x.files k).2)
def hdVDisk (x : Disk) (k0 : Int) : Option Int := match (hdN (hdL hdEFile)) x.files k0 with | none => none | some k1 => some k1
theorem hdVDisk_le : HdLe hdVDisk := by
  intro x k k9 h0 h
  unfold hdVDisk at h
  cases e0 : (hdN (hdL hdEFile)) x.files k with
  | none => rw [e0] at h; cases h
  | some k1 =>
  rw [e0] at h; simp only [] at h
  have h1 := (hdN_le (hdL_le hdEFile_le)) _ _ _ h0 e0
  cases h; exact h1
theorem mkVDisk_le (x : Disk) (k : Int) (hk : k ≤ 9223372036854775807) : (mkVDisk x k).2 ≤ 9223372036854775807 := by
  simp only [mkVDisk]; repeat (first | exact hk | apply mkL_le | apply mkI_le | apply mkS_le | apply mkB_le | apply mkEFile_le)
structure Entry where
  term_ : Int
  kind : Int
  data : ByteArray
def Entry.c (e : Entry) : List T := [.v (.int .i64 e.term_), .v (.int .i64 e.kind), .v (.string e.data)]
theorem Entry.len (e : Entry) : e.c.length = 3 := rfl
def Entry.z : Entry := ⟨0, 0, ⟨#[]⟩⟩
def Entry.vs (e : Entry) : List Value := [.int .i64 e.term_, .int .i64 e.kind, .string e.data]
structure Log where
  start : Int
  startTerm : Int
  entries : List Entry
def Log.c (e : Log) : List T := [.v (.int .i64 e.start), .v (.int .i64 e.startTerm), sl 3 Entry.c e.entries]
theorem Log.len (e : Log) : e.c.length = 3 := rfl
def Log.z : Log := ⟨0, 0, []⟩
structure Journal where
  number : Int
  term_ : Int
  vote : Int
  log : Log
def Journal.c (e : Journal) : List T := [.v (.int .i64 e.number), .v (.int .i64 e.term_), .v (.int .i64 e.vote), .v (.int .i64 e.log.start), .v (.int .i64 e.log.startTerm), sl 3 Entry.c e.log.entries]
theorem Journal.len (e : Journal) : e.c.length = 6 := rfl
def Journal.z : Journal := ⟨0, 0, 0, Log.z⟩
structure Snap where
  index : Int
  term_ : Int
  conf : List Int
  body : ByteArray
def Snap.c (e : Snap) : List T := [.v (.int .i64 e.index), .v (.int .i64 e.term_), sl 1 cI e.conf, .v (.string e.body)]
theorem Snap.len (e : Snap) : e.c.length = 4 := rfl
def Snap.z : Snap := ⟨0, 0, [], ⟨#[]⟩⟩
structure Session where
  token : Int
  last : Int
  reply : ByteArray
def Session.c (e : Session) : List T := [.v (.int .i64 e.token), .v (.int .i64 e.last), .v (.string e.reply)]
theorem Session.len (e : Session) : e.c.length = 3 := rfl
def Session.z : Session := ⟨0, 0, ⟨#[]⟩⟩
def Session.vs (e : Session) : List Value := [.int .i64 e.token, .int .i64 e.last, .string e.reply]
structure Item where
  key : ByteArray
  val : ByteArray
  ver : Int
def Item.c (e : Item) : List T := [.v (.string e.key), .v (.string e.val), .v (.int .i64 e.ver)]
theorem Item.len (e : Item) : e.c.length = 3 := rfl
def Item.z : Item := ⟨⟨#[]⟩, ⟨#[]⟩, 0⟩
def Item.vs (e : Item) : List Value := [.string e.key, .string e.val, .int .i64 e.ver]
structure Keep where
  sessions : List Session
  items : List Item
def Keep.c (e : Keep) : List T := [sl 3 Session.c e.sessions, sl 3 Item.c e.items]
theorem Keep.len (e : Keep) : e.c.length = 2 := rfl
def Keep.z : Keep := ⟨[], []⟩
def okToSession (e : Session) : Prop := e.reply.size ≤ 1048576
def okToItem (e : Item) : Prop := e.key.size ≤ 1048576 ∧ e.val.size ≤ 1048576
def okToKeep (e : Keep) : Prop := okSl okToSession e.sessions ∧ okSl okToItem e.items
def inR (n x y : Int) : Bool := decide (n ≥ x) && decide (n ≤ y)
def riseOk (lo hi : Int) : Option Int → List Int → Bool
  | _, [] => true
  | p, x :: r => if !(inR x lo hi) || (match p with | none => false | some q => decide (q ≥ x)) then false else riseOk lo hi (some x) r
theorem riseOk_cons (lo hi : Int) (p : Option Int) (x : Int) (r : List Int) : riseOk lo hi p (x :: r) = if !(inR x lo hi) || (match p with | none => false | some q => decide (q ≥ x)) then false else riseOk lo hi (some x) r := by
  cases p <;> rfl
theorem riseOk_nil (lo hi : Int) (p : Option Int) : riseOk lo hi p [] = true := by
  cases p <;> rfl
def prevI (a : List Int) (i : Nat) : Option Int := if i = 0 then none else some (a.getD (i - 1) 0)
theorem prevI_succ {a : List Int} {i : Nat} {e : Int} (h : a[i]? = some e) : prevI a (i + 1) = some e := by
  simp [prevI, List.getD_eq_getElem?_getD, h]
def confOk (a : List Int) : Bool := inR (a.length : Int) 1 4 && riseOk 1 4 none a
theorem riseOk_len : ∀ (a : List Int) (q : Int), riseOk 1 4 (some q) a = true → (a.length : Int) ≤ max 0 (4 - q)
  | [], q, _ => by simp; omega
  | x :: r, q, h => by
    rw [riseOk] at h
    split at h
    · cases h
    · rename_i hc
      have ih := riseOk_len r x h
      simp [inR] at hc
      simp only [List.length_cons]
      omega
theorem confOk_impl (a : List Int) : (decide ((a.length : Int) > 0) && riseOk 1 4 none a) = confOk a := by
  unfold confOk inR
  cases a with
  | nil => simp
  | cons x r =>
    cases hr : riseOk 1 4 none (x :: r) with
    | false => simp
    | true =>
      rw [riseOk] at hr
      split at hr
      · cases hr
      · rename_i hc
        have ih := riseOk_len r x hr
        simp [inR] at hc
        simp
        omega
theorem findIdx_at {α : Type} {p : α → Bool} : ∀ {a : List α} {i : Nat} {e : α}, (a.take i).any p = false → a[i]? = some e → p e = true → a.findIdx? p = some i
  | [], i, e, _, h, _ => by simp at h
  | x :: r, 0, e, _, h, hp => by
    simp at h
    subst h
    simp [List.findIdx?_cons, hp]
  | x :: r, i + 1, e, ha, h, hp => by
    simp only [List.take_succ_cons, List.any_cons, Bool.or_eq_false_iff] at ha
    have := findIdx_at (a := r) ha.2 (by simpa using h) hp
    simp [List.findIdx?_cons, ha.1, this]
theorem confOk_len {a : List Int} (h : confOk a = true) : a.length ≤ 4 := by
  simp [confOk, inR] at h
  omega
theorem nT {b : Bool} (h : (!b) = true) : b = false := by simpa using h
theorem nF {b : Bool} (h : (!b) = false) : b = true := by simpa using h
theorem toL_len (s : ByteArray) : s.toList.length = s.size := by rw [ByteArray.toList_eq]; rfl
theorem toL_get {s : ByteArray} {i : Nat} (h : i < s.size) : s.toList[i]? = some s[i] := by
  rw [ByteArray.toList_eq]
  have : s.data.toList[i]? = some s.data[i] := by rw [Array.getElem?_toList]; exact Array.getElem?_eq_getElem h
  exact this
theorem wrap_small {x : Int} (h0 : -9223372036854775808 ≤ x) (h1 : x ≤ 9223372036854775807) : IntKind.i64.wrap x = x := by rw [IntKind.wrap_i64]; omega
def confText (a : List Int) : ByteArray × Bool := if confOk a then (bytesOf (a.map fun x => IntKind.u8.wrap x), true) else (⟨#[]⟩, false)
-- CODEC
theorem dgs_dec (u : Nat) (out : ByteArray) (h : 0 < u) : dgs u out = ⟨(Lib.decDigits u).toArray⟩ ++ out := by
  induction u using Nat.strongRecOn generalizing out with
  | _ u ih =>
    have hb : bytesOf [IntKind.u8.wrap (IntKind.i64.wrap (48 + Int.tmod (u : Int) 10))] = ⟨#[UInt8.ofNat (48 + u % 10)]⟩ := by
      rw [Int.tmod_eq_emod_of_nonneg (by omega), show IntKind.i64.wrap (48 + (u : Int) % 10) = ((48 + u % 10 : Nat) : Int) from by rw [IntKind.wrap_i64]; omega]
      have : u % 10 < 10 := Nat.mod_lt _ (by omega)
      generalize u % 10 = d at *
      have : d = 0 ∨ d = 1 ∨ d = 2 ∨ d = 3 ∨ d = 4 ∨ d = 5 ∨ d = 6 ∨ d = 7 ∨ d = 8 ∨ d = 9 := by omega
      rcases this with rfl | rfl | rfl | rfl | rfl | rfl | rfl | rfl | rfl | rfl <;> rfl
    rw [dgs, dif_neg (by omega), hb]
    by_cases h10 : u < 10
    · rw [show u / 10 = 0 by omega, dgs, dif_pos rfl, Lib.decDigits, dif_pos h10, show u % 10 = u by omega]
    · rw [ih (u / 10) (by omega) _ (by omega), Lib.decDigits.eq_def u, dif_neg h10, ← ByteArray.append_assoc]
      rfl
theorem itoa_pos {n : Int} (h : 0 < n) : itoaB n = dgs n.toNat ⟨#[]⟩ := by
  rw [dgs_dec _ _ (by omega), itoaB, Lib.itoa, if_neg (by omega)]
  exact ByteArray.append_empty.symm
theorem itoa_zero : itoaB 0 = ⟨#[48]⟩ := by
  rw [itoaB, Lib.itoa, if_neg (by omega), Lib.decDigits_one (by decide)]; rfl
theorem nd_le : ∀ (k u : Nat), 0 < k → u < 10 ^ k → Lib.nDigits u ≤ k
  | 0, _, h, _ => by omega
  | k + 1, u, _, h => by
    by_cases h10 : u < 10
    · rw [Lib.nDigits_small h10]; omega
    · rw [Lib.nDigits_big h10]
      have hk : 0 < k := by
        rcases Nat.eq_zero_or_pos k with rfl | hk
        · simp at h; omega
        · exact hk
      have := nd_le k (u / 10) hk (by rw [Nat.pow_succ] at h; omega)
      omega
theorem itoa_len {n : Int} (h0 : 0 ≤ n) (h1 : n ≤ 1000000000) : (itoaB n).size ≤ 10 := by
  have : (itoaB n).size = (Lib.decDigits n.toNat).length := by
    rw [itoaB, Lib.itoa, if_neg (by omega)]; rfl
  rw [this, Lib.decDigits_length]
  exact nd_le 10 _ (by omega) (by omega)
def emp (s : ByteArray) : Bool := s.toList == (⟨#[]⟩ : ByteArray).toList
def sessOk (s : Session) : Bool := inR s.token 1 1000000 && inR s.last 0 1000000 && decide ((s.reply.size : Int) ≤ 40) && !(s.last == 0 && !emp s.reply)
def prevGe (p : Option Int) (x : Int) : Bool := match p with | none => false | some q => decide (q ≥ x)
def sessF : Option Int → List Session → Bool
  | _, [] => true
  | p, s :: r => if !sessOk s || prevGe p s.token then false else sessF (some s.token) r
def itemOk (x : Item) : Bool := inR (x.key.size : Int) 1 8 && decide ((x.val.size : Int) ≤ 20) && inR x.ver 1 1000000000
def prevS (p : Option ByteArray) (x : ByteArray) : Bool := match p with | none => false | some q => !(Op.bytesLess q.toList x.toList)
def itemF : Option ByteArray → List Item → Bool
  | _, [] => true
  | p, x :: r => if !itemOk x || prevS p x.key then false else itemF (some x.key) r
def keepOk (k : Keep) : Bool := sessF none k.sessions && itemF none k.items && decide ((k.sessions.length : Int) ≤ 3) && decide ((k.items.length : Int) ≤ 8)
def prevO {α β : Type} (f : α → β) (z : α) (a : List α) (i : Nat) : Option β := if i = 0 then none else some (f (a.getD (i - 1) z))
theorem prevO_succ {α β : Type} {f : α → β} {z : α} {a : List α} {i : Nat} {e : α} (h : a[i]? = some e) : prevO f z a (i + 1) = some (f e) := by
  simp [prevO, List.getD_eq_getElem?_getD, h]
structure ItIn (x : Item) : Prop where
  k1 : 1 ≤ x.key.size
  k8 : x.key.size ≤ 8
  v : x.val.size ≤ 20
  n1 : 1 ≤ x.ver
  n9 : x.ver ≤ 1000000000
theorem ItIn.len {x : Item} (h : ItIn x) : (itoaB x.ver).size ≤ 10 := itoa_len (by have := h.n1; omega) h.n9
theorem bl_trans {a b c : List UInt8} (h1 : Op.bytesLess a b = true) (h2 : Op.bytesLess b c = true) : Op.bytesLess a c = true := by
  rw [Go.Proofs.bytesLess_eq] at *; simp at *; exact List.lt_trans h1 h2
def sLt (a b : ByteArray) : Bool := Op.bytesLess a.toList b.toList
def sGt (a b : ByteArray) : Bool := !(Op.bytesLess a.toList b.toList || a.toList == b.toList)
theorem sLt_trans {a b c : ByteArray} (h1 : sLt a b = true) (h2 : sLt b c = true) : sLt a c = true := bl_trans h1 h2
def Up (p : Option ByteArray) : List Item → Prop
  | [] => True
  | x :: r => (∀ q, p = some q → sLt q x.key = true) ∧ Up (some x.key) r
theorem Up.of : ∀ {l : List Item} {p : Option ByteArray}, itemF p l = true → Up p l
  | [], _, _ => trivial
  | x :: r, p, h => by
    rw [itemF] at h
    split at h
    · cases h
    · rename_i hc
      refine ⟨fun q hq => ?_, Up.of h⟩
      subst hq
      simp [prevS] at hc
      exact hc.2
theorem Up.all : ∀ {l : List Item} {q : ByteArray}, Up (some q) l → ∀ x ∈ l, sLt q x.key = true
  | [], _, _, x, hx => by cases hx
  | y :: r, q, h, x, hx => by
    rcases List.mem_cons.1 hx with rfl | hx
    · exact h.1 q rfl
    · exact sLt_trans (h.1 q rfl) (Up.all h.2 x hx)
def insL (it : Item) : List Item → List Item
  | [] => [it]
  | x :: r => if sGt x.key it.key then it :: x :: r else x :: insL it r
def UpS (p : Option Int) : List Session → Prop
  | [] => True
  | x :: r => (∀ q, p = some q → q < x.token) ∧ UpS (some x.token) r
theorem UpS.of : ∀ {l : List Session} {p : Option Int}, sessF p l = true → UpS p l
  | [], _, _ => trivial
  | x :: r, p, h => by
    rw [sessF] at h
    split at h
    · cases h
    · rename_i hc
      refine ⟨fun q hq => ?_, UpS.of h⟩
      subst hq
      simp [prevGe] at hc
      omega
theorem UpS.all : ∀ {l : List Session} {q : Int}, UpS (some q) l → ∀ x ∈ l, q < x.token
  | [], _, _, x, hx => by cases hx
  | y :: r, q, h, x, hx => by
    rcases List.mem_cons.1 hx with rfl | hx
    · exact h.1 q rfl
    · have := h.1 q rfl
      have := UpS.all h.2 x hx
      omega
def newS (n : Int) : Session := ⟨n, 0, ⟨#[]⟩⟩
def openL (n : Int) : List Session → List Session
  | [] => [newS n]
  | x :: r => if decide (x.token ≥ n) then newS n :: (x :: r).filter (fun y => !(y.token == n)) else x :: openL n r
structure PutP (it : Item) (L : List Item) (i : Nat) (rest : List Item) (p : Bool) : Prop where
  le : i ≤ L.length
  len : rest.length ≤ i + if p then 1 else 0
  eq : rest ++ (if p then L.drop i else insL it (L.drop i)) = insL it L
theorem PutP.init (it : Item) (L : List Item) : PutP it L 0 [] false := ⟨by omega, by simp, by simp⟩
theorem PutP.go {it : Item} {L rest : List Item} {i : Nat} {e : Item} {p : Bool} (h : PutP it L i rest p) (he : L[i]? = some e) (hg : (!p && sGt e.key it.key) = false) : PutP it L (i + 1) (rest ++ [e]) p := by
  have hi : i < L.length := (List.getElem?_eq_some_iff.1 he).1
  have hd := drop_get he
  refine ⟨by omega, by have := h.len; cases p <;> simp at this ⊢ <;> omega, ?_⟩
  rw [← h.eq, hd]
  cases p with
  | true => simp
  | false =>
    have : sGt e.key it.key = false := by simpa using hg
    simp [insL, this]
structure OpenP (n : Int) (L : List Session) (i : Nat) (rest : List Session) (p : Bool) : Prop where
  le : i ≤ L.length
  len : rest.length ≤ i + if p then 1 else 0
  eq : rest ++ (if p then (L.drop i).filter (fun y => !(y.token == n)) else openL n (L.drop i)) = openL n L
theorem OpenP.init (n : Int) (L : List Session) : OpenP n L 0 [] false := ⟨by omega, by simp, by simp⟩
theorem OpenP.s1 {n : Int} {L rest : List Session} {i : Nat} {e : Session} {p : Bool} (h : OpenP n L i rest p) (he : L[i]? = some e) (hc : (!p && decide (e.token ≥ n)) = true) (hq : (!(e.token == n)) = true) : OpenP n L (i + 1) (rest ++ [newS n] ++ [e]) true := by
  have hi : i < L.length := (List.getElem?_eq_some_iff.1 he).1
  have hd := drop_get he
  simp only [Bool.and_eq_true, Bool.not_eq_true'] at hc
  obtain ⟨rfl, hg⟩ := hc
  refine ⟨by omega, by have := h.len; simp at this ⊢; omega, ?_⟩
  have := h.eq
  rw [hd] at this
  simp only [Bool.false_eq_true, if_false, openL, if_pos hg, List.filter_cons, if_pos hq] at this
  simpa using this
theorem OpenP.s2 {n : Int} {L rest : List Session} {i : Nat} {e : Session} {p : Bool} (h : OpenP n L i rest p) (he : L[i]? = some e) (hc : (!p && decide (e.token ≥ n)) = true) (hq : (!(e.token == n)) = false) : OpenP n L (i + 1) (rest ++ [newS n]) true := by
  have hi : i < L.length := (List.getElem?_eq_some_iff.1 he).1
  have hd := drop_get he
  simp only [Bool.and_eq_true, Bool.not_eq_true'] at hc
  obtain ⟨rfl, hg⟩ := hc
  refine ⟨by omega, by have := h.len; simp at this ⊢; omega, ?_⟩
  have := h.eq
  rw [hd] at this
  simp only [Bool.false_eq_true, if_false, openL, if_pos hg, List.filter_cons, hq] at this
  simpa using this
theorem OpenP.s3 {n : Int} {L rest : List Session} {i : Nat} {e : Session} {p : Bool} (h : OpenP n L i rest p) (he : L[i]? = some e) (hc : (!p && decide (e.token ≥ n)) = false) (hq : (!(e.token == n)) = true) : OpenP n L (i + 1) (rest ++ [e]) p := by
  have hi : i < L.length := (List.getElem?_eq_some_iff.1 he).1
  have hd := drop_get he
  refine ⟨by omega, by have := h.len; cases p <;> simp at this ⊢ <;> omega, ?_⟩
  have := h.eq
  rw [hd] at this
  cases p with
  | true => simp only [if_true, List.filter_cons, if_pos hq] at this; simpa using this
  | false =>
    have hg : ¬ decide (e.token ≥ n) = true := by simpa using hc
    simp only [Bool.false_eq_true, if_false, openL, if_neg hg] at this
    simpa using this
theorem OpenP.s4 {n : Int} {L rest : List Session} {i : Nat} {e : Session} {p : Bool} (h : OpenP n L i rest p) (he : L[i]? = some e) (hc : (!p && decide (e.token ≥ n)) = false) (hq : (!(e.token == n)) = false) : OpenP n L (i + 1) rest p := by
  have hi : i < L.length := (List.getElem?_eq_some_iff.1 he).1
  have hd := drop_get he
  refine ⟨by omega, by have := h.len; cases p <;> simp at this ⊢ <;> omega, ?_⟩
  have := h.eq
  rw [hd] at this
  cases p with
  | true => simp only [if_true, List.filter_cons, hq] at this; simpa using this
  | false =>
    simp at hc hq
    omega
theorem UpS.lt : ∀ {l : List Session} {p : Option Int}, UpS p l → ∀ {m i : Nat} {s e : Session}, m < i → l[m]? = some s → l[i]? = some e → s.token < e.token
  | [], _, _, m, i, s, e, _, h, _ => by simp at h
  | y :: r, p, hu, 0, i + 1, s, e, _, h1, h2 => by
    simp at h1 h2
    subst h1
    exact UpS.all hu.2 e (List.mem_of_getElem? h2)
  | y :: r, p, hu, m + 1, i + 1, s, e, hlt, h1, h2 => by
    simp at h1 h2
    exact UpS.lt hu.2 (by omega) h1 h2
theorem hdN_some {α : Type} {f : α → Int → Option Int} {x : α} {k k' : Int} (h : f x k = some k') (hp : 0 ≤ k') : hdN f x k = some k' := by
  simp only [hdN, h]
  exact if_neg (by omega)
def val : List UInt8 → Nat
  | [] => 0
  | c :: r => c.toNat % 128 + 128 * val r
theorem val_snoc : ∀ (l : List UInt8) (c : UInt8), val (l ++ [c]) = val l + 128 ^ l.length * (c.toNat % 128)
  | [], c => by simp [val]
  | b :: l, c => by
    rw [List.cons_append, val, val_snoc l c, val, List.length_cons, Nat.pow_succ, Nat.mul_add]
    rw [Nat.mul_comm (128 ^ l.length) 128, Nat.mul_assoc]
    omega
theorem val_lt : ∀ l : List UInt8, val l < 128 ^ l.length
  | [] => by simp [val]
  | c :: l => by
    have := val_lt l
    rw [val, List.length_cons, Nat.pow_succ]
    omega
def varL (n : Nat) : List UInt8 := if h : n > 127 then UInt8.ofNat (n % 128 + 128) :: varL (n / 128) else [UInt8.ofNat n]
termination_by n
decreasing_by omega
def varB (n : Nat) : ByteArray := ⟨(varL n).toArray⟩
theorem varL_big {n : Nat} (h : n > 127) : varL n = UInt8.ofNat (n % 128 + 128) :: varL (n / 128) := by rw [varL, dif_pos h]
theorem varL_small {n : Nat} (h : ¬ n > 127) : varL n = [UInt8.ofNat n] := by rw [varL, dif_neg h]
theorem varL_len : ∀ (k n : Nat), 0 < k → n < 128 ^ k → (varL n).length ≤ k
  | 0, n, h, _ => by omega
  | k + 1, n, _, h => by
    by_cases hn : n > 127
    · rw [varL_big hn, List.length_cons]
      have hk : 0 < k := by
        rcases Nat.eq_zero_or_pos k with rfl | hk
        · simp at h; omega
        · exact hk
      have := varL_len k (n / 128) hk (by rw [Nat.pow_succ] at h; omega)
      omega
    · rw [varL_small hn]; simp
def rdv (l : List UInt8) : Option (Nat × Nat) :=
  match l.findIdx? (fun c => decide (c.toNat ≤ 127)) with
  | none => none
  | some k => if k < 5 then (if (k ≠ 0 ∧ (l.getD k 0).toNat = 0) then none else some (val (l.take (k + 1)), k + 1)) else none
def rdVar (t : ByteArray) (a : Int) : Int × Int × Bool :=
  if inR a 0 t.size then
    match rdv (t.toList.drop a.toNat) with
    | none => (0, 0, false)
    | some p => if (p.1 : Int) ≤ 1000000000 then ((p.1 : Int), a + (p.2 : Int), true) else (0, 0, false)
  else (0, 0, false)
structure RvP (t : ByteArray) (a : Int) (j : Nat) (n : Int) : Prop where
  a0 : 0 ≤ a ∧ a ≤ t.size
  sz : t.size ≤ 4611686018427387904
  j5 : j ≤ 5
  jl : a.toNat + j ≤ t.size
  hi : ((t.toList.drop a.toNat).take j).any (fun c => decide (c.toNat ≤ 127)) = false
  eq : n = (val ((t.toList.drop a.toNat).take j) : Nat)
theorem RvP.init {t : ByteArray} {a : Int} (h : inR a 0 t.size = true) (hs : t.size ≤ 4611686018427387904) : RvP t a 0 0 := by
  simp [inR] at h
  exact ⟨by omega, by omega, by omega, by omega, by simp, by simp [val]⟩
theorem RvP.inR {t : ByteArray} {a n : Int} {j : Nat} (h : RvP t a j n) : inR a 0 t.size = true := by
  have := h.a0
  simp [Y.inR]; omega
theorem bat_at {t : ByteArray} {m : Nat} (h : m < t.size) : bat t m = ((t.toList.getD m 0).toNat : Int) ∧ t.toList[m]? = some (t.toList.getD m 0) := by
  have e : t[m]? = some t[m] := getElem?_pos t m h
  have e2 := toL_get h
  have e3 : t.toList.getD m 0 = t[m] := by rw [List.getD_eq_getElem?_getD, e2]; rfl
  rw [e3]
  exact ⟨by rw [bat, e], e2⟩
structure RvB (t : ByteArray) (a : Int) (j : Nat) (c : UInt8) : Prop where
  at_ : (t.toList.drop a.toNat)[j]? = some c
  bt : bat t (a.toNat + j) = (c.toNat : Int)
  wb : IntKind.i64.wrap (bat t (a.toNat + j)) = (c.toNat : Int)
  lt : c.toNat < 256
theorem RvP.byte {t : ByteArray} {a n : Int} {j : Nat} (_h : RvP t a j n) (hlt : a.toNat + j < t.size) : ∃ c, RvB t a j c := by
  obtain ⟨h1, h2⟩ := bat_at hlt
  have h3 := (t.toList.getD (a.toNat + j) 0).toNat_lt
  refine ⟨t.toList.getD (a.toNat + j) 0, by rw [List.getElem?_drop]; exact h2, h1, ?_, h3⟩
  rw [h1]; exact wrap_small (by omega) (by omega)
theorem RvB.take {t : ByteArray} {a : Int} {j : Nat} {c : UInt8} (h : RvB t a j c) : (t.toList.drop a.toNat).take (j + 1) = (t.toList.drop a.toNat).take j ++ [c] := take_snoc h.at_
theorem RvP.len {t : ByteArray} {a n : Int} {j : Nat} (h : RvP t a j n) : ((t.toList.drop a.toNat).take j).length = j := by
  have := h.jl; have := h.a0
  rw [List.length_take, List.length_drop, toL_len]; omega
theorem RvP.next {t : ByteArray} {a n : Int} {j : Nat} {c : UInt8} {m : Int} (h : RvP t a j n) (hb : RvB t a j c) (h5 : j < 5) (hlt : a.toNat + j < t.size) (hc : (c.toNat : Int) > 127) (hm : m = (val ((t.toList.drop a.toNat).take (j + 1)) : Nat)) : RvP t a (j + 1) m := by
  refine ⟨h.a0, h.sz, by omega, by omega, ?_, hm⟩
  rw [hb.take, List.any_append, h.hi]
  simp; omega
theorem pow128 {j : Nat} (h : j ≤ 5) : 128 ^ j ≤ 34359738368 := by
  have : j = 0 ∨ j = 1 ∨ j = 2 ∨ j = 3 ∨ j = 4 ∨ j = 5 := by omega
  rcases this with rfl | rfl | rfl | rfl | rfl | rfl <;> decide
theorem RvP.more {t : ByteArray} {a n : Int} {j : Nat} {c : UInt8} (h : RvP t a j n) (hb : RvB t a j c) (h5 : j < 5) : ((val ((t.toList.drop a.toNat).take (j + 1)) : Nat) : Int) = n + ((128 ^ j : Nat) : Int) * ((c.toNat % 128 : Nat) : Int) ∧ n + ((128 ^ j : Nat) : Int) * ((c.toNat % 128 : Nat) : Int) < 34359738368 := by
  have e : (val ((t.toList.drop a.toNat).take (j + 1)) : Nat) = val ((t.toList.drop a.toNat).take j) + 128 ^ j * (c.toNat % 128) := by
    rw [hb.take, val_snoc, h.len]
  have h1 := val_lt ((t.toList.drop a.toNat).take (j + 1))
  have h2 : ((t.toList.drop a.toNat).take (j + 1)).length = j + 1 := by rw [hb.take, List.length_append, h.len]; rfl
  rw [h2] at h1
  have h3 := pow128 (j := j + 1) (by omega)
  rw [h.eq]
  have e2 : ((val ((t.toList.drop a.toNat).take (j + 1)) : Nat) : Int) = (val ((t.toList.drop a.toNat).take j) : Nat) + ((128 ^ j : Nat) : Int) * ((c.toNat % 128 : Nat) : Int) := by
    rw [e, Int.natCast_add, Int.natCast_mul]
  exact ⟨e2, by rw [← e2]; omega⟩
theorem rdv_at {l : List UInt8} {j : Nat} {c : UInt8} (hi : (l.take j).any (fun c => decide (c.toNat ≤ 127)) = false) (hc : l[j]? = some c) (hl : c.toNat ≤ 127) (h5 : j < 5) : rdv l = if (j ≠ 0 ∧ c.toNat = 0) then none else some (val (l.take (j + 1)), j + 1) := by
  have e : l.findIdx? (fun c => decide (c.toNat ≤ 127)) = some j := findIdx_at hi hc (by simpa using hl)
  have e2 : l.getD j 0 = c := by rw [List.getD_eq_getElem?_getD, hc]; rfl
  rw [rdv, e]
  simp only [h5, if_true, e2]
theorem RvP.good {t : ByteArray} {a n : Int} {j : Nat} {c : UInt8} (h : RvP t a j n) (hb : RvB t a j c) (h5 : j < 5) (hc : (c.toNat : Int) ≤ 127) (h0 : ¬ (j ≠ 0 ∧ (c.toNat : Int) = 0)) (hz : ((val ((t.toList.drop a.toNat).take (j + 1)) : Nat) : Int) ≤ 1000000000) : rdVar t a = (((val ((t.toList.drop a.toNat).take (j + 1)) : Nat) : Int), a + ((j + 1 : Nat) : Int), true) := by
  rw [rdVar, if_pos h.inR, rdv_at h.hi hb.at_ (by omega) h5]
  rw [if_neg (by omega)]
  simp only []
  rw [if_pos hz]
theorem RvP.lt {t : ByteArray} {a n : Int} {j : Nat} (h : RvP t a j n) (h1 : IntKind.i64.wrap (a + (j : Int)) < (t.size : Int)) : a.toNat + j < t.size := by
  have ha := h.a0; have hs := h.sz; have := h.j5
  rw [wrap_small (by omega) (by omega)] at h1
  omega
theorem bytesOf_snoc (l : List Int) (x : Int) : bytesOf (l ++ [x]) = bytesOf l ++ bytesOf [x] := by
  have : ∀ (b : ByteArray) (c : UInt8), b.push c = b ++ ⟨#[c]⟩ := by
    intro b c
    apply ByteArray.ext
    rw [ByteArray.data_append]
    simp [ByteArray.push]
  show (l ++ [x]).foldl _ _ = _
  rw [List.foldl_append]
  exact this _ _
theorem bytesOf_size (l : List Int) : (bytesOf l).size = l.length := by
  have : ∀ (l : List Int) (b : ByteArray), (l.foldl (fun r n => r.push (UInt8.ofNat n.toNat)) b).size = b.size + l.length := by
    intro l
    induction l with
    | nil => intro b; rfl
    | cons x r ih =>
      intro b
      rw [List.foldl_cons, ih, ByteArray.size_push, List.length_cons]
      omega
  have h := this l ByteArray.empty
  have h0 : ByteArray.empty.size = 0 := rfl
  rw [h0, Nat.zero_add] at h
  exact h
structure VbP (n m : Int) (l : List Int) : Prop where
  m0 : 0 ≤ m
  m1 : m ≤ 9223372036854775807
  n1 : 0 ≤ n ∧ n ≤ 9223372036854775807
  eq : bytesOf l ++ varB m.toNat = varB n.toNat
theorem VbP.init {n : Int} (h : 0 ≤ n ∧ n ≤ 9223372036854775807) : VbP n n [] := ⟨h.1, h.2, h, ByteArray.empty_append⟩
theorem VbP.len {n m : Int} {l : List Int} (h : VbP n m l) : l.length ≤ 9 := by
  have h1 := congrArg ByteArray.size h.eq
  rw [ByteArray.size_append, bytesOf_size] at h1
  have h2 : (varB n.toNat).size ≤ 9 := varL_len 9 n.toNat (by omega) (by have := h.n1; omega)
  omega
theorem u8w' (x : Int) : IntKind.u8.wrap x = x % 256 := by simp [IntKind.wrap, IntKind.bits, IntKind.signed]
theorem VbP.step {n m : Int} {l : List Int} (h : VbP n m l) (hm : decide (m > 127) = true) : VbP n (IntKind.i64.wrap (Int.tdiv m 128)) (l ++ [IntKind.u8.wrap (IntKind.i64.wrap (Int.tmod m 128 + 128))]) ∧ (IntKind.i64.wrap (Int.tdiv m 128)).toNat < m.toNat := by
  have hm : m > 127 := of_decide_eq_true hm
  have h0 := h.m0; have h1 := h.m1
  have e1 : Int.tdiv m 128 = m / 128 := Int.tdiv_eq_ediv_of_nonneg h0
  have e2 : Int.tmod m 128 = m % 128 := Int.tmod_eq_emod_of_nonneg h0
  have e3 : IntKind.i64.wrap (Int.tdiv m 128) = m / 128 := by rw [e1]; exact wrap_small (by omega) (by omega)
  rw [e3]
  refine ⟨⟨by omega, by omega, h.n1, ?_⟩, by omega⟩
  rw [← h.eq, bytesOf_snoc, e2, wrap_small (x := m % 128 + 128) (by omega) (by omega), u8w', ByteArray.append_assoc]
  congr 1
  have e4 : (m / 128).toNat = m.toNat / 128 := by omega
  have e5 : ((m % 128 + 128) % 256).toNat = m.toNat % 128 + 128 := by omega
  apply ByteArray.ext
  apply Array.ext'
  rw [ByteArray.data_append, Array.toList_append]
  show [UInt8.ofNat ((m % 128 + 128) % 256).toNat] ++ varL (m / 128).toNat = varL m.toNat
  rw [varL_big (n := m.toNat) (by omega), e4, e5]
  rfl
theorem VbP.fin {n m : Int} {l : List Int} (h : VbP n m l) (hm : decide (m > 127) = false) : bytesOf (l ++ [IntKind.u8.wrap m]) = varB n.toNat := by
  have hm : ¬ m > 127 := of_decide_eq_false hm
  have h0 := h.m0
  rw [← h.eq, bytesOf_snoc, u8w']
  congr 1
  apply ByteArray.ext
  apply Array.ext'
  show [UInt8.ofNat (m % 256).toNat] = varL m.toNat
  rw [varL_small (by omega)]
  congr 2
  omega
theorem varB_len {n : Nat} (h : n ≤ 1000000000) : (varB n).size ≤ 5 := varL_len 5 n (by omega) (by omega)
theorem varB_len9 {n : Nat} (h : n ≤ 9223372036854775807) : (varB n).size ≤ 9 := varL_len 9 n (by omega) (by omega)
def sumBit (x : Int) : Int := if Int.tmod x 2 == 1 then xorW (IntKind.u32.wrap (Int.tdiv x 2)) 3558460437 else IntKind.u32.wrap (Int.tdiv x 2)
def sumBits : Nat → Int → Int
  | 0, x => x
  | n + 1, x => sumBit (sumBits n x)
def sumN (x : Int) (t : ByteArray) : Nat → Int
  | 0 => x
  | n + 1 => sumBits 8 (xorW (sumN x t n) (IntKind.u32.wrap (bat t n)))
theorem sumB1 {k : Nat} {r s : Int} (h : r = sumBits k s) (ho : (Int.tmod r 2 == 1) = true) : xorW (IntKind.u32.wrap (Int.tdiv r 2)) 3558460437 = sumBits (k + 1) s := by
  rw [sumBits, ← h, sumBit, if_pos ho]
theorem sumB0 {k : Nat} {r s : Int} (h : r = sumBits k s) (ho : (Int.tmod r 2 == 1) = false) : IntKind.u32.wrap (Int.tdiv r 2) = sumBits (k + 1) s := by
  rw [sumBits, ← h, sumBit, if_neg (by rw [ho]; simp)]
def fourN (x : Int) : ByteArray := bytesOf [IntKind.u8.wrap (shrW x 24), IntKind.u8.wrap (shrW x 16), IntKind.u8.wrap (shrW x 8), IntKind.u8.wrap x]
def shN (n : Int) : Nat → Int
  | 0 => n
  | i + 1 => shrI (shN n i) 8
def hf1 (n : Int) (i : Nat) : Int := IntKind.u8.wrap (andI (shN n i) 255)
def hf4 (n : Int) : List Int := [hf1 n 3, hf1 n 2, hf1 n 1, hf1 n 0]
structure HfP (n : Int) (j : Nat) (m : Int) (l : List Int) : Prop where
  j4 : j ≤ 4
  eq : l = List.replicate j 0 ++ (hf4 n).drop j
  sh : m = shN n (4 - j)
theorem HfP.init (n : Int) : HfP n 4 n (List.replicate 4 0) := ⟨Nat.le_refl _, rfl, rfl⟩
theorem HfP.len {n m : Int} {j : Nat} {l : List Int} (h : HfP n j m l) : l.length = 4 := by
  have := h.j4
  rw [h.eq, List.length_append, List.length_replicate, List.length_drop]
  show j + (4 - j) = 4
  omega
theorem HfP.step {n m : Int} {j : Nat} {l : List Int} (h : HfP n j m l) (hj : 0 < j) : HfP n (j - 1) (shrI m 8) (l.set (j - 1) (IntKind.u8.wrap (andI m 255))) := by
  obtain ⟨h1, h2, h3⟩ := h
  subst h2 h3
  match j, hj, h1 with
  | 1, _, _ => exact ⟨by omega, rfl, rfl⟩
  | 2, _, _ => exact ⟨by omega, rfl, rfl⟩
  | 3, _, _ => exact ⟨by omega, rfl, rfl⟩
  | 4, _, _ => exact ⟨by omega, rfl, rfl⟩
theorem HfP.fin {n m : Int} {j : Nat} {l : List Int} (h : HfP n j m l) (hj : ¬ 0 < j) : l = hf4 n := by
  have : j = 0 := by omega
  subst this; rw [h.eq]; rfl
theorem and255 {v : Int} (h0 : 0 ≤ v) (h1 : v < 4611686018427387904) : andI v 255 = v % 256 := by
  have e : (BitVec.ofInt 64 v &&& BitVec.ofInt 64 255).toNat = v.toNat % 256 := by
    rw [BitVec.toNat_and, BitVec.toNat_ofInt]
    have e2 : (BitVec.ofInt 64 255).toNat = 2 ^ 8 - 1 := by rfl
    rw [e2, Nat.and_two_pow_sub_one_eq_mod]
    have : (v % ((2 ^ 64 : Nat) : Int)).toNat = v.toNat := by omega
    rw [this]
  rw [andI, e, IntKind.wrap_i64]; omega
theorem shr8 {v : Int} : shrI v 8 = v / 256 := by
  have : min (8 : Int).toNat 64 = 8 := rfl
  rw [shrI, this, Int.fdiv_eq_ediv_of_nonneg _ (by decide)]; rfl
theorem u8m (v : Int) : IntKind.u8.wrap v = v % 256 := by
  simp only [IntKind.wrap]; simp [IntKind.bits, IntKind.signed]
theorem hf_four {x : Int} (h0 : 0 ≤ x) (h1 : x < 4294967296) : bytesOf (hf4 x) = fourN x := by
  have g8 : shrW x 8 = x / 256 := by rw [shrW, show min (8 : Int).toNat 32 = 8 from rfl, Int.fdiv_eq_ediv_of_nonneg _ (by decide)]; rfl
  have g16 : shrW x 16 = x / 65536 := by rw [shrW, show min (16 : Int).toNat 32 = 16 from rfl, Int.fdiv_eq_ediv_of_nonneg _ (by decide)]; rfl
  have g24 : shrW x 24 = x / 16777216 := by rw [shrW, show min (24 : Int).toNat 32 = 24 from rfl, Int.fdiv_eq_ediv_of_nonneg _ (by decide)]; rfl
  have e0 : hf1 x 0 = IntKind.u8.wrap x := by
    simp only [hf1, shN, u8m]; rw [and255 h0 (by omega)]; omega
  have e1 : hf1 x 1 = IntKind.u8.wrap (shrW x 8) := by
    simp only [hf1, shN, u8m, shr8, g8]; rw [and255 (by omega) (by omega)]; omega
  have e2 : hf1 x 2 = IntKind.u8.wrap (shrW x 16) := by
    simp only [hf1, shN, u8m, shr8, g16]; rw [and255 (by omega) (by omega)]; omega
  have e3 : hf1 x 3 = IntKind.u8.wrap (shrW x 24) := by
    simp only [hf1, shN, u8m, shr8, g24]; rw [and255 (by omega) (by omega)]; omega
  rw [hf4, fourN, e0, e1, e2, e3]
theorem u32m (v : Int) : IntKind.u32.wrap v = v % 4294967296 := by
  simp only [IntKind.wrap]; simp [IntKind.bits, IntKind.signed]
theorem sumBit_in {x : Int} (h : 0 ≤ x ∧ x < 4294967296) : 0 ≤ sumBit x ∧ sumBit x < 4294967296 := by
  rw [sumBit]; split
  · rw [xorW, u32m]; omega
  · rw [u32m]; omega
theorem sumBits_in : ∀ (k : Nat) {x : Int}, 0 ≤ x ∧ x < 4294967296 → 0 ≤ sumBits k x ∧ sumBits k x < 4294967296
  | 0, _, h => h
  | k + 1, _, h => sumBit_in (sumBits_in k h)
theorem sumN_in {x : Int} (h : 0 ≤ x ∧ x < 4294967296) (t : ByteArray) : ∀ n, 0 ≤ sumN x t n ∧ sumN x t n < 4294967296
  | 0 => h
  | n + 1 => sumBits_in 8 (by rw [xorW, u32m]; omega)
def sumT (t : ByteArray) : ByteArray := fourN (sumN 4294967295 t t.size)
theorem sumT_size (t : ByteArray) : (sumT t).size = 4 := bytesOf_size _
theorem sum_wrap (t : ByteArray) : IntKind.i64.wrap (sumN 4294967295 t t.size) = sumN 4294967295 t t.size := by
  have h := sumN_in (x := 4294967295) (by omega) t t.size
  exact wrap_small (by omega) (by omega)
theorem sum_hf (t : ByteArray) : bytesOf (hf4 (IntKind.i64.wrap (sumN 4294967295 t t.size))) = sumT t := by
  have h := sumN_in (x := 4294967295) (by omega) t t.size
  rw [sum_wrap, hf_four h.1 h.2, sumT]
def sealT (t : ByteArray) : ByteArray × Bool := if (t.size : Int) > 20000 then (⟨#[]⟩, false) else (t ++ sumT t, true)
def frT (t : ByteArray) : ByteArray × Bool := if !inR (t.size : Int) 1 9000 then (⟨#[]⟩, false) else (varB t.size ++ sumT t ++ t, true)
theorem fr_in {t : ByteArray} (h : inR (t.size : Int) 1 9000 = true) : 1 ≤ t.size ∧ t.size ≤ 9000 := by simp only [inR, Bool.and_eq_true, decide_eq_true_eq] at h; omega
theorem fr_go {t : ByteArray} (h : (!inR (t.size : Int) 1 9000) = false) : frT t = (varB t.size ++ sumT t ++ t, true) := by rw [frT, if_neg (by rw [h]; simp)]
theorem fr_no {t : ByteArray} (h : (!inR (t.size : Int) 1 9000) = true) : frT t = (⟨#[]⟩, false) := by rw [frT, if_pos h]
theorem frT_size (t : ByteArray) : (frT t).1.size ≤ 9020 := by
  cases h : (!inR (t.size : Int) 1 9000) with
  | true => rw [fr_no h]; show (0 : Nat) ≤ 9020; omega
  | false =>
    have h1 := fr_in (nF h)
    have h2 := varB_len9 (n := t.size) (by omega)
    have h3 := sumT_size t
    rw [fr_go h]; simp only [ByteArray.size_append]; omega
def shB (s : ByteArray) : ByteArray := varB s.size ++ s
def byT (l : List Int) : ByteArray := bytesOf (l.map fun x => IntKind.u8.wrap x)
def vT (n : Int) : ByteArray := if inR n 0 1000000000 then varB n.toNat else ⟨#[]⟩
def varTs (l : List Int) : ByteArray := l.foldl (fun s n => s ++ vT n) ⟨#[]⟩
def shT (t : ByteArray) : ByteArray := if (t.size : Int) ≤ 20000 then vT t.size ++ t else ⟨#[]⟩
def shTs (l : List ByteArray) : ByteArray := l.foldl (fun s n => s ++ shT n) ⟨#[]⟩
theorem foldl_sz {α : Type} {f : α → ByteArray} {k : Nat} (hf : ∀ x, (f x).size ≤ k) : ∀ (l : List α) (s : ByteArray), (l.foldl (fun s x => s ++ f x) s).size ≤ s.size + k * l.length
  | [], s => by simp
  | x :: l, s => by
    have h1 := foldl_sz hf l (s ++ f x)
    have h2 := hf x
    rw [ByteArray.size_append] at h1
    simp only [List.foldl_cons, List.length_cons, Nat.mul_add, Nat.mul_one]
    omega
theorem vT_size (n : Int) : (vT n).size ≤ 5 := by
  rw [vT]; split
  · rename_i h; simp only [inR, Bool.and_eq_true, decide_eq_true_eq] at h; exact varB_len (by omega)
  · show (0 : Nat) ≤ 5; omega
theorem shT_size (t : ByteArray) : (shT t).size ≤ 20005 := by
  rw [shT]; split
  · have := vT_size t.size; rw [ByteArray.size_append]; omega
  · show (0 : Nat) ≤ 20005; omega
theorem varTs_size (l : List Int) : (varTs l).size ≤ 5 * l.length := by
  have h := foldl_sz vT_size l ⟨#[]⟩
  have h0 : (⟨#[]⟩ : ByteArray).size = 0 := rfl
  rw [h0] at h; rw [varTs]; omega
theorem shTs_size (l : List ByteArray) : (shTs l).size ≤ 20005 * l.length := by
  have h := foldl_sz shT_size l ⟨#[]⟩
  have h0 : (⟨#[]⟩ : ByteArray).size = 0 := rfl
  rw [h0] at h; rw [shTs]; omega
theorem varTs_snoc {l : List Int} {i : Nat} {e : Int} (h : l[i]? = some e) : varTs (l.take (i + 1)) = varTs (l.take i) ++ vT e := by
  rw [varTs, take_snoc h, List.foldl_append]; rfl
theorem shTs_snoc {l : List ByteArray} {i : Nat} {e : ByteArray} (h : l[i]? = some e) : shTs (l.take (i + 1)) = shTs (l.take i) ++ shT e := by
  rw [shTs, take_snoc h, List.foldl_append]; rfl
theorem take_len {α : Type} (l : List α) (i : Nat) : (l.take i).length ≤ l.length := by rw [List.length_take]; omega
theorem nil_app (s : ByteArray) : (⟨#[]⟩ : ByteArray) ++ s = s := ByteArray.empty_append
theorem vT_in {n : Int} (h : 0 ≤ n ∧ n ≤ 1000000000) : vT n = varB n.toNat := by rw [vT, if_pos (by simp [inR]; omega)]
theorem shT_in {t : ByteArray} (h : t.size ≤ 20000) : shT t = shB t := by rw [shT, if_pos (by omega), vT_in (by omega), shB]; rfl
theorem varTs1 (a : Int) : varTs [a] = vT a := nil_app _
theorem varTs2 (a b : Int) : varTs [a, b] = vT a ++ vT b := by show (⟨#[]⟩ ++ vT a) ++ vT b = _; rw [nil_app]
theorem shTs1 (a : ByteArray) : shTs [a] = shT a := nil_app _
theorem shTs2 (a b : ByteArray) : shTs [a, b] = shT a ++ shT b := by show (⟨#[]⟩ ++ shT a) ++ shT b = _; rw [nil_app]
def hdT (a b : Int) : ByteArray := (frT ((⟨#[72]⟩ ++ varB a.toNat) ++ varB b.toNat)).1
def jT : ByteArray := ((frT ((⟨#[66]⟩ ++ varB 0) ++ varB 0)).1 ++ hdT 0 0) ++ ⟨#[]⟩
theorem jT_size : jT.size ≤ 20000 := by
  have h1 := frT_size ((⟨#[66]⟩ ++ varB 0) ++ varB 0)
  have h2 := frT_size ((⟨#[72]⟩ ++ varB (0 : Int).toNat) ++ varB (0 : Int).toNat)
  have h3 : (⟨#[]⟩ : ByteArray).size = 0 := rfl
  simp only [jT, hdT, ByteArray.size_append, h3]; omega
theorem vTs00 (x : ByteArray) : x ++ varTs [0, 0] = (x ++ varB 0) ++ varB 0 := by
  rw [varTs2, vT_in (by omega), ByteArray.append_assoc]; rfl
theorem jTI : ((frT (⟨#[66]⟩ ++ varTs [0, 0])).1 ++ (frT (⟨#[72]⟩ ++ varTs [0, 0])).1) ++ ⟨#[]⟩ = jT := by
  rw [vTs00, vTs00]; rfl
def rootB : ByteArray := ⟨#[114, 111, 111, 116]⟩
def keepNew : Keep := ⟨[], [⟨⟨#[114, 111, 111, 116]⟩, ⟨#[]⟩, 1⟩]⟩
theorem keepNew_to : okToKeep keepNew := by
  refine ⟨⟨by decide, by simp [keepNew]⟩, ⟨by decide, fun x hx => ?_⟩⟩
  rw [List.mem_singleton.1 hx]; exact ⟨by decide, by decide⟩
theorem keepNew_k : keepOk keepNew = true := by kernel_rfl
def kT0 : ByteArray := varB 0 ++ varB 1
def kT : ByteArray := ((kT0 ++ shB rootB) ++ shB ⟨#[]⟩) ++ varB 1
def KtP (i : Nat) (s : ByteArray) : Prop := (i = 0 ∧ s = kT0) ∨ (i = 1 ∧ s = kT)
theorem KtP.size {i : Nat} {s : ByteArray} (h : KtP i s) : s.size ≤ 100 := by
  rcases h with ⟨_, rfl⟩ | ⟨_, rfl⟩
  · have h1 := varB_len9 (n := 0) (by omega); have h2 := varB_len9 (n := 1) (by omega)
    rw [kT0, ByteArray.size_append]; omega
  · have h1 := varB_len9 (n := 0) (by omega); have h2 := varB_len9 (n := 1) (by omega); have h3 := varB_len9 (n := rootB.size) (by decide); have h4 := varB_len9 (n := (⟨#[]⟩ : ByteArray).size) (by decide)
    have h5 : rootB.size = 4 := rfl
    have h6 : (⟨#[]⟩ : ByteArray).size = 0 := rfl
    simp only [kT, kT0, shB, ByteArray.size_append]; omega
theorem KtP.step {i : Nat} {s : ByteArray} {e : Item} (h : KtP i s) (he : keepNew.items[i]? = some e) : KtP (i + 1) (((s ++ shB e.key) ++ shB e.val) ++ varB e.ver.toNat) := by
  rcases h with ⟨rfl, rfl⟩ | ⟨rfl, rfl⟩
  · cases he; exact .inr ⟨rfl, rfl⟩
  · cases he
theorem KtP.fin {i : Nat} {s : ByteArray} (h : KtP i s) (hi : 1 ≤ i) : s = kT := by
  rcases h with ⟨rfl, rfl⟩ | ⟨rfl, rfl⟩
  · omega
  · rfl
theorem kver {k : Keep} {j : Nat} {e : Item} (hk : k = keepNew) (h : k.items[j]? = some e) : e.key.size ≤ 10 ∧ e.val.size ≤ 10 ∧ 0 ≤ e.ver ∧ e.ver ≤ 100 := by
  subst hk
  match j, h with
  | 0, h => cases h; exact ⟨by decide, by decide, by decide, by decide⟩
  | j + 1, h => simp [keepNew] at h
theorem KtP.stepI {i : Nat} {s : ByteArray} {e : Item} (h : KtP i s) (he : keepNew.items[i]? = some e) : KtP (i + 1) (s ++ (shTs [e.key, e.val] ++ varTs [e.ver])) := by
  have h9 := kver rfl he
  have h8 := h.step he
  rw [shTs2, shT_in (by omega), shT_in (by omega), varTs1, vT_in (by omega), ← ByteArray.append_assoc, ← ByteArray.append_assoc]
  exact h8
theorem kT0_I : varTs [((keepNew.sessions.length : Nat) : Int)] ++ varTs [((keepNew.items.length : Nat) : Int)] = kT0 := by
  rw [varTs1, varTs1, vT_in (by decide), vT_in (by decide)]; rfl
theorem confText_ok (a : List Int) : (confText a).2 = confOk a := by
  rw [confText]; split
  · rename_i h; rw [h]
  · rename_i h; simp only [Bool.not_eq_true] at h; rw [h]
theorem confText_size (a : List Int) : (confText a).1.size ≤ 4 := by
  rw [confText]; split
  · rename_i h; have := confOk_len h; rw [bytesOf_size, List.length_map]; exact this
  · show (0 : Nat) ≤ 4; omega
theorem kT_size : kT.size ≤ 100 := KtP.size (.inr ⟨rfl, rfl⟩)
def snB (a : List Int) : ByteArray := ((varB 0 ++ varB 0) ++ shB (confText a).1) ++ shB kT
theorem snB_size (a : List Int) : (snB a).size ≤ 200 := by
  have h1 := varB_len9 (n := 0) (by omega)
  have h2 := confText_size a
  have h3 := varB_len9 (n := (confText a).1.size) (by omega)
  have h4 := kT_size
  have h5 := varB_len9 (n := kT.size) (by omega)
  simp only [snB, shB, ByteArray.size_append]; omega
theorem seal_go {t : ByteArray} (h : t.size ≤ 20000) : sealT t = (t ++ sumT t, true) := by rw [sealT, if_neg (by omega)]
theorem seal_size (t : ByteArray) : (sealT t).1.size ≤ t.size + 4 := by
  rw [sealT]; split
  · show (0 : Nat) ≤ _; omega
  · have := sumT_size t; rw [ByteArray.size_append]; omega
def snT (a : List Int) : ByteArray × Bool := if confOk a then sealT (snB a) else (⟨#[]⟩, false)
theorem snT_yes {a : List Int} (h : confOk a = true) : snT a = sealT (snB a) := by rw [snT, if_pos h]
theorem snT_no {a : List Int} (h : confOk a = false) : snT a = (⟨#[]⟩, false) := by rw [snT, if_neg (by rw [h]; simp)]
theorem snT_ok (a : List Int) : (snT a).2 = confOk a := by
  cases h : confOk a with
  | true => rw [snT_yes h, seal_go (by have := snB_size a; omega)]
  | false => rw [snT_no h]
theorem snBI (a : List Int) : (varTs [0, 0] ++ shTs [(confText a).1]) ++ shT kT = snB a := by
  have h1 := confText_size a
  have h2 := kT_size
  rw [varTs2, vT_in (by omega), shTs1, shT_in (by omega), shT_in (by omega)]; rfl
def jN : ByteArray := ⟨#[106]⟩ ++ itoaB 0
def sN : ByteArray := ⟨#[115]⟩ ++ itoaB 0
def fdD (a : List Int) : Disk := if confOk a then ⟨[⟨jN, jT, jT.size⟩, ⟨sN, (snT a).1, (snT a).1.size⟩]⟩ else ⟨[]⟩
theorem fd_yes {a : List Int} (h : confOk a = true) : fdD a = ⟨[⟨jN, jT, jT.size⟩, ⟨sN, (snT a).1, (snT a).1.size⟩]⟩ := by rw [fdD, if_pos h]
theorem fd_no {a : List Int} (h : confOk a = false) : fdD a = ⟨[]⟩ := by rw [fdD, if_neg (by rw [h]; simp)]
theorem snB_eq {s : Snap} (e1 : s.index = 0) (e2 : s.term_ = 0) (e3 : s.body = kT) : ((varB s.index.toNat ++ varB s.term_.toNat) ++ shB (confText s.conf).1) ++ shB s.body = snB s.conf := by rw [e1, e2, e3]; rfl
theorem snBI_eq {s : Snap} (e1 : s.index = 0) (e2 : s.term_ = 0) (e3 : s.body = kT) : (varTs [s.index, s.term_] ++ shTs [(confText s.conf).1]) ++ shT s.body = snB s.conf := by rw [e1, e2, e3]; exact snBI _
theorem itoa0_size : (itoaB 0).size = 1 := by rw [itoa_zero]; rfl
theorem sn_gd {s : Snap} (e1 : s.index = 0) (e2 : s.term_ = 0) (e3 : s.body = kT) : (!(confText s.conf).2 || !inR s.index 0 1000000 || !inR s.term_ 0 100000 || decide ((s.body.size : Int) > 20000)) = !confOk s.conf := by
  have h1 := kT_size
  have h2 : decide ((kT.size : Int) > 20000) = false := decide_eq_false (by omega)
  rw [e1, e2, e3, confText_ok, h2]; simp [inR]
theorem sn_gdI {s : Snap} (e1 : s.index = 0) (e2 : s.term_ = 0) (e3 : s.body = kT) : (!(confText s.conf).2 || !decide ((s.body.size : Int) ≤ 20000) || !inR s.index 0 1000000 || !inR s.term_ 0 100000) = !confOk s.conf := by
  have h1 := kT_size
  have h2 : decide ((kT.size : Int) ≤ 20000) = true := decide_eq_true (by omega)
  rw [e1, e2, e3, confText_ok, h2]; simp [inR]
theorem sn_gd2 {s : Snap} (e1 : s.index = 0) (e2 : s.term_ = 0) (e3 : s.body = kT) : (!(sealT ((varTs [s.index, s.term_] ++ shTs [(confText s.conf).1]) ++ shT s.body)).2 || decide (((sealT ((varTs [s.index, s.term_] ++ shTs [(confText s.conf).1]) ++ shT s.body)).1.size : Int) > 20000)) = false := by
  have h1 := snB_size s.conf
  have h2 := seal_size (snB s.conf)
  have h3 : decide (((sealT (snB s.conf)).1.size : Int) > 20000) = false := decide_eq_false (by omega)
  rw [snBI_eq e1 e2 e3, h3, seal_go (by omega)]; rfl
theorem fdD_len (a : List Int) : (fdD a).files.length ≤ 2 := by
  cases h : confOk a with
  | true => rw [fd_yes h]; exact Nat.le_refl 2
  | false => rw [fd_no h]; exact Nat.zero_le _
theorem mkVDisk_facts (a : List Int) : 0 ≤ (mkVDisk (fdD a) 1).2 ∧ (hdVDisk (mkVDisk (fdD a) 1).1 1).getD (-1) = (mkVDisk (fdD a) 1).2 := by
  have h := fdD_len a
  have c1 := mkL_cnt 3 (fun x k => mkEFile_cnt x k) (fdD a).files 1 (by omega) (by omega)
  refine ⟨by simp only [mkVDisk]; omega, ?_⟩
  have e1 := hdN_some (hdL_mk hdEFile_mk (fdD a).files 1) (by omega)
  simp only [hdVDisk, mkVDisk, e1]
  rfl
theorem mkI_cnt (x k : Int) (h0 : 0 ≤ k) (h1 : k + (1 : Nat) ≤ 4611686018427387904) : (mkI x k).2 = k + (1 : Nat) := by
  simp only [mkI, inc, IntKind.wrap_i64]; omega
theorem mkIS_pos {a : List Int} (h : a.length ≤ 1048576) : 0 ≤ (mkL mkI a 1).2 := by
  have := mkL_cnt 1 mkI_cnt a 1 (by omega) (by omega)
  omega
end Go.Proofs.YtmhnehgpmndiiaaDoor.Y
