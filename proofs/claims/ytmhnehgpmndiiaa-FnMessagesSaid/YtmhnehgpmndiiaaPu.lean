import Derived.Test.YtmhnehgpmndiiaaEng16
import Derived.Test.YtmhnehgpmndiiaaEng43
import Derived.Laws.Strings
namespace Go.Proofs.Ytmhnehgpmndiiaa.Y
open Go Go.RowKit Go.Eng

def okSl {α : Type} (ok : α → Prop) (l : List α) : Prop := l.length ≤ 1048576 ∧ ∀ x ∈ l, ok x
def eqI (x y : Int) : Bool := x == y
theorem eqI_refl (x : Int) : eqI x x = true := by simp [eqI]
def eqS {α : Type} (f : α → α → Bool) : List α → List α → Bool
  | [], [] => true
  | x :: r, y :: s => if f x y then eqS f r s else false
  | _, _ => false
theorem eqS_refl {α : Type} {f : α → α → Bool} (h : ∀ x, f x x = true) : ∀ a : List α, eqS f a a = true
  | [] => rfl
  | x :: r => by rw [eqS, h x, if_pos rfl, eqS_refl h r]
theorem eqS_ne {α : Type} {f : α → α → Bool} : ∀ {a b : List α}, a.length ≠ b.length → eqS f a b = false
  | [], [], h => absurd rfl h
  | [], _ :: _, _ => rfl
  | _ :: _, [], _ => rfl
  | x :: r, y :: s, h => by
    simp only [eqS]
    rw [eqS_ne (by simpa using h)]
    simp
theorem take_snoc {α : Type} {l : List α} {i : Nat} {e : α} (h : l[i]? = some e) : l.take (i + 1) = l.take i ++ [e] := by
  obtain ⟨h1, h2⟩ := List.getElem?_eq_some_iff.1 h
  rw [List.take_succ_eq_append_getElem h1, h2]
def inc (k : Int) : Int := IntKind.i64.wrap (k + 1)
structure Entry where
  term_ : Int
  kind : Int
  data : ByteArray
def Entry.c (e : Entry) : List T := [.v (.int .i64 e.term_), .v (.int .i64 e.kind), .v (.string e.data)]
theorem Entry.len (e : Entry) : e.c.length = 3 := rfl
def Entry.z : Entry := ⟨0, 0, ⟨#[]⟩⟩
def Entry.vs (e : Entry) : List Value := [.int .i64 e.term_, .int .i64 e.kind, .string e.data]
def eqEntry (x y : Entry) : Bool := x.term_ == y.term_ && (x.kind == y.kind && (x.data.toList == y.data.toList))
theorem eqEntry_refl (x : Entry) : eqEntry x x = true := by simp [eqEntry]
structure Message where
  kind : Int
  from_ : Int
  to : Int
  term_ : Int
  index : Int
  logTerm : Int
  commit : Int
  ok : Bool
  entries : List Entry
  conf : List Int
  data : ByteArray
  last : Bool
def Message.c (e : Message) : List T := [.v (.int .i64 e.kind), .v (.int .i64 e.from_), .v (.int .i64 e.to), .v (.int .i64 e.term_), .v (.int .i64 e.index), .v (.int .i64 e.logTerm), .v (.int .i64 e.commit), .v (.bool e.ok), sl 3 Entry.c e.entries, sl 1 cI e.conf, .v (.string e.data), .v (.bool e.last)]
theorem Message.len (e : Message) : e.c.length = 12 := rfl
def Message.z : Message := ⟨0, 0, 0, 0, 0, 0, 0, false, [], [], ⟨#[]⟩, false⟩
structure l05Cur where
  text : ByteArray
  at_ : Int
  bad : Bool
def l05Cur.c (e : l05Cur) : List T := [.v (.string e.text), .v (.int .i64 e.at_), .v (.bool e.bad)]
theorem l05Cur.len (e : l05Cur) : e.c.length = 3 := rfl
def l05Cur.z : l05Cur := ⟨⟨#[]⟩, 0, false⟩
def l05Cur.vs (e : l05Cur) : List Value := [.string e.text, .int .i64 e.at_, .bool e.bad]
structure scan where
  text : ByteArray
  at_ : Int
  bad : Bool
def scan.c (e : scan) : List T := [.v (.string e.text), .v (.int .i64 e.at_), .v (.bool e.bad)]
theorem scan.len (e : scan) : e.c.length = 3 := rfl
def scan.z : scan := ⟨⟨#[]⟩, 0, false⟩
def scan.vs (e : scan) : List Value := [.string e.text, .int .i64 e.at_, .bool e.bad]
structure l01Cur where
  b : List Int
  i : Int
  h : Int
def l01Cur.c (e : l01Cur) : List T := [sl 1 cU e.b, .v (.int .i64 e.i), .v (.int .i64 e.h)]
theorem l01Cur.len (e : l01Cur) : e.c.length = 3 := rfl
def l01Cur.z : l01Cur := ⟨[], 0, 0⟩
structure Command where
  op : Int
  token : Int
  seq : Int
  key : ByteArray
  val : ByteArray
  ver : Int
def Command.c (e : Command) : List T := [.v (.int .i64 e.op), .v (.int .i64 e.token), .v (.int .i64 e.seq), .v (.string e.key), .v (.string e.val), .v (.int .i64 e.ver)]
theorem Command.len (e : Command) : e.c.length = 6 := rfl
def Command.z : Command := ⟨0, 0, 0, ⟨#[]⟩, ⟨#[]⟩, 0⟩
def Command.vs (e : Command) : List Value := [.int .i64 e.op, .int .i64 e.token, .int .i64 e.seq, .string e.key, .string e.val, .int .i64 e.ver]
structure Session where
  token : Int
  last : Int
  reply : ByteArray
def Session.c (e : Session) : List T := [.v (.int .i64 e.token), .v (.int .i64 e.last), .v (.string e.reply)]
theorem Session.len (e : Session) : e.c.length = 3 := rfl
def Session.z : Session := ⟨0, 0, ⟨#[]⟩⟩
def Session.vs (e : Session) : List Value := [.int .i64 e.token, .int .i64 e.last, .string e.reply]
structure Item where
  key : ByteArray
  val : ByteArray
  ver : Int
def Item.c (e : Item) : List T := [.v (.string e.key), .v (.string e.val), .v (.int .i64 e.ver)]
theorem Item.len (e : Item) : e.c.length = 3 := rfl
def Item.z : Item := ⟨⟨#[]⟩, ⟨#[]⟩, 0⟩
def Item.vs (e : Item) : List Value := [.string e.key, .string e.val, .int .i64 e.ver]
structure Keep where
  sessions : List Session
  items : List Item
def Keep.c (e : Keep) : List T := [sl 3 Session.c e.sessions, sl 3 Item.c e.items]
theorem Keep.len (e : Keep) : e.c.length = 2 := rfl
def Keep.z : Keep := ⟨[], []⟩
def okToEntry (e : Entry) : Prop := e.data.size ≤ 1048576
def okToMessage (e : Message) : Prop := okSl okToEntry e.entries ∧ okSl (fun _ => True) e.conf ∧ e.data.size ≤ 1048576
def inR (n x y : Int) : Bool := decide (n ≥ x) && decide (n ≤ y)
def riseOk (lo hi : Int) : Option Int → List Int → Bool
  | _, [] => true
  | p, x :: r => if !(inR x lo hi) || (match p with | none => false | some q => decide (q ≥ x)) then false else riseOk lo hi (some x) r
theorem riseOk_cons (lo hi : Int) (p : Option Int) (x : Int) (r : List Int) : riseOk lo hi p (x :: r) = if !(inR x lo hi) || (match p with | none => false | some q => decide (q ≥ x)) then false else riseOk lo hi (some x) r := by
  cases p <;> rfl
theorem riseOk_nil (lo hi : Int) (p : Option Int) : riseOk lo hi p [] = true := by
  cases p <;> rfl
def prevI (a : List Int) (i : Nat) : Option Int := if i = 0 then none else some (a.getD (i - 1) 0)
theorem prevI_succ {a : List Int} {i : Nat} {e : Int} (h : a[i]? = some e) : prevI a (i + 1) = some e := by
  simp [prevI, List.getD_eq_getElem?_getD, h]
def confOk (a : List Int) : Bool := inR (a.length : Int) 1 4 && riseOk 1 4 none a
theorem riseOk_len : ∀ (a : List Int) (q : Int), riseOk 1 4 (some q) a = true → (a.length : Int) ≤ max 0 (4 - q)
  | [], q, _ => by simp; omega
  | x :: r, q, h => by
    rw [riseOk] at h
    split at h
    · cases h
    · rename_i hc
      have ih := riseOk_len r x h
      simp [inR] at hc
      simp only [List.length_cons]
      omega
theorem confOk_impl (a : List Int) : (decide ((a.length : Int) > 0) && riseOk 1 4 none a) = confOk a := by
  unfold confOk inR
  cases a with
  | nil => simp
  | cons x r =>
    cases hr : riseOk 1 4 none (x :: r) with
    | false => simp
    | true =>
      rw [riseOk] at hr
      split at hr
      · cases hr
      · rename_i hc
        have ih := riseOk_len r x hr
        simp [inR] at hc
        simp
        omega
theorem ba_ext {x y : ByteArray} (h : x.toList = y.toList) : x = y := by
  rw [ByteArray.toList_eq, ByteArray.toList_eq] at h
  exact ByteArray.ext (Array.ext' h)
theorem findIdx_at {α : Type} {p : α → Bool} : ∀ {a : List α} {i : Nat} {e : α}, (a.take i).any p = false → a[i]? = some e → p e = true → a.findIdx? p = some i
  | [], i, e, _, h, _ => by simp at h
  | x :: r, 0, e, _, h, hp => by
    simp at h
    subst h
    simp [List.findIdx?_cons, hp]
  | x :: r, i + 1, e, ha, h, hp => by
    simp only [List.take_succ_cons, List.any_cons, Bool.or_eq_false_iff] at ha
    have := findIdx_at (a := r) ha.2 (by simpa using h) hp
    simp [List.findIdx?_cons, ha.1, this]
def bys (s : ByteArray) (n : Nat) : List Int := (List.range n).map fun i => IntKind.i64.wrap (bat s i)
theorem bys_succ (s : ByteArray) (n : Nat) : bys s (n + 1) = bys s n ++ [IntKind.i64.wrap (bat s n)] := by simp [bys, List.range_succ]
theorem bys_len (s : ByteArray) (n : Nat) : (bys s n).length = n := by simp [bys]
def readConf (s : ByteArray) : List Int × Bool := if confOk (bys s s.size) then (bys s s.size, true) else ([], false)
theorem confOk_len {a : List Int} (h : confOk a = true) : a.length ≤ 4 := by
  simp [confOk, inR] at h
  omega
theorem rc_no {s : ByteArray} {i : Nat} (hi : i = s.size ∨ (5 ≤ i ∧ i ≤ s.size)) (h : (!(((bys s i).length : Int) == (s.size : Int)) || !confOk (bys s i)) = true) : readConf s = ([], false) := by
  unfold readConf
  split
  · rename_i hc
    exfalso
    rcases hi with rfl | ⟨h1, h2⟩
    · simp [bys_len, hc] at h
    · have := confOk_len hc
      rw [bys_len] at this
      omega
  · rfl
theorem rc_yes {s : ByteArray} {i : Nat} (h : (!(((bys s i).length : Int) == (s.size : Int)) || !confOk (bys s i)) = false) : readConf s = (bys s i, true) := by
  simp [bys_len] at h
  obtain ⟨h1, h2⟩ := h
  have : i = s.size := by omega
  subst this
  simp [readConf, h2]
theorem rc_exit {s : ByteArray} {i : Nat} {v : Bool} (h5 : i ≤ 5) (hs : i ≤ s.size) (hv : v = (decide ((i : Int) < (s.size : Int)) && decide ((i : Int) ≤ 4))) (hn : v = false) : i = s.size ∨ (5 ≤ i ∧ i ≤ s.size) := by
  rw [hv] at hn
  simp at hn
  omega
def entOk (e : Entry) : Bool := inR e.term_ 0 100000 && (if e.kind == 1 then e.data.toList == (⟨#[]⟩ : ByteArray).toList else if e.kind == 2 then (readConf e.data).2 else (e.kind == 3 && decide ((e.data.size : Int) ≤ 120)))
theorem nT {b : Bool} (h : (!b) = true) : b = false := by simpa using h
theorem nF {b : Bool} (h : (!b) = false) : b = true := by simpa using h
theorem toL_app (a b : ByteArray) : (a ++ b).toList = a.toList ++ b.toList := by
  rw [ByteArray.toList_eq, ByteArray.toList_eq, ByteArray.toList_eq, ByteArray.data_append, Array.toList_append]
theorem toL_len (s : ByteArray) : s.toList.length = s.size := by rw [ByteArray.toList_eq]; rfl
theorem toL_get {s : ByteArray} {i : Nat} (h : i < s.size) : s.toList[i]? = some s[i] := by
  rw [ByteArray.toList_eq]
  have : s.data.toList[i]? = some s.data[i] := by rw [Array.getElem?_toList]; exact Array.getElem?_eq_getElem h
  exact this
theorem wrap_small {x : Int} (h0 : -9223372036854775808 ≤ x) (h1 : x ≤ 9223372036854775807) : IntKind.i64.wrap x = x := by rw [IntKind.wrap_i64]; omega
def confText (a : List Int) : ByteArray × Bool := if confOk a then (bytesOf (a.map fun x => IntKind.u8.wrap x), true) else (⟨#[]⟩, false)
-- CODEC
def val : List UInt8 → Nat
  | [] => 0
  | c :: r => c.toNat % 128 + 128 * val r
theorem val_snoc : ∀ (l : List UInt8) (c : UInt8), val (l ++ [c]) = val l + 128 ^ l.length * (c.toNat % 128)
  | [], c => by simp [val]
  | b :: l, c => by
    rw [List.cons_append, val, val_snoc l c, val, List.length_cons, Nat.pow_succ, Nat.mul_add]
    rw [Nat.mul_comm (128 ^ l.length) 128, Nat.mul_assoc]
    omega
theorem val_lt : ∀ l : List UInt8, val l < 128 ^ l.length
  | [] => by simp [val]
  | c :: l => by
    have := val_lt l
    rw [val, List.length_cons, Nat.pow_succ]
    omega
def varL (n : Nat) : List UInt8 := if h : n > 127 then UInt8.ofNat (n % 128 + 128) :: varL (n / 128) else [UInt8.ofNat n]
termination_by n
decreasing_by omega
def varB (n : Nat) : ByteArray := ⟨(varL n).toArray⟩
theorem varL_big {n : Nat} (h : n > 127) : varL n = UInt8.ofNat (n % 128 + 128) :: varL (n / 128) := by rw [varL, dif_pos h]
theorem varL_small {n : Nat} (h : ¬ n > 127) : varL n = [UInt8.ofNat n] := by rw [varL, dif_neg h]
theorem u8_of {n : Nat} (h : n < 256) : (UInt8.ofNat n).toNat = n := by simp; omega
theorem ofNat_toNat (c : UInt8) : UInt8.ofNat c.toNat = c := by simp
theorem varL_len : ∀ (k n : Nat), 0 < k → n < 128 ^ k → (varL n).length ≤ k
  | 0, n, h, _ => by omega
  | k + 1, n, _, h => by
    by_cases hn : n > 127
    · rw [varL_big hn, List.length_cons]
      have hk : 0 < k := by
        rcases Nat.eq_zero_or_pos k with rfl | hk
        · simp at h; omega
        · exact hk
      have := varL_len k (n / 128) hk (by rw [Nat.pow_succ] at h; omega)
      omega
    · rw [varL_small hn]; simp
theorem varL_form : ∀ n : Nat, ∃ pre c, varL n = pre ++ [c] ∧ pre.any (fun c => decide (c.toNat ≤ 127)) = false ∧ c.toNat ≤ 127 ∧ (pre ≠ [] → c.toNat ≠ 0) ∧ val (pre ++ [c]) = n := by
  intro n
  induction n using Nat.strongRecOn with
  | _ n ih =>
    by_cases hn : n > 127
    · obtain ⟨pre, c, h1, h2, h3, h4, h5⟩ := ih (n / 128) (by omega)
      have hb : (UInt8.ofNat (n % 128 + 128)).toNat = n % 128 + 128 := u8_of (by omega)
      refine ⟨UInt8.ofNat (n % 128 + 128) :: pre, c, by rw [varL_big hn, h1]; rfl, ?_, h3, fun _ => ?_, ?_⟩
      · rw [List.any_cons, h2, hb]
        simp
      · cases pre with
        | nil => intro h0; simp [val, h0] at h5; omega
        | cons x y => exact h4 (by simp)
      · rw [List.cons_append, val, h5, hb]; omega
    · refine ⟨[], UInt8.ofNat n, by rw [varL_small hn]; rfl, rfl, by rw [u8_of (by omega)]; omega, by simp, ?_⟩
      simp only [List.nil_append, val]
      rw [u8_of (by omega)]; omega
theorem varL_val : ∀ (pre : List UInt8) (c : UInt8), pre.any (fun c => decide (c.toNat ≤ 127)) = false → c.toNat ≤ 127 → (pre ≠ [] → c.toNat ≠ 0) → varL (val (pre ++ [c])) = pre ++ [c]
  | [], c, _, hc, _ => by
    simp only [List.nil_append, val]
    have : c.toNat % 128 + 128 * 0 = c.toNat := by omega
    rw [this, varL_small (by omega), ofNat_toNat]
  | b :: pre, c, hp, hc, h0 => by
    rw [List.any_cons, Bool.or_eq_false_iff] at hp
    have hb : ¬ b.toNat ≤ 127 := by simpa using hp.1
    have hb2 := b.toNat_lt
    have h1 : c.toNat ≠ 0 := h0 (by simp)
    have ih := varL_val pre c hp.2 hc (fun _ => h1)
    have hpos : 0 < val (pre ++ [c]) := by
      rw [val_snoc]
      have : 0 < 128 ^ pre.length := Nat.pow_pos (by omega)
      have : 128 ^ pre.length * 1 ≤ 128 ^ pre.length * (c.toNat % 128) := Nat.mul_le_mul_left _ (by omega)
      omega
    rw [List.cons_append, val, varL_big (by omega)]
    have e1 : (b.toNat % 128 + 128 * val (pre ++ [c])) % 128 + 128 = b.toNat := by omega
    have e2 : (b.toNat % 128 + 128 * val (pre ++ [c])) / 128 = val (pre ++ [c]) := by omega
    rw [e1, e2, ih, ofNat_toNat]
theorem varL_not {pre : List UInt8} {c : UInt8} (hn : pre ≠ []) (hc : c.toNat = 0) : varL (val (pre ++ [c])) ≠ pre ++ [c] := by
  intro h
  obtain ⟨p, d, h1, _, _, h4, _⟩ := varL_form (val (pre ++ [c]))
  rw [h] at h1
  obtain ⟨rfl, h5⟩ := List.append_inj' h1 rfl
  simp at h5
  subst h5
  exact h4 hn hc
def rdv (l : List UInt8) : Option (Nat × Nat) :=
  match l.findIdx? (fun c => decide (c.toNat ≤ 127)) with
  | none => none
  | some k => if k < 5 then (if (k ≠ 0 ∧ (l.getD k 0).toNat = 0) then none else some (val (l.take (k + 1)), k + 1)) else none
def rdVar (t : ByteArray) (a : Int) : Int × Int × Bool :=
  if inR a 0 t.size then
    match rdv (t.toList.drop a.toNat) with
    | none => (0, 0, false)
    | some p => if (p.1 : Int) ≤ 1000000000 then ((p.1 : Int), a + (p.2 : Int), true) else (0, 0, false)
  else (0, 0, false)
structure RvP (t : ByteArray) (a : Int) (j : Nat) (n : Int) : Prop where
  a0 : 0 ≤ a ∧ a ≤ t.size
  sz : t.size ≤ 4611686018427387904
  j5 : j ≤ 5
  jl : a.toNat + j ≤ t.size
  hi : ((t.toList.drop a.toNat).take j).any (fun c => decide (c.toNat ≤ 127)) = false
  eq : n = (val ((t.toList.drop a.toNat).take j) : Nat)
theorem rdVar_out {t : ByteArray} {a : Int} (h : inR a 0 t.size = false) : rdVar t a = (0, 0, false) := by rw [rdVar, if_neg (by rw [h]; simp)]
theorem RvP.init {t : ByteArray} {a : Int} (h : inR a 0 t.size = true) (hs : t.size ≤ 4611686018427387904) : RvP t a 0 0 := by
  simp [inR] at h
  exact ⟨by omega, by omega, by omega, by omega, by simp, by simp [val]⟩
theorem RvP.inR {t : ByteArray} {a n : Int} {j : Nat} (h : RvP t a j n) : inR a 0 t.size = true := by
  have := h.a0
  simp [Y.inR]; omega
theorem RvP.end_ {t : ByteArray} {a n : Int} {j : Nat} (h : RvP t a j n) (hj : 5 ≤ j ∨ t.size ≤ a.toNat + j) : rdVar t a = (0, 0, false) := by
  rw [rdVar, if_pos h.inR]
  have : rdv (t.toList.drop a.toNat) = none := by
    rw [rdv]
    cases e : (t.toList.drop a.toNat).findIdx? (fun c => decide (c.toNat ≤ 127)) with
    | none => rfl
    | some k =>
      obtain ⟨hk, hp, _⟩ := List.findIdx?_eq_some_iff_getElem.1 e
      have hkj : j ≤ k := by
        rcases Nat.lt_or_ge k j with h1 | h1
        · have h2 := List.any_eq_false.1 h.hi ((t.toList.drop a.toNat)[k]) (by
            rw [List.mem_take_iff_getElem]
            exact ⟨k, by omega, rfl⟩)
          exact absurd hp h2
        · exact h1
      simp only []
      rw [if_neg]
      rcases hj with hj | hj
      · omega
      · rw [List.length_drop, toL_len] at hk; omega
  rw [this]
theorem bat_at {t : ByteArray} {m : Nat} (h : m < t.size) : bat t m = ((t.toList.getD m 0).toNat : Int) ∧ t.toList[m]? = some (t.toList.getD m 0) := by
  have e : t[m]? = some t[m] := getElem?_pos t m h
  have e2 := toL_get h
  have e3 : t.toList.getD m 0 = t[m] := by rw [List.getD_eq_getElem?_getD, e2]; rfl
  rw [e3]
  exact ⟨by rw [bat, e], e2⟩
structure RvB (t : ByteArray) (a : Int) (j : Nat) (c : UInt8) : Prop where
  at_ : (t.toList.drop a.toNat)[j]? = some c
  bt : bat t (a.toNat + j) = (c.toNat : Int)
  wb : IntKind.i64.wrap (bat t (a.toNat + j)) = (c.toNat : Int)
  lt : c.toNat < 256
theorem RvP.byte {t : ByteArray} {a n : Int} {j : Nat} (_h : RvP t a j n) (hlt : a.toNat + j < t.size) : ∃ c, RvB t a j c := by
  obtain ⟨h1, h2⟩ := bat_at hlt
  have h3 := (t.toList.getD (a.toNat + j) 0).toNat_lt
  refine ⟨t.toList.getD (a.toNat + j) 0, by rw [List.getElem?_drop]; exact h2, h1, ?_, h3⟩
  rw [h1]; exact wrap_small (by omega) (by omega)
theorem RvB.take {t : ByteArray} {a : Int} {j : Nat} {c : UInt8} (h : RvB t a j c) : (t.toList.drop a.toNat).take (j + 1) = (t.toList.drop a.toNat).take j ++ [c] := take_snoc h.at_
theorem RvP.len {t : ByteArray} {a n : Int} {j : Nat} (h : RvP t a j n) : ((t.toList.drop a.toNat).take j).length = j := by
  have := h.jl; have := h.a0
  rw [List.length_take, List.length_drop, toL_len]; omega
theorem RvP.next {t : ByteArray} {a n : Int} {j : Nat} {c : UInt8} {m : Int} (h : RvP t a j n) (hb : RvB t a j c) (h5 : j < 5) (hlt : a.toNat + j < t.size) (hc : (c.toNat : Int) > 127) (hm : m = (val ((t.toList.drop a.toNat).take (j + 1)) : Nat)) : RvP t a (j + 1) m := by
  refine ⟨h.a0, h.sz, by omega, by omega, ?_, hm⟩
  rw [hb.take, List.any_append, h.hi]
  simp; omega
theorem pow128 {j : Nat} (h : j ≤ 5) : 128 ^ j ≤ 34359738368 := by
  have : j = 0 ∨ j = 1 ∨ j = 2 ∨ j = 3 ∨ j = 4 ∨ j = 5 := by omega
  rcases this with rfl | rfl | rfl | rfl | rfl | rfl <;> decide
theorem RvP.n_lt {t : ByteArray} {a n : Int} {j : Nat} (h : RvP t a j n) : 0 ≤ n ∧ n < 34359738368 := by
  have h1 := val_lt ((t.toList.drop a.toNat).take j)
  rw [h.len] at h1
  have h2 := pow128 h.j5
  rw [h.eq]; omega
theorem RvP.more {t : ByteArray} {a n : Int} {j : Nat} {c : UInt8} (h : RvP t a j n) (hb : RvB t a j c) (h5 : j < 5) : ((val ((t.toList.drop a.toNat).take (j + 1)) : Nat) : Int) = n + ((128 ^ j : Nat) : Int) * ((c.toNat % 128 : Nat) : Int) ∧ n + ((128 ^ j : Nat) : Int) * ((c.toNat % 128 : Nat) : Int) < 34359738368 := by
  have e : (val ((t.toList.drop a.toNat).take (j + 1)) : Nat) = val ((t.toList.drop a.toNat).take j) + 128 ^ j * (c.toNat % 128) := by
    rw [hb.take, val_snoc, h.len]
  have h1 := val_lt ((t.toList.drop a.toNat).take (j + 1))
  have h2 : ((t.toList.drop a.toNat).take (j + 1)).length = j + 1 := by rw [hb.take, List.length_append, h.len]; rfl
  rw [h2] at h1
  have h3 := pow128 (j := j + 1) (by omega)
  rw [h.eq]
  have e2 : ((val ((t.toList.drop a.toNat).take (j + 1)) : Nat) : Int) = (val ((t.toList.drop a.toNat).take j) : Nat) + ((128 ^ j : Nat) : Int) * ((c.toNat % 128 : Nat) : Int) := by
    rw [e, Int.natCast_add, Int.natCast_mul]
  exact ⟨e2, by rw [← e2]; omega⟩
theorem tmod128 {n : Nat} : Int.tmod (n : Int) 128 = ((n % 128 : Nat) : Int) := by
  rw [Int.tmod_eq_emod_of_nonneg (by omega)]; omega
theorem RvP.nI {t : ByteArray} {a n : Int} {j : Nat} {c : UInt8} (h : RvP t a j n) (hb : RvB t a j c) (h5 : j < 5) :
    IntKind.i64.wrap (n + shlI (Int.tmod (IntKind.i64.wrap (bat t (a.toNat + j))) 128) (IntKind.i64.wrap (7 * (j : Int)))) = (val ((t.toList.drop a.toNat).take (j + 1)) : Nat) := by
  obtain ⟨h1, h2⟩ := h.more hb h5
  have h3 := h.n_lt
  rw [hb.wb, tmod128, shlI, wrap_small (x := 7 * (j : Int)) (by omega) (by omega)]
  have e : min (7 * (j : Int)).toNat 64 = 7 * j := by omega
  have e2 : ((c.toNat % 128 : Nat) : Int) * 2 ^ (7 * j) = ((128 ^ j : Nat) : Int) * ((c.toNat % 128 : Nat) : Int) := by
    rw [Int.mul_comm]
    congr 1
    rw [show (128 : Nat) = 2 ^ 7 from rfl, ← Nat.pow_mul, Int.natCast_pow]
    rfl
  have h4 : 0 ≤ ((128 ^ j : Nat) : Int) * ((c.toNat % 128 : Nat) : Int) := Int.mul_nonneg (Int.natCast_nonneg _) (Int.natCast_nonneg _)
  rw [e, e2, wrap_small (x := ((128 ^ j : Nat) : Int) * ((c.toNat % 128 : Nat) : Int)) (by omega) (by omega), wrap_small (by omega) (by omega), h1]
theorem RvP.nS {t : ByteArray} {a n : Int} {j : Nat} {c : UInt8} (h : RvP t a j n) (hb : RvB t a j c) (h5 : j < 5) :
    IntKind.i64.wrap (n + IntKind.i64.wrap (Int.tmod (IntKind.i64.wrap (bat t (a.toNat + j))) 128 * ((128 ^ j : Nat) : Int))) = (val ((t.toList.drop a.toNat).take (j + 1)) : Nat) := by
  obtain ⟨h1, h2⟩ := h.more hb h5
  have h3 := h.n_lt
  have h4 : 0 ≤ ((128 ^ j : Nat) : Int) * ((c.toNat % 128 : Nat) : Int) := Int.mul_nonneg (Int.natCast_nonneg _) (Int.natCast_nonneg _)
  rw [hb.wb, tmod128, Int.mul_comm, wrap_small (x := ((128 ^ j : Nat) : Int) * ((c.toNat % 128 : Nat) : Int)) (by omega) (by omega), wrap_small (by omega) (by omega), h1]
theorem rdv_at {l : List UInt8} {j : Nat} {c : UInt8} (hi : (l.take j).any (fun c => decide (c.toNat ≤ 127)) = false) (hc : l[j]? = some c) (hl : c.toNat ≤ 127) (h5 : j < 5) : rdv l = if (j ≠ 0 ∧ c.toNat = 0) then none else some (val (l.take (j + 1)), j + 1) := by
  have e : l.findIdx? (fun c => decide (c.toNat ≤ 127)) = some j := findIdx_at hi hc (by simpa using hl)
  have e2 : l.getD j 0 = c := by rw [List.getD_eq_getElem?_getD, hc]; rfl
  rw [rdv, e]
  simp only [h5, if_true, e2]
theorem RvP.bad {t : ByteArray} {a n : Int} {j : Nat} {c : UInt8} (h : RvP t a j n) (hb : RvB t a j c) (h5 : j < 5) (hc : (c.toNat : Int) ≤ 127) (hz : (j ≠ 0 ∧ (c.toNat : Int) = 0) ∨ ((val ((t.toList.drop a.toNat).take (j + 1)) : Nat) : Int) > 1000000000) : rdVar t a = (0, 0, false) := by
  rw [rdVar, if_pos h.inR, rdv_at h.hi hb.at_ (by omega) h5]
  by_cases h1 : j ≠ 0 ∧ c.toNat = 0
  · rw [if_pos h1]
  · rw [if_neg h1]
    simp only []
    rw [if_neg (by omega)]
theorem RvP.good {t : ByteArray} {a n : Int} {j : Nat} {c : UInt8} (h : RvP t a j n) (hb : RvB t a j c) (h5 : j < 5) (hc : (c.toNat : Int) ≤ 127) (h0 : ¬ (j ≠ 0 ∧ (c.toNat : Int) = 0)) (hz : ((val ((t.toList.drop a.toNat).take (j + 1)) : Nat) : Int) ≤ 1000000000) : rdVar t a = (((val ((t.toList.drop a.toNat).take (j + 1)) : Nat) : Int), a + ((j + 1 : Nat) : Int), true) := by
  rw [rdVar, if_pos h.inR, rdv_at h.hi hb.at_ (by omega) h5]
  rw [if_neg (by omega)]
  simp only []
  rw [if_pos hz]
theorem RvP.canon {t : ByteArray} {a n : Int} {j : Nat} {c : UInt8} (h : RvP t a j n) (hb : RvB t a j c) (hc : (c.toNat : Int) ≤ 127) (hlt : a.toNat + j < t.size) : ((varB (val ((t.toList.drop a.toNat).take (j + 1)))).toList == (t.extract a.toNat (a + (j : Int) + 1).toNat).toList) = !decide (j ≠ 0 ∧ (c.toNat : Int) = 0) := by
  have ha := h.a0
  have e1 : (t.extract a.toNat (a + (j : Int) + 1).toNat).toList = (t.toList.drop a.toNat).take (j + 1) := by
    rw [ByteArray.toList_eq, ByteArray.toList_eq, ByteArray.data_extract, Array.toList_extract, List.extract_eq_take_drop]
    congr 1
    omega
  have e2 : (varB (val ((t.toList.drop a.toNat).take (j + 1)))).toList = varL (val ((t.toList.drop a.toNat).take (j + 1))) := by
    rw [ByteArray.toList_eq]; rfl
  rw [e1, e2, hb.take]
  by_cases h1 : j ≠ 0 ∧ (c.toNat : Int) = 0
  · rw [decide_eq_true h1]
    have hn : (t.toList.drop a.toNat).take j ≠ [] := by
      intro h2
      have := h.len
      rw [h2] at this
      simp at this
      omega
    have := varL_not (c := c) hn (by omega)
    simpa using this
  · rw [decide_eq_false h1, varL_val _ _ h.hi (by omega) (fun hn => ?_)]
    · simp
    · intro h2
      apply h1
      refine ⟨fun hj => hn ?_, by omega⟩
      subst hj; simp
def RvZ (t : ByteArray) (a : Int) (j : Nat) (c : UInt8) : Prop := (j ≠ 0 ∧ (c.toNat : Int) = 0) ∨ ((val ((t.toList.drop a.toNat).take (j + 1)) : Nat) : Int) > 1000000000
theorem RvP.implT {t : ByteArray} {a n : Int} {j : Nat} {c : UInt8} {b : Bool} (h : RvP t a j n) (hb : RvB t a j c) (h5 : j < 5) (hv : b = ((decide ((j : Int) > 0) && (IntKind.i64.wrap (bat t (a.toNat + j)) == 0)) || decide (IntKind.i64.wrap (n + shlI (Int.tmod (IntKind.i64.wrap (bat t (a.toNat + j))) 128) (IntKind.i64.wrap (7 * (j : Int)))) > 1000000000))) : (b = true → RvZ t a j c) ∧ (b = false → ¬ RvZ t a j c) := by
  rw [h.nI hb h5, hb.wb] at hv
  subst hv
  simp only [RvZ, Bool.or_eq_true, Bool.and_eq_true, decide_eq_true_eq, beq_iff_eq, Bool.or_eq_false_iff, Bool.and_eq_false_iff, decide_eq_false_iff_not, beq_eq_false_iff_ne]
  omega
theorem RvP.specT {t : ByteArray} {a n : Int} {j : Nat} {c : UInt8} {b : Bool} (h : RvP t a j n) (hb : RvB t a j c) (h5 : j < 5) (hc : (c.toNat : Int) ≤ 127) (hlt : a.toNat + j < t.size)
    (hv : b = (decide (IntKind.i64.wrap (n + IntKind.i64.wrap (Int.tmod (IntKind.i64.wrap (bat t (a.toNat + j))) 128 * ((128 ^ j : Nat) : Int))) > 1000000000) || !((varB (IntKind.i64.wrap (n + IntKind.i64.wrap (Int.tmod (IntKind.i64.wrap (bat t (a.toNat + j))) 128 * ((128 ^ j : Nat) : Int)))).toNat).toList == (t.extract a.toNat (IntKind.i64.wrap (a + (j : Int) + 1)).toNat).toList))) : (b = true → RvZ t a j c) ∧ (b = false → ¬ RvZ t a j c) := by
  have ha := h.a0; have hs := h.sz
  have hw : IntKind.i64.wrap (a + (j : Int) + 1) = a + (j : Int) + 1 := wrap_small (by omega) (by omega)
  rw [h.nS hb h5, hw, Int.toNat_natCast, h.canon hb hc hlt] at hv
  subst hv
  simp only [RvZ, Bool.or_eq_true, Bool.not_not, decide_eq_true_eq, Bool.or_eq_false_iff, decide_eq_false_iff_not]
  omega
theorem RvP.badZ {t : ByteArray} {a n : Int} {j : Nat} {c : UInt8} (h : RvP t a j n) (hb : RvB t a j c) (h5 : j < 5) (hc : (c.toNat : Int) ≤ 127) (hz : RvZ t a j c) : rdVar t a = (0, 0, false) := h.bad hb h5 hc hz
theorem RvP.goodZ {t : ByteArray} {a n : Int} {j : Nat} {c : UInt8} (h : RvP t a j n) (hb : RvB t a j c) (h5 : j < 5) (hc : (c.toNat : Int) ≤ 127) (hz : ¬ RvZ t a j c) : rdVar t a = (((val ((t.toList.drop a.toNat).take (j + 1)) : Nat) : Int), a + ((j + 1 : Nat) : Int), true) :=
  h.good hb h5 hc (fun h1 => hz (.inl h1)) (by rcases Int.lt_or_le 1000000000 ((val ((t.toList.drop a.toNat).take (j + 1)) : Nat) : Int) with h1 | h1; exact absurd (.inr h1) hz; exact h1)
theorem RvP.lt {t : ByteArray} {a n : Int} {j : Nat} (h : RvP t a j n) (h1 : IntKind.i64.wrap (a + (j : Int)) < (t.size : Int)) : a.toNat + j < t.size := by
  have ha := h.a0; have hs := h.sz; have := h.j5
  rw [wrap_small (by omega) (by omega)] at h1
  omega
theorem RvP.ix {t : ByteArray} {a n : Int} {j : Nat} (h : RvP t a j n) : IntKind.i64.wrap (a + (j : Int)) = ((a.toNat + j : Nat) : Int) := by
  have ha := h.a0; have hs := h.sz; have := h.j5
  rw [wrap_small (by omega) (by omega)]
  omega
theorem RvP.nx {t : ByteArray} {a n : Int} {j : Nat} (h : RvP t a j n) : IntKind.i64.wrap (IntKind.i64.wrap (a + (j : Int)) + 1) = a + ((j + 1 : Nat) : Int) := by
  have ha := h.a0; have hs := h.sz; have := h.j5
  rw [h.ix, wrap_small (by omega) (by omega)]
  omega
theorem bytesOf_snoc (l : List Int) (x : Int) : bytesOf (l ++ [x]) = bytesOf l ++ bytesOf [x] := by
  have : ∀ (b : ByteArray) (c : UInt8), b.push c = b ++ ⟨#[c]⟩ := by
    intro b c
    apply ByteArray.ext
    rw [ByteArray.data_append]
    simp [ByteArray.push]
  show (l ++ [x]).foldl _ _ = _
  rw [List.foldl_append]
  exact this _ _
theorem bytesOf_size (l : List Int) : (bytesOf l).size = l.length := by
  have : ∀ (l : List Int) (b : ByteArray), (l.foldl (fun r n => r.push (UInt8.ofNat n.toNat)) b).size = b.size + l.length := by
    intro l
    induction l with
    | nil => intro b; rfl
    | cons x r ih =>
      intro b
      rw [List.foldl_cons, ih, ByteArray.size_push, List.length_cons]
      omega
  have h := this l ByteArray.empty
  have h0 : ByteArray.empty.size = 0 := rfl
  rw [h0, Nat.zero_add] at h
  exact h
structure VbP (n m : Int) (l : List Int) : Prop where
  m0 : 0 ≤ m
  m1 : m ≤ 9223372036854775807
  n1 : 0 ≤ n ∧ n ≤ 9223372036854775807
  eq : bytesOf l ++ varB m.toNat = varB n.toNat
theorem VbP.init {n : Int} (h : 0 ≤ n ∧ n ≤ 9223372036854775807) : VbP n n [] := ⟨h.1, h.2, h, ByteArray.empty_append⟩
theorem VbP.len {n m : Int} {l : List Int} (h : VbP n m l) : l.length ≤ 9 := by
  have h1 := congrArg ByteArray.size h.eq
  rw [ByteArray.size_append, bytesOf_size] at h1
  have h2 : (varB n.toNat).size ≤ 9 := varL_len 9 n.toNat (by omega) (by have := h.n1; omega)
  omega
theorem u8w' (x : Int) : IntKind.u8.wrap x = x % 256 := by simp [IntKind.wrap, IntKind.bits, IntKind.signed]
theorem VbP.step {n m : Int} {l : List Int} (h : VbP n m l) (hm : decide (m > 127) = true) : VbP n (IntKind.i64.wrap (Int.tdiv m 128)) (l ++ [IntKind.u8.wrap (IntKind.i64.wrap (Int.tmod m 128 + 128))]) ∧ (IntKind.i64.wrap (Int.tdiv m 128)).toNat < m.toNat := by
  have hm : m > 127 := of_decide_eq_true hm
  have h0 := h.m0; have h1 := h.m1
  have e1 : Int.tdiv m 128 = m / 128 := Int.tdiv_eq_ediv_of_nonneg h0
  have e2 : Int.tmod m 128 = m % 128 := Int.tmod_eq_emod_of_nonneg h0
  have e3 : IntKind.i64.wrap (Int.tdiv m 128) = m / 128 := by rw [e1]; exact wrap_small (by omega) (by omega)
  rw [e3]
  refine ⟨⟨by omega, by omega, h.n1, ?_⟩, by omega⟩
  rw [← h.eq, bytesOf_snoc, e2, wrap_small (x := m % 128 + 128) (by omega) (by omega), u8w', ByteArray.append_assoc]
  congr 1
  have e4 : (m / 128).toNat = m.toNat / 128 := by omega
  have e5 : ((m % 128 + 128) % 256).toNat = m.toNat % 128 + 128 := by omega
  apply ByteArray.ext
  apply Array.ext'
  rw [ByteArray.data_append, Array.toList_append]
  show [UInt8.ofNat ((m % 128 + 128) % 256).toNat] ++ varL (m / 128).toNat = varL m.toNat
  rw [varL_big (n := m.toNat) (by omega), e4, e5]
  rfl
theorem VbP.fin {n m : Int} {l : List Int} (h : VbP n m l) (hm : decide (m > 127) = false) : bytesOf (l ++ [IntKind.u8.wrap m]) = varB n.toNat := by
  have hm : ¬ m > 127 := of_decide_eq_false hm
  have h0 := h.m0
  rw [← h.eq, bytesOf_snoc, u8w']
  congr 1
  apply ByteArray.ext
  apply Array.ext'
  show [UInt8.ofNat (m % 256).toNat] = varL m.toNat
  rw [varL_small (by omega)]
  congr 2
  omega
theorem pow_next {j : Nat} (h : j < 5) : IntKind.i64.wrap (((128 ^ j : Nat) : Int) * 128) = ((128 ^ (j + 1) : Nat) : Int) := by
  have h1 := pow128 (j := j + 1) (by omega)
  have h2 : ((128 ^ (j + 1) : Nat) : Int) = ((128 ^ j : Nat) : Int) * 128 := by rw [Nat.pow_succ, Int.natCast_mul]; rfl
  have h3 := Int.natCast_nonneg (128 ^ j)
  rw [← h2]
  exact wrap_small (by omega) (by omega)
theorem rdVar_ok {t : ByteArray} {a : Int} (h : (rdVar t a).2.2 = true) : ∃ n : Nat, (rdVar t a).1 = (n : Int) ∧ n ≤ 1000000000 ∧ 0 ≤ a ∧ (rdVar t a).2.1 = a + ((varL n).length : Int) ∧ (rdVar t a).2.1 ≤ t.size ∧ t.toList.drop a.toNat = varL n ++ t.toList.drop (rdVar t a).2.1.toNat ∧ 0 < (varL n).length := by
  unfold rdVar at h ⊢
  by_cases hi : inR a 0 t.size = true
  · rw [if_pos hi] at h ⊢
    have ha : 0 ≤ a ∧ a ≤ t.size := by simp [inR] at hi; omega
    cases e : rdv (t.toList.drop a.toNat) with
    | none => rw [e] at h; simp at h
    | some p =>
      rw [e] at h
      simp only [] at h ⊢
      by_cases hp : (p.1 : Int) ≤ 1000000000
      · rw [if_pos hp] at h ⊢
        rw [rdv] at e
        cases e2 : (t.toList.drop a.toNat).findIdx? (fun c => decide (c.toNat ≤ 127)) with
        | none => rw [e2] at e; cases e
        | some k =>
          rw [e2] at e
          simp only [] at e
          by_cases h5 : k < 5
          · rw [if_pos h5] at e
            by_cases hz : k ≠ 0 ∧ ((t.toList.drop a.toNat).getD k 0).toNat = 0
            · rw [if_pos hz] at e; cases e
            · rw [if_neg hz] at e
              cases e
              obtain ⟨hk, hpk, hlt⟩ := List.findIdx?_eq_some_iff_getElem.1 e2
              have hg : (t.toList.drop a.toNat)[k]? = some (t.toList.drop a.toNat)[k] := List.getElem?_eq_getElem hk
              have hgd : (t.toList.drop a.toNat).getD k 0 = (t.toList.drop a.toNat)[k] := by rw [List.getD_eq_getElem?_getD, hg]; rfl
              rw [hgd] at hz
              have htk : (t.toList.drop a.toNat).take (k + 1) = (t.toList.drop a.toNat).take k ++ [(t.toList.drop a.toNat)[k]] := take_snoc hg
              have hany : ((t.toList.drop a.toNat).take k).any (fun c => decide (c.toNat ≤ 127)) = false := by
                rw [List.any_eq_false]
                intro y hy
                obtain ⟨m, hm, rfl⟩ := List.mem_iff_getElem.1 hy
                rw [List.length_take] at hm
                have := hlt m (by omega)
                rw [List.getElem_take]
                simpa using this
              have hv : varL (val ((t.toList.drop a.toNat).take (k + 1))) = (t.toList.drop a.toNat).take (k + 1) := by
                rw [htk]
                refine varL_val _ _ hany (by simpa using hpk) (fun hn h0 => hz ⟨fun hk0 => hn ?_, h0⟩)
                subst hk0; simp
              have hlen : ((t.toList.drop a.toNat).take (k + 1)).length = k + 1 := by rw [List.length_take]; omega
              rw [List.length_drop, toL_len] at hk
              refine ⟨val ((t.toList.drop a.toNat).take (k + 1)), rfl, by omega, ha.1, ?_, ?_, ?_, ?_⟩
              · rw [hv, hlen]
              · show a + ((k + 1 : Nat) : Int) ≤ _; omega
              · rw [hv]
                show _ = _ ++ t.toList.drop (a + ((k + 1 : Nat) : Int)).toNat
                rw [show (a + ((k + 1 : Nat) : Int)).toNat = a.toNat + (k + 1) by omega, ← List.drop_drop, List.take_append_drop]
              · rw [hv, hlen]; omega
          · rw [if_neg h5] at e; cases e
      · rw [if_neg hp] at h; simp at h
  · rw [if_neg hi] at h; simp at h
def rdShort (t : ByteArray) (a : Int) : ByteArray × Int × Bool :=
  if (rdVar t a).2.2 && decide ((rdVar t a).1 ≤ 20000) && decide ((rdVar t a).1 ≤ (t.size : Int) - (rdVar t a).2.1) then (t.extract (rdVar t a).2.1.toNat ((rdVar t a).2.1 + (rdVar t a).1).toNat, (rdVar t a).2.1 + (rdVar t a).1, true) else (⟨#[]⟩, 0, false)
def shL (s : ByteArray) : List UInt8 := varL s.size ++ s.toList
theorem rdShort_ok {t : ByteArray} {a : Int} (h : (rdShort t a).2.2 = true) : 0 ≤ a ∧ (rdShort t a).2.1 ≤ t.size ∧ (rdShort t a).1.size ≤ 20000 ∧ (rdShort t a).2.1 = a + ((shL (rdShort t a).1).length : Int) ∧ t.toList.drop a.toNat = shL (rdShort t a).1 ++ t.toList.drop (rdShort t a).2.1.toNat := by
  unfold rdShort at h ⊢
  by_cases hc : ((rdVar t a).2.2 && decide ((rdVar t a).1 ≤ 20000) && decide ((rdVar t a).1 ≤ (t.size : Int) - (rdVar t a).2.1)) = true
  · rw [if_pos hc] at h ⊢
    simp only [Bool.and_eq_true, decide_eq_true_eq] at hc
    obtain ⟨n, h1, h2, h3, h4, h5, h6, h7⟩ := rdVar_ok hc.1.1
    rw [h1] at hc ⊢
    generalize (rdVar t a).2.1 = b at *
    have hb : 0 ≤ b := by omega
    have hsz : (t.extract b.toNat (b + (n : Int)).toNat).size = n := by rw [ByteArray.size_extract]; omega
    have hex : (t.extract b.toNat (b + (n : Int)).toNat).toList = (t.toList.drop b.toNat).take n := by
      rw [ByteArray.toList_eq, ByteArray.toList_eq, ByteArray.data_extract, Array.toList_extract, List.extract_eq_take_drop]
      congr 1
      omega
    refine ⟨h3, by show b + (n : Int) ≤ _; omega, by show ByteArray.size _ ≤ _; rw [hsz]; omega, ?_, ?_⟩
    · show b + (n : Int) = a + ((shL _).length : Int)
      rw [shL, hsz, List.length_append, toL_len, hsz, h4]
      omega
    · show t.toList.drop a.toNat = shL _ ++ t.toList.drop (b + (n : Int)).toNat
      rw [shL, hsz, hex, h6, List.append_assoc]
      congr 1
      rw [show (b + (n : Int)).toNat = b.toNat + n by omega, ← List.drop_drop, List.take_append_drop]
  · rw [if_neg hc] at h; simp at h
def scNum (t : ByteArray) (a : Int) (b : Bool) : Int × Int × Bool := if b || !(rdVar t a).2.2 then (0, a, true) else ((rdVar t a).1, (rdVar t a).2.1, false)
def scShort (t : ByteArray) (a : Int) (b : Bool) : ByteArray × Int × Bool := if b || !(rdShort t a).2.2 then (⟨#[]⟩, a, true) else ((rdShort t a).1, (rdShort t a).2.1, false)
def scOne (t : ByteArray) (a : Int) (b : Bool) : Int × Int × Bool := if b || decide (a ≥ (t.size : Int)) then (0, a, true) else (IntKind.i64.wrap (bat t a.toNat), a + 1, false)
def atOk (t : ByteArray) (a : Int) : Prop := 0 ≤ a ∧ a ≤ t.size ∧ t.size ≤ 1048576
theorem scNum_at {t : ByteArray} {a : Int} {b : Bool} (h : atOk t a) : atOk t (scNum t a b).2.1 := by
  unfold scNum
  split
  · exact h
  · rename_i hc
    obtain ⟨n, h1, h2, h3, h4, h5, h6, h7⟩ := rdVar_ok (t := t) (a := a) (by simp at hc; exact hc.2)
    exact ⟨by simp only []; omega, by simp only []; omega, h.2.2⟩
theorem scShort_at {t : ByteArray} {a : Int} {b : Bool} (h : atOk t a) : atOk t (scShort t a b).2.1 := by
  unfold scShort
  split
  · exact h
  · rename_i hc
    obtain ⟨h1, h2, h3, h4, h5⟩ := rdShort_ok (t := t) (a := a) (by simp at hc; exact hc.2)
    exact ⟨by simp only []; omega, by simp only []; omega, h.2.2⟩
theorem scOne_at {t : ByteArray} {a : Int} {b : Bool} (h : atOk t a) : atOk t (scOne t a b).2.1 := by
  unfold scOne
  split
  · exact h
  · rename_i hc
    simp at hc
    exact ⟨by have := h.1; simp only []; omega, by simp only []; omega, h.2.2⟩
theorem scNum_ok {t : ByteArray} {a : Int} {b : Bool} (h : (scNum t a b).2.2 = false) : b = false ∧ ∃ n : Nat, (scNum t a b).1 = (n : Int) ∧ n ≤ 1000000000 ∧ t.toList.drop a.toNat = varL n ++ t.toList.drop (scNum t a b).2.1.toNat := by
  unfold scNum at h ⊢
  split at h
  · cases h
  · rename_i hc
    rw [if_neg hc]
    simp at hc
    obtain ⟨n, h1, h2, h3, h4, h5, h6, h7⟩ := rdVar_ok hc.2
    exact ⟨by simpa using hc.1, n, h1, h2, h6⟩
theorem scShort_ok {t : ByteArray} {a : Int} {b : Bool} (h : (scShort t a b).2.2 = false) : b = false ∧ (scShort t a b).1.size ≤ 20000 ∧ t.toList.drop a.toNat = shL (scShort t a b).1 ++ t.toList.drop (scShort t a b).2.1.toNat := by
  unfold scShort at h ⊢
  split at h
  · cases h
  · rename_i hc
    rw [if_neg hc]
    simp at hc
    obtain ⟨h1, h2, h3, h4, h5⟩ := rdShort_ok hc.2
    exact ⟨by simpa using hc.1, h3, h5⟩
theorem rdS_no {t : ByteArray} {a : Int} (h : ((!(rdVar t a).2.2 || decide ((rdVar t a).1 > 20000)) || decide ((rdVar t a).1 > IntKind.i64.wrap ((t.size : Int) - (rdVar t a).2.1))) = true) (ht : t.size ≤ 1048576) : rdShort t a = (⟨#[]⟩, 0, false) := by
  unfold rdShort
  rw [if_neg]
  intro hc
  simp only [Bool.and_eq_true, decide_eq_true_eq] at hc
  obtain ⟨n, h1, h2, h3, h4, h5, h6, h7⟩ := rdVar_ok hc.1.1
  rw [wrap_small (by omega) (by omega), hc.1.1] at h
  simp at h
  omega
theorem rdS_yes {t : ByteArray} {a : Int} (h : ((!(rdVar t a).2.2 || decide ((rdVar t a).1 > 20000)) || decide ((rdVar t a).1 > IntKind.i64.wrap ((t.size : Int) - (rdVar t a).2.1))) = false) (ht : t.size ≤ 1048576) : rdShort t a = (t.extract (rdVar t a).2.1.toNat (IntKind.i64.wrap ((rdVar t a).2.1 + (rdVar t a).1)).toNat, IntKind.i64.wrap ((rdVar t a).2.1 + (rdVar t a).1), true) ∧
    0 ≤ (rdVar t a).2.1 ∧ (rdVar t a).2.1 ≤ IntKind.i64.wrap ((rdVar t a).2.1 + (rdVar t a).1) ∧ IntKind.i64.wrap ((rdVar t a).2.1 + (rdVar t a).1) ≤ t.size := by
  simp only [Bool.or_eq_false_iff, Bool.not_eq_false', decide_eq_false_iff_not] at h
  obtain ⟨n, h1, h2, h3, h4, h5, h6, h7⟩ := rdVar_ok h.1.1
  have hw : IntKind.i64.wrap ((rdVar t a).2.1 + (rdVar t a).1) = (rdVar t a).2.1 + (rdVar t a).1 := wrap_small (by omega) (by omega)
  have h8 := h.2
  rw [wrap_small (by omega) (by omega)] at h8
  rw [hw]
  refine ⟨?_, by omega, by omega, by omega⟩
  unfold rdShort
  rw [if_pos]
  simp only [Bool.and_eq_true, decide_eq_true_eq]
  exact ⟨⟨h.1.1, by omega⟩, by omega⟩
def scan.ok (s : scan) : Prop := atOk s.text s.at_
def numV (s : scan) : Int := (scNum s.text s.at_ s.bad).1
def numS (s : scan) : scan := ⟨s.text, (scNum s.text s.at_ s.bad).2.1, (scNum s.text s.at_ s.bad).2.2⟩
def shV (s : scan) : ByteArray := (scShort s.text s.at_ s.bad).1
def shS (s : scan) : scan := ⟨s.text, (scShort s.text s.at_ s.bad).2.1, (scShort s.text s.at_ s.bad).2.2⟩
def oneV (s : scan) : Int := (scOne s.text s.at_ s.bad).1
def oneS (s : scan) : scan := ⟨s.text, (scOne s.text s.at_ s.bad).2.1, (scOne s.text s.at_ s.bad).2.2⟩
def doneB (s : scan) : Bool := !s.bad && s.at_ == (s.text.size : Int)
theorem numS_ok {s : scan} (h : s.ok) : (numS s).ok := scNum_at h
theorem shS_ok {s : scan} (h : s.ok) : (shS s).ok := scShort_at h
theorem oneS_ok {s : scan} (h : s.ok) : (oneS s).ok := scOne_at h
def scan.left (s : scan) : List UInt8 := s.text.toList.drop s.at_.toNat
theorem numS_good {s : scan} (h : (numS s).bad = false) : s.bad = false ∧ ∃ n : Nat, numV s = (n : Int) ∧ n ≤ 1000000000 ∧ s.left = varL n ++ (numS s).left := scNum_ok h
theorem shS_good {s : scan} (h : (shS s).bad = false) : s.bad = false ∧ (shV s).size ≤ 20000 ∧ s.left = shL (shV s) ++ (shS s).left := scShort_ok h
theorem done_left {s : scan} (h : s.ok) (hb : s.bad = false) : doneB s = decide (s.left = []) := by
  have h1 := h.1; have h2 := h.2.1
  rw [doneB, hb, scan.left, Bool.eq_iff_iff, decide_eq_true_iff, List.drop_eq_nil_iff, toL_len]
  simp
  omega
def shB (s : ByteArray) : ByteArray := varB s.size ++ s
theorem varB_L (n : Nat) : (varB n).toList = varL n := by rw [ByteArray.toList_eq]; rfl
theorem shB_L (s : ByteArray) : (shB s).toList = shL s := by rw [shB, toL_app, varB_L]; rfl
theorem u8w {x : Int} (h0 : 0 ≤ x) (h1 : x < 256) : IntKind.u8.wrap x = x := by
  simp [IntKind.wrap, IntKind.bits, IntKind.signed]; omega
theorem bytesOf_L1 (x : Int) : (bytesOf [x]).toList = [UInt8.ofNat x.toNat] := by
  rw [ByteArray.toList_eq]; rfl
theorem varB_len {n : Nat} (h : n ≤ 1000000000) : (varB n).size ≤ 5 := varL_len 5 n (by omega) (by omega)
theorem varB_len9 {n : Nat} (h : n ≤ 9223372036854775807) : (varB n).size ≤ 9 := varL_len 9 n (by omega) (by omega)
theorem oneS_go {s : scan} (hs : s.ok) (h : (s.bad || decide (s.at_ ≥ (s.text.size : Int))) = false) : (⟨s.text, IntKind.i64.wrap (s.at_ + 1), s.bad⟩ : scan) = oneS s := by
  have h9 := hs.1; have h8 := hs.2.1; have h7 := hs.2.2
  simp only [oneS]
  rw [scOne, if_neg (by rw [h]; simp), wrap_small (by omega) (by omega), (Bool.or_eq_false_iff.1 h).1]
theorem one_ix {s : scan} (hs : s.ok) : IntKind.i64.wrap (IntKind.i64.wrap (s.at_ + 1) - 1) = ((s.at_.toNat : Nat) : Int) := by
  have h9 := hs.1; have h8 := hs.2.1; have h7 := hs.2.2
  rw [wrap_small (x := s.at_ + 1) (by omega) (by omega), wrap_small (by omega) (by omega)]
  omega
theorem one_lt {s : scan} (hs : s.ok) (h : (s.bad || decide (s.at_ ≥ (s.text.size : Int))) = false) : s.at_.toNat < s.text.size := by
  have h9 := hs.1
  have := of_decide_eq_false (Bool.or_eq_false_iff.1 h).2
  omega
theorem scan.ok0 {t : ByteArray} (ht : t.size ≤ 1048576) : scan.ok ⟨t, 0, false⟩ := ⟨by simp, by simp, ht⟩
structure At (s : scan) (l : List UInt8) : Prop where
  ok : s.ok
  bad : s.bad = false
  left : s.left = l
def sgV (s : scan) : Bool := oneV s == 1
def sgS (s : scan) : scan := ⟨s.text, (oneS s).at_, (oneS s).bad || decide (oneV s > 1)⟩
def cntV (s : scan) (m : Int) : Int := if decide (numV s > m) then 0 else numV s
def cntS (s : scan) (m : Int) : scan := if decide (numV s > m) then ⟨s.text, (numS s).at_, true⟩ else numS s
def rsV (s : scan) : ByteArray := if s.bad then ⟨#[]⟩ else s.text.extract s.at_.toNat ((s.text.size : Int)).toNat
def rsS (s : scan) : scan := if s.bad then s else ⟨s.text, (s.text.size : Int), s.bad⟩
theorem sgS_ok {s : scan} (h : s.ok) : (sgS s).ok := scOne_at h
theorem cntS_ok {s : scan} {m : Int} (h : s.ok) : (cntS s m).ok := by
  unfold cntS; split
  · exact scNum_at h
  · exact scNum_at h
theorem rsS_ok {s : scan} (h : s.ok) : (rsS s).ok := by
  unfold rsS; split
  · exact h
  · exact ⟨Int.natCast_nonneg _, Int.le_refl _, h.2.2⟩
theorem left_len {s : scan} (h : s.ok) : (s.left.length : Int) = (s.text.size : Int) - s.at_ := by
  have h1 := h.1; have h2 := h.2.1
  rw [scan.left, List.length_drop, toL_len]
  omega
theorem left_to {t : ByteArray} {a : Int} {b : Bool} {x r : List UInt8} (h : scan.ok ⟨t, a, b⟩) (hl : scan.left ⟨t, a, b⟩ = x ++ r) : scan.ok ⟨t, a + (x.length : Int), b⟩ ∧ scan.left ⟨t, a + (x.length : Int), b⟩ = r := by
  have h1 := h.1; have h2 := h.2.1; have h3 := left_len h
  simp only [] at h1 h2 h3
  rw [hl, List.length_append] at h3
  refine ⟨⟨by show (0 : Int) ≤ _; simp only []; omega, by simp only []; omega, h.2.2⟩, ?_⟩
  have h4 : (a + (x.length : Int)).toNat = a.toNat + x.length := by omega
  show t.toList.drop (a + (x.length : Int)).toNat = r
  rw [h4, ← List.drop_drop]
  have h5 : t.toList.drop a.toNat = x ++ r := hl
  rw [h5, List.drop_left]
theorem rdv_rt (n : Nat) (hn : n < 128 ^ 5) (r : List UInt8) : rdv (varL n ++ r) = some (n, (varL n).length) := by
  obtain ⟨pre, c, h1, h2, h3, h4, h5⟩ := varL_form n
  have hlen := varL_len 5 n (by omega) hn
  have hp : pre.length < 5 := by rw [h1, List.length_append] at hlen; simp at hlen; omega
  have hl : varL n ++ r = pre ++ (c :: r) := by rw [h1]; simp
  rw [hl]
  rw [rdv_at (j := pre.length) (c := c) (by rw [List.take_left]; exact h2) (by simp) h3 hp]
  have ht : (pre ++ c :: r).take (pre.length + 1) = pre ++ [c] := by
    rw [show pre ++ c :: r = (pre ++ [c]) ++ r by simp, List.take_left' (by simp)]
  rw [if_neg, ht, h5, h1, List.length_append]
  · rfl
  · rintro ⟨ha, hb⟩
    exact h4 (by intro h; subst h; simp at ha) hb
theorem numS_rt {s : scan} {n : Nat} {r : List UInt8} (h : At s (varL n ++ r)) (hn : n ≤ 1000000000) : numV s = (n : Int) ∧ At (numS s) r := by
  obtain ⟨t, a, b⟩ := s
  have hb : b = false := h.bad
  subst hb
  have hok := h.ok
  have h1 := hok.1; have h2 := hok.2.1
  have hin : inR a 0 t.size = true := by simp only [] at h1 h2; simp [inR]; omega
  have hl : t.toList.drop a.toNat = varL n ++ r := h.left
  have e : rdVar t a = ((n : Int), a + ((varL n).length : Int), true) := by
    rw [rdVar, if_pos hin, hl, rdv_rt n (by omega)]
    simp only []
    rw [if_pos (by omega)]
  have e2 : scNum t a false = ((n : Int), a + ((varL n).length : Int), false) := by
    rw [scNum, e]; rfl
  obtain ⟨p, q⟩ := left_to hok h.left
  refine ⟨by simp only [numV]; rw [e2], ?_⟩
  have e3 : numS ⟨t, a, false⟩ = ⟨t, a + ((varL n).length : Int), false⟩ := by simp only [numS]; rw [e2]
  rw [e3]
  exact ⟨p, rfl, q⟩
theorem oneS_rt {s : scan} {c : UInt8} {r : List UInt8} (h : At s (c :: r)) : oneV s = (c.toNat : Int) ∧ At (oneS s) r := by
  obtain ⟨t, a, b⟩ := s
  have hb : b = false := h.bad
  subst hb
  have hok := h.ok
  have h1 := hok.1; have h2 := hok.2.1; have h3 := left_len hok
  rw [h.left] at h3
  simp only [List.length_cons] at h1 h2 h3
  have hlt : a.toNat < t.size := by omega
  obtain ⟨b1, b2⟩ := bat_at hlt
  have hd := drop_get b2
  have hl : t.toList.drop a.toNat = c :: r := h.left
  rw [hl] at hd
  have hc : t.toList.getD a.toNat 0 = c := (List.cons.inj hd).1.symm
  have hcl := c.toNat_lt
  have e2 : scOne t a false = ((c.toNat : Int), a + 1, false) := by
    rw [scOne, if_neg (by rw [Bool.false_or, decide_eq_false (by omega)]; simp), b1, hc, wrap_small (by omega) (by omega)]
  obtain ⟨p, q⟩ := left_to (x := [c]) hok h.left
  refine ⟨by simp only [oneV]; rw [e2], ?_⟩
  have e3 : oneS ⟨t, a, false⟩ = ⟨t, a + 1, false⟩ := by simp only [oneS]; rw [e2]
  rw [e3]
  exact ⟨p, rfl, q⟩
theorem oneS_good {s : scan} (hok : s.ok) (h : (oneS s).bad = false) : s.bad = false ∧ ∃ c : UInt8, oneV s = (c.toNat : Int) ∧ s.left = c :: (oneS s).left := by
  obtain ⟨t, a, b⟩ := s
  have h1 := hok.1; have h2 := hok.2.1
  simp only [] at h1 h2
  by_cases hc : (b || decide (a ≥ (t.size : Int))) = true
  · simp only [oneS] at h; rw [scOne, if_pos hc] at h; cases h
  have hc : (b || decide (a ≥ (t.size : Int))) = false := by simpa using hc
  have h3 := (Bool.or_eq_false_iff.1 hc).1
  have h4 := of_decide_eq_false (Bool.or_eq_false_iff.1 hc).2
  subst h3
  have hlt : a.toNat < t.size := by omega
  obtain ⟨b1, b2⟩ := bat_at hlt
  have hd := drop_get b2
  have hat : At ⟨t, a, false⟩ (t.toList.getD a.toNat 0 :: t.toList.drop (a.toNat + 1)) := ⟨hok, rfl, hd⟩
  obtain ⟨e1, e2⟩ := oneS_rt hat
  exact ⟨rfl, _, e1, by rw [e2.left]; exact hd⟩
theorem shS_rt {s : scan} {d : ByteArray} {r : List UInt8} (h : At s (shL d ++ r)) (hd : d.size ≤ 20000) : shV s = d ∧ At (shS s) r := by
  obtain ⟨t, a, b⟩ := s
  have hb : b = false := h.bad
  subst hb
  have hok := h.ok
  have h1 := hok.1; have h2 := hok.2.1; have h3 := left_len hok
  rw [h.left] at h3
  have hin : inR a 0 t.size = true := by simp only [] at h1 h2; simp [inR]; omega
  have hl : t.toList.drop a.toNat = varL d.size ++ (d.toList ++ r) := by rw [show t.toList.drop a.toNat = shL d ++ r from h.left, shL, List.append_assoc]
  simp only [shL, List.length_append, toL_len] at h1 h2 h3
  have e : rdVar t a = ((d.size : Int), a + ((varL d.size).length : Int), true) := by
    rw [rdVar, if_pos hin, hl, rdv_rt d.size (by omega)]
    simp only []
    rw [if_pos (by omega)]
  have hx : t.extract (a + ((varL d.size).length : Int)).toNat (a + ((varL d.size).length : Int) + (d.size : Int)).toNat = d := by
    apply ba_ext
    rw [ByteArray.toList_eq, ByteArray.data_extract, Array.toList_extract, List.extract_eq_take_drop]
    have h5 : (a + ((varL d.size).length : Int)).toNat = a.toNat + (varL d.size).length := by omega
    have h6 : t.data.toList = t.toList := (ByteArray.toList_eq t).symm
    rw [h6, h5, ← List.drop_drop, hl, List.drop_left]
    have h7 : (a + ((varL d.size).length : Int) + (d.size : Int)).toNat - (a.toNat + (varL d.size).length) = d.size := by omega
    rw [h7, List.take_left' (toL_len d)]
  have e2 : rdShort t a = (d, a + ((varL d.size).length : Int) + (d.size : Int), true) := by
    rw [rdShort, e]
    simp only []
    rw [if_pos (by simp only [Bool.and_eq_true, decide_eq_true_eq]; exact ⟨⟨trivial, by omega⟩, by omega⟩), hx]
  have e3 : scShort t a false = (d, a + ((shL d).length : Int), false) := by
    rw [scShort, e2]
    simp only [shL, List.length_append, toL_len]
    simp [Int.add_assoc]
  obtain ⟨p, q⟩ := left_to hok h.left
  refine ⟨by simp only [shV]; rw [e3], ?_⟩
  have e4 : shS ⟨t, a, false⟩ = ⟨t, a + ((shL d).length : Int), false⟩ := by simp only [shS]; rw [e3]
  rw [e4]
  exact ⟨p, rfl, q⟩
theorem rsS_rt {s : scan} {l : List UInt8} (h : At s l) : (rsV s).toList = l ∧ At (rsS s) [] := by
  obtain ⟨t, a, b⟩ := s
  have hb : b = false := h.bad
  subst hb
  have hok := h.ok
  refine ⟨?_, ?_⟩
  · have hl : t.toList.drop a.toNat = l := h.left
    rw [rsV, if_neg (by simp), ByteArray.toList_eq, ByteArray.data_extract, Array.toList_extract, List.extract_eq_take_drop]
    have h6 : t.data.toList = t.toList := (ByteArray.toList_eq t).symm
    rw [h6, hl, List.take_of_length_le]
    have := left_len hok
    rw [h.left] at this
    have h1 := hok.1; have h2 := hok.2.1
    simp only [] at h1 h2 this
    simp only [Int.toNat_natCast]
    omega
  · have e : rsS ⟨t, a, false⟩ = ⟨t, (t.size : Int), false⟩ := by rw [rsS, if_neg (by simp)]
    rw [e]
    refine ⟨⟨Int.natCast_nonneg _, Int.le_refl _, hok.2.2⟩, rfl, ?_⟩
    show t.toList.drop ((t.size : Int)).toNat = []
    rw [List.drop_eq_nil_iff, toL_len]
    simp
theorem done_at {s : scan} (h : At s []) : doneB s = true := by rw [done_left h.ok h.bad, h.left]; simp
theorem At.mk' {s : scan} (h : s.ok) (hb : s.bad = false) : At s s.left := ⟨h, hb, rfl⟩
theorem done_good {s : scan} (h : s.ok) (hd : doneB s = true) : s.bad = false ∧ s.left = [] := by
  have hb : s.bad = false := by simp [doneB] at hd; exact hd.1
  rw [done_left h hb] at hd
  exact ⟨hb, of_decide_eq_true hd⟩
theorem at0 {t : ByteArray} (ht : t.size ≤ 1048576) : At ⟨t, 0, false⟩ t.toList := ⟨scan.ok0 ht, rfl, by simp [scan.left]⟩
def entL (i : Int) (e : Entry) : List UInt8 := 69 :: (varL i.toNat ++ (varL e.term_.toNat ++ (UInt8.ofNat (IntKind.u8.wrap e.kind).toNat :: e.data.toList)))
def entB (i : Int) (e : Entry) : ByteArray := ⟨#[69]⟩ ++ varB i.toNat ++ varB e.term_.toNat ++ bytesOf [IntKind.u8.wrap e.kind] ++ e.data
def entT (i : Int) (e : Entry) : ByteArray × Bool := if entOk e && inR i 1 1000000 then (entB i e, true) else (⟨#[]⟩, false)
theorem entB_L (i : Int) (e : Entry) : (entB i e).toList = entL i e := by
  have h : (⟨#[69]⟩ : ByteArray).toList = [69] := by rw [ByteArray.toList_eq]
  simp only [entB, toL_app, varB_L, bytesOf_L1, h, List.append_assoc, List.singleton_append]
  rfl
structure EntIn (e : Entry) : Prop where
  t : 0 ≤ e.term_ ∧ e.term_ ≤ 100000
  k : 1 ≤ e.kind ∧ e.kind ≤ 3
  d : e.data.size ≤ 120
theorem EntIn.of {e : Entry} (h : entOk e = true) : EntIn e := by
  simp only [entOk, Bool.and_eq_true] at h
  obtain ⟨h1, h2⟩ := h
  simp [inR] at h1
  by_cases k1 : (e.kind == 1) = true
  · rw [if_pos k1] at h2
    have h3 := congrArg List.length (eq_of_beq h2)
    rw [toL_len, toL_len] at h3
    have h4 : (⟨#[]⟩ : ByteArray).size = 0 := rfl
    have h5 := eq_of_beq k1
    exact ⟨by omega, by omega, by omega⟩
  rw [if_neg k1] at h2
  by_cases k2 : (e.kind == 2) = true
  · rw [if_pos k2] at h2
    have h5 := eq_of_beq k2
    unfold readConf at h2
    split at h2
    · rename_i hc
      have := confOk_len hc
      rw [bys_len] at this
      exact ⟨by omega, by omega, by omega⟩
    · cases h2
  rw [if_neg k2] at h2
  simp at h2
  exact ⟨by omega, by omega, by omega⟩
theorem entB_size {i : Int} {e : Entry} (h : entOk e = true) (hi : inR i 1 1000000 = true) : (entB i e).size ≤ 200 := by
  have h1 := EntIn.of h
  have h2 := h1.t; have h3 := h1.d
  simp [inR] at hi
  have a1 := varB_len (n := i.toNat) (by omega)
  have a2 := varB_len (n := e.term_.toNat) (by omega)
  have a3 : ∀ q : Int, (bytesOf [q]).size = 1 := fun q => rfl
  have a4 : (⟨#[69]⟩ : ByteArray).size = 1 := rfl
  simp only [entB, ByteArray.size_append, a3, a4]
  omega
theorem entT_size (i : Int) (e : Entry) : (entT i e).1.size ≤ 200 := by
  unfold entT
  split
  · rename_i h
    simp only [Bool.and_eq_true] at h
    exact entB_size h.1 h.2
  · decide
def reS (t : ByteArray) : scan := rsS (oneS (numS (numS (oneS ⟨t, 0, false⟩))))
def reI (t : ByteArray) : Int := numV (oneS ⟨t, 0, false⟩)
def reE (t : ByteArray) : Entry := ⟨numV (numS (oneS ⟨t, 0, false⟩)), oneV (numS (numS (oneS ⟨t, 0, false⟩))), rsV (oneS (numS (numS (oneS ⟨t, 0, false⟩))))⟩
def reC (t : ByteArray) : Bool := ((!doneB (reS t) || (oneV ⟨t, 0, false⟩ != 69)) || !entOk (reE t)) || !inR (reI t) 1 1000000
def rdEnt (t : ByteArray) : Int × Entry × Bool := if reC t then (0, Entry.z, false) else (reI t, reE t, true)
theorem rdEnt_no {t : ByteArray} (h : reC t = true) : rdEnt t = (0, Entry.z, false) := by rw [rdEnt, if_pos h]
theorem rdEnt_yes {t : ByteArray} (h : reC t = false) : rdEnt t = (reI t, reE t, true) := by rw [rdEnt, if_neg (by rw [h]; simp)]
theorem kind_u8 {x : Int} (h0 : 0 ≤ x) (h1 : x < 256) : (UInt8.ofNat (IntKind.u8.wrap x).toNat).toNat = x.toNat := by
  rw [u8w h0 h1, u8_of (by omega)]
theorem rdEnt_complete {t : ByteArray} {i : Int} {e : Entry} (ht : t.size ≤ 1048576) (he : entOk e = true) (hi : inR i 1 1000000 = true) (h : t.toList = entL i e) : rdEnt t = (i, e, true) := by
  have h1 := EntIn.of he
  have ht1 := h1.t; have hk1 := h1.k
  have hi2 : 1 ≤ i ∧ i ≤ 1000000 := by simp [inR] at hi; omega
  have a0 : At ⟨t, 0, false⟩ (entL i e) := by have := at0 ht; rw [h] at this; exact this
  unfold entL at a0
  obtain ⟨v0, a1⟩ := oneS_rt a0
  obtain ⟨v1, a2⟩ := numS_rt a1 (by omega)
  obtain ⟨v2, a3⟩ := numS_rt a2 (by omega)
  obtain ⟨v3, a4⟩ := oneS_rt a3
  obtain ⟨v4, a5⟩ := rsS_rt a4
  have hd := done_at a5
  have eI : reI t = i := by rw [reI, v1]; omega
  have eE : reE t = e := by
    rw [reE, v2, v3, ba_ext v4, kind_u8 (by omega) (by omega)]
    obtain ⟨t', k', d'⟩ := e
    simp only [Entry.mk.injEq, and_true] at ht1 hk1 ⊢
    omega
  have hc : reC t = false := by
    rw [reC, eI, eE, he, hi, v0]
    unfold reS
    rw [hd]
    rfl
  rw [rdEnt_yes hc, eI, eE]
theorem rdEnt_sound {t : ByteArray} (ht : t.size ≤ 1048576) (h : (rdEnt t).2.2 = true) : entOk (rdEnt t).2.1 = true ∧ inR (rdEnt t).1 1 1000000 = true ∧ t.toList = entL (rdEnt t).1 (rdEnt t).2.1 := by
  by_cases hc : reC t = true
  · rw [rdEnt_no hc] at h; cases h
  have hc : reC t = false := by simpa using hc
  rw [rdEnt_yes hc]
  rw [reC] at hc
  simp only [Bool.or_eq_false_iff, Bool.not_eq_false'] at hc
  obtain ⟨⟨⟨hd, hs⟩, he⟩, hi⟩ := hc
  have hs : oneV ⟨t, 0, false⟩ = 69 := by simpa using hs
  have o0 := scan.ok0 ht
  have o1 := oneS_ok o0; have o2 := numS_ok o1; have o3 := numS_ok o2; have o4 := oneS_ok o3
  obtain ⟨b5, l5⟩ := done_good (rsS_ok o4) hd
  have b4 : (oneS (numS (numS (oneS ⟨t, 0, false⟩)))).bad = false := by
    cases hb : (oneS (numS (numS (oneS ⟨t, 0, false⟩)))).bad with
    | false => rfl
    | true =>
      have : rsS (oneS (numS (numS (oneS ⟨t, 0, false⟩)))) = oneS (numS (numS (oneS ⟨t, 0, false⟩))) := by rw [rsS, if_pos hb]
      rw [this, hb] at b5; cases b5
  have q4 := (rsS_rt (At.mk' o4 b4)).1
  obtain ⟨b3, c3, v3, l3⟩ := oneS_good o3 b4
  obtain ⟨b2, n2, v2, _, l2⟩ := numS_good b3
  obtain ⟨b1, n1, v1, _, l1⟩ := numS_good b2
  obtain ⟨_, c0, v0, l0⟩ := oneS_good o0 b1
  have hl : t.toList = scan.left ⟨t, 0, false⟩ := by simp [scan.left]
  have hc0 : c0 = 69 := by
    rw [v0] at hs
    apply UInt8.toNat_inj.1
    have : (69 : UInt8).toNat = 69 := rfl
    omega
  have hc3 := c3.toNat_lt
  refine ⟨he, hi, ?_⟩
  rw [hl, l0, l1, l2, l3, hc0]
  simp only [reI, reE, entL, v1, v2, v3, q4, Int.toNat_natCast]
  rw [u8w (by omega) (by omega)]
  simp
theorem rdEnt_false {t : ByteArray} (h : (rdEnt t).2.2 = false) : rdEnt t = (0, Entry.z, false) := by
  by_cases hc : reC t = true
  · exact rdEnt_no hc
  · rw [rdEnt_yes (by simpa using hc)] at h; cases h
def l05Cur.sc (c : l05Cur) : scan := ⟨c.text, c.at_, c.bad⟩
def numW (c : l05Cur) : Int := numV c.sc
def numC (c : l05Cur) : l05Cur := ⟨c.text, (numS c.sc).at_, (numS c.sc).bad⟩
def tkB (s : scan) (n : Int) : Bool := s.bad || decide (n > (s.text.size : Int) - s.at_)
def tkV (s : scan) (n : Int) : ByteArray := if tkB s n then ⟨#[]⟩ else s.text.extract s.at_.toNat (s.at_ + n).toNat
def tkS (s : scan) (n : Int) : scan := if tkB s n then ⟨s.text, s.at_, true⟩ else ⟨s.text, s.at_ + n, s.bad⟩
def tkW (c : l05Cur) (n : Int) : ByteArray := tkV c.sc n
def tkC (c : l05Cur) (n : Int) : l05Cur := ⟨c.text, (tkS c.sc n).at_, (tkS c.sc n).bad⟩
theorem tkS_ok {s : scan} {n : Int} (h : s.ok) (hn : 0 ≤ n) : (tkS s n).ok := by
  unfold tkS
  split
  · exact h
  · rename_i hc
    simp only [tkB, Bool.or_eq_true, decide_eq_true_eq, not_or] at hc
    exact ⟨by have := h.1; show (0 : Int) ≤ s.at_ + n; omega, by show s.at_ + n ≤ (s.text.size : Int); omega, h.2.2⟩
theorem tk_rt {s : scan} {x r : List UInt8} {n : Int} (h : At s (x ++ r)) (hn : (x.length : Int) = n) : (tkV s n).toList = x ∧ At (tkS s n) r := by
  obtain ⟨t, a, b⟩ := s
  have hb : b = false := h.bad
  subst hb
  have hok := h.ok
  have h1 := hok.1; have h2 := hok.2.1; have h3 := left_len hok
  rw [h.left, List.length_append] at h3
  simp only [] at h1 h2 h3
  have hc : tkB ⟨t, a, false⟩ n = false := by
    simp only [tkB, Bool.false_or]
    exact decide_eq_false (by omega)
  obtain ⟨p, q⟩ := left_to hok h.left
  subst hn
  refine ⟨?_, ?_⟩
  · rw [tkV, if_neg (by rw [hc]; simp), ByteArray.toList_eq, ByteArray.data_extract, Array.toList_extract, List.extract_eq_take_drop]
    have h6 : t.data.toList = t.toList := (ByteArray.toList_eq t).symm
    have hl : t.toList.drop a.toNat = x ++ r := h.left
    simp only [h6, hl]
    have h7 : (a + (x.length : Int)).toNat - a.toNat = x.length := by omega
    rw [h7, List.take_left]
  · rw [tkS, if_neg (by rw [hc]; simp)]
    exact ⟨p, rfl, q⟩
theorem tk_size {s : scan} {n : Int} (h : s.ok) (hn : 0 ≤ n) (hb : (tkS s n).bad = false) : ((tkV s n).size : Int) = n := by
  unfold tkS at hb
  split at hb
  · cases hb
  · rename_i hc
    rw [tkV, if_neg hc, ByteArray.size_extract]
    simp only [tkB, Bool.or_eq_true, decide_eq_true_eq, not_or] at hc
    have := h.1; have := h.2.1
    omega
def feC (t : ByteArray) : l05Cur := tkC (numC (numC (tkC ⟨t, 0, false⟩ 1))) 1
def feI (t : ByteArray) : Int := numW (tkC ⟨t, 0, false⟩ 1)
def feE (t : ByteArray) : Entry := ⟨numW (numC (tkC ⟨t, 0, false⟩ 1)), IntKind.i64.wrap (bat (tkW (numC (numC (tkC ⟨t, 0, false⟩ 1))) 1) 0), t.extract (feC t).at_.toNat ((t.size : Int)).toNat⟩
def feB (t : ByteArray) : Bool := !(entT (feI t) (feE t)).2 || !((entT (feI t) (feE t)).1.toList == t.toList)
def rdEntS (t : ByteArray) : Int × Entry × Bool := if (feC t).bad then (0, Entry.z, false) else if feB t then (0, Entry.z, false) else (feI t, feE t, true)
theorem rdEnt_eq {t : ByteArray} (ht : t.size ≤ 1048576) : rdEntS t = rdEnt t := by
  cases hr : (rdEnt t).2.2 with
  | true =>
    obtain ⟨he, hi, hl⟩ := rdEnt_sound ht hr
    have hform : rdEnt t = ((rdEnt t).1, (rdEnt t).2.1, true) := by rw [← hr]
    rw [hform]
    generalize (rdEnt t).1 = i at *
    generalize (rdEnt t).2.1 = e at *
    have h1 := EntIn.of he
    have ht1 := h1.t; have hk1 := h1.k
    have hi2 : 1 ≤ i ∧ i ≤ 1000000 := by simp [inR] at hi; omega
    have a0 : At ⟨t, 0, false⟩ ([69] ++ (varL i.toNat ++ (varL e.term_.toNat ++ ([UInt8.ofNat (IntKind.u8.wrap e.kind).toNat] ++ e.data.toList)))) := by have := at0 ht; rw [hl] at this; exact this
    obtain ⟨_, a1⟩ := tk_rt (n := 1) a0 rfl
    obtain ⟨v1, a2⟩ := numS_rt a1 (by omega)
    obtain ⟨v2, a3⟩ := numS_rt a2 (by omega)
    obtain ⟨v3, a4⟩ := tk_rt (n := 1) a3 rfl
    have c1 : (tkC ⟨t, 0, false⟩ 1).sc = tkS ⟨t, 0, false⟩ 1 := by
      show (⟨t, _, _⟩ : scan) = _
      have : (tkS ⟨t, 0, false⟩ 1).text = t := by unfold tkS; split <;> rfl
      conv => rhs; rw [show tkS ⟨t, 0, false⟩ 1 = ⟨(tkS ⟨t, 0, false⟩ 1).text, (tkS ⟨t, 0, false⟩ 1).at_, (tkS ⟨t, 0, false⟩ 1).bad⟩ from rfl, this]
      rfl
    have nc : ∀ c : l05Cur, (numC c).sc = numS c.sc := fun c => rfl
    have tc : ∀ (c : l05Cur) (n : Int), (tkC c n).sc = tkS c.sc n := by
      intro c n
      have : (tkS c.sc n).text = c.text := by unfold tkS; split <;> rfl
      show (⟨c.text, (tkS c.sc n).at_, (tkS c.sc n).bad⟩ : scan) = _
      rw [← this]
    have e1 : feI t = i := by
      show numV (tkC ⟨t, 0, false⟩ 1).sc = i
      rw [c1, v1]; omega
    have e4 : (feC t).sc = tkS (numS (numS (tkS ⟨t, 0, false⟩ 1))) 1 := by unfold feC; rw [tc, nc, nc, c1]
    have hbad : (feC t).bad = false := by
      show (feC t).sc.bad = false
      rw [e4]; exact a4.bad
    have e2 : feE t = e := by
      have f1 : numW (numC (tkC ⟨t, 0, false⟩ 1)) = e.term_ := by
        show numV (numC (tkC ⟨t, 0, false⟩ 1)).sc = _
        rw [nc, c1, v2]; omega
      have f2 : IntKind.i64.wrap (bat (tkW (numC (numC (tkC ⟨t, 0, false⟩ 1))) 1) 0) = e.kind := by
        have g1 : (tkW (numC (numC (tkC ⟨t, 0, false⟩ 1))) 1).toList = [UInt8.ofNat (IntKind.u8.wrap e.kind).toNat] := by
          show (tkV (numC (numC (tkC ⟨t, 0, false⟩ 1))).sc 1).toList = _
          rw [nc, nc, c1]; exact v3
        generalize tkW (numC (numC (tkC ⟨t, 0, false⟩ 1))) 1 = q at g1
        have g2 : q.size = 1 := by rw [← toL_len, g1]; rfl
        obtain ⟨g3, _⟩ := bat_at (t := q) (m := 0) (by omega)
        rw [g3, g1]
        show IntKind.i64.wrap ((UInt8.ofNat (IntKind.u8.wrap e.kind).toNat).toNat : Int) = _
        rw [kind_u8 (by omega) (by omega), wrap_small (by omega) (by omega)]
        omega
      have f3 : t.extract (feC t).at_.toNat ((t.size : Int)).toNat = e.data := by
        have g1 : (feC t).at_ = (tkS (numS (numS (tkS ⟨t, 0, false⟩ 1))) 1).at_ := (show (feC t).at_ = (feC t).sc.at_ from rfl).trans (congrArg scan.at_ e4)
        have g3 : (feC t).text = t := rfl
        have g4 : (tkS (numS (numS (tkS ⟨t, 0, false⟩ 1))) 1).text = t := by rw [← e4]; rfl
        have g5 : t.toList.drop (feC t).at_.toNat = e.data.toList := by
          have := a4.left
          rw [scan.left, g4] at this
          rw [g1]; exact this
        have g6 := (rsS_rt (s := ⟨t, (feC t).at_, false⟩) (l := e.data.toList) ⟨by
          have := a4.ok
          rw [g1]
          have g7 := this.1; have g8 := this.2.1
          rw [g4] at g8
          exact ⟨g7, g8, ht⟩, rfl, g5⟩).1
        rw [rsV, if_neg (by simp)] at g6
        exact ba_ext g6
      rw [feE, f1, f2, f3]
    have e3 : entT i e = (entB i e, true) := by rw [entT, if_pos (by rw [he, hi]; rfl)]
    have hfb : feB t = false := by
      rw [feB, e1, e2, e3]
      simp only [entB_L, hl]
      simp
    rw [rdEntS, if_neg (by rw [hbad]; simp), if_neg (by rw [hfb]; simp), e1, e2]
  | false =>
    rw [rdEnt_false hr, rdEntS]
    split
    · rfl
    · split
      · rfl
      · rename_i h1 h2
        exfalso
        have h2 : feB t = false := by simpa using h2
        simp only [feB, Bool.or_eq_false_iff, Bool.not_eq_false', beq_iff_eq] at h2
        obtain ⟨g1, g2⟩ := h2
        unfold entT at g1 g2
        split at g1
        · rename_i hc
          rw [if_pos hc] at g2
          simp only [Bool.and_eq_true] at hc
          rw [entB_L] at g2
          have := rdEnt_complete ht hc.1 hc.2 g2.symm
          rw [this] at hr; cases hr
        · cases g1
def msgTerms (mt : Int) : Int → List Entry → Bool
  | _, [] => true
  | t, e :: r => if (!entOk e || decide (e.term_ < t)) || decide (e.term_ > mt) then false else msgTerms mt e.term_ r
def mo1 (m : Message) : Bool := ((!inR m.kind 1 6 || !inR m.from_ 1 4) || !inR m.to 1 4) || m.from_ == m.to
def mo2 (m : Message) : Bool := ((!inR m.term_ 0 100000 || !inR m.logTerm 0 100000) || !inR m.index 0 1000000) || !inR m.commit 0 1000000
def mo3 (m : Message) : Bool := decide ((m.entries.length : Int) > 4) || (decide ((m.entries.length : Int) > 0) && m.kind != 3)
def mo4 (m : Message) : Bool := if m.kind == 5 then confOk m.conf && decide ((m.data.size : Int) ≤ 60) else ((m.conf.length : Int) == 0 && m.data.toList == (⟨#[]⟩ : ByteArray).toList) && !m.last
def msgOk (m : Message) : Bool := if mo1 m then false else if mo2 m then false else if mo3 m then false else if msgTerms m.term_ m.logTerm m.entries then mo4 m else false
structure MsgIn (m : Message) : Prop where
  k : 1 ≤ m.kind ∧ m.kind ≤ 6
  f : 1 ≤ m.from_ ∧ m.from_ ≤ 4
  t : 1 ≤ m.to ∧ m.to ≤ 4
  e : 0 ≤ m.term_ ∧ m.term_ ≤ 100000
  l : 0 ≤ m.logTerm ∧ m.logTerm ≤ 100000
  i : 0 ≤ m.index ∧ m.index ≤ 1000000
  c : 0 ≤ m.commit ∧ m.commit ≤ 1000000
  n : m.entries.length ≤ 4
  es : ∀ e ∈ m.entries, entOk e = true
  d : m.data.size ≤ 60
  cf : confOk m.conf = true ∨ m.conf = []
theorem msgTerms_all {mt : Int} : ∀ {t : Int} {l : List Entry}, msgTerms mt t l = true → ∀ e ∈ l, entOk e = true
  | _, [], _, e, he => by cases he
  | t, x :: r, h, e, he => by
    rw [msgTerms] at h
    split at h
    · cases h
    · rename_i hc
      rcases List.mem_cons.1 he with rfl | he
      · simp only [Bool.or_eq_true, not_or] at hc
        simpa using hc.1.1
      · exact msgTerms_all h e he
theorem MsgIn.of {m : Message} (h : msgOk m = true) : MsgIn m := by
  unfold msgOk at h
  split at h
  · cases h
  rename_i h1
  split at h
  · cases h
  rename_i h2
  split at h
  · cases h
  rename_i h3
  split at h
  · rename_i h4
    simp [mo1, inR] at h1
    simp [mo2, inR] at h2
    simp only [mo3, Bool.or_eq_true, decide_eq_true_eq, not_or] at h3
    have hd : m.data.size ≤ 60 ∧ (confOk m.conf = true ∨ m.conf = []) := by
      unfold mo4 at h
      split at h
      · simp only [Bool.and_eq_true, decide_eq_true_eq] at h
        exact ⟨by omega, .inl h.1⟩
      · simp only [Bool.and_eq_true, beq_iff_eq] at h
        have h5 := congrArg List.length h.1.2
        rw [toL_len, toL_len] at h5
        have h6 : (⟨#[]⟩ : ByteArray).size = 0 := rfl
        exact ⟨by omega, .inr (List.eq_nil_of_length_eq_zero (by omega))⟩
    exact ⟨by omega, by omega, by omega, by omega, by omega, by omega, by omega, by omega, msgTerms_all h4, hd.1, hd.2⟩
  · cases h
def flagU (b : Bool) : UInt8 := if b then 1 else 0
def flagS (b : Bool) : ByteArray := if b then ⟨#[1]⟩ else ⟨#[0]⟩
def u8o (x : Int) : UInt8 := UInt8.ofNat (IntKind.u8.wrap x).toNat
def entsB (es : List Entry) (o : ByteArray) : ByteArray := es.foldl (fun o e => o ++ shB (entT 1 e).1) o
def entsL (es : List Entry) : List UInt8 := es.flatMap fun e => shL (entT 1 e).1
def msgH (m : Message) : ByteArray := bytesOf [IntKind.u8.wrap m.kind, IntKind.u8.wrap m.from_, IntKind.u8.wrap m.to] ++ varB m.term_.toNat ++ varB m.index.toNat ++ varB m.logTerm.toNat ++ varB m.commit.toNat ++ flagS m.ok ++ flagS m.last ++ varB ((m.entries.length : Int)).toNat
def msgB (m : Message) : ByteArray := entsB m.entries (msgH m) ++ shB (confText m.conf).1 ++ shB m.data
def msgT (m : Message) : ByteArray × Bool := if msgOk m then (msgB m, true) else (⟨#[]⟩, false)
def msgL (m : Message) : List UInt8 := u8o m.kind :: u8o m.from_ :: u8o m.to :: (varL m.term_.toNat ++ (varL m.index.toNat ++ (varL m.logTerm.toNat ++ (varL m.commit.toNat ++ (flagU m.ok :: flagU m.last :: (varL m.entries.length ++ (entsL m.entries ++ (shL (confText m.conf).1 ++ shL m.data))))))))
theorem entsB_L : ∀ (es : List Entry) (o : ByteArray), (entsB es o).toList = o.toList ++ entsL es
  | [], o => by simp [entsB, entsL]
  | e :: r, o => by
    show (entsB r (o ++ shB (entT 1 e).1)).toList = _
    have h9 : entsL (e :: r) = shL (entT 1 e).1 ++ entsL r := List.flatMap_cons ..
    rw [entsB_L r, toL_app, shB_L, h9, List.append_assoc]
theorem flagS_L (b : Bool) : (flagS b).toList = [flagU b] := by
  cases b <;> (rw [ByteArray.toList_eq]; rfl)
theorem msgB_L (m : Message) : (msgB m).toList = msgL m := by
  have h3 : (bytesOf [IntKind.u8.wrap m.kind, IntKind.u8.wrap m.from_, IntKind.u8.wrap m.to]).toList = [u8o m.kind, u8o m.from_, u8o m.to] := by rw [ByteArray.toList_eq]; rfl
  simp only [msgB, msgH, msgL, toL_app, entsB_L, varB_L, shB_L, flagS_L, h3, List.append_assoc, List.singleton_append, List.cons_append, List.nil_append, Int.toNat_natCast]
def entsI : Nat → scan → Option (List Entry × scan)
  | 0, s => some ([], s)
  | k + 1, s =>
    if !(rdEnt (shV s)).2.2 || (rdEnt (shV s)).1 != 1 then none else
    match entsI k (shS s) with
    | none => none
    | some p => some ((rdEnt (shV s)).2.1 :: p.1, p.2)
def h3S (t : ByteArray) : scan := oneS (oneS (oneS ⟨t, 0, false⟩))
def h7S (t : ByteArray) : scan := numS (numS (numS (numS (h3S t))))
def h9S (t : ByteArray) : scan := sgS (sgS (h7S t))
def cntM (t : ByteArray) : Nat := (cntV (h9S t) 4).toNat
def cntMS (t : ByteArray) : scan := cntS (h9S t) 4
def mkM (t : ByteArray) (es : List Entry) (conf : List Int) (data : ByteArray) : Message :=
  ⟨oneV ⟨t, 0, false⟩, oneV (oneS ⟨t, 0, false⟩), oneV (oneS (oneS ⟨t, 0, false⟩)), numV (h3S t), numV (numS (h3S t)), numV (numS (numS (h3S t))), numV (numS (numS (numS (h3S t)))), sgV (h7S t), es, conf, data, sgV (sgS (h7S t))⟩
def tailM (t : ByteArray) (p : List Entry × scan) : Message := mkM t p.1 (bys (shV p.2) (shV p.2).size) (shV (shS p.2))
def tailC (t : ByteArray) (p : List Entry × scan) : Bool := !doneB (shS (shS p.2)) || !msgOk (tailM t p)
def rdMsg (t : ByteArray) : Message × Bool :=
  match entsI (cntM t) (cntMS t) with
  | none => (Message.z, false)
  | some p => if tailC t p then (Message.z, false) else (tailM t p, true)
theorem u8o_nat {x : Int} (h0 : 0 ≤ x) (h1 : x < 256) : ((u8o x).toNat : Int) = x := by rw [u8o, kind_u8 h0 h1]; omega
theorem flagU_nat (b : Bool) : ((flagU b).toNat : Int) = if b then 1 else 0 := by cases b <;> rfl
theorem sgS_rt {s : scan} {b : Bool} {r : List UInt8} (h : At s (flagU b :: r)) : sgV s = b ∧ At (sgS s) r := by
  obtain ⟨v, a⟩ := oneS_rt h
  rw [flagU_nat] at v
  refine ⟨by rw [sgV, v]; cases b <;> rfl, ?_⟩
  have e : sgS s = oneS s := by
    have h1 : (oneS s).text = s.text := rfl
    have h2 : decide (oneV s > 1) = false := by rw [v]; cases b <;> rfl
    rw [sgS, h2, Bool.or_false]
    rfl
  rw [e]; exact a
theorem sgS_good {s : scan} (hok : s.ok) (h : (sgS s).bad = false) : s.bad = false ∧ s.left = flagU (sgV s) :: (sgS s).left := by
  have h1 : (oneS s).bad = false ∧ decide (oneV s > 1) = false := Bool.or_eq_false_iff.1 h
  obtain ⟨b, c, v, l⟩ := oneS_good hok h1.1
  refine ⟨b, ?_⟩
  have hl : (sgS s).left = (oneS s).left := rfl
  rw [l, hl]
  have h2 := of_decide_eq_false h1.2
  congr 1
  apply UInt8.toNat_inj.1
  have h3 := flagU_nat (sgV s)
  rw [v] at h2
  have h4 : sgV s = (oneV s == 1) := rfl
  rw [v] at h4
  by_cases hc : (c.toNat : Int) = 1
  · rw [h4, hc] at h3 ⊢; simp at h3; rw [show (((1 : Int) == 1) : Bool) = true from rfl]; simp only [flagU, if_true]; have : (1 : UInt8).toNat = 1 := rfl; omega
  · have h5 : ((c.toNat : Int) == 1) = false := by simpa using hc
    rw [h4, h5]
    have : (flagU false).toNat = 0 := rfl
    omega
theorem cnt_rt {s : scan} {n : Nat} {r : List UInt8} (h : At s (varL n ++ r)) (hn : n ≤ 4) : cntV s 4 = (n : Int) ∧ At (cntS s 4) r := by
  obtain ⟨v, a⟩ := numS_rt h (by omega)
  have hc : decide (numV s > 4) = false := by rw [v]; exact decide_eq_false (by omega)
  refine ⟨by rw [cntV, if_neg (by rw [hc]; simp), v], by rw [cntS, if_neg (by rw [hc]; simp)]; exact a⟩
theorem cnt_good {s : scan} (h : (cntS s 4).bad = false) : s.bad = false ∧ ∃ n : Nat, cntV s 4 = (n : Int) ∧ n ≤ 4 ∧ s.left = varL n ++ (cntS s 4).left := by
  unfold cntS at h ⊢
  split at h
  · cases h
  · rename_i hc
    rw [if_neg hc]
    obtain ⟨b, n, v, _, l⟩ := numS_good h
    refine ⟨b, n, by rw [cntV, if_neg hc, v], ?_, l⟩
    simp only [decide_eq_true_eq] at hc
    omega
theorem entsI_rt : ∀ (es : List Entry) (s : scan) (r : List UInt8), (∀ e ∈ es, entOk e = true) → At s (entsL es ++ r) → ∃ s', entsI es.length s = some (es, s') ∧ At s' r
  | [], s, r, _, h => ⟨s, rfl, h⟩
  | e :: es, s, r, he, h => by
    have h1 := he e (List.mem_cons_self ..)
    have ht : (entT 1 e).1 = entB 1 e := by rw [entT, if_pos (by rw [h1]; rfl)]
    have hl : At s (shL (entB 1 e) ++ (entsL es ++ r)) := by
      have h9 : entsL (e :: es) = shL (entT 1 e).1 ++ entsL es := List.flatMap_cons ..
      have : entsL (e :: es) ++ r = shL (entB 1 e) ++ (entsL es ++ r) := by rw [h9, ht, List.append_assoc]
      rw [← this]; exact h
    have hsz := entB_size (i := 1) h1 rfl
    obtain ⟨v, a⟩ := shS_rt hl (by omega)
    obtain ⟨s', e1, a'⟩ := entsI_rt es (shS s) r (fun x hx => he x (List.mem_cons_of_mem _ hx)) a
    have hr := rdEnt_complete (t := entB 1 e) (i := 1) (e := e) (by omega) h1 rfl (entB_L 1 e)
    refine ⟨s', ?_, a'⟩
    rw [List.length_cons, entsI, v, hr, if_neg (by simp), e1]
theorem entsI_good : ∀ (k : Nat) (s : scan) (es : List Entry) (s' : scan), s.ok → entsI k s = some (es, s') → s'.ok ∧ (s'.bad = false → s.bad = false ∧ es.length = k ∧ s.left = entsL es ++ s'.left)
  | 0, s, es, s', hok, h => by
    rw [entsI] at h
    cases h
    exact ⟨hok, fun hb => ⟨hb, rfl, rfl⟩⟩
  | k + 1, s, es, s', hok, h => by
    rw [entsI] at h
    split at h
    · cases h
    · rename_i hc
      have hc : (!(rdEnt (shV s)).2.2 || (rdEnt (shV s)).1 != 1) = false := by simpa using hc
      cases hp : entsI k (shS s) with
      | none => rw [hp] at h; cases h
      | some p =>
        rw [hp] at h
        cases h
        obtain ⟨g1, g2⟩ := entsI_good k (shS s) p.1 p.2 (shS_ok hok) hp
        refine ⟨g1, fun hb => ?_⟩
        obtain ⟨b1, n1, l1⟩ := g2 hb
        obtain ⟨b0, z0, l0⟩ := shS_good b1
        simp only [Bool.or_eq_false_iff, Bool.not_eq_false'] at hc
        obtain ⟨s1, s2, s3⟩ := rdEnt_sound (t := shV s) (by omega) hc.1
        have hi : (rdEnt (shV s)).1 = 1 := by simpa using hc.2
        rw [hi] at s3
        have ht : (entT 1 (rdEnt (shV s)).2.1).1 = shV s := by
          rw [entT, if_pos (by rw [s1]; rfl)]
          exact ba_ext ((entB_L 1 _).trans s3.symm)
        refine ⟨b0, by rw [List.length_cons, n1], ?_⟩
        have h9 : entsL ((rdEnt (shV s)).2.1 :: p.1) = shL (entT 1 (rdEnt (shV s)).2.1).1 ++ entsL p.1 := List.flatMap_cons ..
        rw [l0, l1, h9, ht, List.append_assoc]
theorem bys_wrap {s : ByteArray} {i : Nat} (h : i < s.size) : IntKind.i64.wrap (bat s i) = ((s.toList.getD i 0).toNat : Int) := by
  obtain ⟨h1, _⟩ := bat_at h
  have := (s.toList.getD i 0).toNat_lt
  rw [h1]; exact wrap_small (by omega) (by omega)
theorem bytesOf_L (l : List Int) : (bytesOf l).toList = l.map fun x => UInt8.ofNat x.toNat := by
  have : ∀ (l : List Int) (b : ByteArray), (l.foldl (fun r n => r.push (UInt8.ofNat n.toNat)) b).data.toList = b.data.toList ++ l.map fun x => UInt8.ofNat x.toNat := by
    intro l
    induction l with
    | nil => intro b; simp
    | cons x r ih =>
      intro b
      rw [List.foldl_cons, ih]
      simp [ByteArray.push]
  rw [ByteArray.toList_eq]
  have h := this l ByteArray.empty
  rw [show ByteArray.empty.data.toList = ([] : List UInt8) from rfl, List.nil_append] at h
  exact h
theorem bys_bytes (s : ByteArray) : bytesOf ((bys s s.size).map fun x => IntKind.u8.wrap x) = s := by
  apply ba_ext
  rw [bytesOf_L]
  apply List.ext_getElem?
  intro i
  by_cases hi : i < s.size
  · obtain ⟨_, h2⟩ := bat_at hi
    have h3 := (s.toList.getD i 0).toNat_lt
    rw [h2, bys]
    simp only [List.map_map, List.getElem?_map, List.getElem?_range hi, Option.map_some, Function.comp]
    rw [bys_wrap hi, u8w (by omega) (by omega)]
    simp
  · rw [List.getElem?_eq_none (by rw [List.length_map, List.length_map, bys_len]; omega), List.getElem?_eq_none (by rw [toL_len]; omega)]
theorem bys_back {l : List Int} (h : ∀ x ∈ l, 0 ≤ x ∧ x < 256) : bys (bytesOf (l.map fun x => IntKind.u8.wrap x)) (bytesOf (l.map fun x => IntKind.u8.wrap x)).size = l := by
  have hs : (bytesOf (l.map fun x => IntKind.u8.wrap x)).size = l.length := by rw [bytesOf_size, List.length_map]
  apply List.ext_getElem?
  intro i
  rw [hs]
  by_cases hi : i < l.length
  · have hi2 : i < (bytesOf (l.map fun x => IntKind.u8.wrap x)).size := by omega
    rw [bys]
    simp only [List.getElem?_map, List.getElem?_range hi, Option.map_some]
    rw [bys_wrap hi2, bytesOf_L]
    have hx := h _ (List.getElem_mem hi)
    rw [List.getD_eq_getElem?_getD]
    simp only [List.map_map, List.getElem?_map, List.getElem?_eq_getElem hi, Option.map_some, Option.getD_some, Function.comp]
    rw [u8w hx.1 hx.2, u8_of (by omega)]
    congr 1
    omega
  · rw [List.getElem?_eq_none (by rw [bys_len]; omega), List.getElem?_eq_none (by omega)]
theorem riseOk_mem : ∀ {l : List Int} {p : Option Int}, riseOk 1 4 p l = true → ∀ x ∈ l, 1 ≤ x ∧ x ≤ 4
  | [], p, _, x, hx => by cases hx
  | y :: r, p, h, x, hx => by
    rw [riseOk_cons] at h
    have hy : inR y 1 4 = true := by
      cases hy : inR y 1 4 with
      | true => rfl
      | false => rw [hy] at h; simp at h
    have hr : riseOk 1 4 (some y) r = true := by
      cases hr : riseOk 1 4 (some y) r with
      | true => rfl
      | false => rw [hr] at h; simp at h
    rcases List.mem_cons.1 hx with rfl | hx
    · simp [inR] at hy; omega
    · exact riseOk_mem hr x hx
theorem confOk_el {l : List Int} (h : confOk l = true) : ∀ x ∈ l, 1 ≤ x ∧ x ≤ 4 := by
  simp only [confOk, Bool.and_eq_true] at h
  exact riseOk_mem h.2
theorem confText_size {l : List Int} : (confText l).1.size ≤ 4 := by
  unfold confText
  split
  · rename_i h; have := confOk_len h; simp only [bytesOf_size, List.length_map]; omega
  · decide
theorem conf_back {m : Message} (h : MsgIn m) : bys (confText m.conf).1 (confText m.conf).1.size = m.conf ∧ (readConf (confText m.conf).1).1 = m.conf := by
  rcases h.cf with hc | hc
  · have e : (confText m.conf).1 = bytesOf (m.conf.map fun x => IntKind.u8.wrap x) := by rw [confText, if_pos hc]
    have hb := bys_back (l := m.conf) (fun x hx => by have := confOk_el hc x hx; omega)
    rw [e]
    refine ⟨hb, ?_⟩
    rw [readConf, hb, if_pos hc]
  · rw [hc]
    have e : (confText []).1 = ⟨#[]⟩ := rfl
    rw [e]
    exact ⟨rfl, rfl⟩
set_option maxHeartbeats 2000000 in
theorem rdMsg_complete {t : ByteArray} {m : Message} (ht : t.size ≤ 1048576) (hm : msgOk m = true) (h : t.toList = msgL m) : rdMsg t = (m, true) := by
  have hi := MsgIn.of hm
  have hk := hi.k; have hf := hi.f; have htt := hi.t; have he := hi.e; have hl := hi.l; have hx := hi.i; have hc := hi.c; have hn := hi.n; have hd := hi.d
  have a0 : At ⟨t, 0, false⟩ (msgL m) := by have := at0 ht; rw [h] at this; exact this
  unfold msgL at a0
  obtain ⟨v0, a1⟩ := oneS_rt a0
  obtain ⟨v1, a2⟩ := oneS_rt a1
  obtain ⟨v2, a3⟩ := oneS_rt a2
  obtain ⟨v3, a4⟩ := numS_rt a3 (by omega)
  obtain ⟨v4, a5⟩ := numS_rt a4 (by omega)
  obtain ⟨v5, a6⟩ := numS_rt a5 (by omega)
  obtain ⟨v6, a7⟩ := numS_rt a6 (by omega)
  obtain ⟨v7, a8⟩ := sgS_rt a7
  obtain ⟨v8, a9⟩ := sgS_rt a8
  obtain ⟨v9, a10⟩ := cnt_rt a9 hn
  obtain ⟨s', e1, a11⟩ := entsI_rt m.entries _ _ hi.es a10
  obtain ⟨v11, a12⟩ := shS_rt a11 (by have := confText_size (l := m.conf); omega)
  rw [show shL m.data = shL m.data ++ [] by simp] at a12
  obtain ⟨v12, a13⟩ := shS_rt a12 (by omega)
  have hdn := done_at a13
  have eN : cntM t = m.entries.length := by
    show (cntV (h9S t) 4).toNat = _
    have : cntV (h9S t) 4 = (m.entries.length : Int) := v9
    rw [this]; omega
  have e2 : entsI (cntM t) (cntMS t) = some (m.entries, s') := by rw [eN]; exact e1
  have eM : tailM t (m.entries, s') = m := by
    have hcb := (conf_back hi).1
    rw [u8o_nat (by omega) (by omega)] at v0 v1 v2
    show mkM t m.entries (bys (shV s') (shV s').size) (shV (shS s')) = m
    rw [v11, v12, hcb]
    have w3 : numV (h3S t) = m.term_ := by show numV (oneS (oneS (oneS ⟨t, 0, false⟩))) = _; rw [v3]; omega
    have w4 : numV (numS (h3S t)) = m.index := by show numV (numS (oneS (oneS (oneS ⟨t, 0, false⟩)))) = _; rw [v4]; omega
    have w5 : numV (numS (numS (h3S t))) = m.logTerm := by show numV (numS (numS (oneS (oneS (oneS ⟨t, 0, false⟩))))) = _; rw [v5]; omega
    have w6 : numV (numS (numS (numS (h3S t)))) = m.commit := by show numV (numS (numS (numS (oneS (oneS (oneS ⟨t, 0, false⟩)))))) = _; rw [v6]; omega
    have w7 : sgV (h7S t) = m.ok := v7
    have w8 : sgV (sgS (h7S t)) = m.last := v8
    rw [mkM, v0, v1, v2, w3, w4, w5, w6, w7, w8]
  have hC : tailC t (m.entries, s') = false := by
    rw [tailC, eM, hm]
    show (!doneB (shS (shS s')) || !true) = false
    rw [hdn]; rfl
  have hfin : ∀ o : Option (List Entry × scan), o = some (m.entries, s') → (match o with | none => (Message.z, false) | some p => if tailC t p then (Message.z, false) else (tailM t p, true)) = (m, true) := by
    intro o ho
    subst ho
    simp only [hC, eM]
    simp
  exact hfin _ e2
theorem rdMsg_sound {t : ByteArray} (ht : t.size ≤ 1048576) (h : (rdMsg t).2 = true) : msgOk (rdMsg t).1 = true ∧ t.toList = msgL (rdMsg t).1 := by
  unfold rdMsg at h ⊢
  cases e : entsI (cntM t) (cntMS t) with
  | none => rw [e] at h; cases h
  | some p =>
    rw [e] at h
    simp only [] at h ⊢
    by_cases hc : tailC t p = true
    · rw [if_pos hc] at h; cases h
    rw [if_neg hc]
    have hc : tailC t p = false := by simpa using hc
    rw [tailC, Bool.or_eq_false_iff] at hc
    have hd : doneB (shS (shS p.2)) = true := nF hc.1
    have hm : msgOk (tailM t p) = true := nF hc.2
    refine ⟨hm, ?_⟩
    have hi := MsgIn.of hm
    have o0 := scan.ok0 ht
    have o3 : (h3S t).ok := oneS_ok (oneS_ok (oneS_ok o0))
    have o7 : (h7S t).ok := numS_ok (numS_ok (numS_ok (numS_ok o3)))
    have o8 := sgS_ok o7
    have o9 : (h9S t).ok := sgS_ok o8
    have o10 : (cntMS t).ok := cntS_ok o9
    obtain ⟨o11, g11⟩ := entsI_good (cntM t) (cntMS t) p.1 p.2 o10 e
    obtain ⟨b13, l13⟩ := done_good (shS_ok (shS_ok o11)) hd
    obtain ⟨b12, _, l12⟩ := shS_good b13
    obtain ⟨b11, _, l11⟩ := shS_good b12
    obtain ⟨b10, n10, l10⟩ := g11 b11
    obtain ⟨b9, n9, v9, _, l9⟩ := cnt_good (s := h9S t) b10
    obtain ⟨b8, l8⟩ := sgS_good o8 b9
    obtain ⟨b7, l7⟩ := sgS_good o7 b8
    obtain ⟨b6, n6, v6, _, l6⟩ := numS_good (s := numS (numS (numS (h3S t)))) b7
    obtain ⟨b5, n5, v5, _, l5⟩ := numS_good b6
    obtain ⟨b4, n4, v4, _, l4⟩ := numS_good b5
    obtain ⟨b3, n3, v3, _, l3⟩ := numS_good b4
    obtain ⟨b2, c2, v2, l2⟩ := oneS_good (s := oneS (oneS ⟨t, 0, false⟩)) (oneS_ok (oneS_ok o0)) b3
    obtain ⟨b1, c1, v1, l1⟩ := oneS_good (oneS_ok o0) b2
    obtain ⟨_, c0, v0, l0⟩ := oneS_good o0 b1
    have hl : t.toList = scan.left ⟨t, 0, false⟩ := by simp [scan.left]
    have q : ∀ c : UInt8, u8o (c.toNat : Int) = c := by
      intro c
      have := c.toNat_lt
      apply UInt8.toNat_inj.1
      have h9 := u8o_nat (x := (c.toNat : Int)) (by omega) (by omega)
      omega
    have hcf : (confText (bys (shV p.2) (shV p.2).size)).1 = shV p.2 := by
      rcases hi.cf with hcf | hcf
      · have hcf : confOk (bys (shV p.2) (shV p.2).size) = true := hcf
        rw [confText, if_pos hcf]; exact bys_bytes _
      · have hcf : bys (shV p.2) (shV p.2).size = [] := hcf
        have h9 := congrArg List.length hcf
        rw [bys_len] at h9
        have h8 : shV p.2 = ⟨#[]⟩ := ByteArray.ext (Array.eq_empty_of_size_eq_zero h9)
        rw [h8]; rfl
    have e7 : (h7S t).left = flagU (sgV (h7S t)) :: flagU (sgV (sgS (h7S t))) :: (h9S t).left := by rw [l7, l8]; rfl
    have e10 : (h9S t).left = varL p.1.length ++ (cntMS t).left := by
      have h9 : cntM t = n9 := by show (cntV (h9S t) 4).toNat = n9; rw [v9]; omega
      rw [l9, n10, h9]; rfl
    rw [hl, l0, l1, l2]
    show _ :: _ :: _ :: (h3S t).left = _
    rw [l3, l4, l5, l6]
    show _ :: _ :: _ :: (_ ++ (_ ++ (_ ++ (_ ++ (h7S t).left)))) = _
    rw [e7, e10, l10, l11, l12, l13]
    show _ = msgL (mkM t p.1 (bys (shV p.2) (shV p.2).size) (shV (shS p.2)))
    have w3 : numV (h3S t) = (n3 : Int) := v3
    have w4 : numV (numS (h3S t)) = (n4 : Int) := v4
    have w5 : numV (numS (numS (h3S t))) = (n5 : Int) := v5
    have w6 : numV (numS (numS (numS (h3S t)))) = (n6 : Int) := v6
    simp only [msgL, mkM, v0, v1, v2, w3, w4, w5, w6, q, hcf, Int.toNat_natCast, List.append_nil]
theorem tkS_text (s : scan) (n : Int) : (tkS s n).text = s.text := by unfold tkS; split <;> rfl
theorem nc_sc (c : l05Cur) : (numC c).sc = numS c.sc := rfl
theorem tc_sc (c : l05Cur) (n : Int) : (tkC c n).sc = tkS c.sc n := by
  show (⟨c.text, (tkS c.sc n).at_, (tkS c.sc n).bad⟩ : scan) = _
  have h := tkS_text c.sc n
  rw [show c.text = c.sc.text from rfl, ← h]
def rshW (c : l05Cur) : ByteArray := tkW (numC c) (numW c)
def rshC (c : l05Cur) : l05Cur := tkC (numC c) (numW c)
theorem rsh_rt {c : l05Cur} {d : ByteArray} {r : List UInt8} (h : At c.sc (shL d ++ r)) (hd : d.size ≤ 20000) : rshW c = d ∧ At (rshC c).sc r := by
  rw [shL, List.append_assoc] at h
  obtain ⟨v, a⟩ := numS_rt h (by omega)
  have hn : numW c = (d.size : Int) := v
  obtain ⟨p, q⟩ := tk_rt (n := (d.size : Int)) a (by rw [toL_len])
  refine ⟨?_, ?_⟩
  · rw [rshW, hn]
    show tkV (numC c).sc _ = d
    rw [nc_sc]; exact ba_ext p
  · rw [rshC, hn, tc_sc, nc_sc]; exact q
def entsS : Nat → Int → Nat → l05Cur → List Entry × l05Cur
  | 0, _, _, c => ([], c)
  | f + 1, n, i, c =>
    if (decide ((i : Int) < n) && !c.bad) && decide ((i : Int) ≤ 4) then ((rdEnt (rshW c)).2.1 :: (entsS f n (i + 1) (rshC c)).1, (entsS f n (i + 1) (rshC c)).2)
    else ([], c)
theorem entsS_rt : ∀ (es : List Entry) (c : l05Cur) (i f : Nat) (r : List UInt8), (∀ e ∈ es, entOk e = true) → i + es.length ≤ 4 → es.length < f → At c.sc (entsL es ++ r) → ∃ c', entsS f ((i + es.length : Nat) : Int) i c = (es, c') ∧ At c'.sc r
  | [], c, i, f + 1, r, _, _, _, h => ⟨c, by rw [entsS, if_neg (by simp)], h⟩
  | e :: es, c, i, f + 1, r, he, hi, hf, h => by
    have h1 := he e (List.mem_cons_self ..)
    have ht : (entT 1 e).1 = entB 1 e := by rw [entT, if_pos (by rw [h1]; rfl)]
    have h9 : entsL (e :: es) = shL (entT 1 e).1 ++ entsL es := List.flatMap_cons ..
    rw [h9, ht, List.append_assoc] at h
    have hsz := entB_size (i := 1) h1 rfl
    obtain ⟨v, a⟩ := rsh_rt h (by omega)
    simp only [List.length_cons] at hi hf ⊢
    obtain ⟨c', e1, a'⟩ := entsS_rt es (rshC c) (i + 1) f r (fun x hx => he x (List.mem_cons_of_mem _ hx)) (by omega) (by omega) a
    have hr := rdEnt_complete (t := entB 1 e) (i := 1) (e := e) (by omega) h1 rfl (entB_L 1 e)
    refine ⟨c', ?_, a'⟩
    have hb : c.bad = false := h.bad
    have e2 : ((i + (es.length + 1) : Nat) : Int) = ((i + 1 + es.length : Nat) : Int) := by omega
    rw [entsS, if_pos (by rw [hb]; simp; omega), e2, e1, v, hr]
def g1C (t : ByteArray) : l05Cur := tkC ⟨t, 0, false⟩ 3
def g5C (t : ByteArray) : l05Cur := numC (numC (numC (numC (g1C t))))
def g7C (t : ByteArray) : l05Cur := tkC (tkC (g5C t) 1) 1
def hdW (t : ByteArray) : ByteArray := tkW ⟨t, 0, false⟩ 3
def one1 (s : ByteArray) : Bool := s.toList == (⟨#[1]⟩ : ByteArray).toList
def sEs (t : ByteArray) : List Entry × l05Cur := entsS 6 (numW (g7C t)) 0 (numC (g7C t))
def sMsg (t : ByteArray) (p : List Entry × l05Cur) : Message :=
  ⟨IntKind.i64.wrap (bat (hdW t) 0), IntKind.i64.wrap (bat (hdW t) 1), IntKind.i64.wrap (bat (hdW t) 2), numW (g1C t), numW (numC (g1C t)), numW (numC (numC (g1C t))), numW (numC (numC (numC (g1C t)))), one1 (tkW (g5C t) 1), p.1, (readConf (rshW p.2)).1, rshW (rshC p.2), one1 (tkW (tkC (g5C t) 1) 1)⟩
def sC (t : ByteArray) (p : List Entry × l05Cur) : Bool := ((rshC (rshC p.2)).bad || !(msgT (sMsg t p)).2) || !((msgT (sMsg t p)).1.toList == t.toList)
def rdMsgS (t : ByteArray) : Message × Bool := if (g1C t).bad then (Message.z, false) else if sC t (sEs t) then (Message.z, false) else (sMsg t (sEs t), true)
theorem rdMsg_false {t : ByteArray} (h : (rdMsg t).2 = false) : rdMsg t = (Message.z, false) := by
  unfold rdMsg at h ⊢
  cases e : entsI (cntM t) (cntMS t) with
  | none => rfl
  | some p =>
    rw [e] at h
    simp only [] at h ⊢
    by_cases hc : tailC t p = true
    · rw [if_pos hc]
    · rw [if_neg hc] at h; cases h
theorem bat_of {q : ByteArray} {l : List UInt8} (h : q.toList = l) {i : Nat} {c : UInt8} (hi : l[i]? = some c) : IntKind.i64.wrap (bat q i) = (c.toNat : Int) := by
  have h1 := (List.getElem?_eq_some_iff.1 hi).1
  have h2 : i < q.size := by rw [← toL_len, h]; exact h1
  rw [bys_wrap h2, h, List.getD_eq_getElem?_getD, hi]; rfl
theorem one1_flag {q : ByteArray} {b : Bool} (h : q.toList = [flagU b]) : one1 q = b := by
  have h2 : (⟨#[1]⟩ : ByteArray).toList = [1] := by rw [ByteArray.toList_eq]
  rw [one1, h, h2]
  cases b <;> rfl
theorem sMsg_complete {t : ByteArray} {m : Message} (ht : t.size ≤ 1048576) (hm : msgOk m = true) (h : t.toList = msgL m) : rdMsgS t = (m, true) := by
  have hi := MsgIn.of hm
  have hk := hi.k; have hf := hi.f; have htt := hi.t; have he := hi.e; have hl := hi.l; have hx := hi.i; have hc := hi.c; have hn := hi.n; have hd := hi.d
  have a0 : At ⟨t, 0, false⟩ ([u8o m.kind, u8o m.from_, u8o m.to] ++ (varL m.term_.toNat ++ (varL m.index.toNat ++ (varL m.logTerm.toNat ++ (varL m.commit.toNat ++ ([flagU m.ok] ++ ([flagU m.last] ++ (varL m.entries.length ++ (entsL m.entries ++ (shL (confText m.conf).1 ++ shL m.data)))))))))) := by
    have := at0 ht; rw [h] at this; exact this
  obtain ⟨v0, a1⟩ := tk_rt (n := 3) a0 rfl
  have c1 : (g1C t).sc = tkS ⟨t, 0, false⟩ 3 := tc_sc ⟨t, 0, false⟩ 3
  rw [← c1] at a1
  obtain ⟨v3, a4⟩ := numS_rt a1 (by omega)
  obtain ⟨v4, a5⟩ := numS_rt a4 (by omega)
  obtain ⟨v5, a6⟩ := numS_rt a5 (by omega)
  obtain ⟨v6, a7⟩ := numS_rt a6 (by omega)
  have c5 : (g5C t).sc = numS (numS (numS (numS (g1C t).sc))) := rfl
  rw [← c5] at a7
  obtain ⟨v7, a8⟩ := tk_rt (n := 1) a7 rfl
  rw [← tc_sc] at a8
  obtain ⟨v8, a9⟩ := tk_rt (n := 1) a8 rfl
  rw [← tc_sc] at a9
  obtain ⟨v9, a10⟩ := numS_rt (s := (g7C t).sc) a9 (by omega)
  have e0 : numW (g7C t) = ((0 + m.entries.length : Nat) : Int) := by show numV (g7C t).sc = _; rw [v9, Nat.zero_add]
  obtain ⟨c', e1, a11⟩ := entsS_rt m.entries (numC (g7C t)) 0 6 _ hi.es (by omega) (by omega) a10
  rw [← e0] at e1
  obtain ⟨v11, a12⟩ := rsh_rt a11 (by have := confText_size (l := m.conf); omega)
  rw [show shL m.data = shL m.data ++ [] by simp] at a12
  obtain ⟨v12, a13⟩ := rsh_rt a12 (by omega)
  have hE : sEs t = (m.entries, c') := e1
  have hhd : (hdW t).toList = [u8o m.kind, u8o m.from_, u8o m.to] := v0
  have eM : sMsg t (m.entries, c') = m := by
    rw [sMsg, bat_of hhd (i := 0) rfl, bat_of hhd (i := 1) rfl, bat_of hhd (i := 2) rfl, u8o_nat (by omega) (by omega), u8o_nat (by omega) (by omega), u8o_nat (by omega) (by omega)]
    have w3 : numW (g1C t) = m.term_ := by show numV (g1C t).sc = _; rw [v3]; omega
    have w4 : numW (numC (g1C t)) = m.index := by show numV (numS (g1C t).sc) = _; rw [v4]; omega
    have w5 : numW (numC (numC (g1C t))) = m.logTerm := by show numV (numS (numS (g1C t).sc)) = _; rw [v5]; omega
    have w6 : numW (numC (numC (numC (g1C t)))) = m.commit := by show numV (numS (numS (numS (g1C t).sc))) = _; rw [v6]; omega
    have w7 : one1 (tkW (g5C t) 1) = m.ok := one1_flag v7
    have w8 : one1 (tkW (tkC (g5C t) 1) 1) = m.last := one1_flag v8
    rw [w3, w4, w5, w6, w7, w8]
    simp only [v11, v12, (conf_back hi).2]
  have eT : msgT m = (msgB m, true) := by rw [msgT, if_pos hm]
  have hb1 : (g1C t).bad = false := a1.bad
  have hb : (rshC (rshC c')).bad = false := a13.bad
  have hC : sC t (m.entries, c') = false := by
    rw [sC, eM, eT]
    simp only [hb, msgB_L, h]
    simp
  rw [rdMsgS, if_neg (by rw [hb1]; simp), hE, if_neg (by rw [hC]; simp), eM]
theorem msg_eq {t : ByteArray} (ht : t.size ≤ 1048576) : rdMsgS t = rdMsg t := by
  cases hr : (rdMsg t).2 with
  | true =>
    obtain ⟨hm, hl⟩ := rdMsg_sound ht hr
    rw [sMsg_complete ht hm hl, ← hr]
  | false =>
    rw [rdMsg_false hr, rdMsgS]
    by_cases h1 : (g1C t).bad = true
    · rw [if_pos h1]
    rw [if_neg h1]
    by_cases h2 : sC t (sEs t) = true
    · rw [if_pos h2]
    exfalso
    have h2 : sC t (sEs t) = false := by simpa using h2
    simp only [sC, Bool.or_eq_false_iff, Bool.not_eq_false', beq_iff_eq] at h2
    obtain ⟨⟨_, g1⟩, g2⟩ := h2
    generalize sMsg t (sEs t) = m at *
    unfold msgT at g1 g2
    split at g1
    · rename_i hm
      rw [if_pos hm, msgB_L] at g2
      have := rdMsg_complete ht hm g2.symm
      rw [this] at hr; cases hr
    · cases g1
theorem rsV_size {s : scan} (h : s.ok) : (rsV s).size ≤ 1048576 := by
  unfold rsV
  split
  · decide
  · rw [ByteArray.size_extract]; have := h.2.2; omega
theorem shV_size {s : scan} (h : s.ok) : (shV s).size ≤ 1048576 := by
  unfold shV scShort
  split
  · show (0 : Nat) ≤ 1048576; omega
  · unfold rdShort
    split
    · simp only []; rw [ByteArray.size_extract]; have := h.2.2; omega
    · show (0 : Nat) ≤ 1048576; omega
theorem tkV_size {s : scan} {n : Int} (h : s.ok) : (tkV s n).size ≤ 1048576 := by
  unfold tkV
  split
  · decide
  · rw [ByteArray.size_extract]; have := h.2.2; omega
theorem rdEnt_d {t : ByteArray} (ht : t.size ≤ 1048576) : okToEntry (rdEnt t).2.1 := by
  cases h : (rdEnt t).2.2 with
  | true => have := EntIn.of (rdEnt_sound ht h).1; have h2 := this.d; show (rdEnt t).2.1.data.size ≤ 1048576; omega
  | false => rw [rdEnt_false h]; show (0 : Nat) ≤ 1048576; omega
theorem numV_pos (s : scan) : 0 ≤ numV s := by
  unfold numV scNum
  split
  · simp
  · rename_i h
    simp at h
    obtain ⟨n, h1, _⟩ := rdVar_ok h.2
    simp only []; omega
theorem numC_ok {c : l05Cur} (h : c.sc.ok) : (numC c).sc.ok := numS_ok h
theorem tkC_ok {c : l05Cur} {n : Int} (h : c.sc.ok) (hn : 0 ≤ n) : (tkC c n).sc.ok := by rw [tc_sc]; exact tkS_ok h hn
theorem numW_pos (c : l05Cur) : 0 ≤ numW c := numV_pos c.sc
theorem rshC_ok {c : l05Cur} (h : c.sc.ok) : (rshC c).sc.ok := tkC_ok (numC_ok h) (numW_pos c)
theorem rshW_size {c : l05Cur} (h : c.sc.ok) : (rshW c).size ≤ 1048576 := tkV_size (s := (numC c).sc) (numC_ok h)
theorem c0_ok {t : ByteArray} (ht : t.size ≤ 1048576) : (l05Cur.sc ⟨t, 0, false⟩).ok := scan.ok0 ht
theorem tkB_w {s : scan} {n : Int} (h : s.ok) : (s.bad || decide (n > IntKind.i64.wrap ((s.text.size : Int) - s.at_))) = tkB s n := by
  have h1 := h.1; have h2 := h.2.1; have h3 := h.2.2
  rw [tkB, wrap_small (by omega) (by omega)]
theorem tk_in {s : scan} {n : Int} (h : s.ok) (hn : 0 ≤ n) (hb : tkB s n = false) : s.at_ + n ≤ s.text.size ∧ s.bad = false ∧ IntKind.i64.wrap (s.at_ + n) = s.at_ + n ∧ IntKind.i64.wrap (IntKind.i64.wrap (s.at_ + n) - n) = s.at_ ∧ 0 ≤ s.at_ := by
  have h1 := h.1; have h2 := h.2.1; have h3 := h.2.2
  simp only [tkB, Bool.or_eq_false_iff, decide_eq_false_iff_not] at hb
  have hw : IntKind.i64.wrap (s.at_ + n) = s.at_ + n := wrap_small (by omega) (by omega)
  refine ⟨by omega, hb.1, hw, ?_, h1⟩
  rw [hw, wrap_small (by omega) (by omega)]; omega
theorem takeT {t : Int} {mt : Int} {l : List Entry} {i : Nat} {e : Entry} (h : l[i]? = some e) : msgTerms mt t (l.drop i) = if (!entOk e || decide (e.term_ < t)) || decide (e.term_ > mt) then false else msgTerms mt e.term_ (l.drop (i + 1)) := by
  rw [drop_get h, msgTerms]
theorem mok1 {m : Message} (h : mo1 m = true) : msgOk m = false := by rw [msgOk, if_pos h]
theorem mok2 {m : Message} (h1 : mo1 m = false) (h : mo2 m = true) : msgOk m = false := by rw [msgOk, if_neg (by rw [h1]; simp), if_pos h]
theorem mok3 {m : Message} (h1 : mo1 m = false) (h2 : mo2 m = false) (h : mo3 m = true) : msgOk m = false := by rw [msgOk, if_neg (by rw [h1]; simp), if_neg (by rw [h2]; simp), if_pos h]
theorem mokT {m : Message} (h : msgTerms m.term_ m.logTerm m.entries = false) : msgOk m = false := by
  unfold msgOk; split; rfl; split; rfl; split; rfl; rw [if_neg (by rw [h]; simp)]
theorem mok4 {m : Message} (h1 : mo1 m = false) (h2 : mo2 m = false) (h3 : mo3 m = false) (h : msgTerms m.term_ m.logTerm m.entries = true) : msgOk m = mo4 m := by
  rw [msgOk, if_neg (by rw [h1]; simp), if_neg (by rw [h2]; simp), if_neg (by rw [h3]; simp), if_pos h]
def mi1 (m : Message) : Bool := (mo1 m || !inR m.term_ 0 100000) || !inR m.logTerm 0 100000
theorem mokI1 {m : Message} (h : mi1 m = true) : msgOk m = false := by
  cases h1 : mo1 m with
  | true => exact mok1 h1
  | false =>
    refine mok2 h1 ?_
    simp only [mi1, h1, Bool.false_or] at h
    simp only [mo2, Bool.or_eq_true] at h ⊢
    exact .inl (.inl h)
def miI (m : Message) : Bool := (m.kind == 5 && confOk m.conf) && decide ((m.data.size : Int) ≤ 60)
def miN (m : Message) : Bool := ((m.kind != 5 && (m.conf.length : Int) == 0) && m.data.toList == (⟨#[]⟩ : ByteArray).toList) && !m.last
def miE (m : Message) : Bool := (m.entries.length : Int) == 0 || (m.kind == 3 && decide ((m.entries.length : Int) ≤ 4))
theorem mokI {m : Message} (h : mi1 m = false) (ht : msgTerms m.term_ m.logTerm m.entries = true) : (((inR m.index 0 1000000 && inR m.commit 0 1000000) && miE m) && (miI m || miN m)) = msgOk m := by
  simp only [mi1, Bool.or_eq_false_iff, Bool.not_eq_false'] at h
  obtain ⟨⟨h1, h2⟩, h3⟩ := h
  have h4 : mo2 m = !(inR m.index 0 1000000 && inR m.commit 0 1000000) := by
    rw [mo2, h2, h3]; simp [Bool.not_and]
  have h5 : miE m = !mo3 m := by
    rw [miE, mo3, Bool.eq_iff_iff]
    simp only [Bool.or_eq_true, Bool.and_eq_true, Bool.not_eq_true', Bool.or_eq_false_iff, Bool.and_eq_false_iff, decide_eq_true_eq, decide_eq_false_iff_not, beq_iff_eq, bne, Bool.not_eq_false']
    omega
  have h6 : (miI m || miN m) = mo4 m := by
    rw [miI, miN, mo4]
    by_cases hk : (m.kind == 5) = true
    · rw [if_pos hk, hk]; simp at hk; simp [hk]
    · rw [if_neg hk]
      have hk2 : (m.kind == 5) = false := by simpa using hk
      have hk3 : (m.kind != 5) = true := by simp [bne, hk2]
      rw [hk2, hk3]; simp
  rw [h6, h5]
  cases e2 : mo2 m with
  | true =>
    rw [mok2 h1 e2]
    rw [e2] at h4
    have h7 : (inR m.index 0 1000000 && inR m.commit 0 1000000) = false := by
      cases hq : (inR m.index 0 1000000 && inR m.commit 0 1000000) with
      | false => rfl
      | true => rw [hq] at h4; cases h4
    rw [h7]; rfl
  | false =>
    rw [e2] at h4
    have h7 : (inR m.index 0 1000000 && inR m.commit 0 1000000) = true := by
      cases hq : (inR m.index 0 1000000 && inR m.commit 0 1000000) with
      | true => rfl
      | false => rw [hq] at h4; cases h4
    rw [h7]
    cases e3 : mo3 m with
    | true => rw [mok3 h1 e2 e3]; rfl
    | false => rw [mok4 h1 e2 e3 ht]; rfl
structure EnP (m : Message) (i : Nat) (s : ByteArray) : Prop where
  le : i ≤ m.entries.length
  eq : s = entsB (m.entries.take i) (msgH m)
theorem entsB_snoc {es : List Entry} {i : Nat} {e : Entry} {o : ByteArray} (h : es[i]? = some e) : entsB (es.take (i + 1)) o = entsB (es.take i) o ++ shB (entT 1 e).1 := by
  rw [take_snoc h, entsB, List.foldl_append]; rfl
theorem shB_size {s : ByteArray} (h : s.size ≤ 1048576) : (shB s).size ≤ s.size + 9 := by
  have := varB_len9 (n := s.size) (by omega)
  rw [shB, ByteArray.size_append]; omega
theorem entsB_size : ∀ (es : List Entry) (o : ByteArray), (entsB es o).size ≤ o.size + 209 * es.length
  | [], o => by simp [entsB]
  | e :: r, o => by
    have h1 := entsB_size r (o ++ shB (entT 1 e).1)
    have h2 := entT_size 1 e
    have h3 := shB_size (s := (entT 1 e).1) (by omega)
    have h4 : entsB (e :: r) o = entsB r (o ++ shB (entT 1 e).1) := rfl
    rw [ByteArray.size_append] at h1
    rw [h4, List.length_cons]; omega
structure MSz (m : Message) : Prop where
  e : 0 ≤ m.term_ ∧ m.term_ ≤ 9223372036854775807
  i : 0 ≤ m.index ∧ m.index ≤ 9223372036854775807
  l : 0 ≤ m.logTerm ∧ m.logTerm ≤ 9223372036854775807
  c : 0 ≤ m.commit ∧ m.commit ≤ 9223372036854775807
  n : m.entries.length ≤ 4
  d : m.data.size ≤ 60
  z1 : (varB m.term_.toNat).size ≤ 9
  z2 : (varB m.index.toNat).size ≤ 9
  z3 : (varB m.logTerm.toNat).size ≤ 9
  z4 : (varB m.commit.toNat).size ≤ 9
  z5 : (varB ((m.entries.length : Int)).toNat).size ≤ 9
  z6 : ∀ b, (flagS b).size = 1
  z7 : ∀ a b c : Int, (bytesOf [a, b, c]).size = 3
  h : (msgH m).size ≤ 60
theorem MSz.of {m : Message} (h : msgOk m = true) : MSz m := by
  have hi := MsgIn.of h
  have he := hi.e; have hl := hi.l; have hx := hi.i; have hc := hi.c; have hn := hi.n; have hd := hi.d
  have z6 : ∀ b, (flagS b).size = 1 := fun b => by cases b <;> rfl
  have z7 : ∀ a b c : Int, (bytesOf [a, b, c]).size = 3 := fun a b c => bytesOf_size [a, b, c]
  have y1 := varB_len9 (n := m.term_.toNat) (by omega)
  have y2 := varB_len9 (n := m.index.toNat) (by omega)
  have y3 := varB_len9 (n := m.logTerm.toNat) (by omega)
  have y4 := varB_len9 (n := m.commit.toNat) (by omega)
  have y5 := varB_len9 (n := ((m.entries.length : Int)).toNat) (by omega)
  refine ⟨by omega, by omega, by omega, by omega, hn, hd, y1, y2, y3, y4, y5, z6, z7, ?_⟩
  simp only [msgH, ByteArray.size_append, z6, z7]
  omega
theorem EnP.size {m : Message} {i : Nat} {s : ByteArray} (h : EnP m i s) (hm : MSz m) : s.size ≤ 900 := by
  have h1 := entsB_size (m.entries.take i) (msgH m)
  have h2 := hm.h; have h3 := hm.n
  rw [h.eq]
  have h4 : (m.entries.take i).length ≤ 4 := by rw [List.length_take]; omega
  omega
theorem msgT_no {m : Message} (h : msgOk m = false) : msgT m = (⟨#[]⟩, false) := by rw [msgT, if_neg (by rw [h]; simp)]
theorem msgT_yes {m : Message} {s : ByteArray} {i : Nat} (h : msgOk m = true) (hP : EnP m i s) (hi : m.entries.length ≤ i) : msgT m = (s ++ shB (confText m.conf).1 ++ shB m.data, true) := by
  rw [msgT, if_pos h, msgB, hP.eq, List.take_of_length_le hi]
theorem entT_no {i : Int} {e : Entry} (h : (!entOk e || !inR i 1 1000000) = true) : entT i e = (⟨#[]⟩, false) := by
  rw [entT, if_neg]
  intro hc
  simp only [Bool.and_eq_true] at hc
  rw [hc.1, hc.2] at h; cases h
theorem entT_yes {i : Int} {e : Entry} (h : (!entOk e || !inR i 1 1000000) = false) : entT i e = (entB i e, true) ∧ entOk e = true ∧ 1 ≤ i ∧ i ≤ 1000000 := by
  simp only [Bool.or_eq_false_iff, Bool.not_eq_false'] at h
  have h2 := h.2
  simp [inR] at h2
  exact ⟨by rw [entT, if_pos (by rw [h.1, h.2]; rfl)], h.1, by omega, by omega⟩
structure EiP (t : ByteArray) (j : Nat) (s : scan) (es : List Entry) : Prop where
  le : j ≤ cntM t
  ok : s.ok
  len : es.length = j
  eq : entsI (cntM t) (cntMS t) = (entsI (cntM t - j) s).map fun p => (es ++ p.1, p.2)
  all : ∀ e ∈ es, okToEntry e
theorem cntM_le (t : ByteArray) : cntM t ≤ 4 := by
  unfold cntM cntV
  split
  · simp
  · rename_i h
    simp only [decide_eq_true_eq] at h
    omega
theorem cntV_nat (t : ByteArray) : cntV (h9S t) 4 = ((cntM t : Nat) : Int) := by
  have h : 0 ≤ cntV (h9S t) 4 := by
    unfold cntV
    split
    · omega
    · exact numV_pos _
  rw [cntM]; omega
theorem hd_ok {t : ByteArray} (ht : t.size ≤ 1048576) : (cntMS t).ok := by
  have o3 : (h3S t).ok := oneS_ok (oneS_ok (oneS_ok (scan.ok0 ht)))
  have o7 : (h7S t).ok := numS_ok (numS_ok (numS_ok (numS_ok o3)))
  exact cntS_ok (sgS_ok (sgS_ok o7))
theorem EiP.init {t : ByteArray} (ht : t.size ≤ 1048576) : EiP t 0 (cntMS t) [] := by
  refine ⟨by omega, hd_ok ht, rfl, ?_, by simp⟩
  cases entsI (cntM t) (cntMS t) with
  | none => rfl
  | some p => rfl
theorem EiP.no {t : ByteArray} {j : Nat} {s : scan} {es : List Entry} (h : EiP t j s es) (hj : j < cntM t) (hc : (!(rdEnt (shV s)).2.2 || (rdEnt (shV s)).1 != 1) = true) : rdMsg t = (Message.z, false) := by
  have h1 := h.eq
  rw [show cntM t - j = (cntM t - (j + 1)) + 1 by omega, entsI, if_pos hc] at h1
  unfold rdMsg
  rw [h1]; rfl
theorem EiP.go {t : ByteArray} {j : Nat} {s : scan} {es : List Entry} (h : EiP t j s es) (hj : j < cntM t) (hc : (!(rdEnt (shV s)).2.2 || (rdEnt (shV s)).1 != 1) = false) : EiP t (j + 1) (shS s) (es ++ [(rdEnt (shV s)).2.1]) := by
  refine ⟨hj, shS_ok h.ok, by simp [h.len], ?_, ?_⟩
  · rw [h.eq, show cntM t - j = (cntM t - (j + 1)) + 1 by omega, entsI, if_neg (by rw [hc]; simp)]
    cases entsI (cntM t - (j + 1)) (shS s) with
    | none => rfl
    | some p => simp
  · intro e he
    rcases List.mem_append.1 he with he | he
    · exact h.all e he
    · simp at he; subst he; exact rdEnt_d (shV_size h.ok)
theorem EiP.fin {t : ByteArray} {j : Nat} {s : scan} {es : List Entry} (h : EiP t j s es) (hj : cntM t ≤ j) : entsI (cntM t) (cntMS t) = some (es, s) := by
  rw [h.eq, show cntM t - j = 0 by omega, entsI]
  simp
theorem rd_end {t : ByteArray} {es : List Entry} {s : scan} (h : entsI (cntM t) (cntMS t) = some (es, s)) {b : Bool} (hb : tailC t (es, s) = b) : rdMsg t = if b then (Message.z, false) else (tailM t (es, s), true) := by
  have hfin : ∀ o : Option (List Entry × scan), o = some (es, s) → (match o with | none => (Message.z, false) | some p => if tailC t p then (Message.z, false) else (tailM t p, true)) = if b then (Message.z, false) else (tailM t (es, s), true) := by
    intro o ho
    subst ho
    simp only [hb]
  exact hfin _ h
structure SeP (t : ByteArray) (i : Nat) (c : l05Cur) (es : List Entry) : Prop where
  le : i ≤ 5
  ok : c.sc.ok
  len : es.length = i
  eq : sEs t = (es ++ (entsS (6 - i) (numW (g7C t)) i c).1, (entsS (6 - i) (numW (g7C t)) i c).2)
  all : ∀ e ∈ es, okToEntry e
theorem g7_ok {t : ByteArray} (ht : t.size ≤ 1048576) : (g7C t).sc.ok := by
  have o1 : (g1C t).sc.ok := tkC_ok (c0_ok ht) (by omega)
  have o5 : (g5C t).sc.ok := numC_ok (numC_ok (numC_ok (numC_ok o1)))
  exact tkC_ok (tkC_ok o5 (by omega)) (by omega)
theorem SeP.init {t : ByteArray} (ht : t.size ≤ 1048576) : SeP t 0 (numC (g7C t)) [] := ⟨by omega, numC_ok (g7_ok ht), rfl, rfl, by simp⟩
theorem SeP.go {t : ByteArray} {i : Nat} {c : l05Cur} {es : List Entry} (h : SeP t i c es) (hc : ((decide ((i : Int) < numW (g7C t)) && !c.bad) && decide ((i : Int) ≤ 4)) = true) : SeP t (i + 1) (rshC c) (es ++ [(rdEnt (rshW c)).2.1]) := by
  have h4 : i ≤ 4 := by simp only [Bool.and_eq_true, decide_eq_true_eq] at hc; omega
  refine ⟨by omega, rshC_ok h.ok, by simp [h.len], ?_, ?_⟩
  · rw [h.eq, show 6 - i = (6 - (i + 1)) + 1 by omega, entsS, if_pos hc]
    simp
  · intro e he
    rcases List.mem_append.1 he with he | he
    · exact h.all e he
    · simp at he; subst he; exact rdEnt_d (rshW_size h.ok)
theorem SeP.fin {t : ByteArray} {i : Nat} {c : l05Cur} {es : List Entry} (h : SeP t i c es) (hc : ((decide ((i : Int) < numW (g7C t)) && !c.bad) && decide ((i : Int) ≤ 4)) = false) : sEs t = (es, c) := by
  have h5 := h.le
  rw [h.eq, show 6 - i = (5 - i) + 1 by omega, entsS, if_neg (by rw [hc]; simp)]
  simp
theorem rdS_fin {t : ByteArray} (ht : t.size ≤ 1048576) {es : List Entry} {c : l05Cur} (h1 : (g1C t).bad = false) (h : sEs t = (es, c)) {b : Bool} (hb : sC t (es, c) = b) : rdMsg t = if b then (Message.z, false) else (sMsg t (es, c), true) := by
  rw [← msg_eq ht, rdMsgS, if_neg (by rw [h1]; simp), h, hb]
theorem rdS_bad0 {t : ByteArray} (ht : t.size ≤ 1048576) (h1 : (g1C t).bad = true) : rdMsg t = (Message.z, false) := by
  rw [← msg_eq ht, rdMsgS, if_pos h1]
theorem fe_bad {t : ByteArray} (ht : t.size ≤ 1048576) (h : (feC t).bad = true) : rdEnt t = (0, Entry.z, false) := by rw [← rdEnt_eq ht, rdEntS, if_pos h]
theorem fe_no {t : ByteArray} (ht : t.size ≤ 1048576) (h : (feC t).bad = false) (hb : feB t = true) : rdEnt t = (0, Entry.z, false) := by rw [← rdEnt_eq ht, rdEntS, if_neg (by rw [h]; simp), if_pos hb]
theorem fe_yes {t : ByteArray} (ht : t.size ≤ 1048576) (h : (feC t).bad = false) (hb : feB t = false) : rdEnt t = (feI t, feE t, true) := by rw [← rdEnt_eq ht, rdEntS, if_neg (by rw [h]; simp), if_neg (by rw [hb]; simp)]
theorem rdMsg_ok {t : ByteArray} (ht : t.size ≤ 1048576) : okToMessage (rdMsg t).1 ∧ (rdMsg t).1.entries.length ≤ 4 ∧ (rdMsg t).1.conf.length ≤ 4 := by
  cases h : (rdMsg t).2 with
  | true =>
    have hi := MsgIn.of (rdMsg_sound ht h).1
    have hn := hi.n; have hd := hi.d
    have hc : (rdMsg t).1.conf.length ≤ 4 := by
      rcases hi.cf with hc | hc
      · exact confOk_len hc
      · rw [hc]; simp
    refine ⟨⟨⟨by omega, fun e he => ?_⟩, ⟨by omega, fun _ _ => trivial⟩, by omega⟩, hn, hc⟩
    have := (EntIn.of (hi.es e he)).d
    show e.data.size ≤ 1048576; omega
  | false =>
    rw [rdMsg_false h]
    exact ⟨⟨⟨by decide, by simp [Message.z]⟩, ⟨by decide, by simp [Message.z]⟩, by decide⟩, by decide, by decide⟩
theorem tkW_go {c : l05Cur} {n : Int} (h : c.sc.ok) (hn : 0 ≤ n) (hb : tkB c.sc n = false) : c.text.extract (IntKind.i64.wrap (IntKind.i64.wrap (c.at_ + n) - n)).toNat (IntKind.i64.wrap (c.at_ + n)).toNat = tkW c n := by
  obtain ⟨h1, h2, h3, h4, h5⟩ := tk_in h hn hb
  have h3' : IntKind.i64.wrap (c.at_ + n) = c.at_ + n := h3
  have h4' : IntKind.i64.wrap (IntKind.i64.wrap (c.at_ + n) - n) = c.at_ := h4
  rw [h4', h3']
  simp only [tkW]
  rw [tkV, if_neg (by rw [hb]; simp)]
  rfl
theorem tkC_go {c : l05Cur} {n : Int} (h : c.sc.ok) (hn : 0 ≤ n) (hb : tkB c.sc n = false) : (⟨c.text, IntKind.i64.wrap (c.at_ + n), c.bad⟩ : l05Cur) = tkC c n := by
  obtain ⟨h1, h2, h3, h4, h5⟩ := tk_in h hn hb
  have h3' : IntKind.i64.wrap (c.at_ + n) = c.at_ + n := h3
  rw [h3']
  simp only [tkC]
  rw [tkS, if_neg (by rw [hb]; simp)]
  rfl
theorem tk_sl {c : l05Cur} {n : Int} (h : c.sc.ok) (hn : 0 ≤ n) (hb : tkB c.sc n = false) : 0 ≤ IntKind.i64.wrap (IntKind.i64.wrap (c.at_ + n) - n) ∧ IntKind.i64.wrap (IntKind.i64.wrap (c.at_ + n) - n) ≤ IntKind.i64.wrap (c.at_ + n) ∧ IntKind.i64.wrap (c.at_ + n) ≤ c.text.size := by
  obtain ⟨h1, h2, h3, h4, h5⟩ := tk_in h hn hb
  have h3' : IntKind.i64.wrap (c.at_ + n) = c.at_ + n := h3
  have h4' : IntKind.i64.wrap (IntKind.i64.wrap (c.at_ + n) - n) = c.at_ := h4
  have h1' : c.at_ + n ≤ c.text.size := h1
  have h5' : 0 ≤ c.at_ := h5
  rw [h4', h3']
  omega
theorem feC_ok {t : ByteArray} (ht : t.size ≤ 1048576) : (feC t).sc.ok := tkC_ok (numC_ok (numC_ok (tkC_ok (c0_ok ht) (by omega)))) (by omega)
theorem fe_lt {t : ByteArray} (ht : t.size ≤ 1048576) (hb : (feC t).bad = false) : 0 < (tkW (numC (numC (tkC ⟨t, 0, false⟩ 1))) 1).size := by
  have o3 : (numC (numC (tkC ⟨t, 0, false⟩ 1))).sc.ok := numC_ok (numC_ok (tkC_ok (c0_ok ht) (by omega)))
  have h1 : (tkS (numC (numC (tkC ⟨t, 0, false⟩ 1))).sc 1).bad = false := by rw [← tc_sc]; exact hb
  have := tk_size o3 (by omega) h1
  show 0 < (tkV (numC (numC (tkC ⟨t, 0, false⟩ 1))).sc 1).size
  omega
theorem fe_sl {t : ByteArray} (ht : t.size ≤ 1048576) : 0 ≤ (feC t).at_ ∧ (feC t).at_ ≤ (t.size : Int) ∧ (t.size : Int) ≤ t.size := ⟨(feC_ok ht).1, (feC_ok ht).2.1, Int.le_refl _⟩
theorem fe_size {t : ByteArray} (ht : t.size ≤ 1048576) : okToEntry (feE t) := by
  show (t.extract _ _).size ≤ 1048576
  rw [ByteArray.size_extract]; omega
theorem tail_ok {t : ByteArray} {j : Nat} {s : scan} {es : List Entry} (h : EiP t j s es) : okToMessage (tailM t (es, s)) := by
  have h1 := cntM_le t; have h2 := h.le; have h3 := h.len
  refine ⟨⟨?_, h.all⟩, ⟨?_, fun _ _ => trivial⟩, shV_size (shS_ok h.ok)⟩
  · show es.length ≤ 1048576; omega
  · show (bys (shV s) (shV s).size).length ≤ 1048576
    rw [bys_len]; exact shV_size h.ok
theorem readConf_len (s : ByteArray) : (readConf s).1.length ≤ 4 := by
  unfold readConf
  split
  · rename_i h; exact confOk_len h
  · simp
theorem sMsg_ok {t : ByteArray} {i : Nat} {c : l05Cur} {es : List Entry} (h : SeP t i c es) : okToMessage (sMsg t (es, c)) := by
  have h2 := h.le; have h3 := h.len
  refine ⟨⟨?_, h.all⟩, ⟨?_, fun _ _ => trivial⟩, rshW_size (rshC_ok h.ok)⟩
  · show es.length ≤ 1048576; omega
  · show (readConf (rshW c)).1.length ≤ 1048576
    have := readConf_len (rshW c); omega
theorem hd_size {t : ByteArray} (ht : t.size ≤ 1048576) (hb : (g1C t).bad = false) : (hdW t).size = 3 := by
  have h1 : (tkS (l05Cur.sc ⟨t, 0, false⟩) 3).bad = false := by rw [← tc_sc]; exact hb
  have := tk_size (c0_ok ht) (by omega) h1
  show (tkV (l05Cur.sc ⟨t, 0, false⟩) 3).size = 3
  omega
theorem take_min {α : Type} {l : List α} {i n : Nat} (h1 : i ≤ l.length) (h2 : i ≤ n) (h3 : i < l.length → n ≤ i) : l.take i = l.take n := by
  rcases Nat.lt_or_ge i l.length with h | h
  · rw [show i = n from Nat.le_antisymm h2 (h3 h)]
  · rw [List.take_of_length_le h, List.take_of_length_le (by omega)]
def hashStep (h c : Int) : Int := andI (IntKind.i64.wrap (IntKind.i64.wrap (IntKind.i64.wrap (h * 131) + IntKind.i64.wrap c) + 7)) 1073741823
def cur0 (code : List Int) : l01Cur := ⟨code, 0, (code.take 4000).foldl hashStep (IntKind.i64.wrap (37401 + (code.length : Int)))⟩
def byteH (c : l01Cur) : Int := IntKind.i64.wrap (IntKind.i64.wrap (c.h * 6364136223846793005) + 1442695040888963407)
def byteX (c : l01Cur) : Int := andI (xorI (shrI (byteH c) 33) (shrI (byteH c) 45)) 255
def byteN (c : l01Cur) : Int × l01Cur :=
  if c.i < (c.b.length : Int) then (andI (IntKind.i64.wrap (byteX c + IntKind.i64.wrap (c.b.getD c.i.toNat 0))) 255, ⟨c.b, IntKind.i64.wrap (c.i + 1), byteH c⟩) else (byteX c, ⟨c.b, c.i, byteH c⟩)
def curOk (c : l01Cur) : Prop := 0 ≤ c.i ∧ c.i ≤ (c.b.length : Int) ∧ c.b.length ≤ maxLen
theorem byteN_ok {c : l01Cur} (h : curOk c) : curOk (byteN c).2 := by
  obtain ⟨h1, h2, h3⟩ := h
  simp only [maxLen] at h3
  unfold byteN
  split
  · refine ⟨?_, ?_, h3⟩ <;> (simp only []; rw [IntKind.wrap_i64]; omega)
  · exact ⟨h1, h2, h3⟩
theorem andI255 (x : Int) : 0 ≤ andI x 255 ∧ andI x 255 ≤ 255 := by
  unfold andI
  have h1 : (BitVec.ofInt 64 x &&& BitVec.ofInt 64 255).toNat ≤ 255 := by
    rw [BitVec.toNat_and]
    have : (BitVec.ofInt 64 255).toNat = 2 ^ 8 - 1 := by decide
    rw [this, Nat.and_two_pow_sub_one_eq_mod]
    omega
  rw [IntKind.wrap_i64]
  omega
theorem byteN_in (c : l01Cur) : 0 ≤ (byteN c).1 ∧ (byteN c).1 ≤ 255 := by
  unfold byteN
  split
  · exact andI255 _
  · exact andI255 _
def belowN (c : l01Cur) (n : Int) : Int × l01Cur :=
  if n ≤ 0 then (0, c) else if n ≤ 256 then (Int.tmod (byteN c).1 n, (byteN c).2) else
  (Int.tmod (IntKind.i64.wrap (IntKind.i64.wrap (IntKind.i64.wrap (IntKind.i64.wrap ((byteN c).1 * 16777216) + IntKind.i64.wrap ((byteN (byteN c).2).1 * 65536)) + IntKind.i64.wrap ((byteN (byteN (byteN c).2).2).1 * 256)) + (byteN (byteN (byteN (byteN c).2).2).2).1)) n,
    (byteN (byteN (byteN (byteN c).2).2).2).2)
theorem belowN_ok {c : l01Cur} (h : curOk c) (n : Int) : curOk (belowN c n).2 := by
  unfold belowN
  split
  · exact h
  · split
    · exact byteN_ok h
    · exact byteN_ok (byteN_ok (byteN_ok (byteN_ok h)))
theorem belowN_in (c : l01Cur) {n : Int} (h : 0 < n) : 0 ≤ (belowN c n).1 ∧ (belowN c n).1 < n := by
  unfold belowN
  rw [if_neg (by omega)]
  split
  · have := byteN_in c
    exact ⟨Int.tmod_nonneg _ this.1, Int.tmod_lt_of_pos _ h⟩
  · have h1 := byteN_in c
    have h2 := byteN_in (byteN c).2
    have h3 := byteN_in (byteN (byteN c).2).2
    have h4 := byteN_in (byteN (byteN (byteN c).2).2).2
    generalize (byteN c).1 = a at *
    generalize (byteN (byteN c).2).1 = b at *
    generalize (byteN (byteN (byteN c).2).2).1 = d at *
    generalize (byteN (byteN (byteN (byteN c).2).2).2).1 = e at *
    refine ⟨Int.tmod_nonneg _ ?_, Int.tmod_lt_of_pos _ h⟩
    simp only [IntKind.wrap_i64]
    omega
theorem cur0_ok {code : List Int} (h : code.length ≤ maxLen) : curOk (byteN (cur0 code)).2 ∧ curOk (cur0 code) := by
  have : curOk (cur0 code) := ⟨by simp [cur0], by simp [cur0], h⟩
  exact ⟨byteN_ok this, this⟩
def emp (s : ByteArray) : Bool := s.toList == (⟨#[]⟩ : ByteArray).toList
def cmdOk (x : Command) : Bool :=
  inR x.token 0 1000000 && inR x.seq 0 1000000 && inR x.op 1 5 &&
    (if x.op == 1 then x.token == 0 && x.seq == 0 && emp x.key && emp x.val && x.ver == 0
     else inR (x.key.size : Int) 1 8 && decide ((x.val.size : Int) ≤ 20) && (if x.op == 2 then x.ver == 0 else if x.op == 5 then inR x.ver 1 1000000000 else emp x.val && x.ver == 0))
structure CIn (x : Command) : Prop where
  t : 0 ≤ x.token ∧ x.token ≤ 1000000
  s : 0 ≤ x.seq ∧ x.seq ≤ 1000000
  o : 1 ≤ x.op ∧ x.op ≤ 5
  k : x.op ≠ 1 → 1 ≤ x.key.size ∧ x.key.size ≤ 8 ∧ x.val.size ≤ 20
theorem CIn.of {x : Command} (h : cmdOk x = true) : CIn x := by
  simp only [cmdOk, inR, Bool.and_eq_true, decide_eq_true_eq] at h
  refine ⟨by omega, by omega, by omega, fun h1 => ?_⟩
  have h2 := h.2
  rw [if_neg (by simpa using h1)] at h2
  simp only [Bool.and_eq_true, decide_eq_true_eq] at h2
  omega
def cmdText (x : Command) : ByteArray := bytesOf [IntKind.u8.wrap x.op] ++ varB x.token.toNat ++ varB x.seq.toNat ++ shB x.key ++ shB x.val ++ varB x.ver.toNat
def cmdT (x : Command) : ByteArray × Bool := if cmdOk x then (cmdText x, true) else (⟨#[]⟩, false)
structure CSz (x : Command) : Prop where
  t : 0 ≤ x.token ∧ x.token ≤ 9223372036854775807
  s : 0 ≤ x.seq ∧ x.seq ≤ 9223372036854775807
  v : 0 ≤ x.ver ∧ x.ver ≤ 9223372036854775807
  k : x.key.size ≤ 1048576
  l : x.val.size ≤ 1048576
  zt : (varB x.token.toNat).size ≤ 9
  zs : (varB x.seq.toNat).size ≤ 9
  zv : (varB x.ver.toNat).size ≤ 9
  zk : (shB x.key).size ≤ 40
  zl : (shB x.val).size ≤ 40
theorem CSz.of {x : Command} (h : cmdOk x = true) : CSz x := by
  have hc := CIn.of h
  have ht := hc.t; have hs := hc.s
  have hv : 0 ≤ x.ver ∧ x.ver ≤ 1000000000 := by
    simp only [cmdOk, inR, Bool.and_eq_true, decide_eq_true_eq] at h
    have h2 := h.2
    split at h2
    · simp at h2; omega
    · simp only [Bool.and_eq_true] at h2
      have h3 := h2.2
      split at h3
      · simp at h3; omega
      · split at h3
        · simp at h3; omega
        · simp at h3; omega
  have hk : x.key.size ≤ 8 ∧ x.val.size ≤ 20 := by
    by_cases h1 : x.op = 1
    · simp only [cmdOk, h1, emp, Bool.and_eq_true] at h
      have h2 := h.2
      simp at h2
      have e1 : x.key.size = 0 := by have h9 := congrArg List.length h2.1.1.2; rw [toL_len] at h9; exact h9
      have e2 : x.val.size = 0 := by have h9 := congrArg List.length h2.1.2; rw [toL_len] at h9; exact h9
      omega
    · have := hc.k h1; omega
  have e : ∀ s : ByteArray, (shB s).size = (varB s.size).size + s.size := fun s => by rw [shB, ByteArray.size_append]
  have a1 := varB_len9 (n := x.key.size) (by omega)
  have a2 := varB_len9 (n := x.val.size) (by omega)
  refine ⟨by omega, by omega, by omega, by omega, by omega, varB_len9 (by omega), varB_len9 (by omega), varB_len9 (by omega), ?_, ?_⟩
  · rw [e]; omega
  · rw [e]; omega
def keepNew : Keep := ⟨[], [⟨⟨#[114, 111, 111, 116]⟩, ⟨#[]⟩, 1⟩]⟩
theorem cmdT_size (x : Command) : (cmdT x).1.size ≤ 200 := by
  rw [cmdT]
  split
  · rename_i h
    have c := CSz.of h
    have z1 := c.zt; have z2 := c.zs; have z3 := c.zv; have z4 := c.zk; have z5 := c.zl
    have z6 : (bytesOf [IntKind.u8.wrap x.op]).size = 1 := rfl
    simp only [cmdText, ByteArray.size_append, z6]; omega
  · show (0 : Nat) ≤ 200; omega
structure Drw {α : Type} (p : α → Prop) where
  v : α
  d : l01Cur
  h : p v
  hd : curOk d
theorem drw_of {P : Program} {α : Type} {f : FuncId} {args : List A} {rs : α → R} {os : α → List A} (y : α) (h : Eng.Fn P f args (rs y) (os y)) : Eng.FnX P f args rs os :=
  ⟨h.1, fun w vs bs G a b c d e => Calls.mono (h.2 w vs bs G a b c d e) fun _ _ hq => ⟨y, hq⟩⟩
theorem below_in (c : l01Cur) (n : Int) : 0 ≤ (belowN c n).1 ∧ (0 < n → (belowN c n).1 < n) := by
  rcases Int.lt_or_le 0 n with h | h
  · exact ⟨(belowN_in c h).1, fun _ => (belowN_in c h).2⟩
  · rw [belowN, if_pos h]; exact ⟨Int.le_refl _, fun h9 => absurd h9 (by omega)⟩
theorem bytesOf_le {l : List Int} (h : l.length ≤ 5000) : (bytesOf l).size ≤ 5000 := by rw [bytesOf_size]; exact h
theorem len_pos2 {n : Nat} (h : ((n : Int) == 0) = false) : 0 < n := by simp at h; omega
structure MD (n : Nat) (m : Message) : Prop where
  es : m.entries.length ≤ n
  ee : ∀ e ∈ m.entries, e.data.size ≤ 1048576
  cf : m.conf.length ≤ 6
  da : m.data.size ≤ 1048576
theorem MD.to {n : Nat} {m : Message} (h : MD n m) (hn : n ≤ 1000) : okToMessage m := ⟨⟨by have := h.es; omega, h.ee⟩, ⟨by have := h.cf; omega, fun _ _ => trivial⟩, h.da⟩
theorem snoc_all {l : List Entry} {e : Entry} (h : ∀ x ∈ l, x.data.size ≤ 1048576) (he : e.data.size ≤ 1048576) : ∀ x ∈ l ++ [e], x.data.size ≤ 1048576 := fun x hx => by
  rcases List.mem_append.1 hx with h1 | h1
  · exact h x h1
  · rw [List.mem_singleton.1 h1]; exact he
def byT (l : List Int) : ByteArray := bytesOf (l.map fun x => IntKind.u8.wrap x)
def vT (n : Int) : ByteArray := if inR n 0 1000000000 then varB n.toNat else ⟨#[]⟩
def varTs (l : List Int) : ByteArray := l.foldl (fun s n => s ++ vT n) ⟨#[]⟩
def shT (t : ByteArray) : ByteArray := if (t.size : Int) ≤ 20000 then vT t.size ++ t else ⟨#[]⟩
def shTs (l : List ByteArray) : ByteArray := l.foldl (fun s n => s ++ shT n) ⟨#[]⟩
def flagI (b : Bool) : Int := if b then 1 else 0
theorem byT_size (l : List Int) : (byT l).size = l.length := by rw [byT, bytesOf_size, List.length_map]
theorem foldl_sz {α : Type} {f : α → ByteArray} {k : Nat} (hf : ∀ x, (f x).size ≤ k) : ∀ (l : List α) (s : ByteArray), (l.foldl (fun s x => s ++ f x) s).size ≤ s.size + k * l.length
  | [], s => by simp
  | x :: l, s => by
    have h1 := foldl_sz hf l (s ++ f x)
    have h2 := hf x
    rw [ByteArray.size_append] at h1
    simp only [List.foldl_cons, List.length_cons, Nat.mul_add, Nat.mul_one]
    omega
theorem vT_size (n : Int) : (vT n).size ≤ 5 := by
  rw [vT]; split
  · rename_i h; simp only [inR, Bool.and_eq_true, decide_eq_true_eq] at h; exact varB_len (by omega)
  · show (0 : Nat) ≤ 5; omega
theorem shT_size (t : ByteArray) : (shT t).size ≤ 20005 := by
  rw [shT]; split
  · have := vT_size t.size; rw [ByteArray.size_append]; omega
  · show (0 : Nat) ≤ 20005; omega
theorem varTs_size (l : List Int) : (varTs l).size ≤ 5 * l.length := by
  have h := foldl_sz vT_size l ⟨#[]⟩
  have h0 : (⟨#[]⟩ : ByteArray).size = 0 := rfl
  rw [h0] at h; rw [varTs]; omega
theorem shTs_size (l : List ByteArray) : (shTs l).size ≤ 20005 * l.length := by
  have h := foldl_sz shT_size l ⟨#[]⟩
  have h0 : (⟨#[]⟩ : ByteArray).size = 0 := rfl
  rw [h0] at h; rw [shTs]; omega
theorem varTs_snoc {l : List Int} {i : Nat} {e : Int} (h : l[i]? = some e) : varTs (l.take (i + 1)) = varTs (l.take i) ++ vT e := by
  rw [varTs, take_snoc h, List.foldl_append]; rfl
theorem shTs_snoc {l : List ByteArray} {i : Nat} {e : ByteArray} (h : l[i]? = some e) : shTs (l.take (i + 1)) = shTs (l.take i) ++ shT e := by
  rw [shTs, take_snoc h, List.foldl_append]; rfl
theorem take_len {α : Type} (l : List α) (i : Nat) : (l.take i).length ≤ l.length := by rw [List.length_take]; omega
theorem nil_app (s : ByteArray) : (⟨#[]⟩ : ByteArray) ++ s = s := ByteArray.empty_append
theorem vT_in {n : Int} (h : 0 ≤ n ∧ n ≤ 1000000000) : vT n = varB n.toNat := by rw [vT, if_pos (by simp [inR]; omega)]
theorem shT_in {t : ByteArray} (h : t.size ≤ 20000) : shT t = shB t := by rw [shT, if_pos (by omega), vT_in (by omega), shB]; rfl
theorem varTs1 (a : Int) : varTs [a] = vT a := nil_app _
theorem varTs2 (a b : Int) : varTs [a, b] = vT a ++ vT b := by show (⟨#[]⟩ ++ vT a) ++ vT b = _; rw [nil_app]
theorem varTs4 (a b c d : Int) : varTs [a, b, c, d] = vT a ++ vT b ++ vT c ++ vT d := by show (((⟨#[]⟩ ++ vT a) ++ vT b) ++ vT c) ++ vT d = _; rw [nil_app]
theorem shTs1 (a : ByteArray) : shTs [a] = shT a := nil_app _
theorem shTs2 (a b : ByteArray) : shTs [a, b] = shT a ++ shT b := by show (⟨#[]⟩ ++ shT a) ++ shT b = _; rw [nil_app]
theorem flagI_S (a b : Bool) : byT [flagI a, flagI b] = flagS a ++ flagS b := by cases a <;> cases b <;> kernel_rfl
theorem ent_impl {i : Int} {e : Entry} (h : (!entOk e || !inR i 1 1000000) = false) : ((⟨#[69]⟩ ++ varTs [i, e.term_]) ++ byT [e.kind]) ++ e.data = (entT i e).1 := by
  obtain ⟨hy, heo, hi1, hi2⟩ := entT_yes h
  have het := (EntIn.of heo).t
  rw [hy, varTs2, vT_in (by omega), vT_in (by omega), ← ByteArray.append_assoc]; rfl
theorem msgH_impl {m : Message} (h : msgOk m = true) : ((byT [m.kind, m.from_, m.to] ++ varTs [m.term_, m.index, m.logTerm, m.commit]) ++ byT [flagI m.ok, flagI m.last]) ++ varTs [(m.entries.length : Int)] = msgH m := by
  have hm := MsgIn.of h
  have z1 := hm.e; have z2 := hm.i; have z3 := hm.l; have z4 := hm.c; have z5 := hm.n
  rw [flagI_S, varTs4, varTs1, vT_in (by omega), vT_in (by omega), vT_in (by omega), vT_in (by omega), vT_in (by omega), msgH]
  simp only [← ByteArray.append_assoc]; rfl
theorem conf_byT {m : Message} (h : msgOk m = true) : byT m.conf = (confText m.conf).1 := by
  rw [confText]; split
  · rfl
  · rename_i hc
    have hk : m.conf = [] := by
      have hm := MsgIn.of h
      rcases hm.cf with h9 | h9
      · exact absurd h9 hc
      · exact h9
    rw [hk]; rfl
theorem msgT_size (m : Message) : (msgT m).1.size ≤ 1000 := by
  rw [msgT]; split
  · rename_i h
    have z := MSz.of h
    have z1 := entsB_size m.entries (msgH m)
    have z2 := z.h; have z3 := z.n; have z4 := z.d
    have z5 := confText_size (l := m.conf)
    have z6 := shB_size (s := (confText m.conf).1) (by omega)
    have z7 := shB_size (s := m.data) (by omega)
    simp only [msgB, ByteArray.size_append]; omega
  · show (0 : Nat) ≤ 1000; omega
theorem msg_rt {m : Message} (h : msgOk m = true) : rdMsg (msgT m).1 = (m, true) := by
  refine rdMsg_complete (by have := msgT_size m; omega) h ?_
  rw [msgT, if_pos h]; exact msgB_L m
theorem toL_inj {a b : ByteArray} (h : a.toList = b.toList) : a = b := by
  cases a; cases b; simp [ByteArray.toList_eq] at h; rw [h]
theorem msg_back {t : ByteArray} (ht : t.size ≤ 1048576) (h : (rdMsg t).2 = true) : (msgT (rdMsg t).1).1 = t := by
  obtain ⟨h1, h2⟩ := rdMsg_sound ht h
  rw [msgT, if_pos h1]; exact toL_inj ((msgB_L _).trans h2.symm)
theorem extract_le (s : ByteArray) (a b : Nat) : (s.extract a b).size ≤ s.size := by rw [ByteArray.size_extract]; omega
theorem spoilt_le {s t : ByteArray} {a b c d : Nat} (hs : s.size ≤ 1000) (ht : t.size ≤ 5000) : (((s.extract a b) ++ t) ++ (s.extract c d)).size ≤ 10000 := by
  have e1 := extract_le s a b; have e2 := extract_le s c d
  simp only [ByteArray.size_append]; omega
theorem cat_le {s t : ByteArray} {a b : Nat} (hs : s.size ≤ 1000) (ht : t.size ≤ 5000) : (s.extract a b).size + t.size ≤ 2 ^ 63 - 1 := by
  have e1 := extract_le s a b; omega
theorem cat_le2 {s t : ByteArray} {a b c d : Nat} (hs : s.size ≤ 1000) (ht : t.size ≤ 5000) : (s.extract a b).size + t.size + (s.extract c d).size ≤ 2 ^ 63 - 1 := by
  have e1 := extract_le s a b; have e2 := extract_le s c d; omega
theorem sl_le {n v : Int} (h : 0 ≤ v ∧ (0 < IntKind.i64.wrap (n + 1) → v < IntKind.i64.wrap (n + 1))) (h0 : 0 ≤ n) (h1 : n ≤ 1000) : 0 ≤ (0 : Int) ∧ 0 ≤ v ∧ v ≤ n := by
  rw [wrap_small (by omega) (by omega)] at h; omega
def sameL (a b : Message) : Bool := ((a.entries.length : Int) != (b.entries.length : Int)) || (!(eqS eqI a.conf b.conf))
def sameF (a b : Message) : Bool := (((((((((a.kind == b.kind) && (a.from_ == b.from_)) && (a.to == b.to)) && (a.term_ == b.term_)) && (a.index == b.index)) && (a.logTerm == b.logTerm)) && (a.commit == b.commit)) && (a.ok == b.ok)) && (a.data.toList == b.data.toList)) && (a.last == b.last)
def sameM (a b : Message) : Bool := if sameL a b then false else if eqS eqEntry a.entries b.entries then sameF a b else false
theorem sameM_refl (a : Message) : sameM a a = true := by
  rw [sameM, if_neg (by simp [sameL, eqS_refl eqI_refl]), if_pos (eqS_refl eqEntry_refl _)]; simp [sameF]
theorem sameM_ne {a b : Message} (h : sameL a b = true) : sameM a b = false := by rw [sameM, if_pos h]
theorem sameM_el {a b : Message} (h : sameL a b = false) (he : eqS eqEntry a.entries b.entries = false) : sameM a b = false := by
  rw [sameM, if_neg (by rw [h]; simp), if_neg (by rw [he]; simp)]
theorem sameM_f {a b : Message} (h : sameL a b = false) (he : eqS eqEntry a.entries b.entries = true) : sameM a b = sameF a b := by
  rw [sameM, if_neg (by rw [h]; simp), if_pos he]
theorem sameL_len {a b : Message} (h : sameL a b = false) : a.entries.length = b.entries.length := by
  simp only [sameL, Bool.or_eq_false_iff] at h
  have h9 := h.1; simp at h9; omega
theorem eqE_step {f : Entry → Entry → Bool} {a b : List Entry} {i : Nat} {x y : Entry} (ha : a[i]? = some x) (hb : b[i]? = some y) : eqS f (a.drop i) (b.drop i) = if f x y then eqS f (a.drop (i + 1)) (b.drop (i + 1)) else false := by
  obtain ⟨h1, e1⟩ := List.getElem?_eq_some_iff.1 ha
  obtain ⟨h2, e2⟩ := List.getElem?_eq_some_iff.1 hb
  rw [List.drop_eq_getElem_cons h1, List.drop_eq_getElem_cons h2, e1, e2]; rfl
theorem eqE_end {f : Entry → Entry → Bool} {a b : List Entry} {i : Nat} (h : a.length ≤ i) (hl : a.length = b.length) : eqS f (a.drop i) (b.drop i) = true := by
  rw [List.drop_of_length_le h, List.drop_of_length_le (by omega)]; rfl
theorem law1 (m : Message) : (((!((msgT m).2 == msgOk m)) || (!(msgOk m == (msgT m).2))) || ((msgT m).2 && ((!(rdMsg (msgT m).1).2) || (!sameM (rdMsg (msgT m).1).1 m)))) = false := by
  cases h : msgOk m with
  | false => rw [msgT_no h]; rfl
  | true =>
    have h1 : (msgT m).2 = true := by rw [msgT, if_pos h]
    rw [msg_rt h, h1, sameM_refl]; rfl
theorem law2 {t : ByteArray} (ht : t.size ≤ 10000) : (((rdMsg t).2 == (rdMsg t).2) && ((!(rdMsg t).2) || ((msgT (rdMsg t).1).1.toList == t.toList))) = true := by
  cases h : (rdMsg t).2 with
  | false => rfl
  | true => rw [msg_back (by omega) h]; simp
end Go.Proofs.Ytmhnehgpmndiiaa.Y
