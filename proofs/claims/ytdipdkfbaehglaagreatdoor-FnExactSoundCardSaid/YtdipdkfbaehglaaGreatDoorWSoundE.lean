import Derived.Test.YtdipdkfbaehglaaGreatDoorWSoundD
namespace Go.Proofs.YtdipdkfbaehglaaGreatDoor.Y
open Go Go.RowKit Go.Eng Go.Proofs
set_option maxRecDepth 10000
set_option maxHeartbeats 4000000 in
theorem spec_l15Copy_fn (k : Keep) (hok : okToKeep k) : Eng.Fn E.P 70 [.agg ((Keep.c k).map .r)] (.one (.agg ((Keep.c k).map .w))) [.agg ((Keep.c k).map .r)] := by
 refine Eng.Fn.intro (E := E) (rvs := [.cell 2 59]) Tryz.func70 rfl rfl rfl (by simp [outSlots, moved, rvSlot, sl]) ?_
 intro B g bo
 refine CW.h XK 12 [.e [0],.o 1] rfl ?_;(conv=>whnf);intro b1;(conv=>whnf);refine ⟨rfl,?_⟩
 refine RW.freezeB (ts := (Keep.c k)) 1 rfl (DRd.r (DRd.r DRd.e)) ?_
 refine RW.h XK 12 [.o 1,.p,.e [1,2]] rfl ?_;(conv=>whnf);intro b2;(conv=>whnf);refine ⟨rfl,?_⟩
 refine CW.anyJ2 (fc := []) (L0 := []) 12 (fun (zz : Value × Value × Value × Value) => match zz with | (Xo3_0_1, Xo3_3_1, Xo3_4_1, Xo3_7_1) => [(2, .obj b2 [.w (sl 3 Session.c (([] : List Session) ++ k.sessions)) Xo3_3_1, .w (sl 3 Item.c (([] : List Item) ++ k.items)) Xo3_7_1])]) (fun all hall f hf b0 hb K hK => ?_) ?_
 have ro3_7 : ∀ B, ∀ (Xo3_0_1 : Value), ∀ (Xo3_3_1 : Value), ∀ (Xo3_4_1 : Value), ∀ (Xo3_7_1 : Value), RA f E B all 0 (bt 10 1023) ⟨12, [(2, .obj b2 [.w (sl 3 Session.c (([] : List Session) ++ k.sessions)) Xo3_3_1, .w (sl 3 Item.c (([] : List Item) ++ k.items)) Xo3_7_1])] ++ b0⟩ K := by
  intro B Xo3_0_1 Xo3_3_1 Xo3_4_1 Xo3_7_1
  exact RA.of2 hall hf hb (RA.finH (Tell.of rfl) (by kernel_rfl) (hK (Xo3_0_1, Xo3_3_1, Xo3_4_1, Xo3_7_1) _ rfl (Le.of rfl)))
 have ro3_6 : ∀ B, ∀ (Xo3_0_1 : Value), ∀ (Xo3_3_1 : Value), ∀ (Xo3_4_1 : Value), ∀ (Xo3_7_1 : Value), RA f E B all 1 (bt 10 511) ⟨12, [(2, .obj b2 [.r (.v (.slice none 0 0)), .r (.v (.slice none 0 0))]), (6, .w (sl 3 Session.c (([] : List Session) ++ k.sessions)) Xo3_3_1), (10, .w (sl 3 Item.c (([] : List Item) ++ k.items)) Xo3_7_1), (11, .agg [.al 6 none 3 ((([] : List Session) ++ k.sessions).length) Xo3_3_1 0, .al 10 none 3 ((([] : List Item) ++ k.items).length) Xo3_7_1 0])] ++ b0⟩ K := by
  intro B Xo3_0_1 Xo3_3_1 Xo3_4_1 Xo3_7_1
  refine RA.of2 hall hf hb (RA.stepH (L := [9]) (Tell.of rfl) (by kernel_rfl) (by simp) (RA.each ?_ (RA.each0)))
  refine RO.storeAgg (es := [.al 6 none 3 ((([] : List Session) ++ k.sessions).length) Xo3_3_1 0, .al 10 none 3 ((([] : List Item) ++ k.items).length) Xo3_7_1 0]) rfl rfl rfl rfl rfl rfl rfl rfl rfl rfl (Nat.le_of_ble_eq_true rfl) rfl ?_
  refine RA.keep 12 [2,6,10] rfl ?_;(conv=>whnf);refine ⟨?_⟩
  refine RA.pullT (k := 2) (l := 6) (j := 0) 2 6 0 rfl rfl rfl (by decide) rfl rfl rfl ?_
  refine RA.keep 12 [2,10] rfl ?_;(conv=>whnf);refine ⟨?_⟩
  refine RA.pullT (k := 2) (l := 10) (j := 1) 2 10 1 rfl rfl rfl (by decide) rfl rfl rfl ?_
  refine RA.keep 12 [2] rfl ?_;(conv=>whnf);refine ⟨?_⟩
  exact RA.to2 hall hf hb (ro3_7 B Xo3_0_1 Xo3_3_1 Xo3_4_1 Xo3_7_1) rfl rfl (by kernel_rfl)
 have ro3_5 : ∀ B, ∀ (Xo3_0_1 : Value), ∀ (Xo3_3_1 : Value), ∀ (Xo3_4_1 : Value), RA f E B all 3 (bt 10 127) ⟨12, [(2, .obj b2 [.r (.v (.slice none 0 0)), .r (.v (.slice none 0 0))]), (6, .w (sl 3 Session.c (([] : List Session) ++ k.sessions)) Xo3_3_1), (7, .w (sl 3 Item.c ([] : List Item)) Xo3_4_1), (9, .r (sl 3 Item.c k.items))] ++ b0⟩ K := by
  intro B Xo3_0_1 Xo3_3_1 Xo3_4_1
  refine RA.of2 hall hf hb (RA.stepH (L := [7]) (Tell.of rfl) (by kernel_rfl) (by simp) (RA.each ?_ (RA.each0)))
  refine RO.appendSR (c := Item.c) (l1 := ([] : List Item)) (l2 := k.items) rfl rfl rfl rfl rfl rfl rfl rfl rfl rfl .r (by decide) (Nat.le_of_ble_eq_true rfl) Item.len (fun _ => rfl) rfl q13 q13 fun Xo3_7_1 => ?_
  refine RA.fr XK 12 1 [8] (bt 10 511) rfl rfl (by kernel_rfl) (Tell.of rfl) ?_
  (conv=>whnf);refine ⟨rfl,fun B=>?_⟩
  exact RA.to2 hall hf hb (ro3_6 B Xo3_0_1 Xo3_3_1 Xo3_4_1 Xo3_7_1) rfl rfl (by kernel_rfl)
 have ro3_4 : ∀ B, ∀ (Xo3_0_1 : Value), ∀ (Xo3_4_1 : Value), RA f E B all 4 (bt 10 119) ⟨12, [(2, .obj b2 [.r (.v (.slice none 0 0)), .r (.v (.slice none 0 0))]), (3, .w (sl 3 Session.c ([] : List Session)) Xo3_0_1), (5, .r (sl 3 Session.c k.sessions)), (7, .w (sl 3 Item.c ([] : List Item)) Xo3_4_1), (9, .r (sl 3 Item.c k.items))] ++ b0⟩ K := by
  intro B Xo3_0_1 Xo3_4_1
  refine RA.of2 hall hf hb (RA.stepH (L := [3]) (Tell.of rfl) (by kernel_rfl) (by simp) (RA.each ?_ (RA.each0)))
  refine RO.appendSR (c := Session.c) (l1 := ([] : List Session)) (l2 := k.sessions) rfl rfl rfl rfl rfl rfl rfl rfl rfl rfl .r (by decide) (Nat.le_of_ble_eq_true rfl) Session.len (fun _ => rfl) rfl q13 q13 fun Xo3_3_1 => ?_
  exact RA.to2 hall hf hb (ro3_5 B Xo3_0_1 Xo3_3_1 Xo3_4_1) rfl rfl (by kernel_rfl)
 have ro3_3 : ∀ B, ∀ (Xo3_0_1 : Value), ∀ (Xo3_3_1 : Value), RA f E B all 4 (bt 10 111) ⟨12, [(2, .obj b2 [.r (.v (.slice none 0 0)), .r (.v (.slice none 0 0))]), (6, .w (sl 3 Session.c (([] : List Session) ++ k.sessions)) Xo3_3_1), (9, .r (sl 3 Item.c k.items))] ++ b0⟩ K := by
  intro B Xo3_0_1 Xo3_3_1
  refine RA.of2 hall hf hb (RA.stepH (L := [4]) (Tell.of rfl) (by kernel_rfl) (by simp) (RA.each ?_ (RA.each0)))
  refine RO.build0 Item.c rfl rfl rfl rfl rfl rfl rfl fun Xo3_4_1 => ?_
  exact RA.to2 hall hf hb (ro3_5 B Xo3_0_1 Xo3_3_1 Xo3_4_1) rfl rfl (by kernel_rfl)
 have ro3_2 : ∀ B, ∀ (Xo3_4_1 : Value), RA f E B all 5 (bt 10 118) ⟨12, [(2, .obj b2 [.r (.v (.slice none 0 0)), .r (.v (.slice none 0 0))]), (5, .r (sl 3 Session.c k.sessions)), (7, .w (sl 3 Item.c ([] : List Item)) Xo3_4_1), (9, .r (sl 3 Item.c k.items))] ++ b0⟩ K := by
  intro B Xo3_4_1
  refine RA.of2 hall hf hb (RA.stepH (L := [0]) (Tell.of rfl) (by kernel_rfl) (by simp) (RA.each ?_ (RA.each0)))
  refine RO.build0 Session.c rfl rfl rfl rfl rfl rfl rfl fun Xo3_0_1 => ?_
  exact RA.to2 hall hf hb (ro3_4 B Xo3_0_1 Xo3_4_1) rfl rfl (by kernel_rfl)
 have ro3_1 : ∀ B, ∀ (Xo3_0_1 : Value), RA f E B all 5 (bt 10 103) ⟨12, [(2, .obj b2 [.r (.v (.slice none 0 0)), .r (.v (.slice none 0 0))]), (3, .w (sl 3 Session.c ([] : List Session)) Xo3_0_1), (5, .r (sl 3 Session.c k.sessions)), (9, .r (sl 3 Item.c k.items))] ++ b0⟩ K := by
  intro B Xo3_0_1
  refine RA.of2 hall hf hb (RA.stepH (L := [3, 4]) (Tell.of rfl) (by kernel_rfl) (by simp) (RA.each ?_ (RA.each ?_ (RA.each0))))
  refine RO.appendSR (c := Session.c) (l1 := ([] : List Session)) (l2 := k.sessions) rfl rfl rfl rfl rfl rfl rfl rfl rfl rfl .r (by decide) (Nat.le_of_ble_eq_true rfl) Session.len (fun _ => rfl) rfl q13 q13 fun Xo3_3_1 => ?_
  exact RA.to2 hall hf hb (ro3_3 B Xo3_0_1 Xo3_3_1) rfl rfl (by kernel_rfl)
  refine RO.build0 Item.c rfl rfl rfl rfl rfl rfl rfl fun Xo3_4_1 => ?_
  exact RA.to2 hall hf hb (ro3_4 B Xo3_0_1 Xo3_4_1) rfl rfl (by kernel_rfl)
 have ro3_0 : ∀ B, RA f E B all 6 (bt 10 102) ⟨12, [(2, .obj b2 [.r (.v (.slice none 0 0)), .r (.v (.slice none 0 0))]), (5, .r (sl 3 Session.c k.sessions)), (9, .r (sl 3 Item.c k.items))] ++ b0⟩ K := by
  intro B
  refine RA.of2 hall hf hb (RA.stepH (L := [0, 4]) (Tell.of rfl) (by kernel_rfl) (by simp) (RA.each ?_ (RA.each ?_ (RA.each0))))
  refine RO.build0 Session.c rfl rfl rfl rfl rfl rfl rfl fun Xo3_0_1 => ?_
  exact RA.to2 hall hf hb (ro3_1 B Xo3_0_1) rfl rfl (by kernel_rfl)
  refine RO.build0 Item.c rfl rfl rfl rfl rfl rfl rfl fun Xo3_4_1 => ?_
  exact RA.to2 hall hf hb (ro3_2 B Xo3_4_1) rfl rfl (by kernel_rfl)
 refine RA.start (by kernel_rfl) (by kernel_rfl) (m := 10) (ls' := (bt 10 0)) ?_
 refine RA.fr XK 12 6 [1,2,5,6] (bt 10 102) rfl rfl (by kernel_rfl) (Tell.of rfl) ?_
 (conv=>whnf);refine ⟨rfl,fun B=>?_⟩
 exact RA.to2 hall hf hb (ro3_0 B) rfl rfl (by kernel_rfl)
 rintro ⟨Xo3_0_1, Xo3_3_1, Xo3_4_1, Xo3_7_1⟩
 refine CW.ret ?_
 exact Post.one (RV.c (f := fun e => (Keep.c e).map .w) (e' := (⟨(([] : List Session) ++ k.sessions), (([] : List Item) ++ k.items)⟩ : Keep)) rfl rfl rfl rfl (DT.w (DT.w DT.e)) (by rfl)) (AOs.a rfl AOs.e)
set_option maxHeartbeats 4000000 in
theorem spec_l01Figure_fn (d : Int) (hd : d < 10) : Eng.Fn E.P 138 [.one (.r (.v (.int .i64 d)))] (.one (.one (.w (.v (.int .u8 (IntKind.u8.wrap (IntKind.i64.wrap (48 + d)))))))) [.one (.r (.v (.int .i64 d)))] := by
 refine Eng.Fn.intro (E := E) (rvs := [.tmp 2]) Tryz.func138 rfl rfl rfl (by simp [outSlots, moved, rvSlot, sl]) ?_
 intro B g bo
 refine CW.g XK 12 [.e [0],.n 1,.e [0],.n 1,.e [0,4]] rfl rfl rfl ?_
 refine CW.cond rfl (fun h1 => ?_) (fun h1 => ?_)
 refine CW.g XK 12 [.n 1,.e [2]] rfl rfl rfl ?_
 refine CW.ret ?_
 exact Post.one (RV.v rfl (by rfl)) (AOs.r AOs.e)
 refine CW.g XK 12 [.p,.e [0],.n 1,.e [2]] rfl rfl rfl ?_
 refine CW.ret ?_
 exact Post.one (RV.v rfl (by exfalso; simp at h1; omega)) (AOs.r AOs.e)
set_option maxHeartbeats 4000000 in
theorem spec_Decimal_fn (n : Int) (hn : 0 ≤ n ∧ n ≤ 9223372036854775807) : Eng.Fn E.P 106 [.one (.r (.v (.int .i64 n)))] (.one (.one (.w (.v (.string (itoaB n)))))) [.one (.r (.v (.int .i64 n)))] := by
 refine Eng.Fn.intro (E := E) (rvs := [.tmp 2]) Tryz.func106 rfl rfl rfl (by simp [outSlots, moved, rvSlot, sl]) ?_
 intro B g bo
 refine CW.g XK 30 [.e [0],.n 1,.e [0],.n 1,.e [0,7]] rfl rfl rfl ?_
 refine CW.cond rfl (fun h1 => ?_) (fun h1 => ?_)
 refine CW.g XK 30 [.n 1,.e [2]] rfl rfl rfl ?_
 refine CW.ret ?_
 exact Post.one (RV.s rfl (by rw [show n = 0 by simpa using h1]; exact itoa_zero.symm)) (AOs.r AOs.e)
 refine CW.g XK 30 [.p,.e [0],.n 2,.e [0,3,4],.p,.p] rfl rfl rfl ?_
 refine CW.loopI 30 (fun (zz : Int × ByteArray) => match zz with | (m, s) => [(0, I m), (3, Bo (decide (n < 0))), (4, S s)]) (fun (zz : Int × ByteArray) => match zz with | (m, s) => 0 ≤ m ∧ s.size ≤ 60 ∧ m * 10 ^ s.size ≤ 9223372036854775807 ∧ dgs m.toNat s = dgs n.toNat ⟨#[]⟩) (fun (zz : Int × ByteArray) => match zz with | (m, s) => m.toNat) (_, _) rfl (Le.c rfl <| Le.c rfl <| Le.c rfl <| Le.e) ⟨hn.1, by decide, by show n * 10 ^ 0 ≤ _; omega, rfl⟩ ?_
 rintro ⟨m, s⟩ ⟨h0, hs, hp, hr⟩
 refine CW.g XK 30 [.n 1,.e [0,3,4,11]] rfl rfl rfl ?_
 refine CW.cond rfl (fun h2 => ?_) (fun h2 => ?_)
 have h2p : decide (m > 0) = true := by simp at h2 ⊢; omega
 refine CW.g XK 30 [.p,.e [0,3,4],.n 1,.e [0,3,4,5],.n 1,.e [0,3,4,5,15]] rfl rfl rfl ?_
 refine CW.cond rfl (fun h3 => ?_) (fun h3 => ?_)
 exact absurd (Int.tmod_nonneg 10 h0) (by simpa using h3)
 refine CW.g XK 30 [.p,.e [0,3,4,5],.o 1] rfl rfl rfl ?_
 refine RW.call rfl (spec_l01Figure_fn (Int.tmod m 10) (Int.tmod_lt_of_pos m (by omega))) rfl (.cons (.one (.r .r)) (.nil)) fun g4 => ?_
 refine RW.build1c (c := cU) (v := (IntKind.u8.wrap (IntKind.i64.wrap (48 + (Int.tmod m 10))))) (u := .v (.int .u8 (IntKind.u8.wrap (IntKind.i64.wrap (48 + (Int.tmod m 10)))))) rfl rfl rfl rfl rfl rfl (.inl rfl) rfl rfl fun X5 => ?_
 refine RW.v rfl (V.bytesStr (l := [(IntKind.u8.wrap (IntKind.i64.wrap (48 + (Int.tmod m 10))))]) rfl rfl rfl (by kernel_rfl) (by kernel_rfl) (.al (k := none) (i := 20) (sz := 1) (V := X5) rfl rfl nofun)) ?_
 refine RW.g XK 30 [.o 1] rfl rfl rfl ?_
 refine RW.v rfl (V.cat rfl rfl rfl (by simp only [bytesOf_one, maxLen]; first | omega | (show 1 + s.size ≤ _; omega))) ?_
 refine RW.g XK 30 [.o 1,.p,.e [0,3,4],.o 3,.p] rfl rfl rfl ?_
 exact ⟨(_, _), by have := mt_dec h0 hp h2p; simp only []; omega, mt_step h0 hp hr h2p, rfl, Le.c rfl <| Le.c rfl <| Le.c rfl <| Le.e⟩
 refine CW.exit ?_
 refine CW.g XK 30 [.e [3,4],.n 1,.e [4,26]] rfl rfl rfl ?_
 refine CW.cond rfl (fun h6 => ?_) (fun h6 => ?_)
 refine CW.g XK 30 [.o 1] rfl rfl rfl ?_
 refine RW.v rfl (V.cat rfl rfl rfl (by simp only [bytesOf_one, maxLen]; first | omega | (show 1 + s.size ≤ _; omega))) ?_
 refine RW.g XK 30 [.o 1,.p,.e [2]] rfl rfl rfl ?_
 refine CW.ret ?_
 exact Post.one (RV.s rfl (by exfalso; simp_all; omega)) (AOs.r AOs.e)
 refine CW.g XK 30 [.p,.e [4],.n 1,.e [2]] rfl rfl rfl ?_
 refine CW.ret ?_
 exact Post.one (RV.s rfl (by rw [itoa_pos (by simp at h1; omega), ← hr, dgs, dif_pos (by simp at h2; omega)])) (AOs.r AOs.e)
set_option maxHeartbeats 4000000 in
theorem spec_l15Open_fn (k : Keep) (n : Int) (hok : okToKeep k) (hko : keepOk k = true) (hn : 1 ≤ n ∧ n ≤ 400000) : Eng.Fn E.P 69 [.agg ((Keep.c k).map .r), .one (.r (.v (.int .i64 n)))] (.tup [.agg ((Keep.c (openK k n)).map .w), .one (.w (.v (.string (tOpen ++ itoaB n))))]) [.agg ((Keep.c k).map .r), .one (.r (.v (.int .i64 n)))] := by
 refine Eng.Fn.intro (E := E) (rvs := [.cell 4 59, .tmp 5]) Tryz.func69 rfl rfl rfl (by simp [outSlots, moved, rvSlot, sl]) ?_
 intro B g bo
 refine CW.g XK 77 [.e [0,1]] rfl rfl rfl ?_
 have hl1 : k.sessions.length ≤ maxLen := by have := hok.1.1; simp only [maxLen]; omega
 have hl2 : k.items.length ≤ maxLen := by have := hok.2.1; simp only [maxLen]; omega
 have hn1 := hn.1; have hn2 := hn.2
 refine CW.h XK 77 [.o 1] rfl ?_;(conv=>whnf);intro b1;(conv=>whnf);refine ⟨rfl,?_⟩
 refine RW.freezeB (ts := (Keep.c k)) 2 rfl (DRd.r (DRd.r DRd.e)) ?_
 refine RW.h XK 77 [.o 2,.p,.e [1,2,4],.o 1] rfl ?_;(conv=>whnf);intro b2;(conv=>whnf);refine ⟨rfl,?_⟩
 refine RW.call rfl (spec_l15Copy_fn k hok) rfl (.cons (.agg (.cons (.r .r) (.cons (.r .r) (.nil)))) (.nil)) fun g3 => ?_
 refine RW.h XK 77 [.o 2,.e [1,2,4,6,11]] rfl ?_;(conv=>whnf);intro b4;(conv=>whnf);refine ⟨rfl,?_⟩
 refine RW.pullA (k := 6) (l := 11) (j := 0) 6 11 0 rfl rfl rfl (by decide) rfl rfl rfl rfl ?_
 refine RW.g XK 77 [.e [1,2,4,6,11]] rfl rfl rfl ?_
 refine RW.pullA (k := 6) (l := 11) (j := 1) 6 11 1 rfl rfl rfl (by decide) rfl rfl rfl rfl ?_
 refine RW.g XK 77 [.e [1,2,4,6],.p,.e [1,2,4,6],.p,.p] rfl rfl rfl ?_
 refine RW.build0 Session.c rfl rfl rfl rfl rfl fun X5 => ?_
 refine RW.assignMove rfl rfl rfl (by decide) (Nat.le_of_ble_eq_true rfl) (Nat.le_of_ble_eq_true rfl) ?_
 refine RW.g XK 77 [.p,.e [1,2,4,6,7],.n 1,.e [1,2,4,6,7,8],.p] rfl rfl rfl ?_
 refine CW.loopI 77 (fun (zz : Nat × Value) => match zz with | (i, X) => [(1, I n), (2, .rp (Keep.c k)), (4, .obj b2 [.r (.v (.slice none 0 0)), .r (.v (.slice none 0 0))]), (6, .obj b4 [.w (sl 3 Session.c k.sessions) (g3 0 0), .w (sl 3 Item.c k.items) (g3 0 1)]), (7, .w (sl 3 Session.c (lowS (k.sessions.take i) n)) X), (8, I (i : Int))]) (fun (zz : Nat × Value) => match zz with | (i, X) => i ≤ k.sessions.length) (fun (zz : Nat × Value) => match zz with | (i, X) => k.sessions.length - i) (0, _) rfl (Le.c rfl <| Le.c rfl <| Le.c rfl <| Le.c rfl <| Le.c rfl <| Le.c rfl <| Le.e) (by omega) ?_
 rintro ⟨i, X⟩ hb
 refine CW.g XK 77 [.n 1,.e [1,2,4,6,7,8,17]] rfl rfl rfl ?_
 refine CW.cond rfl (fun h6 => ?_) (fun h6 => ?_)
 have hii : i < k.sessions.length := by have := h6; simp at this; first | exact this | omega | (simp; done) | (simp; omega)
 obtain ⟨ei, hei⟩ : ∃ e, k.sessions[i]? = some e := ⟨_, List.getElem?_eq_getElem hii⟩
 have hdi := drop_get hei
 refine CW.g XK 77 [.p,.e [1,2,4,6,7,8],.o 3] rfl rfl rfl ?_
 refine RW.v rfl (V.indexS rfl rfl rfl rfl rfl rfl Session.len hei) ?_
 refine RW.g XK 77 [.o 4,.p,.e [1,2,4,6,7,8,27]] rfl rfl rfl ?_
 refine CW.cond rfl (fun h7 => ?_) (fun h7 => ?_)
 refine CW.g XK 77 [.o 4] rfl rfl rfl ?_
 refine RW.v rfl (V.indexS rfl rfl rfl rfl rfl rfl Session.len hei) ?_
 refine RW.g XK 77 [.o 1] rfl rfl rfl ?_
 refine RW.build1 (c := Session.c) (v := ei) rfl rfl rfl rfl rfl rfl (DW.v (DW.v (DW.v DW.e))) Session.len (by decide) (by decide) fun X8 => ?_
 refine RW.appendSR (c := Session.c) (l1 := (lowS (k.sessions.take i) n)) (l2 := [ei]) rfl rfl rfl rfl rfl rfl rfl rfl (.al (k := none) (i := 34) (sz := 3) (V := X8) rfl rfl nofun) (by decide) (Nat.le_of_ble_eq_true rfl) Session.len (fun _ => rfl) rfl q5 q5 fun X9 => ?_
 refine RW.assignMove rfl rfl rfl (by decide) (Nat.le_of_ble_eq_true rfl) (Nat.le_of_ble_eq_true rfl) ?_
 refine RW.g XK 77 [.p,.e [1,2,4,6,7,8],.o 1] rfl rfl rfl ?_
 refine RW.v rfl (V.inc rfl rfl rfl hii hl1) ?_
 refine RW.g XK 77 [.o 1,.p] rfl rfl rfl ?_
 exact ⟨(i + 1, _), by simp only []; omega, (by omega), rfl, Le.c rfl <| Le.c rfl <| Le.c rfl <| Le.c rfl <| Le.c (Dw_congr (by rw [lowS_snoc hei]; simp_all [sLt, sGt])) <| Le.c rfl <| Le.e⟩
 refine CW.g XK 77 [.p,.e [1,2,4,6,7,8],.o 1] rfl rfl rfl ?_
 refine RW.v rfl (V.inc rfl rfl rfl hii hl1) ?_
 refine RW.g XK 77 [.o 1,.p] rfl rfl rfl ?_
 exact ⟨(i + 1, _), by simp only []; omega, (by omega), rfl, Le.c rfl <| Le.c rfl <| Le.c rfl <| Le.c rfl <| Le.c (Dw_congr (by rw [lowS_snoc hei]; simp_all [sLt, sGt])) <| Le.c rfl <| Le.e⟩
 have hii : k.sessions.length ≤ i := by have := h6; simp at this; first | exact this | omega | (simp; done) | (simp; omega)
 have hdi : k.sessions.drop i = [] := List.drop_eq_nil_of_le hii
 refine CW.exit ?_
 refine CW.g XK 77 [.e [1,2,4,6,7],.o 3] rfl rfl rfl ?_
 refine RW.build1 (c := Session.c) (v := (⟨n, 0, ⟨#[]⟩⟩ : Session)) rfl rfl rfl rfl rfl rfl (DW.v (DW.v (DW.v DW.e))) Session.len (by decide) (by decide) fun X10 => ?_
 refine RW.appendSR (c := Session.c) (l1 := (lowS (k.sessions.take i) n)) (l2 := [(⟨n, 0, ⟨#[]⟩⟩ : Session)]) rfl rfl rfl rfl rfl rfl rfl rfl (.al (k := none) (i := 39) (sz := 3) (V := X10) rfl rfl nofun) (by decide) (Nat.le_of_ble_eq_true rfl) Session.len (fun _ => rfl) rfl q5 q5 fun X11 => ?_
 refine RW.assignMove rfl rfl rfl (by decide) (Nat.le_of_ble_eq_true rfl) (Nat.le_of_ble_eq_true rfl) ?_
 refine RW.g XK 77 [.p,.e [1,2,4,6,7],.n 1,.e [1,2,4,6,7,9],.p] rfl rfl rfl ?_
 refine CW.loopI 77 (fun (zz : Nat × Value) => match zz with | (j, X) => [(1, I n), (2, .rp (Keep.c k)), (4, .obj b2 [.r (.v (.slice none 0 0)), .r (.v (.slice none 0 0))]), (6, .obj b4 [.w (sl 3 Session.c k.sessions) (g3 0 0), .w (sl 3 Item.c k.items) (g3 0 1)]), (7, .w (sl 3 Session.c (lowS k.sessions n ++ [newS n] ++ highS (k.sessions.take j) n)) X), (9, I (j : Int))]) (fun (zz : Nat × Value) => match zz with | (j, X) => j ≤ k.sessions.length) (fun (zz : Nat × Value) => match zz with | (j, X) => k.sessions.length - j) (0, _) rfl (Le.c rfl <| Le.c rfl <| Le.c rfl <| Le.c rfl <| Le.c (Dw_congr (by rw [List.take_of_length_le hii]; simp [highS, newS])) <| Le.c rfl <| Le.e) (by omega) ?_
 rintro ⟨j, X⟩ hc
 refine CW.g XK 77 [.n 1,.e [1,2,4,6,7,9,45]] rfl rfl rfl ?_
 refine CW.cond rfl (fun h12 => ?_) (fun h12 => ?_)
 have hij : j < k.sessions.length := by have := h12; simp at this; first | exact this | omega | (simp; done) | (simp; omega)
 obtain ⟨ej, hej⟩ : ∃ e, k.sessions[j]? = some e := ⟨_, List.getElem?_eq_getElem hij⟩
 have hdj := drop_get hej
 refine CW.g XK 77 [.p,.e [1,2,4,6,7,9],.o 3] rfl rfl rfl ?_
 refine RW.v rfl (V.indexS rfl rfl rfl rfl rfl rfl Session.len hej) ?_
 refine RW.g XK 77 [.o 4,.p,.e [1,2,4,6,7,9,55]] rfl rfl rfl ?_
 refine CW.cond rfl (fun h13 => ?_) (fun h13 => ?_)
 refine CW.g XK 77 [.o 4] rfl rfl rfl ?_
 refine RW.v rfl (V.indexS rfl rfl rfl rfl rfl rfl Session.len hej) ?_
 refine RW.g XK 77 [.o 1] rfl rfl rfl ?_
 refine RW.build1 (c := Session.c) (v := ej) rfl rfl rfl rfl rfl rfl (DW.v (DW.v (DW.v DW.e))) Session.len (by decide) (by decide) fun X14 => ?_
 refine RW.appendSR (c := Session.c) (l1 := (lowS k.sessions n ++ [newS n] ++ highS (k.sessions.take j) n)) (l2 := [ej]) rfl rfl rfl rfl rfl rfl rfl rfl (.al (k := none) (i := 62) (sz := 3) (V := X14) rfl rfl nofun) (by decide) (Nat.le_of_ble_eq_true rfl) Session.len (fun _ => rfl) rfl q5 q5 fun X15 => ?_
 refine RW.assignMove rfl rfl rfl (by decide) (Nat.le_of_ble_eq_true rfl) (Nat.le_of_ble_eq_true rfl) ?_
 refine RW.g XK 77 [.p,.e [1,2,4,6,7,9],.o 1] rfl rfl rfl ?_
 refine RW.v rfl (V.inc rfl rfl rfl hij hl1) ?_
 refine RW.g XK 77 [.o 1,.p] rfl rfl rfl ?_
 exact ⟨(j + 1, _), by simp only []; omega, (by omega), rfl, Le.c rfl <| Le.c rfl <| Le.c rfl <| Le.c rfl <| Le.c (Dw_congr (by rw [highS_snoc hej]; split <;> simp_all [sLt, sGt])) <| Le.c rfl <| Le.e⟩
 refine CW.g XK 77 [.p,.e [1,2,4,6,7,9],.o 1] rfl rfl rfl ?_
 refine RW.v rfl (V.inc rfl rfl rfl hij hl1) ?_
 refine RW.g XK 77 [.o 1,.p] rfl rfl rfl ?_
 exact ⟨(j + 1, _), by simp only []; omega, (by omega), rfl, Le.c rfl <| Le.c rfl <| Le.c rfl <| Le.c rfl <| Le.c (Dw_congr (by rw [highS_snoc hej]; split <;> simp_all [sLt, sGt])) <| Le.c rfl <| Le.e⟩
 have hij : k.sessions.length ≤ j := by have := h12; simp at this; first | exact this | omega | (simp; done) | (simp; omega)
 have hdj : k.sessions.drop j = [] := List.drop_eq_nil_of_le hij
 refine CW.exit ?_
 refine CW.g XK 77 [.e [1,4,6,7],.n 1,.e [1,4,6,7,66]] rfl rfl rfl ?_
 refine CW.cond rfl (fun h16 => ?_) (fun h16 => ?_)
 have hgt := of_decide_eq_true h16
 refine CW.g XK 77 [.p] rfl rfl rfl ?_
 refine RW.build0 Session.c rfl rfl rfl rfl rfl fun X17 => ?_
 refine RW.g XK 77 [.o 1] rfl rfl rfl ?_
 refine RW.v rfl (V.cutLo (m := 1) rfl rfl rfl rfl rfl (.w rfl) rfl rfl (by omega)) ?_
 refine RW.appendSR (c := Session.c) (l1 := ([] : List Session)) (l2 := ((lowS k.sessions n ++ [newS n] ++ highS (k.sessions.take j) n).drop 1)) rfl rfl rfl rfl rfl rfl rfl rfl (.dropW rfl Session.len (by omega) nofun) (by decide) (Nat.le_of_ble_eq_true rfl) Session.len (fun _ => rfl) rfl q5 q5 fun X18 => ?_
 refine RW.assignMove rfl rfl rfl (by decide) (Nat.le_of_ble_eq_true rfl) (Nat.le_of_ble_eq_true rfl) ?_
 refine RW.g XK 77 [.p,.e [1,4,6,7],.o 3,.e [1,4,6,7]] rfl rfl rfl ?_
 refine RW.pullT (k := 6) (l := 7) (j := 0) 6 7 0 rfl rfl rfl (by decide) rfl rfl rfl ?_
 refine RW.g XK 77 [.e [1,4,6],.p,.e [1,4,6]] rfl rfl rfl ?_
 refine CW.anyJ2 (fc := []) (L0 := []) 77 (fun (go19_2_1 : (Nat → Nat → Value)) => [(4, .obj b2 [.w (sl 3 Session.c (([] : List Session) ++ ((lowS k.sessions n ++ [newS n] ++ highS (k.sessions.take j) n).drop 1))) X18, .w (sl 3 Item.c k.items) (g3 0 1)]), (5, S ((⟨#[111, 112, 101, 110, 32]⟩ : ByteArray) ++ (itoaB n)))]) (fun all hall f hf b0 hb K hK => ?_) ?_
 have ro19_4 : ∀ B, ∀ (go19_2_1 : Nat → Nat → Value), RA f E B all 0 (bt 6 63) ⟨77, [(4, .obj b2 [.w (sl 3 Session.c (([] : List Session) ++ ((lowS k.sessions n ++ [newS n] ++ highS (k.sessions.take j) n).drop 1))) X18, .w (sl 3 Item.c k.items) (g3 0 1)]), (5, S ((⟨#[111, 112, 101, 110, 32]⟩ : ByteArray) ++ (itoaB n)))] ++ b0⟩ K := by
  intro B go19_2_1
  exact RA.of2 hall hf hb (RA.finH (Tell.of rfl) (by kernel_rfl) (hK go19_2_1 _ rfl (Le.of rfl)))
 have ro19_3 : ∀ B, ∀ (go19_2_1 : Nat → Nat → Value), RA f E B all 2 (bt 6 15) ⟨77, [(4, .obj b2 [.r (.v (.slice none 0 0)), .r (.v (.slice none 0 0))]), (6, .obj b4 [.w (sl 3 Session.c (([] : List Session) ++ ((lowS k.sessions n ++ [newS n] ++ highS (k.sessions.take j) n).drop 1))) X18, .w (sl 3 Item.c k.items) (g3 0 1)]), (73, .agg [.al 6 (some 0) 3 ((([] : List Session) ++ ((lowS k.sessions n ++ [newS n] ++ highS (k.sessions.take j) n).drop 1)).length) X18 0, .al 6 (some 1) 3 k.items.length (g3 0 1) 0]), (76, S ((⟨#[111, 112, 101, 110, 32]⟩ : ByteArray) ++ (itoaB n)))] ++ b0⟩ K := by
  intro B go19_2_1
  refine RA.of2 hall hf hb (RA.stepH (L := [4]) (Tell.of rfl) (by kernel_rfl) (by simp) (RA.each ?_ (RA.each0)))
  refine RO.storeAgg (es := [.al 6 (some 0) 3 ((([] : List Session) ++ ((lowS k.sessions n ++ [newS n] ++ highS (k.sessions.take j) n).drop 1)).length) X18 0, .al 6 (some 1) 3 k.items.length (g3 0 1) 0]) rfl rfl rfl rfl rfl rfl rfl rfl rfl rfl (Nat.le_of_ble_eq_true rfl) rfl ?_
  refine RA.keep 77 [4,6,76] rfl ?_;(conv=>whnf);refine ⟨?_⟩
  refine RA.pullO (k := 4) (l := 6) (j := 0) 4 6 0 rfl rfl rfl (by decide) rfl rfl rfl rfl ?_
  refine RA.keep 77 [4,6,76] rfl ?_;(conv=>whnf);refine ⟨?_⟩
  refine RA.pullO (k := 4) (l := 6) (j := 1) 4 6 1 rfl rfl rfl (by decide) rfl rfl rfl rfl ?_
  refine RA.keep 77 [4,76] rfl ?_;(conv=>whnf);refine ⟨?_⟩
  refine RA.fr XK 77 0 [5] (bt 6 63) rfl rfl (by kernel_rfl) (Tell.of rfl) ?_
  (conv=>whnf);refine ⟨rfl,fun B=>?_⟩
  exact RA.to2 hall hf hb (ro19_4 B go19_2_1) rfl rfl (by kernel_rfl)
 have ro19_2 : ∀ B, ∀ (go19_2_1 : Nat → Nat → Value), RA f E B all 3 (bt 6 14) ⟨77, [(4, .obj b2 [.r (.v (.slice none 0 0)), .r (.v (.slice none 0 0))]), (6, .obj b4 [.w (sl 3 Session.c (([] : List Session) ++ ((lowS k.sessions n ++ [newS n] ++ highS (k.sessions.take j) n).drop 1))) X18, .w (sl 3 Item.c k.items) (g3 0 1)]), (76, S ((⟨#[111, 112, 101, 110, 32]⟩ : ByteArray) ++ (itoaB n)))] ++ b0⟩ K := by
  intro B go19_2_1
  refine RA.of2 hall hf hb (RA.stepH (L := [0]) (Tell.of rfl) (by kernel_rfl) (by simp) (RA.each ?_ (RA.each0)))
  refine RO.v rfl rfl (V.loadAgg rfl rfl rfl rfl rfl (Nat.le_of_ble_eq_true rfl)) rfl ?_
  exact RA.to2 hall hf hb (ro19_3 B go19_2_1) rfl rfl (by kernel_rfl)
 have ro19_1 : ∀ B, RA f E B all 4 (bt 6 3) ⟨77, [(4, .obj b2 [.r (.v (.slice none 0 0)), .r (.v (.slice none 0 0))]), (6, .obj b4 [.w (sl 3 Session.c (([] : List Session) ++ ((lowS k.sessions n ++ [newS n] ++ highS (k.sessions.take j) n).drop 1))) X18, .w (sl 3 Item.c k.items) (g3 0 1)]), (73, .agg [.al 6 (some 0) 3 ((([] : List Session) ++ ((lowS k.sessions n ++ [newS n] ++ highS (k.sessions.take j) n).drop 1)).length) X18 0, .al 6 (some 1) 3 k.items.length (g3 0 1) 0]), (74, I n)] ++ b0⟩ K := by
  intro B
  refine RA.of2 hall hf hb (RA.stepH (L := [2]) (Tell.of rfl) (by kernel_rfl) (by simp) (RA.each ?_ (RA.each0)))
  refine RO.call rfl rfl (spec_Decimal_fn n ⟨by omega, by omega⟩) rfl (.cons (.one (.r .r)) (.nil)) rfl fun go19_2_1 => ?_
  refine RA.first (i := 3) (ls' := (bt 6 15)) (Tell.of rfl) (by kernel_rfl) rfl rfl rfl (VF.p (V.cat rfl rfl rfl q11)) ?_
  exact RA.to2 hall hf hb (ro19_3 B go19_2_1) rfl rfl (by kernel_rfl)
 have ro19_0 : ∀ B, RA f E B all 5 (bt 6 2) ⟨77, [(4, .obj b2 [.r (.v (.slice none 0 0)), .r (.v (.slice none 0 0))]), (6, .obj b4 [.w (sl 3 Session.c (([] : List Session) ++ ((lowS k.sessions n ++ [newS n] ++ highS (k.sessions.take j) n).drop 1))) X18, .w (sl 3 Item.c k.items) (g3 0 1)]), (74, I n)] ++ b0⟩ K := by
  intro B
  refine RA.of2 hall hf hb (RA.stepH (L := [0, 2]) (Tell.of rfl) (by kernel_rfl) (by simp) (RA.each ?_ (RA.each ?_ (RA.each0))))
  refine RO.v rfl rfl (V.loadAgg rfl rfl rfl rfl rfl (Nat.le_of_ble_eq_true rfl)) rfl ?_
  exact RA.to2 hall hf hb (ro19_1 B) rfl rfl (by kernel_rfl)
  refine RO.call rfl rfl (spec_Decimal_fn n ⟨by omega, by omega⟩) rfl (.cons (.one (.r .r)) (.nil)) rfl fun go19_2_1 => ?_
  refine RA.first (i := 3) (ls' := (bt 6 14)) (Tell.of rfl) (by kernel_rfl) rfl rfl rfl (VF.p (V.cat rfl rfl rfl q11)) ?_
  exact RA.to2 hall hf hb (ro19_2 B go19_2_1) rfl rfl (by kernel_rfl)
 refine RA.start (by kernel_rfl) (by kernel_rfl) (m := 6) (ls' := (bt 6 0)) ?_
 refine RA.fr XK 77 5 [1] (bt 6 2) rfl rfl (by kernel_rfl) (Tell.of rfl) ?_
 (conv=>whnf);refine ⟨rfl,fun B=>?_⟩
 exact RA.to2 hall hf hb (ro19_0 B) rfl rfl (by kernel_rfl)
 rintro go19_2_1
 refine CW.ret ?_
 exact Post.tup (by decide) (RVs.c (RV.c (f := fun e => (Keep.c e).map .w) (e' := (⟨(([] : List Session) ++ ((lowS k.sessions n ++ [newS n] ++ highS (k.sessions.take j) n).drop 1)), k.items⟩ : Keep)) rfl rfl rfl rfl (DT.w (DT.w DT.e)) (by first | exact openS_cut hko hij (by assumption) | exact openS_no hko hij (by assumption))) (RVs.c (RV.s rfl (by rfl)) RVs.e)) (AOs.a rfl (AOs.r AOs.e))
 refine CW.g XK 77 [.p,.e [1,4,6,7],.o 3,.e [1,4,6,7]] rfl rfl rfl ?_
 refine RW.pullT (k := 6) (l := 7) (j := 0) 6 7 0 rfl rfl rfl (by decide) rfl rfl rfl ?_
 refine RW.g XK 77 [.e [1,4,6],.p,.e [1,4,6]] rfl rfl rfl ?_
 refine CW.anyJ2 (fc := []) (L0 := []) 77 (fun (go20_2_1 : (Nat → Nat → Value)) => [(4, .obj b2 [.w (sl 3 Session.c (lowS k.sessions n ++ [newS n] ++ highS (k.sessions.take j) n)) X, .w (sl 3 Item.c k.items) (g3 0 1)]), (5, S ((⟨#[111, 112, 101, 110, 32]⟩ : ByteArray) ++ (itoaB n)))]) (fun all hall f hf b0 hb K hK => ?_) ?_
 have ro20_4 : ∀ B, ∀ (go20_2_1 : Nat → Nat → Value), RA f E B all 0 (bt 6 63) ⟨77, [(4, .obj b2 [.w (sl 3 Session.c (lowS k.sessions n ++ [newS n] ++ highS (k.sessions.take j) n)) X, .w (sl 3 Item.c k.items) (g3 0 1)]), (5, S ((⟨#[111, 112, 101, 110, 32]⟩ : ByteArray) ++ (itoaB n)))] ++ b0⟩ K := by
  intro B go20_2_1
  exact RA.of2 hall hf hb (RA.finH (Tell.of rfl) (by kernel_rfl) (hK go20_2_1 _ rfl (Le.of rfl)))
 have ro20_3 : ∀ B, ∀ (go20_2_1 : Nat → Nat → Value), RA f E B all 2 (bt 6 15) ⟨77, [(4, .obj b2 [.r (.v (.slice none 0 0)), .r (.v (.slice none 0 0))]), (6, .obj b4 [.w (sl 3 Session.c (lowS k.sessions n ++ [newS n] ++ highS (k.sessions.take j) n)) X, .w (sl 3 Item.c k.items) (g3 0 1)]), (73, .agg [.al 6 (some 0) 3 ((lowS k.sessions n ++ [newS n] ++ highS (k.sessions.take j) n).length) X 0, .al 6 (some 1) 3 k.items.length (g3 0 1) 0]), (76, S ((⟨#[111, 112, 101, 110, 32]⟩ : ByteArray) ++ (itoaB n)))] ++ b0⟩ K := by
  intro B go20_2_1
  refine RA.of2 hall hf hb (RA.stepH (L := [4]) (Tell.of rfl) (by kernel_rfl) (by simp) (RA.each ?_ (RA.each0)))
  refine RO.storeAgg (es := [.al 6 (some 0) 3 ((lowS k.sessions n ++ [newS n] ++ highS (k.sessions.take j) n).length) X 0, .al 6 (some 1) 3 k.items.length (g3 0 1) 0]) rfl rfl rfl rfl rfl rfl rfl rfl rfl rfl (Nat.le_of_ble_eq_true rfl) rfl ?_
  refine RA.keep 77 [4,6,76] rfl ?_;(conv=>whnf);refine ⟨?_⟩
  refine RA.pullO (k := 4) (l := 6) (j := 0) 4 6 0 rfl rfl rfl (by decide) rfl rfl rfl rfl ?_
  refine RA.keep 77 [4,6,76] rfl ?_;(conv=>whnf);refine ⟨?_⟩
  refine RA.pullO (k := 4) (l := 6) (j := 1) 4 6 1 rfl rfl rfl (by decide) rfl rfl rfl rfl ?_
  refine RA.keep 77 [4,76] rfl ?_;(conv=>whnf);refine ⟨?_⟩
  refine RA.fr XK 77 0 [5] (bt 6 63) rfl rfl (by kernel_rfl) (Tell.of rfl) ?_
  (conv=>whnf);refine ⟨rfl,fun B=>?_⟩
  exact RA.to2 hall hf hb (ro20_4 B go20_2_1) rfl rfl (by kernel_rfl)
 have ro20_2 : ∀ B, ∀ (go20_2_1 : Nat → Nat → Value), RA f E B all 3 (bt 6 14) ⟨77, [(4, .obj b2 [.r (.v (.slice none 0 0)), .r (.v (.slice none 0 0))]), (6, .obj b4 [.w (sl 3 Session.c (lowS k.sessions n ++ [newS n] ++ highS (k.sessions.take j) n)) X, .w (sl 3 Item.c k.items) (g3 0 1)]), (76, S ((⟨#[111, 112, 101, 110, 32]⟩ : ByteArray) ++ (itoaB n)))] ++ b0⟩ K := by
  intro B go20_2_1
  refine RA.of2 hall hf hb (RA.stepH (L := [0]) (Tell.of rfl) (by kernel_rfl) (by simp) (RA.each ?_ (RA.each0)))
  refine RO.v rfl rfl (V.loadAgg rfl rfl rfl rfl rfl (Nat.le_of_ble_eq_true rfl)) rfl ?_
  exact RA.to2 hall hf hb (ro20_3 B go20_2_1) rfl rfl (by kernel_rfl)
 have ro20_1 : ∀ B, RA f E B all 4 (bt 6 3) ⟨77, [(4, .obj b2 [.r (.v (.slice none 0 0)), .r (.v (.slice none 0 0))]), (6, .obj b4 [.w (sl 3 Session.c (lowS k.sessions n ++ [newS n] ++ highS (k.sessions.take j) n)) X, .w (sl 3 Item.c k.items) (g3 0 1)]), (73, .agg [.al 6 (some 0) 3 ((lowS k.sessions n ++ [newS n] ++ highS (k.sessions.take j) n).length) X 0, .al 6 (some 1) 3 k.items.length (g3 0 1) 0]), (74, I n)] ++ b0⟩ K := by
  intro B
  refine RA.of2 hall hf hb (RA.stepH (L := [2]) (Tell.of rfl) (by kernel_rfl) (by simp) (RA.each ?_ (RA.each0)))
  refine RO.call rfl rfl (spec_Decimal_fn n ⟨by omega, by omega⟩) rfl (.cons (.one (.r .r)) (.nil)) rfl fun go20_2_1 => ?_
  refine RA.first (i := 3) (ls' := (bt 6 15)) (Tell.of rfl) (by kernel_rfl) rfl rfl rfl (VF.p (V.cat rfl rfl rfl q11)) ?_
  exact RA.to2 hall hf hb (ro20_3 B go20_2_1) rfl rfl (by kernel_rfl)
 have ro20_0 : ∀ B, RA f E B all 5 (bt 6 2) ⟨77, [(4, .obj b2 [.r (.v (.slice none 0 0)), .r (.v (.slice none 0 0))]), (6, .obj b4 [.w (sl 3 Session.c (lowS k.sessions n ++ [newS n] ++ highS (k.sessions.take j) n)) X, .w (sl 3 Item.c k.items) (g3 0 1)]), (74, I n)] ++ b0⟩ K := by
  intro B
  refine RA.of2 hall hf hb (RA.stepH (L := [0, 2]) (Tell.of rfl) (by kernel_rfl) (by simp) (RA.each ?_ (RA.each ?_ (RA.each0))))
  refine RO.v rfl rfl (V.loadAgg rfl rfl rfl rfl rfl (Nat.le_of_ble_eq_true rfl)) rfl ?_
  exact RA.to2 hall hf hb (ro20_1 B) rfl rfl (by kernel_rfl)
  refine RO.call rfl rfl (spec_Decimal_fn n ⟨by omega, by omega⟩) rfl (.cons (.one (.r .r)) (.nil)) rfl fun go20_2_1 => ?_
  refine RA.first (i := 3) (ls' := (bt 6 14)) (Tell.of rfl) (by kernel_rfl) rfl rfl rfl (VF.p (V.cat rfl rfl rfl q11)) ?_
  exact RA.to2 hall hf hb (ro20_2 B go20_2_1) rfl rfl (by kernel_rfl)
 refine RA.start (by kernel_rfl) (by kernel_rfl) (m := 6) (ls' := (bt 6 0)) ?_
 refine RA.fr XK 77 5 [1] (bt 6 2) rfl rfl (by kernel_rfl) (Tell.of rfl) ?_
 (conv=>whnf);refine ⟨rfl,fun B=>?_⟩
 exact RA.to2 hall hf hb (ro20_0 B) rfl rfl (by kernel_rfl)
 rintro go20_2_1
 refine CW.ret ?_
 exact Post.tup (by decide) (RVs.c (RV.c (f := fun e => (Keep.c e).map .w) (e' := (⟨(lowS k.sessions n ++ [newS n] ++ highS (k.sessions.take j) n), k.items⟩ : Keep)) rfl rfl rfl rfl (DT.w (DT.w DT.e)) (by first | exact openS_cut hko hij (by assumption) | exact openS_no hko hij (by assumption))) (RVs.c (RV.s rfl (by rfl)) RVs.e)) (AOs.a rfl (AOs.r AOs.e))
set_option maxHeartbeats 4000000 in
theorem spec_ItemOf_fn (k : Keep) (key : ByteArray) (hok : okToKeep k) : Eng.Fn E.P 26 [.agg ((Keep.c k).map .r), .one (.r (.v (.string key)))] (.tup [.agg ((Item.c ((itemOf k key).1)).map .w), .one (.w (.v (.bool ((itemOf k key).2))))]) [.agg ((Keep.c k).map .r), .one (.r (.v (.string key)))] := by
 refine Eng.Fn.intro (E := E) (rvs := [.cell 4 71, .tmp 5]) Tryz.func26 rfl rfl rfl (by simp [outSlots, moved, rvSlot, sl]) ?_
 intro B g bo
 refine CW.g XK 28 [.e [0,1]] rfl rfl rfl ?_
 have hl1 : k.sessions.length ≤ maxLen := by have := hok.1.1; simp only [maxLen]; omega
 have hl2 : k.items.length ≤ maxLen := by have := hok.2.1; simp only [maxLen]; omega
 refine CW.h XK 28 [.o 1] rfl ?_;(conv=>whnf);intro b1;(conv=>whnf);refine ⟨rfl,?_⟩
 refine RW.freezeB (ts := (Keep.c k)) 2 rfl (DRd.r (DRd.r DRd.e)) ?_
 refine RW.h XK 28 [.o 2,.p,.e [1,2,4],.n 1,.e [1,2,4,6],.p] rfl ?_;(conv=>whnf);intro b2;(conv=>whnf);refine ⟨rfl,?_⟩
 refine CW.loopI 28 (fun (i : Nat) => [(1, S key), (2, .rp (Keep.c k)), (4, .obj b2 [S (⟨#[]⟩), S (⟨#[]⟩), I 0]), (6, I (i : Int))]) (fun (i : Nat) => i ≤ k.items.length ∧ (k.items.drop i).find? (isKey key) = k.items.find? (isKey key)) (fun (i : Nat) => k.items.length - i) 0 rfl (Le.c rfl <| Le.c rfl <| Le.c rfl <| Le.c rfl <| Le.e) ⟨by omega, rfl⟩ ?_
 rintro i ⟨hb, hr⟩
 refine CW.g XK 28 [.n 1,.e [1,2,4,6,11]] rfl rfl rfl ?_
 refine CW.cond rfl (fun h3 => ?_) (fun h3 => ?_)
 have hii : i < k.items.length := by have := h3; simp at this; first | exact this | omega | (simp; done) | (simp; omega)
 obtain ⟨ei, hei⟩ : ∃ e, k.items[i]? = some e := ⟨_, List.getElem?_eq_getElem hii⟩
 have hdi := drop_get hei
 refine CW.g XK 28 [.p,.e [1,2,4,6],.o 3] rfl rfl rfl ?_
 refine RW.v rfl (V.indexS rfl rfl rfl rfl rfl rfl Item.len hei) ?_
 refine RW.g XK 28 [.o 4,.p,.e [1,2,4,6,21]] rfl rfl rfl ?_
 refine CW.cond rfl (fun h4 => ?_) (fun h4 => ?_)
 refine CW.g XK 28 [.o 3] rfl rfl rfl ?_
 refine RW.v rfl (V.indexS rfl rfl rfl rfl rfl rfl Item.len hei) ?_
 refine RW.g XK 28 [.o 3,.p,.e [4,5]] rfl rfl rfl ?_
 refine CW.ret ?_
 exact Post.tup (by decide) (RVs.c (RV.c (f := fun e => (Item.c e).map .w) (e' := ei) rfl rfl rfl rfl (DT.v (DT.v (DT.v DT.e))) q40) (RVs.c (RV.b rfl q40) RVs.e)) (AOs.a rfl (AOs.r AOs.e))
 refine CW.g XK 28 [.p,.e [1,2,4,6],.o 1] rfl rfl rfl ?_
 refine RW.v rfl (V.inc rfl rfl rfl hii hl2) ?_
 refine RW.g XK 28 [.o 1,.p] rfl rfl rfl ?_
 exact ⟨i + 1, by omega, ⟨by omega, item_step hr hdi (by simp_all [isKey, sEq])⟩, rfl, Le.c rfl <| Le.c rfl <| Le.c rfl <| Le.c rfl <| Le.e⟩
 have hii : k.items.length ≤ i := by have := h3; simp at this; first | exact this | omega | (simp; done) | (simp; omega)
 have hdi : k.items.drop i = [] := List.drop_eq_nil_of_le hii
 refine CW.exit ?_
 refine CW.g XK 28 [.e [4],.n 1,.e [4,5]] rfl rfl rfl ?_
 refine CW.ret ?_
 exact Post.tup (by decide) (RVs.c (RV.c (f := fun e => (Item.c e).map .w) (e' := (⟨⟨#[]⟩, ⟨#[]⟩, 0⟩ : Item)) rfl rfl rfl rfl (DT.v (DT.v (DT.v DT.e))) (by rw [item_no hr hdi]; try rfl)) (RVs.c (RV.b rfl (by rw [item_no hr hdi]; try rfl)) RVs.e)) (AOs.a rfl (AOs.r AOs.e))
end Go.Proofs.YtdipdkfbaehglaaGreatDoor.Y
