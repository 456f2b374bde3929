import Derived.Test.YtdipdkfbaehglaaGreatDoorWSoundF
namespace Go.Proofs.YtdipdkfbaehglaaGreatDoor.Y
open Go Go.RowKit Go.Eng Go.Proofs
set_option maxRecDepth 10000
set_option maxHeartbeats 4000000 in
theorem spec_l15Do_fn (k : Keep) (n : Int) (x : Command) (hok : okToKeep k) (hko : keepOk k = true) (hn : 1 ≤ n ∧ n ≤ 400000) : Eng.Fn E.P 71 [.ob ((Keep.c k).map .w), .one (.r (.v (.int .i64 n))), .agg ((Command.c x).map .r)] (.one (.one (.w (.v (.string ((doK k n x).2)))))) [.ob ((Keep.c ((doK k n x).1)).map .w), .one (.r (.v (.int .i64 n))), .agg ((Command.c x).map .r)] := by
 refine Eng.Fn.intro (E := E) (rvs := [.tmp 6]) Tryz.func71 rfl rfl rfl (by simp [outSlots, moved, rvSlot, sl]) ?_
 intro B g bo
 refine CW.g XK 98 [.e [0,1,2]] rfl rfl rfl ?_
 have hl1 : k.sessions.length ≤ maxLen := by have := hok.1.1; simp only [maxLen]; omega
 have hl2 : k.items.length ≤ maxLen := by have := hok.2.1; simp only [maxLen]; omega
 have hn1 := hn.1; have hn2 := hn.2
 refine CW.h XK 98 [.o 1] rfl ?_;(conv=>whnf);intro b1;(conv=>whnf);refine ⟨rfl,?_⟩
 refine RW.freezeB (ts := (Command.c x)) 5 rfl (DRd.r (DRd.r (DRd.r (DRd.r (DRd.r (DRd.r DRd.e)))))) ?_
 refine RW.g XK 98 [.o 1,.p,.e [0,1,5]] rfl rfl rfl ?_
 refine CW.anyJ2 (fc := [(0, (bo 0), [(g 0 0), (g 0 1)])]) (L0 := [(0, .obj (bo 0) [.w (sl 3 Session.c k.sessions) (g 0 0), .w (sl 3 Item.c k.items) (g 0 1)]), (1, I n), (5, .rp (Command.c x))]) 98 (fun (zz : Nat × (Nat → Nat → Value)) => match zz with | (bo2_9_1, go2_5_1) => [(7, .obj bo2_9_1 ((Item.c ((itemOf k x.key).1)).map .r)), (8, Bo ((itemOf k x.key).2))]) (fun all hall f hf b0 hb K hK => ?_) ?_
 have ro2_13 : ∀ B, ∀ (bo2_9_1 : Nat), ∀ (go2_5_1 : Nat → Nat → Value), RA f E B all 0 (bt 12 4095) ⟨98, [(7, .obj bo2_9_1 ((Item.c ((itemOf k x.key).1)).map .r)), (8, Bo ((itemOf k x.key).2))] ++ b0⟩ K := by
  intro B bo2_9_1 go2_5_1
  exact RA.of2 hall hf hb (RA.finH (Tell.of rfl) (by kernel_rfl) (hK (bo2_9_1, go2_5_1) _ rfl (Le.of rfl)))
 have ro2_12 : ∀ B, ∀ (bo2_9_1 : Nat), ∀ (go2_5_1 : Nat → Nat → Value), RA f E B all 2 (bt 12 1791) ⟨98, [(7, .obj bo2_9_1 ((Item.c ((itemOf k x.key).1)).map .r)), (11, .tup [.u, Bo ((itemOf k x.key).2)])] ++ b0⟩ K := by
  intro B bo2_9_1 go2_5_1
  refine RA.of2 hall hf hb (RA.stepH (L := [8]) (Tell.of rfl) (by kernel_rfl) (by simp) (RA.each ?_ (RA.each0)))
  refine RO.extract (d := Bo ((itemOf k x.key).2)) rfl rfl rfl rfl rfl (by decide) (Nat.le_of_ble_eq_true rfl) rfl rfl ?_
  refine RA.fr XK 98 0 [11] (bt 12 4095) rfl rfl (by kernel_rfl) (Tell.of rfl) ?_
  (conv=>whnf);refine ⟨rfl,fun B=>?_⟩
  exact RA.to2 hall hf hb (ro2_13 B bo2_9_1 go2_5_1) rfl rfl (by kernel_rfl)
 have ro2_11 : ∀ B, ∀ (bo2_9_1 : Nat), ∀ (go2_5_1 : Nat → Nat → Value), RA f E B all 2 (bt 12 1023) ⟨98, [(7, .obj bo2_9_1 [S (⟨#[]⟩), S (⟨#[]⟩), I 0]), (18, .agg ((Item.c ((itemOf k x.key).1)).map .r)), (19, Bo ((itemOf k x.key).2))] ++ b0⟩ K := by
  intro B bo2_9_1 go2_5_1
  refine RA.of2 hall hf hb (RA.stepH (L := [10]) (Tell.of rfl) (by kernel_rfl) (by simp) (RA.each ?_ (RA.each0)))
  refine RO.storeAgg (es := ((Item.c ((itemOf k x.key).1)).map .r)) rfl rfl rfl rfl rfl rfl rfl rfl rfl rfl (Nat.le_of_ble_eq_true rfl) rfl ?_
  refine RA.fr XK 98 0 [11] (bt 12 4095) rfl rfl (by kernel_rfl) (Tell.of rfl) ?_
  (conv=>whnf);refine ⟨rfl,fun B=>?_⟩
  exact RA.to2 hall hf hb (ro2_13 B bo2_9_1 go2_5_1) rfl rfl (by kernel_rfl)
 have ro2_10 : ∀ B, ∀ (bo2_9_1 : Nat), ∀ (go2_5_1 : Nat → Nat → Value), RA f E B all 3 (bt 12 895) ⟨98, [(7, .obj bo2_9_1 [S (⟨#[]⟩), S (⟨#[]⟩), I 0]), (11, .tup [.agg ((Item.c ((itemOf k x.key).1)).map .r), .u]), (19, Bo ((itemOf k x.key).2))] ++ b0⟩ K := by
  intro B bo2_9_1 go2_5_1
  refine RA.of2 hall hf hb (RA.stepH (L := [7]) (Tell.of rfl) (by kernel_rfl) (by simp) (RA.each ?_ (RA.each0)))
  refine RO.extract (d := .agg ((Item.c ((itemOf k x.key).1)).map .r)) rfl rfl rfl rfl rfl (by decide) (Nat.le_of_ble_eq_true rfl) rfl rfl ?_
  exact RA.to2 hall hf hb (ro2_11 B bo2_9_1 go2_5_1) rfl rfl (by kernel_rfl)
 have ro2_9 : ∀ B, ∀ (bo2_9_1 : Nat), ∀ (go2_5_1 : Nat → Nat → Value), RA f E B all 3 (bt 12 767) ⟨98, [(7, .obj bo2_9_1 [S (⟨#[]⟩), S (⟨#[]⟩), I 0]), (11, .tup [.u, Bo ((itemOf k x.key).2)]), (18, .agg ((Item.c ((itemOf k x.key).1)).map .r))] ++ b0⟩ K := by
  intro B bo2_9_1 go2_5_1
  refine RA.of2 hall hf hb (RA.stepH (L := [8, 10]) (Tell.of rfl) (by kernel_rfl) (by simp) (RA.each ?_ (RA.each ?_ (RA.each0))))
  refine RO.extract (d := Bo ((itemOf k x.key).2)) rfl rfl rfl rfl rfl (by decide) (Nat.le_of_ble_eq_true rfl) rfl rfl ?_
  exact RA.to2 hall hf hb (ro2_11 B bo2_9_1 go2_5_1) rfl rfl (by kernel_rfl)
  refine RO.storeAgg (es := ((Item.c ((itemOf k x.key).1)).map .r)) rfl rfl rfl rfl rfl rfl rfl rfl rfl rfl (Nat.le_of_ble_eq_true rfl) rfl ?_
  exact RA.to2 hall hf hb (ro2_12 B bo2_9_1 go2_5_1) rfl rfl (by kernel_rfl)
 have ro2_8 : ∀ B, ∀ (go2_5_1 : Nat → Nat → Value), RA f E B all 3 (bt 12 511) ⟨98, [(18, .agg ((Item.c ((itemOf k x.key).1)).map .r)), (19, Bo ((itemOf k x.key).2))] ++ b0⟩ K := by
  intro B go2_5_1
  refine RA.of2 hall hf hb (RA.stepH (L := [9]) (Tell.of rfl) (by kernel_rfl) (by simp) (RA.each ?_ (RA.each0)))
  refine RO.alloc (ds := [S (⟨#[]⟩), S (⟨#[]⟩), I 0]) rfl rfl rfl rfl rfl rfl fun bo2_9_1 => ?_
  exact RA.to2 hall hf hb (ro2_11 B bo2_9_1 go2_5_1) rfl rfl (by kernel_rfl)
 have ro2_7 : ∀ B, ∀ (bo2_9_1 : Nat), ∀ (go2_5_1 : Nat → Nat → Value), RA f E B all 4 (bt 12 639) ⟨98, [(7, .obj bo2_9_1 [S (⟨#[]⟩), S (⟨#[]⟩), I 0]), (11, .tup [.agg ((Item.c ((itemOf k x.key).1)).map .r), Bo ((itemOf k x.key).2)])] ++ b0⟩ K := by
  intro B bo2_9_1 go2_5_1
  refine RA.of2 hall hf hb (RA.stepH (L := [7, 8]) (Tell.of rfl) (by kernel_rfl) (by simp) (RA.each ?_ (RA.each ?_ (RA.each0))))
  refine RO.extract (d := .agg ((Item.c ((itemOf k x.key).1)).map .r)) rfl rfl rfl rfl rfl (by decide) (Nat.le_of_ble_eq_true rfl) rfl rfl ?_
  exact RA.to2 hall hf hb (ro2_9 B bo2_9_1 go2_5_1) rfl rfl (by kernel_rfl)
  refine RO.extract (d := Bo ((itemOf k x.key).2)) rfl rfl rfl rfl rfl (by decide) (Nat.le_of_ble_eq_true rfl) rfl rfl ?_
  exact RA.to2 hall hf hb (ro2_10 B bo2_9_1 go2_5_1) rfl rfl (by kernel_rfl)
 have ro2_6 : ∀ B, ∀ (go2_5_1 : Nat → Nat → Value), RA f E B all 4 (bt 12 383) ⟨98, [(11, .tup [.agg ((Item.c ((itemOf k x.key).1)).map .r), .u]), (19, Bo ((itemOf k x.key).2))] ++ b0⟩ K := by
  intro B go2_5_1
  refine RA.of2 hall hf hb (RA.stepH (L := [7, 9]) (Tell.of rfl) (by kernel_rfl) (by simp) (RA.each ?_ (RA.each ?_ (RA.each0))))
  refine RO.extract (d := .agg ((Item.c ((itemOf k x.key).1)).map .r)) rfl rfl rfl rfl rfl (by decide) (Nat.le_of_ble_eq_true rfl) rfl rfl ?_
  exact RA.to2 hall hf hb (ro2_8 B go2_5_1) rfl rfl (by kernel_rfl)
  refine RO.alloc (ds := [S (⟨#[]⟩), S (⟨#[]⟩), I 0]) rfl rfl rfl rfl rfl rfl fun bo2_9_1 => ?_
  exact RA.to2 hall hf hb (ro2_10 B bo2_9_1 go2_5_1) rfl rfl (by kernel_rfl)
 have ro2_5 : ∀ B, ∀ (go2_5_1 : Nat → Nat → Value), RA f E B all 4 (bt 12 255) ⟨98, [(11, .tup [.u, Bo ((itemOf k x.key).2)]), (18, .agg ((Item.c ((itemOf k x.key).1)).map .r))] ++ b0⟩ K := by
  intro B go2_5_1
  refine RA.of2 hall hf hb (RA.stepH (L := [8, 9]) (Tell.of rfl) (by kernel_rfl) (by simp) (RA.each ?_ (RA.each ?_ (RA.each0))))
  refine RO.extract (d := Bo ((itemOf k x.key).2)) rfl rfl rfl rfl rfl (by decide) (Nat.le_of_ble_eq_true rfl) rfl rfl ?_
  exact RA.to2 hall hf hb (ro2_8 B go2_5_1) rfl rfl (by kernel_rfl)
  refine RO.alloc (ds := [S (⟨#[]⟩), S (⟨#[]⟩), I 0]) rfl rfl rfl rfl rfl rfl fun bo2_9_1 => ?_
  exact RA.to2 hall hf hb (ro2_9 B bo2_9_1 go2_5_1) rfl rfl (by kernel_rfl)
 have ro2_4 : ∀ B, ∀ (bo2_9_1 : Nat), ∀ (go2_5_1 : Nat → Nat → Value), RA f E B all 5 (bt 12 575) ⟨98, [(7, .obj bo2_9_1 [S (⟨#[]⟩), S (⟨#[]⟩), I 0]), (17, .tup [.agg ((Item.c ((itemOf k x.key).1)).map .r), Bo ((itemOf k x.key).2)])] ++ b0⟩ K := by
  intro B bo2_9_1 go2_5_1
  refine RA.of2 hall hf hb (RA.stepH (L := [6]) (Tell.of rfl) (by kernel_rfl) (by simp) (RA.each ?_ (RA.each0)))
  refine RO.moveMove rfl rfl rfl rfl rfl (by decide) (Nat.le_of_ble_eq_true rfl) (Nat.le_of_ble_eq_true rfl) ?_
  exact RA.to2 hall hf hb (ro2_7 B bo2_9_1 go2_5_1) rfl rfl (by kernel_rfl)
 have ro2_3 : ∀ B, ∀ (go2_5_1 : Nat → Nat → Value), RA f E B all 5 (bt 12 127) ⟨98, [(11, .tup [.agg ((Item.c ((itemOf k x.key).1)).map .r), Bo ((itemOf k x.key).2)])] ++ b0⟩ K := by
  intro B go2_5_1
  refine RA.of2 hall hf hb (RA.stepH (L := [7, 8, 9]) (Tell.of rfl) (by kernel_rfl) (by simp) (RA.each ?_ (RA.each ?_ (RA.each ?_ (RA.each0)))))
  refine RO.extract (d := .agg ((Item.c ((itemOf k x.key).1)).map .r)) rfl rfl rfl rfl rfl (by decide) (Nat.le_of_ble_eq_true rfl) rfl rfl ?_
  exact RA.to2 hall hf hb (ro2_5 B go2_5_1) rfl rfl (by kernel_rfl)
  refine RO.extract (d := Bo ((itemOf k x.key).2)) rfl rfl rfl rfl rfl (by decide) (Nat.le_of_ble_eq_true rfl) rfl rfl ?_
  exact RA.to2 hall hf hb (ro2_6 B go2_5_1) rfl rfl (by kernel_rfl)
  refine RO.alloc (ds := [S (⟨#[]⟩), S (⟨#[]⟩), I 0]) rfl rfl rfl rfl rfl rfl fun bo2_9_1 => ?_
  exact RA.to2 hall hf hb (ro2_7 B bo2_9_1 go2_5_1) rfl rfl (by kernel_rfl)
 have ro2_2 : ∀ B, ∀ (bo2_9_1 : Nat), RA f E B all 6 (bt 12 543) ⟨98, [(7, .obj bo2_9_1 [S (⟨#[]⟩), S (⟨#[]⟩), I 0]), (14, .agg [.al 0 (some 0) 3 k.sessions.length (g 0 0) 0, .al 0 (some 1) 3 k.items.length (g 0 1) 0]), (16, S x.key)] ++ b0⟩ K := by
  intro B bo2_9_1
  refine RA.of2 hall hf hb (RA.stepH (L := [5]) (Tell.of rfl) (by kernel_rfl) (by simp) (RA.each ?_ (RA.each0)))
  refine RO.callOwn rfl rfl (spec_ItemOf_fn k x.key hok) rfl (.cons (.agg (.cons (.r (.alo (k := none) (i := 0) (j := 0) (sz := 3) (V := (g 0 0)) rfl rfl rfl nofun)) (.cons (.r (.alo (k := none) (i := 0) (j := 1) (sz := 3) (V := (g 0 1)) rfl rfl rfl nofun)) (.nil)))) (.cons (.one (.r .r)) (.nil))) rfl rfl fun go2_5_1 => ?_
  exact RA.to2 hall hf hb (ro2_4 B bo2_9_1 go2_5_1) rfl rfl (by kernel_rfl)
 have ro2_1 : ∀ B, ∀ (go2_5_1 : Nat → Nat → Value), RA f E B all 6 (bt 12 63) ⟨98, [(17, .tup [.agg ((Item.c ((itemOf k x.key).1)).map .r), Bo ((itemOf k x.key).2)])] ++ b0⟩ K := by
  intro B go2_5_1
  refine RA.of2 hall hf hb (RA.stepH (L := [6, 9]) (Tell.of rfl) (by kernel_rfl) (by simp) (RA.each ?_ (RA.each ?_ (RA.each0))))
  refine RO.moveMove rfl rfl rfl rfl rfl (by decide) (Nat.le_of_ble_eq_true rfl) (Nat.le_of_ble_eq_true rfl) ?_
  exact RA.to2 hall hf hb (ro2_3 B go2_5_1) rfl rfl (by kernel_rfl)
  refine RO.alloc (ds := [S (⟨#[]⟩), S (⟨#[]⟩), I 0]) rfl rfl rfl rfl rfl rfl fun bo2_9_1 => ?_
  exact RA.to2 hall hf hb (ro2_4 B bo2_9_1 go2_5_1) rfl rfl (by kernel_rfl)
 have ro2_0 : ∀ B, RA f E B all 7 (bt 12 31) ⟨98, [(14, .agg [.al 0 (some 0) 3 k.sessions.length (g 0 0) 0, .al 0 (some 1) 3 k.items.length (g 0 1) 0]), (16, S x.key)] ++ b0⟩ K := by
  intro B
  refine RA.of2 hall hf hb (RA.stepH (L := [5, 9]) (Tell.of rfl) (by kernel_rfl) (by simp) (RA.each ?_ (RA.each ?_ (RA.each0))))
  refine RO.callOwn rfl rfl (spec_ItemOf_fn k x.key hok) rfl (.cons (.agg (.cons (.r (.alo (k := none) (i := 0) (j := 0) (sz := 3) (V := (g 0 0)) rfl rfl rfl nofun)) (.cons (.r (.alo (k := none) (i := 0) (j := 1) (sz := 3) (V := (g 0 1)) rfl rfl rfl nofun)) (.nil)))) (.cons (.one (.r .r)) (.nil))) rfl rfl fun go2_5_1 => ?_
  exact RA.to2 hall hf hb (ro2_1 B go2_5_1) rfl rfl (by kernel_rfl)
  refine RO.alloc (ds := [S (⟨#[]⟩), S (⟨#[]⟩), I 0]) rfl rfl rfl rfl rfl rfl fun bo2_9_1 => ?_
  exact RA.to2 hall hf hb (ro2_2 B bo2_9_1) rfl rfl (by kernel_rfl)
 refine RA.start (by kernel_rfl) (by kernel_rfl) (m := 12) (ls' := (bt 12 0)) ?_
 refine RA.fr XK 98 7 [0,1,2,3,4] (bt 12 31) rfl rfl (by kernel_rfl) (Tell.of rfl) ?_
 (conv=>whnf);refine ⟨rfl,fun B=>?_⟩
 exact RA.to2 hall hf hb (ro2_0 B) rfl rfl (by kernel_rfl)
 rintro ⟨bo2_9_1, go2_5_1⟩
 refine CW.g XK 98 [.n 1,.e [0,1,5,7,8,21],.n 1,.e [0,1,5,7,8,21,22]] rfl rfl rfl ?_
 refine CW.cond rfl (fun h3 => ?_) (fun h3 => ?_)
 refine CW.g XK 98 [.n 1,.e [0,7,25]] rfl rfl rfl ?_
 refine CW.cond rfl (fun h4 => ?_) (fun h4 => ?_)
 refine CW.g XK 98 [.n 1,.e [0,6]] rfl rfl rfl ?_
 refine CW.ret ?_
 exact Post.one (RV.s rfl q1) (AOs.obE (f := fun e => (Keep.c e).map .w) (e' := k) rfl (DT.w (DT.w DT.e)) q1 (AOs.r (AOs.a rfl AOs.e)))
 refine CW.g XK 98 [.p,.e [0,7]] rfl rfl rfl ?_
 refine CW.anyJ2 (fc := [(0, (bo 0), [(g 0 0), (g 0 1)]), (7, bo2_9_1, [.string (((itemOf k x.key).1).key), .string (((itemOf k x.key).1).val), .int .i64 (((itemOf k x.key).1).ver)])]) (L0 := [(0, .obj (bo 0) [.w (sl 3 Session.c k.sessions) (g 0 0), .w (sl 3 Item.c k.items) (g 0 1)]), (7, .obj bo2_9_1 ((Item.c ((itemOf k x.key).1)).map .r))]) 98 (fun (go5_2_1 : (Nat → Nat → Value)) => [(6, S ((((⟨#[105, 115, 32]⟩ : ByteArray) ++ (itoaB (((itemOf k x.key).1).ver))) ++ (⟨#[32]⟩ : ByteArray)) ++ (((itemOf k x.key).1).val)))]) (fun all hall f hf b0 hb K hK => ?_) ?_
 have ro5_1 : ∀ B, ∀ (go5_2_1 : Nat → Nat → Value), RA f E B all 0 (bt 9 511) ⟨98, [(6, S ((((⟨#[105, 115, 32]⟩ : ByteArray) ++ (itoaB (((itemOf k x.key).1).ver))) ++ (⟨#[32]⟩ : ByteArray)) ++ (((itemOf k x.key).1).val)))] ++ b0⟩ K := by
  intro B go5_2_1
  exact RA.of2 hall hf hb (RA.finH (Tell.of rfl) (by kernel_rfl) (hK go5_2_1 _ rfl (Le.of rfl)))
 have ro5_0 : ∀ B, RA f E B all 5 (bt 9 99) ⟨98, [(27, I (((itemOf k x.key).1).ver)), (32, S (((itemOf k x.key).1).val))] ++ b0⟩ K := by
  intro B
  refine RA.of2 hall hf hb (RA.stepH (L := [2]) (Tell.of rfl) (by kernel_rfl) (by simp) (RA.each ?_ (RA.each0)))
  refine RO.call rfl rfl (spec_Decimal_fn (((itemOf k x.key).1).ver) q19) rfl (.cons (.one (.r .r)) (.nil)) rfl fun go5_2_1 => ?_
  refine RA.first (i := 3) (ls' := (bt 9 111)) (Tell.of rfl) (by kernel_rfl) rfl rfl rfl (VF.p (V.cat rfl rfl rfl q3)) ?_
  refine RA.first (i := 4) (ls' := (bt 9 127)) (Tell.of rfl) (by kernel_rfl) rfl rfl rfl (VF.p (V.cat rfl rfl rfl q3)) ?_
  refine RA.first (i := 7) (ls' := (bt 9 255)) (Tell.of rfl) (by kernel_rfl) rfl rfl rfl (VF.p (V.cat rfl rfl rfl q3)) ?_
  refine RA.fr XK 98 0 [8] (bt 9 511) rfl rfl (by kernel_rfl) (Tell.of rfl) ?_
  (conv=>whnf);refine ⟨rfl,fun B=>?_⟩
  exact RA.to2 hall hf hb (ro5_1 B go5_2_1) rfl rfl (by kernel_rfl)
 refine RA.start (by kernel_rfl) (by kernel_rfl) (m := 9) (ls' := (bt 9 0)) ?_
 refine RA.fr XK 98 5 [0,1,5,6] (bt 9 99) rfl rfl (by kernel_rfl) (Tell.of rfl) ?_
 (conv=>whnf);refine ⟨rfl,fun B=>?_⟩
 exact RA.to2 hall hf hb (ro5_0 B) rfl rfl (by kernel_rfl)
 rintro go5_2_1
 refine CW.ret ?_
 exact Post.one (RV.s rfl q1) (AOs.obE (f := fun e => (Keep.c e).map .w) (e' := k) rfl (DT.w (DT.w DT.e)) q1 (AOs.r (AOs.a rfl AOs.e)))
 refine CW.g XK 98 [.n 1,.e [0,1,5,7,8,21,34]] rfl rfl rfl ?_
 refine CW.cond rfl (fun h6 => ?_) (fun h6 => ?_)
 refine CW.g XK 98 [.n 1,.e [0,5,37]] rfl rfl rfl ?_
 refine CW.cond rfl (fun h7 => ?_) (fun h7 => ?_)
 refine CW.g XK 98 [.n 1,.e [0,6]] rfl rfl rfl ?_
 refine CW.ret ?_
 exact Post.one (RV.s rfl q1) (AOs.obE (f := fun e => (Keep.c e).map .w) (e' := k) rfl (DT.w (DT.w DT.e)) q1 (AOs.r (AOs.a rfl AOs.e)))
 refine CW.g XK 98 [.p,.e [0,5],.p,.p] rfl rfl rfl ?_
 refine RW.build0 Item.c rfl rfl rfl rfl rfl fun X8 => ?_
 refine RW.assignMove rfl rfl rfl (by decide) (Nat.le_of_ble_eq_true rfl) (Nat.le_of_ble_eq_true rfl) ?_
 refine RW.g XK 98 [.p,.e [0,5,9],.n 1,.e [0,5,9,10],.p] rfl rfl rfl ?_
 refine CW.loopI 98 (fun (zz : Nat × Value) => match zz with | (i, X) => [(0, .obj (bo 0) [.w (sl 3 Session.c k.sessions) (g 0 0), .w (sl 3 Item.c k.items) (g 0 1)]), (5, .rp (Command.c x)), (9, .w (sl 3 Item.c (withoutL (k.items.take i) x.key)) X), (10, I (i : Int))]) (fun (zz : Nat × Value) => match zz with | (i, X) => i ≤ k.items.length) (fun (zz : Nat × Value) => match zz with | (i, X) => k.items.length - i) (0, _) rfl (Le.c rfl <| Le.c rfl <| Le.c rfl <| Le.c rfl <| Le.e) (by omega) ?_
 rintro ⟨i, X⟩ hb
 refine CW.g XK 98 [.n 1,.e [0,5,9,10,45]] rfl rfl rfl ?_
 refine CW.cond rfl (fun h9 => ?_) (fun h9 => ?_)
 have hii : i < k.items.length := by have := h9; simp at this; first | exact this | omega | (simp; done) | (simp; omega)
 obtain ⟨ei, hei⟩ : ∃ e, k.items[i]? = some e := ⟨_, List.getElem?_eq_getElem hii⟩
 have hdi := drop_get hei
 refine CW.g XK 98 [.p,.e [0,5,9,10],.p,.p,.p] rfl rfl rfl ?_
 refine CW.drawn (by kernel_rfl) ?_
 refine RQ.k XK 98 5 rfl ?_
 (conv=>whnf);refine ⟨rfl,?_⟩
 refine RQ.swapO 51 0 1 (by decide) rfl rfl rfl ?_
 refine RQ.v rfl (V.indexW rfl rfl rfl rfl rfl rfl rfl hii) ?_
 refine RQ.k XK 98 1 rfl ?_
 (conv=>whnf);refine ⟨rfl,?_⟩
 refine RQ.v rfl (V.loadF (m := i) (off := 0) rfl rfl (.inl rfl) rfl rfl Item.len hei (by decide) rfl) ?_
 refine RQ.k XK 98 3 rfl ?_
 (conv=>whnf);refine ⟨rfl,?_⟩
 refine RQ.pullT (k := 0) (l := 51) (j := 1) 0 51 1 rfl rfl rfl (by decide) rfl rfl rfl ?_
 refine RQ.nil ?_
 refine CW.g XK 98 [.e [0,5,9,10,58]] rfl rfl rfl ?_
 refine CW.cond rfl (fun h10 => ?_) (fun h10 => ?_)
 refine CW.g XK 98 [.o 6] rfl rfl rfl ?_
 refine RW.swapO 63 0 1 (by decide) rfl rfl rfl ?_
 refine RW.v rfl (V.indexW rfl rfl rfl rfl rfl rfl rfl hii) ?_
 refine RW.v rfl (V.loadAggF (m := i) rfl rfl rfl rfl rfl Item.len hei (vs := Item.vs ei) rfl (by decide)) ?_
 refine RW.build1 (c := Item.c) (v := ei) rfl rfl rfl rfl rfl rfl (DW.v (DW.v (DW.v DW.e))) Item.len (by decide) (by decide) fun X11 => ?_
 refine RW.appendSR (c := Item.c) (l1 := (withoutL (k.items.take i) x.key)) (l2 := [ei]) rfl rfl rfl rfl rfl rfl rfl rfl (.al (k := none) (i := 67) (sz := 3) (V := X11) rfl rfl nofun) (by decide) (Nat.le_of_ble_eq_true rfl) Item.len (fun _ => rfl) rfl (by have h9 := without_len (k.items.take i) x.key; have h10 : (k.items.take i).length ≤ k.items.length := (by rw [List.length_take]; omega); have h11 := hok.2.1; simp only [maxLen, List.length_singleton]; omega) (by have h9 := without_len (k.items.take i) x.key; have h10 : (k.items.take i).length ≤ k.items.length := (by rw [List.length_take]; omega); have h11 := hok.2.1; simp only [maxLen, List.length_singleton]; omega) fun X12 => ?_
 refine RW.assignMove rfl rfl rfl (by decide) (Nat.le_of_ble_eq_true rfl) (Nat.le_of_ble_eq_true rfl) ?_
 refine RW.pullT (k := 0) (l := 63) (j := 1) 0 63 1 rfl rfl rfl (by decide) rfl rfl rfl ?_
 refine RW.g XK 98 [.p,.e [0,5,9,10],.o 1] rfl rfl rfl ?_
 refine RW.v rfl (V.inc rfl rfl rfl hii hl2) ?_
 refine RW.g XK 98 [.o 1,.p] rfl rfl rfl ?_
 exact ⟨(i + 1, _), by simp only []; omega, (by omega), rfl, Le.c rfl <| Le.c rfl <| Le.c (Dw_congr q42) <| Le.c rfl <| Le.e⟩
 refine CW.g XK 98 [.p,.e [0,5,9,10],.o 1] rfl rfl rfl ?_
 refine RW.v rfl (V.inc rfl rfl rfl hii hl2) ?_
 refine RW.g XK 98 [.o 1,.p] rfl rfl rfl ?_
 exact ⟨(i + 1, _), by simp only []; omega, (by omega), rfl, Le.c rfl <| Le.c rfl <| Le.c (Dw_congr q42) <| Le.c rfl <| Le.e⟩
 have hii : k.items.length ≤ i := by have := h9; simp at this; first | exact this | omega | (simp; done) | (simp; omega)
 have hdi : k.items.drop i = [] := List.drop_eq_nil_of_le hii
 refine CW.exit ?_
 refine CW.g XK 98 [.e [0,9],.o 5,.e [0,9]] rfl rfl rfl ?_
 refine RW.pullT (k := 0) (l := 9) (j := 1) 0 9 1 rfl rfl rfl (by decide) rfl rfl rfl ?_
 refine RW.g XK 98 [.e [0],.p,.e [0],.n 1,.e [0,6]] rfl rfl rfl ?_
 refine CW.ret ?_
 exact Post.one (RV.s rfl q1) (AOs.obE (f := fun e => (Keep.c e).map .w) (e' := (⟨k.sessions, (withoutL (k.items.take i) x.key)⟩ : Keep)) rfl (DT.w (DT.w DT.e)) q1 (AOs.r (AOs.a rfl AOs.e)))
 refine CW.g XK 98 [.n 1,.e [0,1,5,7,8,73]] rfl rfl rfl ?_
 refine CW.cond rfl (fun h13 => ?_) (fun h13 => ?_)
 refine CW.g XK 98 [.n 1,.e [0,1,5,7,76]] rfl rfl rfl ?_
 refine CW.cond rfl (fun h14 => ?_) (fun h14 => ?_)
 refine CW.g XK 98 [.n 1,.e [0,6]] rfl rfl rfl ?_
 refine CW.ret ?_
 exact Post.one (RV.s rfl q1) (AOs.obE (f := fun e => (Keep.c e).map .w) (e' := k) rfl (DT.w (DT.w DT.e)) q1 (AOs.r (AOs.a rfl AOs.e)))
 refine CW.g XK 98 [.p,.e [0,1,5,7],.n 1,.e [0,1,5,7,81]] rfl rfl rfl ?_
 refine CW.cond rfl (fun h15 => ?_) (fun h15 => ?_)
 refine CW.g XK 98 [.o 2] rfl rfl rfl ?_
 refine RW.call rfl (spec_Decimal_fn (((itemOf k x.key).1).ver) q19) rfl (.cons (.one (.r .r)) (.nil)) fun g16 => ?_
 refine RW.v rfl (V.cat rfl rfl rfl q3) ?_
 refine RW.g XK 98 [.o 1,.p,.e [0,6]] rfl rfl rfl ?_
 refine CW.ret ?_
 exact Post.one (RV.s rfl q1) (AOs.obE (f := fun e => (Keep.c e).map .w) (e' := k) rfl (DT.w (DT.w DT.e)) q1 (AOs.r (AOs.a rfl AOs.e)))
 refine CW.g XK 98 [.p,.e [0,1,5],.o 7] rfl rfl rfl ?_
 refine RW.callW (k := 0) (spec_l15Put_fn k (⟨x.key, x.val, n⟩ : Item) hok) rfl rfl (Nat.le_of_ble_eq_true rfl) (by decide) (.here (AsW.ob (DT.w (DT.w DT.e)) rfl) (.cons (.agg (.cons (.r .r) (.cons (.r .r) (.cons (.r .r) (.nil))))) (.nil))) rfl fun g17 q18 => ?_
 refine RW.g XK 98 [.o 1,.p,.e [0,1,94]] rfl rfl rfl ?_
 refine CW.cond rfl (fun h19 => ?_) (fun h19 => ?_)
 have hbg : bigP k (⟨x.key, x.val, n⟩ : Item) = true := by simpa using h19
 refine CW.g XK 98 [.n 1,.e [0,6]] rfl rfl rfl ?_
 refine CW.ret ?_
 exact Post.one (RV.s rfl q1) (AOs.obE (f := fun e => (Keep.c e).map .w) (e' := (putSK k (⟨x.key, x.val, n⟩ : Item))) rfl (DT.w (DT.w DT.e)) q1 (AOs.r (AOs.a rfl AOs.e)))
 have hbg : bigP k (⟨x.key, x.val, n⟩ : Item) = false := by simpa using h19
 refine CW.g XK 98 [.p,.e [0,1],.o 1] rfl rfl rfl ?_
 refine RW.call rfl (spec_Decimal_fn n q19) rfl (.cons (.one (.r .r)) (.nil)) fun g20 => ?_
 refine RW.v rfl (V.cat rfl rfl rfl q3) ?_
 refine RW.g XK 98 [.o 1,.p,.e [0,6]] rfl rfl rfl ?_
 refine CW.ret ?_
 exact Post.one (RV.s rfl q1) (AOs.obE (f := fun e => (Keep.c e).map .w) (e' := (putSK k (⟨x.key, x.val, n⟩ : Item))) rfl (DT.w (DT.w DT.e)) q1 (AOs.r (AOs.a rfl AOs.e)))
 refine CW.g XK 98 [.p,.e [0,1,5],.o 7] rfl rfl rfl ?_
 refine RW.callW (k := 0) (spec_l15Put_fn k (⟨x.key, x.val, n⟩ : Item) hok) rfl rfl (Nat.le_of_ble_eq_true rfl) (by decide) (.here (AsW.ob (DT.w (DT.w DT.e)) rfl) (.cons (.agg (.cons (.r .r) (.cons (.r .r) (.cons (.r .r) (.nil))))) (.nil))) rfl fun g21 q22 => ?_
 refine RW.g XK 98 [.o 1,.p,.e [0,1,94]] rfl rfl rfl ?_
 refine CW.cond rfl (fun h23 => ?_) (fun h23 => ?_)
 have hbg : bigP k (⟨x.key, x.val, n⟩ : Item) = true := by simpa using h23
 refine CW.g XK 98 [.n 1,.e [0,6]] rfl rfl rfl ?_
 refine CW.ret ?_
 exact Post.one (RV.s rfl q1) (AOs.obE (f := fun e => (Keep.c e).map .w) (e' := (putSK k (⟨x.key, x.val, n⟩ : Item))) rfl (DT.w (DT.w DT.e)) q1 (AOs.r (AOs.a rfl AOs.e)))
 have hbg : bigP k (⟨x.key, x.val, n⟩ : Item) = false := by simpa using h23
 refine CW.g XK 98 [.p,.e [0,1],.o 1] rfl rfl rfl ?_
 refine RW.call rfl (spec_Decimal_fn n q19) rfl (.cons (.one (.r .r)) (.nil)) fun g24 => ?_
 refine RW.v rfl (V.cat rfl rfl rfl q3) ?_
 refine RW.g XK 98 [.o 1,.p,.e [0,6]] rfl rfl rfl ?_
 refine CW.ret ?_
 exact Post.one (RV.s rfl q1) (AOs.obE (f := fun e => (Keep.c e).map .w) (e' := (putSK k (⟨x.key, x.val, n⟩ : Item))) rfl (DT.w (DT.w DT.e)) q1 (AOs.r (AOs.a rfl AOs.e)))
end Go.Proofs.YtdipdkfbaehglaaGreatDoor.Y
