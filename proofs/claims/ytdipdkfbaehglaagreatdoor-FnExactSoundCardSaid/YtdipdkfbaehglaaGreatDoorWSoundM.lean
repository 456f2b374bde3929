import Derived.Test.YtdipdkfbaehglaaGreatDoorWSoundL
namespace Go.Proofs.YtdipdkfbaehglaaGreatDoor.Y
open Go Go.RowKit Go.Eng Go.Proofs
set_option maxRecDepth 10000
set_option maxHeartbeats 4000000 in
theorem __impl_Keep__does_fn (k : Keep) (n : Int) (x : Command) (hok : okToKeep k) (hko : keepOk k = true) (hn : 1 ≤ n ∧ n ≤ 400000) : Eng.Fn E.P 124 [.ob ((Keep.c k).map .w), .one (.r (.v (.int .i64 n))), .agg ((Command.c x).map .r)] (.one (.one (.w (.v (.string ((doK k n x).2)))))) [.ob ((Keep.c ((doK k n x).1)).map .w), .one (.r (.v (.int .i64 n))), .agg ((Command.c x).map .r)] := by
 refine Eng.Fn.intro (E := E) (rvs := [.tmp 6]) Tryz.func124 rfl rfl rfl (by simp [outSlots, moved, rvSlot, sl]) ?_
 intro B g bo
 refine CW.g XK 72 [.e [0,1,2]] rfl rfl rfl ?_
 have hl1 : k.sessions.length ≤ maxLen := by have := hok.1.1; simp only [maxLen]; omega
 have hl2 : k.items.length ≤ maxLen := by have := hok.2.1; simp only [maxLen]; omega
 have hn1 := hn.1; have hn2 := hn.2
 refine CW.h XK 72 [.o 1] rfl ?_;(conv=>whnf);intro b1;(conv=>whnf);refine ⟨rfl,?_⟩
 refine RW.freezeB (ts := (Command.c x)) 5 rfl (DRd.r (DRd.r (DRd.r (DRd.r (DRd.r (DRd.r DRd.e)))))) ?_
 refine RW.g XK 72 [.o 1,.p,.e [0,1,5]] rfl rfl rfl ?_
 refine CW.anyJ2 (fc := [(0, (bo 0), [(g 0 0), (g 0 1)])]) (L0 := [(0, .obj (bo 0) [.w (sl 3 Session.c k.sessions) (g 0 0), .w (sl 3 Item.c k.items) (g 0 1)]), (1, I n), (5, .rp (Command.c x))]) 72 (fun (zz : Nat × (Nat → Nat → Value)) => match zz with | (bo2_9_1, go2_5_1) => [(7, .obj bo2_9_1 ((Item.c ((itemOf k x.key).1)).map .r)), (8, Bo ((itemOf k x.key).2))]) (fun all hall f hf b0 hb K hK => ?_) ?_
 have ro2_13 : ∀ B, ∀ (bo2_9_1 : Nat), ∀ (go2_5_1 : Nat → Nat → Value), RA f E B all 0 (bt 12 4095) ⟨72, [(7, .obj bo2_9_1 ((Item.c ((itemOf k x.key).1)).map .r)), (8, Bo ((itemOf k x.key).2))] ++ b0⟩ K := by
  intro B bo2_9_1 go2_5_1
  exact RA.of2 hall hf hb (RA.finH (Tell.of rfl) (by kernel_rfl) (hK (bo2_9_1, go2_5_1) _ rfl (Le.of rfl)))
 have ro2_12 : ∀ B, ∀ (bo2_9_1 : Nat), ∀ (go2_5_1 : Nat → Nat → Value), RA f E B all 2 (bt 12 1791) ⟨72, [(7, .obj bo2_9_1 ((Item.c ((itemOf k x.key).1)).map .r)), (9, .tup [.u, Bo ((itemOf k x.key).2)])] ++ b0⟩ K := by
  intro B bo2_9_1 go2_5_1
  refine RA.of2 hall hf hb (RA.stepH (L := [8]) (Tell.of rfl) (by kernel_rfl) (by simp) (RA.each ?_ (RA.each0)))
  refine RO.extract (d := Bo ((itemOf k x.key).2)) rfl rfl rfl rfl rfl (by decide) (Nat.le_of_ble_eq_true rfl) rfl rfl ?_
  refine RA.fr XK 72 0 [11] (bt 12 4095) rfl rfl (by kernel_rfl) (Tell.of rfl) ?_
  (conv=>whnf);refine ⟨rfl,fun B=>?_⟩
  exact RA.to2 hall hf hb (ro2_13 B bo2_9_1 go2_5_1) rfl rfl (by kernel_rfl)
 have ro2_11 : ∀ B, ∀ (bo2_9_1 : Nat), ∀ (go2_5_1 : Nat → Nat → Value), RA f E B all 2 (bt 12 1023) ⟨72, [(7, .obj bo2_9_1 [S (⟨#[]⟩), S (⟨#[]⟩), I 0]), (16, .agg ((Item.c ((itemOf k x.key).1)).map .r)), (17, Bo ((itemOf k x.key).2))] ++ b0⟩ K := by
  intro B bo2_9_1 go2_5_1
  refine RA.of2 hall hf hb (RA.stepH (L := [10]) (Tell.of rfl) (by kernel_rfl) (by simp) (RA.each ?_ (RA.each0)))
  refine RO.storeAgg (es := ((Item.c ((itemOf k x.key).1)).map .r)) rfl rfl rfl rfl rfl rfl rfl rfl rfl rfl (Nat.le_of_ble_eq_true rfl) rfl ?_
  refine RA.fr XK 72 0 [11] (bt 12 4095) rfl rfl (by kernel_rfl) (Tell.of rfl) ?_
  (conv=>whnf);refine ⟨rfl,fun B=>?_⟩
  exact RA.to2 hall hf hb (ro2_13 B bo2_9_1 go2_5_1) rfl rfl (by kernel_rfl)
 have ro2_10 : ∀ B, ∀ (bo2_9_1 : Nat), ∀ (go2_5_1 : Nat → Nat → Value), RA f E B all 3 (bt 12 895) ⟨72, [(7, .obj bo2_9_1 [S (⟨#[]⟩), S (⟨#[]⟩), I 0]), (9, .tup [.agg ((Item.c ((itemOf k x.key).1)).map .r), .u]), (17, Bo ((itemOf k x.key).2))] ++ b0⟩ K := by
  intro B bo2_9_1 go2_5_1
  refine RA.of2 hall hf hb (RA.stepH (L := [7]) (Tell.of rfl) (by kernel_rfl) (by simp) (RA.each ?_ (RA.each0)))
  refine RO.extract (d := .agg ((Item.c ((itemOf k x.key).1)).map .r)) rfl rfl rfl rfl rfl (by decide) (Nat.le_of_ble_eq_true rfl) rfl rfl ?_
  exact RA.to2 hall hf hb (ro2_11 B bo2_9_1 go2_5_1) rfl rfl (by kernel_rfl)
 have ro2_9 : ∀ B, ∀ (bo2_9_1 : Nat), ∀ (go2_5_1 : Nat → Nat → Value), RA f E B all 3 (bt 12 767) ⟨72, [(7, .obj bo2_9_1 [S (⟨#[]⟩), S (⟨#[]⟩), I 0]), (9, .tup [.u, Bo ((itemOf k x.key).2)]), (16, .agg ((Item.c ((itemOf k x.key).1)).map .r))] ++ b0⟩ K := by
  intro B bo2_9_1 go2_5_1
  refine RA.of2 hall hf hb (RA.stepH (L := [8, 10]) (Tell.of rfl) (by kernel_rfl) (by simp) (RA.each ?_ (RA.each ?_ (RA.each0))))
  refine RO.extract (d := Bo ((itemOf k x.key).2)) rfl rfl rfl rfl rfl (by decide) (Nat.le_of_ble_eq_true rfl) rfl rfl ?_
  exact RA.to2 hall hf hb (ro2_11 B bo2_9_1 go2_5_1) rfl rfl (by kernel_rfl)
  refine RO.storeAgg (es := ((Item.c ((itemOf k x.key).1)).map .r)) rfl rfl rfl rfl rfl rfl rfl rfl rfl rfl (Nat.le_of_ble_eq_true rfl) rfl ?_
  exact RA.to2 hall hf hb (ro2_12 B bo2_9_1 go2_5_1) rfl rfl (by kernel_rfl)
 have ro2_8 : ∀ B, ∀ (go2_5_1 : Nat → Nat → Value), RA f E B all 3 (bt 12 511) ⟨72, [(16, .agg ((Item.c ((itemOf k x.key).1)).map .r)), (17, Bo ((itemOf k x.key).2))] ++ b0⟩ K := by
  intro B go2_5_1
  refine RA.of2 hall hf hb (RA.stepH (L := [9]) (Tell.of rfl) (by kernel_rfl) (by simp) (RA.each ?_ (RA.each0)))
  refine RO.alloc (ds := [S (⟨#[]⟩), S (⟨#[]⟩), I 0]) rfl rfl rfl rfl rfl rfl fun bo2_9_1 => ?_
  exact RA.to2 hall hf hb (ro2_11 B bo2_9_1 go2_5_1) rfl rfl (by kernel_rfl)
 have ro2_7 : ∀ B, ∀ (bo2_9_1 : Nat), ∀ (go2_5_1 : Nat → Nat → Value), RA f E B all 4 (bt 12 639) ⟨72, [(7, .obj bo2_9_1 [S (⟨#[]⟩), S (⟨#[]⟩), I 0]), (9, .tup [.agg ((Item.c ((itemOf k x.key).1)).map .r), Bo ((itemOf k x.key).2)])] ++ b0⟩ K := by
  intro B bo2_9_1 go2_5_1
  refine RA.of2 hall hf hb (RA.stepH (L := [7, 8]) (Tell.of rfl) (by kernel_rfl) (by simp) (RA.each ?_ (RA.each ?_ (RA.each0))))
  refine RO.extract (d := .agg ((Item.c ((itemOf k x.key).1)).map .r)) rfl rfl rfl rfl rfl (by decide) (Nat.le_of_ble_eq_true rfl) rfl rfl ?_
  exact RA.to2 hall hf hb (ro2_9 B bo2_9_1 go2_5_1) rfl rfl (by kernel_rfl)
  refine RO.extract (d := Bo ((itemOf k x.key).2)) rfl rfl rfl rfl rfl (by decide) (Nat.le_of_ble_eq_true rfl) rfl rfl ?_
  exact RA.to2 hall hf hb (ro2_10 B bo2_9_1 go2_5_1) rfl rfl (by kernel_rfl)
 have ro2_6 : ∀ B, ∀ (go2_5_1 : Nat → Nat → Value), RA f E B all 4 (bt 12 383) ⟨72, [(9, .tup [.agg ((Item.c ((itemOf k x.key).1)).map .r), .u]), (17, Bo ((itemOf k x.key).2))] ++ b0⟩ K := by
  intro B go2_5_1
  refine RA.of2 hall hf hb (RA.stepH (L := [7, 9]) (Tell.of rfl) (by kernel_rfl) (by simp) (RA.each ?_ (RA.each ?_ (RA.each0))))
  refine RO.extract (d := .agg ((Item.c ((itemOf k x.key).1)).map .r)) rfl rfl rfl rfl rfl (by decide) (Nat.le_of_ble_eq_true rfl) rfl rfl ?_
  exact RA.to2 hall hf hb (ro2_8 B go2_5_1) rfl rfl (by kernel_rfl)
  refine RO.alloc (ds := [S (⟨#[]⟩), S (⟨#[]⟩), I 0]) rfl rfl rfl rfl rfl rfl fun bo2_9_1 => ?_
  exact RA.to2 hall hf hb (ro2_10 B bo2_9_1 go2_5_1) rfl rfl (by kernel_rfl)
 have ro2_5 : ∀ B, ∀ (go2_5_1 : Nat → Nat → Value), RA f E B all 4 (bt 12 255) ⟨72, [(9, .tup [.u, Bo ((itemOf k x.key).2)]), (16, .agg ((Item.c ((itemOf k x.key).1)).map .r))] ++ b0⟩ K := by
  intro B go2_5_1
  refine RA.of2 hall hf hb (RA.stepH (L := [8, 9]) (Tell.of rfl) (by kernel_rfl) (by simp) (RA.each ?_ (RA.each ?_ (RA.each0))))
  refine RO.extract (d := Bo ((itemOf k x.key).2)) rfl rfl rfl rfl rfl (by decide) (Nat.le_of_ble_eq_true rfl) rfl rfl ?_
  exact RA.to2 hall hf hb (ro2_8 B go2_5_1) rfl rfl (by kernel_rfl)
  refine RO.alloc (ds := [S (⟨#[]⟩), S (⟨#[]⟩), I 0]) rfl rfl rfl rfl rfl rfl fun bo2_9_1 => ?_
  exact RA.to2 hall hf hb (ro2_9 B bo2_9_1 go2_5_1) rfl rfl (by kernel_rfl)
 have ro2_4 : ∀ B, ∀ (bo2_9_1 : Nat), ∀ (go2_5_1 : Nat → Nat → Value), RA f E B all 5 (bt 12 575) ⟨72, [(7, .obj bo2_9_1 [S (⟨#[]⟩), S (⟨#[]⟩), I 0]), (15, .tup [.agg ((Item.c ((itemOf k x.key).1)).map .r), Bo ((itemOf k x.key).2)])] ++ b0⟩ K := by
  intro B bo2_9_1 go2_5_1
  refine RA.of2 hall hf hb (RA.stepH (L := [6]) (Tell.of rfl) (by kernel_rfl) (by simp) (RA.each ?_ (RA.each0)))
  refine RO.moveMove rfl rfl rfl rfl rfl (by decide) (Nat.le_of_ble_eq_true rfl) (Nat.le_of_ble_eq_true rfl) ?_
  exact RA.to2 hall hf hb (ro2_7 B bo2_9_1 go2_5_1) rfl rfl (by kernel_rfl)
 have ro2_3 : ∀ B, ∀ (go2_5_1 : Nat → Nat → Value), RA f E B all 5 (bt 12 127) ⟨72, [(9, .tup [.agg ((Item.c ((itemOf k x.key).1)).map .r), Bo ((itemOf k x.key).2)])] ++ b0⟩ K := by
  intro B go2_5_1
  refine RA.of2 hall hf hb (RA.stepH (L := [7, 8, 9]) (Tell.of rfl) (by kernel_rfl) (by simp) (RA.each ?_ (RA.each ?_ (RA.each ?_ (RA.each0)))))
  refine RO.extract (d := .agg ((Item.c ((itemOf k x.key).1)).map .r)) rfl rfl rfl rfl rfl (by decide) (Nat.le_of_ble_eq_true rfl) rfl rfl ?_
  exact RA.to2 hall hf hb (ro2_5 B go2_5_1) rfl rfl (by kernel_rfl)
  refine RO.extract (d := Bo ((itemOf k x.key).2)) rfl rfl rfl rfl rfl (by decide) (Nat.le_of_ble_eq_true rfl) rfl rfl ?_
  exact RA.to2 hall hf hb (ro2_6 B go2_5_1) rfl rfl (by kernel_rfl)
  refine RO.alloc (ds := [S (⟨#[]⟩), S (⟨#[]⟩), I 0]) rfl rfl rfl rfl rfl rfl fun bo2_9_1 => ?_
  exact RA.to2 hall hf hb (ro2_7 B bo2_9_1 go2_5_1) rfl rfl (by kernel_rfl)
 have ro2_2 : ∀ B, ∀ (bo2_9_1 : Nat), RA f E B all 6 (bt 12 543) ⟨72, [(7, .obj bo2_9_1 [S (⟨#[]⟩), S (⟨#[]⟩), I 0]), (12, .agg [.al 0 (some 0) 3 k.sessions.length (g 0 0) 0, .al 0 (some 1) 3 k.items.length (g 0 1) 0]), (14, S x.key)] ++ b0⟩ K := by
  intro B bo2_9_1
  refine RA.of2 hall hf hb (RA.stepH (L := [5]) (Tell.of rfl) (by kernel_rfl) (by simp) (RA.each ?_ (RA.each0)))
  refine RO.callOwn rfl rfl (impl_ItemOf_fn k x.key hok) rfl (.cons (.agg (.cons (.r (.alo (k := none) (i := 0) (j := 0) (sz := 3) (V := (g 0 0)) rfl rfl rfl nofun)) (.cons (.r (.alo (k := none) (i := 0) (j := 1) (sz := 3) (V := (g 0 1)) rfl rfl rfl nofun)) (.nil)))) (.cons (.one (.r .r)) (.nil))) rfl rfl fun go2_5_1 => ?_
  exact RA.to2 hall hf hb (ro2_4 B bo2_9_1 go2_5_1) rfl rfl (by kernel_rfl)
 have ro2_1 : ∀ B, ∀ (go2_5_1 : Nat → Nat → Value), RA f E B all 6 (bt 12 63) ⟨72, [(15, .tup [.agg ((Item.c ((itemOf k x.key).1)).map .r), Bo ((itemOf k x.key).2)])] ++ b0⟩ K := by
  intro B go2_5_1
  refine RA.of2 hall hf hb (RA.stepH (L := [6, 9]) (Tell.of rfl) (by kernel_rfl) (by simp) (RA.each ?_ (RA.each ?_ (RA.each0))))
  refine RO.moveMove rfl rfl rfl rfl rfl (by decide) (Nat.le_of_ble_eq_true rfl) (Nat.le_of_ble_eq_true rfl) ?_
  exact RA.to2 hall hf hb (ro2_3 B go2_5_1) rfl rfl (by kernel_rfl)
  refine RO.alloc (ds := [S (⟨#[]⟩), S (⟨#[]⟩), I 0]) rfl rfl rfl rfl rfl rfl fun bo2_9_1 => ?_
  exact RA.to2 hall hf hb (ro2_4 B bo2_9_1 go2_5_1) rfl rfl (by kernel_rfl)
 have ro2_0 : ∀ B, RA f E B all 7 (bt 12 31) ⟨72, [(12, .agg [.al 0 (some 0) 3 k.sessions.length (g 0 0) 0, .al 0 (some 1) 3 k.items.length (g 0 1) 0]), (14, S x.key)] ++ b0⟩ K := by
  intro B
  refine RA.of2 hall hf hb (RA.stepH (L := [5, 9]) (Tell.of rfl) (by kernel_rfl) (by simp) (RA.each ?_ (RA.each ?_ (RA.each0))))
  refine RO.callOwn rfl rfl (impl_ItemOf_fn k x.key hok) rfl (.cons (.agg (.cons (.r (.alo (k := none) (i := 0) (j := 0) (sz := 3) (V := (g 0 0)) rfl rfl rfl nofun)) (.cons (.r (.alo (k := none) (i := 0) (j := 1) (sz := 3) (V := (g 0 1)) rfl rfl rfl nofun)) (.nil)))) (.cons (.one (.r .r)) (.nil))) rfl rfl fun go2_5_1 => ?_
  exact RA.to2 hall hf hb (ro2_1 B go2_5_1) rfl rfl (by kernel_rfl)
  refine RO.alloc (ds := [S (⟨#[]⟩), S (⟨#[]⟩), I 0]) rfl rfl rfl rfl rfl rfl fun bo2_9_1 => ?_
  exact RA.to2 hall hf hb (ro2_2 B bo2_9_1) rfl rfl (by kernel_rfl)
 refine RA.start (by kernel_rfl) (by kernel_rfl) (m := 12) (ls' := (bt 12 0)) ?_
 refine RA.fr XK 72 7 [0,1,2,3,4] (bt 12 31) rfl rfl (by kernel_rfl) (Tell.of rfl) ?_
 (conv=>whnf);refine ⟨rfl,fun B=>?_⟩
 exact RA.to2 hall hf hb (ro2_0 B) rfl rfl (by kernel_rfl)
 rintro ⟨bo2_9_1, go2_5_1⟩
 refine CW.g XK 72 [.n 1,.e [0,1,5,7,8,19],.n 1,.e [0,1,5,7,8,19,20]] rfl rfl rfl ?_
 refine CW.cond rfl (fun h3 => ?_) (fun h3 => ?_)
 refine CW.g XK 72 [.n 1,.e [0,7,22]] rfl rfl rfl ?_
 refine CW.cond rfl (fun h4 => ?_) (fun h4 => ?_)
 refine CW.anyJ2 (fc := [(0, (bo 0), [(g 0 0), (g 0 1)]), (7, bo2_9_1, [.string (((itemOf k x.key).1).key), .string (((itemOf k x.key).1).val), .int .i64 (((itemOf k x.key).1).ver)])]) (L0 := [(0, .obj (bo 0) [.w (sl 3 Session.c k.sessions) (g 0 0), .w (sl 3 Item.c k.items) (g 0 1)]), (7, .obj bo2_9_1 ((Item.c ((itemOf k x.key).1)).map .r))]) 72 (fun (go5_2_1 : (Nat → Nat → Value)) => [(6, S ((((⟨#[105, 115, 32]⟩ : ByteArray) ++ (itoaB (((itemOf k x.key).1).ver))) ++ (⟨#[32]⟩ : ByteArray)) ++ (((itemOf k x.key).1).val)))]) (fun all hall f hf b0 hb K hK => ?_) ?_
 have ro5_1 : ∀ B, ∀ (go5_2_1 : Nat → Nat → Value), RA f E B all 0 (bt 9 511) ⟨72, [(6, S ((((⟨#[105, 115, 32]⟩ : ByteArray) ++ (itoaB (((itemOf k x.key).1).ver))) ++ (⟨#[32]⟩ : ByteArray)) ++ (((itemOf k x.key).1).val)))] ++ b0⟩ K := by
  intro B go5_2_1
  exact RA.of2 hall hf hb (RA.finH (Tell.of rfl) (by kernel_rfl) (hK go5_2_1 _ rfl (Le.of rfl)))
 have ro5_0 : ∀ B, RA f E B all 5 (bt 9 99) ⟨72, [(24, I (((itemOf k x.key).1).ver)), (29, S (((itemOf k x.key).1).val))] ++ b0⟩ K := by
  intro B
  refine RA.of2 hall hf hb (RA.stepH (L := [2]) (Tell.of rfl) (by kernel_rfl) (by simp) (RA.each ?_ (RA.each0)))
  refine RO.call rfl rfl (impl_Decimal_fn (((itemOf k x.key).1).ver) q17) rfl (.cons (.one (.r .r)) (.nil)) rfl fun go5_2_1 => ?_
  refine RA.first (i := 3) (ls' := (bt 9 111)) (Tell.of rfl) (by kernel_rfl) rfl rfl rfl (VF.p (V.cat rfl rfl rfl q3)) ?_
  refine RA.first (i := 4) (ls' := (bt 9 127)) (Tell.of rfl) (by kernel_rfl) rfl rfl rfl (VF.p (V.cat rfl rfl rfl q3)) ?_
  refine RA.first (i := 7) (ls' := (bt 9 255)) (Tell.of rfl) (by kernel_rfl) rfl rfl rfl (VF.p (V.cat rfl rfl rfl q3)) ?_
  refine RA.fr XK 72 0 [8] (bt 9 511) rfl rfl (by kernel_rfl) (Tell.of rfl) ?_
  (conv=>whnf);refine ⟨rfl,fun B=>?_⟩
  exact RA.to2 hall hf hb (ro5_1 B go5_2_1) rfl rfl (by kernel_rfl)
 refine RA.start (by kernel_rfl) (by kernel_rfl) (m := 9) (ls' := (bt 9 0)) ?_
 refine RA.fr XK 72 5 [0,1,5,6] (bt 9 99) rfl rfl (by kernel_rfl) (Tell.of rfl) ?_
 (conv=>whnf);refine ⟨rfl,fun B=>?_⟩
 exact RA.to2 hall hf hb (ro5_0 B) rfl rfl (by kernel_rfl)
 rintro go5_2_1
 refine CW.ret ?_
 exact Post.one (RV.s rfl q2) (AOs.obE (f := fun e => (Keep.c e).map .w) (e' := k) rfl (DT.w (DT.w DT.e)) q2 (AOs.r (AOs.a rfl AOs.e)))
 refine CW.g XK 72 [.p,.e [0],.n 1,.e [0,6]] rfl rfl rfl ?_
 refine CW.ret ?_
 exact Post.one (RV.s rfl q2) (AOs.obE (f := fun e => (Keep.c e).map .w) (e' := k) rfl (DT.w (DT.w DT.e)) q2 (AOs.r (AOs.a rfl AOs.e)))
 refine CW.g XK 72 [.n 1,.e [0,1,5,7,8,19,31]] rfl rfl rfl ?_
 refine CW.cond rfl (fun h6 => ?_) (fun h6 => ?_)
 refine CW.g XK 72 [.o 3] rfl rfl rfl ?_
 refine RW.callW (k := 0) (__impl_Keep__without_fn k x.key hok) rfl rfl (Nat.le_of_ble_eq_true rfl) (by decide) (.here (AsW.ob (DT.w (DT.w DT.e)) rfl) (.cons (.one (.r .r)) (.nil))) rfl fun g7 q8 => ?_
 refine RW.g XK 72 [.p,.e [0,8],.n 1,.e [0,37]] rfl rfl rfl ?_
 refine CW.cond rfl (fun h9 => ?_) (fun h9 => ?_)
 refine CW.g XK 72 [.n 1,.e [0,6]] rfl rfl rfl ?_
 refine CW.ret ?_
 exact Post.one (RV.s rfl q2) (AOs.obE (f := fun e => (Keep.c e).map .w) (e' := (withoutK k x.key)) rfl (DT.w (DT.w DT.e)) q2 (AOs.r (AOs.a rfl AOs.e)))
 refine CW.g XK 72 [.p,.e [0],.n 1,.e [0,6]] rfl rfl rfl ?_
 refine CW.ret ?_
 exact Post.one (RV.s rfl q2) (AOs.obE (f := fun e => (Keep.c e).map .w) (e' := (withoutK k x.key)) rfl (DT.w (DT.w DT.e)) q2 (AOs.r (AOs.a rfl AOs.e)))
 refine CW.g XK 72 [.n 1,.e [0,1,5,7,8,38]] rfl rfl rfl ?_
 refine CW.cond rfl (fun h10 => ?_) (fun h10 => ?_)
 refine CW.g XK 72 [.n 1,.e [0,1,5,7,8,41]] rfl rfl rfl ?_
 refine CW.cond rfl (fun h11 => ?_) (fun h11 => ?_)
 refine CW.g XK 72 [.n 1,.e [0,6]] rfl rfl rfl ?_
 refine CW.ret ?_
 exact Post.one (RV.s rfl q2) (AOs.obE (f := fun e => (Keep.c e).map .w) (e' := k) rfl (DT.w (DT.w DT.e)) q2 (AOs.r (AOs.a rfl AOs.e)))
 refine CW.g XK 72 [.p,.e [0,1,5,7,8],.n 1,.e [0,1,5,7,8,46]] rfl rfl rfl ?_
 refine CW.cond rfl (fun h12 => ?_) (fun h12 => ?_)
 refine CW.g XK 72 [.o 2] rfl rfl rfl ?_
 refine RW.call rfl (impl_Decimal_fn (((itemOf k x.key).1).ver) q17) rfl (.cons (.one (.r .r)) (.nil)) fun g13 => ?_
 refine RW.v rfl (V.cat rfl rfl rfl q3) ?_
 refine RW.g XK 72 [.o 1,.p,.e [0,6]] rfl rfl rfl ?_
 refine CW.ret ?_
 exact Post.one (RV.s rfl q2) (AOs.obE (f := fun e => (Keep.c e).map .w) (e' := k) rfl (DT.w (DT.w DT.e)) q2 (AOs.r (AOs.a rfl AOs.e)))
 refine CW.g XK 72 [.p,.e [0,1,5,8],.p] rfl rfl rfl ?_
 refine CW.seqJ 72 (fun (v14 : Bool) => [(0, .obj (bo 0) [.w (sl 3 Session.c k.sessions) (g 0 0), .w (sl 3 Item.c k.items) (g 0 1)]), (1, I n), (5, .rp (Command.c x)), (60, Bo v14)]) (fun v14 => v14 = ((!((itemOf k x.key).2)) && ((k.items.length : Int) == 8))) ?_ ?_
 refine CW.g XK 72 [.o 3] rfl rfl rfl ?_
 refine RW.gv rfl rfl rfl rfl (fun h15 => V.mv (d := .pt 0 (bo 0) 0) rfl rfl) (fun h15 => ?_) (fun h15 => ?_)
 refine RW.g XK 72 [.o 6,.p] rfl rfl rfl ?_
 exact ⟨_, by first | rfl | (simp_all; done) | (simp_all; omega) | grind, rfl, Le.of rfl⟩
 refine RW.g XK 72 [.o 6,.p] rfl rfl rfl ?_
 exact ⟨_, by first | rfl | (simp_all; done) | (simp_all; omega) | grind, rfl, Le.of rfl⟩
 intro v14 hv16
 refine CW.cond rfl (fun h17 => ?_) (fun h17 => ?_)
 refine CW.g XK 72 [.n 1,.e [0,6]] rfl rfl rfl ?_
 refine CW.ret ?_
 exact Post.one (RV.s rfl q2) (AOs.obE (f := fun e => (Keep.c e).map .w) (e' := k) rfl (DT.w (DT.w DT.e)) q2 (AOs.r (AOs.a rfl AOs.e)))
 refine CW.g XK 72 [.p,.e [0,1,5],.o 7] rfl rfl rfl ?_
 refine RW.callW (k := 0) (__impl_Keep__put_fn k (⟨x.key, x.val, n⟩ : Item) hok) rfl rfl (Nat.le_of_ble_eq_true rfl) (by decide) (.here (AsW.ob (DT.w (DT.w DT.e)) rfl) (.cons (.agg (.cons (.r .r) (.cons (.r .r) (.cons (.r .r) (.nil))))) (.nil))) rfl fun g18 q19 => ?_
 refine RW.g XK 72 [.p,.e [0,1],.o 1] rfl rfl rfl ?_
 refine RW.call rfl (impl_Decimal_fn n q17) rfl (.cons (.one (.r .r)) (.nil)) fun g20 => ?_
 refine RW.v rfl (V.cat rfl rfl rfl q3) ?_
 refine RW.g XK 72 [.o 1,.p,.e [0,6]] rfl rfl rfl ?_
 refine CW.ret ?_
 exact Post.one (RV.s rfl q2) (AOs.obE (f := fun e => (Keep.c e).map .w) (e' := (putK k (⟨x.key, x.val, n⟩ : Item))) rfl (DT.w (DT.w DT.e)) q2 (AOs.r (AOs.a rfl AOs.e)))
 refine CW.g XK 72 [.p,.e [0,1,5,8],.p] rfl rfl rfl ?_
 refine CW.seqJ 72 (fun (v21 : Bool) => [(0, .obj (bo 0) [.w (sl 3 Session.c k.sessions) (g 0 0), .w (sl 3 Item.c k.items) (g 0 1)]), (1, I n), (5, .rp (Command.c x)), (60, Bo v21)]) (fun v21 => v21 = ((!((itemOf k x.key).2)) && ((k.items.length : Int) == 8))) ?_ ?_
 refine CW.g XK 72 [.o 3] rfl rfl rfl ?_
 refine RW.gv rfl rfl rfl rfl (fun h22 => V.mv (d := .pt 0 (bo 0) 0) rfl rfl) (fun h22 => ?_) (fun h22 => ?_)
 refine RW.g XK 72 [.o 6,.p] rfl rfl rfl ?_
 exact ⟨_, by first | rfl | (simp_all; done) | (simp_all; omega) | grind, rfl, Le.of rfl⟩
 refine RW.g XK 72 [.o 6,.p] rfl rfl rfl ?_
 exact ⟨_, by first | rfl | (simp_all; done) | (simp_all; omega) | grind, rfl, Le.of rfl⟩
 intro v21 hv23
 refine CW.cond rfl (fun h24 => ?_) (fun h24 => ?_)
 refine CW.g XK 72 [.n 1,.e [0,6]] rfl rfl rfl ?_
 refine CW.ret ?_
 exact Post.one (RV.s rfl q2) (AOs.obE (f := fun e => (Keep.c e).map .w) (e' := k) rfl (DT.w (DT.w DT.e)) q2 (AOs.r (AOs.a rfl AOs.e)))
 refine CW.g XK 72 [.p,.e [0,1,5],.o 7] rfl rfl rfl ?_
 refine RW.callW (k := 0) (__impl_Keep__put_fn k (⟨x.key, x.val, n⟩ : Item) hok) rfl rfl (Nat.le_of_ble_eq_true rfl) (by decide) (.here (AsW.ob (DT.w (DT.w DT.e)) rfl) (.cons (.agg (.cons (.r .r) (.cons (.r .r) (.cons (.r .r) (.nil))))) (.nil))) rfl fun g25 q26 => ?_
 refine RW.g XK 72 [.p,.e [0,1],.o 1] rfl rfl rfl ?_
 refine RW.call rfl (impl_Decimal_fn n q17) rfl (.cons (.one (.r .r)) (.nil)) fun g27 => ?_
 refine RW.v rfl (V.cat rfl rfl rfl q3) ?_
 refine RW.g XK 72 [.o 1,.p,.e [0,6]] rfl rfl rfl ?_
 refine CW.ret ?_
 exact Post.one (RV.s rfl q2) (AOs.obE (f := fun e => (Keep.c e).map .w) (e' := (putK k (⟨x.key, x.val, n⟩ : Item))) rfl (DT.w (DT.w DT.e)) q2 (AOs.r (AOs.a rfl AOs.e)))
end Go.Proofs.YtdipdkfbaehglaaGreatDoor.Y
