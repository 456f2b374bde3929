import Derived.Test.YtdipdkfbaehglaaGreatDoorWSoundN
namespace Go.Proofs.YtdipdkfbaehglaaGreatDoor.Y
open Go Go.RowKit Go.Eng Go.Proofs
set_option maxRecDepth 10000
set_option maxHeartbeats 4000000 in
theorem impl_Versions_fn (w : World) (hok : okToWorld w) : Eng.Fn E.P 9 [.agg ((World.c w).map .r)] (.one (.one (.w (.v (.bool (pairs badApplied [] w.applied)))))) [.agg ((World.c w).map .r)] := by
 refine Eng.Fn.intro (E := E) (rvs := [.tmp 2]) Tryz.func9 rfl rfl rfl (by simp [outSlots, moved, rvSlot, sl]) ?_
 intro B g bo
 refine CW.g XK 42 [.e [0]] rfl rfl rfl ?_
 have hS : okSl okToServer w.servers := hok.2.1
 have hA : okSl okToApplied w.applied := hok.2.2.2.2.2.1
 have hEl : (ents w.applied).length ≤ 1048576 := Nat.le_trans (ents_len w.applied) hA.1
 have hLS : w.servers.length ≤ maxLen := by have := hS.1; simp only [maxLen]; omega
 refine CW.h XK 42 [.o 1] rfl ?_;(conv=>whnf);intro b1;(conv=>whnf);refine ⟨rfl,?_⟩
 refine RW.freezeB (ts := (World.c w)) 1 rfl (DRd.r (DRd.r (DRd.r (DRd.r (DRd.r (DRd.r (DRd.r DRd.e))))))) ?_
 refine RW.g XK 42 [.o 1,.p,.e [1],.o 2] rfl rfl rfl ?_
 refine RW.call rfl (impl_Entries_fn w.applied hA.1) rfl (.cons (.one (.r .r)) (.nil)) fun g2 => ?_
 refine RW.g XK 42 [.o 5,.p,.e [3,4],.n 1,.e [3,16]] rfl rfl rfl ?_
 refine CW.cond rfl (fun h3 => ?_) (fun h3 => ?_)
 have hno := nT h3
 refine CW.g XK 42 [.n 1,.e [2]] rfl rfl rfl ?_
 refine CW.ret ?_
 exact Post.one (RV.b rfl (by exact hno.symm)) (AOs.a rfl AOs.e)
 have hyes := nF h3
 refine CW.g XK 42 [.p,.e [3],.p,.p] rfl rfl rfl ?_
 refine RW.call rfl (impl_KeepNew_fn ) rfl (.nil) fun g4 => ?_
 refine RW.h XK 42 [.o 2,.e [3,5,17]] rfl ?_;(conv=>whnf);intro b5;(conv=>whnf);refine ⟨rfl,?_⟩
 refine RW.pullA (k := 5) (l := 17) (j := 0) 5 17 0 rfl rfl rfl (by decide) rfl rfl rfl rfl ?_
 refine RW.g XK 42 [.e [3,5,17]] rfl rfl rfl ?_
 refine RW.pullA (k := 5) (l := 17) (j := 1) 5 17 1 rfl rfl rfl (by decide) rfl rfl rfl rfl ?_
 refine RW.g XK 42 [.e [3,5],.p,.e [3,5],.n 1,.e [3,5,19,20],.p] rfl rfl rfl ?_
 refine CW.freeze 5 (d' := .obj b5 ((Keep.c keepNew).map .r)) rfl rfl ?_
 refine CW.loopI 42 (fun (zz : Nat × Keep) => match zz with | (i, k) => [(3, .r (sl 3 Entry.c (ents w.applied))), (5, .obj b5 ((Keep.c k).map .r)), (19, I ((ents w.applied).length : Int)), (20, I (i : Int))]) (fun (zz : Nat × Keep) => match zz with | (i, k) => ViP (ents w.applied) i k) (fun (zz : Nat × Keep) => match zz with | (i, k) => (ents w.applied).length - i) (0, keepNew) rfl (Le.c rfl <| Le.c rfl <| Le.c rfl <| Le.c rfl <| Le.e) (ViP.init _) ?_
 rintro ⟨i, k⟩ hP
 have hb := hP.le
 have hel9 : (ents w.applied).length ≤ maxLen := by simp only [maxLen]; omega
 refine CW.g XK 42 [.n 1,.e [3,5,19,20,21],.p] rfl rfl rfl ?_
 refine CW.cond rfl (fun h6 => ?_) (fun h6 => ?_)
 have hii : i < (ents w.applied).length := by have := h6; simp at this; first | exact this | omega | (simp; done) | (simp; omega)
 obtain ⟨ei, hei⟩ : ∃ e, (ents w.applied)[i]? = some e := ⟨_, List.getElem?_eq_getElem hii⟩
 have hdi := drop_get hei
 refine CW.g XK 42 [.p,.e [3,5,19,20],.n 1,.e [3,5,6,19,20]] rfl rfl rfl ?_
 refine CW.anyJ2 (fc := []) (L0 := [(3, .r (sl 3 Entry.c (ents w.applied))), (5, .obj b5 ((Keep.c k).map .r)), (19, I ((ents w.applied).length : Int)), (20, I (i : Int))]) 42 (fun (zz : Nat × (Nat → Nat → Value)) => match zz with | (bo7_12_1, go7_8_1) => [(7, .obj bo7_12_1 ((Keep.c ((foldR ((i + 1 : Nat) : Int) (((ents w.applied).drop i).take 1) 0 k).1)).map .r))]) (fun all hall f hf b0 hb K hK => ?_) ?_
 have ro7_15 : ∀ B, ∀ (bo7_12_1 : Nat), ∀ (go7_8_1 : Nat → Nat → Value), RA f E B all 0 (bt 15 32767) ⟨42, [(7, .obj bo7_12_1 ((Keep.c ((foldR ((i + 1 : Nat) : Int) (((ents w.applied).drop i).take 1) 0 k).1)).map .r))] ++ b0⟩ K := by
  intro B bo7_12_1 go7_8_1
  exact RA.of2 hall hf hb (RA.finH (Tell.of rfl) (by kernel_rfl) (hK (bo7_12_1, go7_8_1) _ rfl (Le.of rfl)))
 have ro7_14 : ∀ B, ∀ (bo7_12_1 : Nat), ∀ (go7_8_1 : Nat → Nat → Value), RA f E B all 2 (bt 15 14335) ⟨42, [(7, .obj bo7_12_1 ((Keep.c ((foldR ((i + 1 : Nat) : Int) (((ents w.applied).drop i).take 1) 0 k).1)).map .r)), (23, .tup [.u, .r (sl 1 cS ((foldR ((i + 1 : Nat) : Int) (((ents w.applied).drop i).take 1) 0 k).2))])] ++ b0⟩ K := by
  intro B bo7_12_1 go7_8_1
  refine RA.of2 hall hf hb (RA.stepH (L := [11]) (Tell.of rfl) (by kernel_rfl) (by simp) (RA.each ?_ (RA.each0)))
  refine RO.extract (d := .r (sl 1 cS ((foldR ((i + 1 : Nat) : Int) (((ents w.applied).drop i).take 1) 0 k).2))) rfl rfl rfl rfl rfl (by decide) (Nat.le_of_ble_eq_true rfl) rfl rfl ?_
  refine RA.fr XK 42 0 [14] (bt 15 32767) rfl rfl (by kernel_rfl) (Tell.of rfl) ?_
  (conv=>whnf);refine ⟨rfl,fun B=>?_⟩
  exact RA.to2 hall hf hb (ro7_15 B bo7_12_1 go7_8_1) rfl rfl (by kernel_rfl)
 have ro7_13 : ∀ B, ∀ (bo7_12_1 : Nat), ∀ (go7_8_1 : Nat → Nat → Value), RA f E B all 2 (bt 15 8191) ⟨42, [(7, .obj bo7_12_1 [.r (.v (.slice none 0 0)), .r (.v (.slice none 0 0))]), (33, .agg ((Keep.c ((foldR ((i + 1 : Nat) : Int) (((ents w.applied).drop i).take 1) 0 k).1)).map .r)), (34, .r (sl 1 cS ((foldR ((i + 1 : Nat) : Int) (((ents w.applied).drop i).take 1) 0 k).2)))] ++ b0⟩ K := by
  intro B bo7_12_1 go7_8_1
  refine RA.of2 hall hf hb (RA.stepH (L := [13]) (Tell.of rfl) (by kernel_rfl) (by simp) (RA.each ?_ (RA.each0)))
  refine RO.storeAgg (es := ((Keep.c ((foldR ((i + 1 : Nat) : Int) (((ents w.applied).drop i).take 1) 0 k).1)).map .r)) rfl rfl rfl rfl rfl rfl rfl rfl rfl rfl (Nat.le_of_ble_eq_true rfl) rfl ?_
  refine RA.fr XK 42 0 [14] (bt 15 32767) rfl rfl (by kernel_rfl) (Tell.of rfl) ?_
  (conv=>whnf);refine ⟨rfl,fun B=>?_⟩
  exact RA.to2 hall hf hb (ro7_15 B bo7_12_1 go7_8_1) rfl rfl (by kernel_rfl)
 have ro7_12 : ∀ B, ∀ (bo7_12_1 : Nat), ∀ (go7_8_1 : Nat → Nat → Value), RA f E B all 3 (bt 15 7167) ⟨42, [(7, .obj bo7_12_1 [.r (.v (.slice none 0 0)), .r (.v (.slice none 0 0))]), (23, .tup [.agg ((Keep.c ((foldR ((i + 1 : Nat) : Int) (((ents w.applied).drop i).take 1) 0 k).1)).map .r), .u]), (34, .r (sl 1 cS ((foldR ((i + 1 : Nat) : Int) (((ents w.applied).drop i).take 1) 0 k).2)))] ++ b0⟩ K := by
  intro B bo7_12_1 go7_8_1
  refine RA.of2 hall hf hb (RA.stepH (L := [10]) (Tell.of rfl) (by kernel_rfl) (by simp) (RA.each ?_ (RA.each0)))
  refine RO.extract (d := .agg ((Keep.c ((foldR ((i + 1 : Nat) : Int) (((ents w.applied).drop i).take 1) 0 k).1)).map .r)) rfl rfl rfl rfl rfl (by decide) (Nat.le_of_ble_eq_true rfl) rfl rfl ?_
  exact RA.to2 hall hf hb (ro7_13 B bo7_12_1 go7_8_1) rfl rfl (by kernel_rfl)
 have ro7_11 : ∀ B, ∀ (bo7_12_1 : Nat), ∀ (go7_8_1 : Nat → Nat → Value), RA f E B all 3 (bt 15 6143) ⟨42, [(7, .obj bo7_12_1 [.r (.v (.slice none 0 0)), .r (.v (.slice none 0 0))]), (23, .tup [.u, .r (sl 1 cS ((foldR ((i + 1 : Nat) : Int) (((ents w.applied).drop i).take 1) 0 k).2))]), (33, .agg ((Keep.c ((foldR ((i + 1 : Nat) : Int) (((ents w.applied).drop i).take 1) 0 k).1)).map .r))] ++ b0⟩ K := by
  intro B bo7_12_1 go7_8_1
  refine RA.of2 hall hf hb (RA.stepH (L := [11, 13]) (Tell.of rfl) (by kernel_rfl) (by simp) (RA.each ?_ (RA.each ?_ (RA.each0))))
  refine RO.extract (d := .r (sl 1 cS ((foldR ((i + 1 : Nat) : Int) (((ents w.applied).drop i).take 1) 0 k).2))) rfl rfl rfl rfl rfl (by decide) (Nat.le_of_ble_eq_true rfl) rfl rfl ?_
  exact RA.to2 hall hf hb (ro7_13 B bo7_12_1 go7_8_1) rfl rfl (by kernel_rfl)
  refine RO.storeAgg (es := ((Keep.c ((foldR ((i + 1 : Nat) : Int) (((ents w.applied).drop i).take 1) 0 k).1)).map .r)) rfl rfl rfl rfl rfl rfl rfl rfl rfl rfl (Nat.le_of_ble_eq_true rfl) rfl ?_
  exact RA.to2 hall hf hb (ro7_14 B bo7_12_1 go7_8_1) rfl rfl (by kernel_rfl)
 have ro7_10 : ∀ B, ∀ (go7_8_1 : Nat → Nat → Value), RA f E B all 3 (bt 15 4095) ⟨42, [(33, .agg ((Keep.c ((foldR ((i + 1 : Nat) : Int) (((ents w.applied).drop i).take 1) 0 k).1)).map .r)), (34, .r (sl 1 cS ((foldR ((i + 1 : Nat) : Int) (((ents w.applied).drop i).take 1) 0 k).2)))] ++ b0⟩ K := by
  intro B go7_8_1
  refine RA.of2 hall hf hb (RA.stepH (L := [12]) (Tell.of rfl) (by kernel_rfl) (by simp) (RA.each ?_ (RA.each0)))
  refine RO.alloc (ds := [.r (.v (.slice none 0 0)), .r (.v (.slice none 0 0))]) rfl rfl rfl rfl rfl rfl fun bo7_12_1 => ?_
  exact RA.to2 hall hf hb (ro7_13 B bo7_12_1 go7_8_1) rfl rfl (by kernel_rfl)
 have ro7_9 : ∀ B, ∀ (bo7_12_1 : Nat), ∀ (go7_8_1 : Nat → Nat → Value), RA f E B all 4 (bt 15 5119) ⟨42, [(7, .obj bo7_12_1 [.r (.v (.slice none 0 0)), .r (.v (.slice none 0 0))]), (23, .tup [.agg ((Keep.c ((foldR ((i + 1 : Nat) : Int) (((ents w.applied).drop i).take 1) 0 k).1)).map .r), .r (sl 1 cS ((foldR ((i + 1 : Nat) : Int) (((ents w.applied).drop i).take 1) 0 k).2))])] ++ b0⟩ K := by
  intro B bo7_12_1 go7_8_1
  refine RA.of2 hall hf hb (RA.stepH (L := [10, 11]) (Tell.of rfl) (by kernel_rfl) (by simp) (RA.each ?_ (RA.each ?_ (RA.each0))))
  refine RO.extract (d := .agg ((Keep.c ((foldR ((i + 1 : Nat) : Int) (((ents w.applied).drop i).take 1) 0 k).1)).map .r)) rfl rfl rfl rfl rfl (by decide) (Nat.le_of_ble_eq_true rfl) rfl rfl ?_
  exact RA.to2 hall hf hb (ro7_11 B bo7_12_1 go7_8_1) rfl rfl (by kernel_rfl)
  refine RO.extract (d := .r (sl 1 cS ((foldR ((i + 1 : Nat) : Int) (((ents w.applied).drop i).take 1) 0 k).2))) rfl rfl rfl rfl rfl (by decide) (Nat.le_of_ble_eq_true rfl) rfl rfl ?_
  exact RA.to2 hall hf hb (ro7_12 B bo7_12_1 go7_8_1) rfl rfl (by kernel_rfl)
 have ro7_8 : ∀ B, ∀ (go7_8_1 : Nat → Nat → Value), RA f E B all 4 (bt 15 3071) ⟨42, [(23, .tup [.agg ((Keep.c ((foldR ((i + 1 : Nat) : Int) (((ents w.applied).drop i).take 1) 0 k).1)).map .r), .u]), (34, .r (sl 1 cS ((foldR ((i + 1 : Nat) : Int) (((ents w.applied).drop i).take 1) 0 k).2)))] ++ b0⟩ K := by
  intro B go7_8_1
  refine RA.of2 hall hf hb (RA.stepH (L := [10, 12]) (Tell.of rfl) (by kernel_rfl) (by simp) (RA.each ?_ (RA.each ?_ (RA.each0))))
  refine RO.extract (d := .agg ((Keep.c ((foldR ((i + 1 : Nat) : Int) (((ents w.applied).drop i).take 1) 0 k).1)).map .r)) rfl rfl rfl rfl rfl (by decide) (Nat.le_of_ble_eq_true rfl) rfl rfl ?_
  exact RA.to2 hall hf hb (ro7_10 B go7_8_1) rfl rfl (by kernel_rfl)
  refine RO.alloc (ds := [.r (.v (.slice none 0 0)), .r (.v (.slice none 0 0))]) rfl rfl rfl rfl rfl rfl fun bo7_12_1 => ?_
  exact RA.to2 hall hf hb (ro7_12 B bo7_12_1 go7_8_1) rfl rfl (by kernel_rfl)
 have ro7_7 : ∀ B, ∀ (go7_8_1 : Nat → Nat → Value), RA f E B all 4 (bt 15 2047) ⟨42, [(23, .tup [.u, .r (sl 1 cS ((foldR ((i + 1 : Nat) : Int) (((ents w.applied).drop i).take 1) 0 k).2))]), (33, .agg ((Keep.c ((foldR ((i + 1 : Nat) : Int) (((ents w.applied).drop i).take 1) 0 k).1)).map .r))] ++ b0⟩ K := by
  intro B go7_8_1
  refine RA.of2 hall hf hb (RA.stepH (L := [11, 12]) (Tell.of rfl) (by kernel_rfl) (by simp) (RA.each ?_ (RA.each ?_ (RA.each0))))
  refine RO.extract (d := .r (sl 1 cS ((foldR ((i + 1 : Nat) : Int) (((ents w.applied).drop i).take 1) 0 k).2))) rfl rfl rfl rfl rfl (by decide) (Nat.le_of_ble_eq_true rfl) rfl rfl ?_
  exact RA.to2 hall hf hb (ro7_10 B go7_8_1) rfl rfl (by kernel_rfl)
  refine RO.alloc (ds := [.r (.v (.slice none 0 0)), .r (.v (.slice none 0 0))]) rfl rfl rfl rfl rfl rfl fun bo7_12_1 => ?_
  exact RA.to2 hall hf hb (ro7_11 B bo7_12_1 go7_8_1) rfl rfl (by kernel_rfl)
 have ro7_6 : ∀ B, ∀ (bo7_12_1 : Nat), ∀ (go7_8_1 : Nat → Nat → Value), RA f E B all 5 (bt 15 4607) ⟨42, [(7, .obj bo7_12_1 [.r (.v (.slice none 0 0)), .r (.v (.slice none 0 0))]), (32, .tup [.agg ((Keep.c ((foldR ((i + 1 : Nat) : Int) (((ents w.applied).drop i).take 1) 0 k).1)).map .r), .r (sl 1 cS ((foldR ((i + 1 : Nat) : Int) (((ents w.applied).drop i).take 1) 0 k).2))])] ++ b0⟩ K := by
  intro B bo7_12_1 go7_8_1
  refine RA.of2 hall hf hb (RA.stepH (L := [9]) (Tell.of rfl) (by kernel_rfl) (by simp) (RA.each ?_ (RA.each0)))
  refine RO.moveMove rfl rfl rfl rfl rfl (by decide) (Nat.le_of_ble_eq_true rfl) (Nat.le_of_ble_eq_true rfl) ?_
  exact RA.to2 hall hf hb (ro7_9 B bo7_12_1 go7_8_1) rfl rfl (by kernel_rfl)
 have ro7_5 : ∀ B, ∀ (go7_8_1 : Nat → Nat → Value), RA f E B all 5 (bt 15 1023) ⟨42, [(23, .tup [.agg ((Keep.c ((foldR ((i + 1 : Nat) : Int) (((ents w.applied).drop i).take 1) 0 k).1)).map .r), .r (sl 1 cS ((foldR ((i + 1 : Nat) : Int) (((ents w.applied).drop i).take 1) 0 k).2))])] ++ b0⟩ K := by
  intro B go7_8_1
  refine RA.of2 hall hf hb (RA.stepH (L := [10, 11, 12]) (Tell.of rfl) (by kernel_rfl) (by simp) (RA.each ?_ (RA.each ?_ (RA.each ?_ (RA.each0)))))
  refine RO.extract (d := .agg ((Keep.c ((foldR ((i + 1 : Nat) : Int) (((ents w.applied).drop i).take 1) 0 k).1)).map .r)) rfl rfl rfl rfl rfl (by decide) (Nat.le_of_ble_eq_true rfl) rfl rfl ?_
  exact RA.to2 hall hf hb (ro7_7 B go7_8_1) rfl rfl (by kernel_rfl)
  refine RO.extract (d := .r (sl 1 cS ((foldR ((i + 1 : Nat) : Int) (((ents w.applied).drop i).take 1) 0 k).2))) rfl rfl rfl rfl rfl (by decide) (Nat.le_of_ble_eq_true rfl) rfl rfl ?_
  exact RA.to2 hall hf hb (ro7_8 B go7_8_1) rfl rfl (by kernel_rfl)
  refine RO.alloc (ds := [.r (.v (.slice none 0 0)), .r (.v (.slice none 0 0))]) rfl rfl rfl rfl rfl rfl fun bo7_12_1 => ?_
  exact RA.to2 hall hf hb (ro7_9 B bo7_12_1 go7_8_1) rfl rfl (by kernel_rfl)
 have ro7_4 : ∀ B, ∀ (bo7_12_1 : Nat), RA f E B all 6 (bt 15 4351) ⟨42, [(7, .obj bo7_12_1 [.r (.v (.slice none 0 0)), .r (.v (.slice none 0 0))]), (24, .agg ((Keep.c k).map .r)), (29, .r (sl 3 Entry.c (((ents w.applied).drop i).take 1))), (31, I ((i + 1 : Nat) : Int))] ++ b0⟩ K := by
  intro B bo7_12_1
  refine RA.of2 hall hf hb (RA.stepH (L := [8]) (Tell.of rfl) (by kernel_rfl) (by simp) (RA.each ?_ (RA.each0)))
  refine RO.call rfl rfl (impl_Fold_fn k (((ents w.applied).drop i).take 1) ((i + 1 : Nat) : Int) hP.ok (take_in (drop_in (ents_in hA))) (by rw [List.length_take, List.length_drop]; omega)) rfl (.cons (.agg (.cons (.r .r) (.cons (.r .r) (.nil)))) (.cons (.one (.r .r)) (.cons (.one (.r .r)) (.nil)))) rfl fun go7_8_1 => ?_
  exact RA.to2 hall hf hb (ro7_6 B bo7_12_1 go7_8_1) rfl rfl (by kernel_rfl)
 have ro7_3 : ∀ B, ∀ (go7_8_1 : Nat → Nat → Value), RA f E B all 6 (bt 15 511) ⟨42, [(32, .tup [.agg ((Keep.c ((foldR ((i + 1 : Nat) : Int) (((ents w.applied).drop i).take 1) 0 k).1)).map .r), .r (sl 1 cS ((foldR ((i + 1 : Nat) : Int) (((ents w.applied).drop i).take 1) 0 k).2))])] ++ b0⟩ K := by
  intro B go7_8_1
  refine RA.of2 hall hf hb (RA.stepH (L := [9, 12]) (Tell.of rfl) (by kernel_rfl) (by simp) (RA.each ?_ (RA.each ?_ (RA.each0))))
  refine RO.moveMove rfl rfl rfl rfl rfl (by decide) (Nat.le_of_ble_eq_true rfl) (Nat.le_of_ble_eq_true rfl) ?_
  exact RA.to2 hall hf hb (ro7_5 B go7_8_1) rfl rfl (by kernel_rfl)
  refine RO.alloc (ds := [.r (.v (.slice none 0 0)), .r (.v (.slice none 0 0))]) rfl rfl rfl rfl rfl rfl fun bo7_12_1 => ?_
  exact RA.to2 hall hf hb (ro7_6 B bo7_12_1 go7_8_1) rfl rfl (by kernel_rfl)
 have ro7_2 : ∀ B, ∀ (bo7_12_1 : Nat), RA f E B all 7 (bt 15 4350) ⟨42, [(7, .obj bo7_12_1 [.r (.v (.slice none 0 0)), .r (.v (.slice none 0 0))]), (29, .r (sl 3 Entry.c (((ents w.applied).drop i).take 1))), (31, I ((i + 1 : Nat) : Int))] ++ b0⟩ K := by
  intro B bo7_12_1
  refine RA.of2 hall hf hb (RA.stepH (L := [0]) (Tell.of rfl) (by kernel_rfl) (by simp) (RA.each ?_ (RA.each0)))
  refine RO.v rfl rfl (V.loadAgg rfl rfl rfl rfl rfl (Nat.le_of_ble_eq_true rfl)) rfl ?_
  exact RA.to2 hall hf hb (ro7_4 B bo7_12_1) rfl rfl (by kernel_rfl)
 have ro7_1 : ∀ B, RA f E B all 7 (bt 15 255) ⟨42, [(24, .agg ((Keep.c k).map .r)), (29, .r (sl 3 Entry.c (((ents w.applied).drop i).take 1))), (31, I ((i + 1 : Nat) : Int))] ++ b0⟩ K := by
  intro B
  refine RA.of2 hall hf hb (RA.stepH (L := [8, 12]) (Tell.of rfl) (by kernel_rfl) (by simp) (RA.each ?_ (RA.each ?_ (RA.each0))))
  refine RO.call rfl rfl (impl_Fold_fn k (((ents w.applied).drop i).take 1) ((i + 1 : Nat) : Int) hP.ok (take_in (drop_in (ents_in hA))) (by rw [List.length_take, List.length_drop]; omega)) rfl (.cons (.agg (.cons (.r .r) (.cons (.r .r) (.nil)))) (.cons (.one (.r .r)) (.cons (.one (.r .r)) (.nil)))) rfl fun go7_8_1 => ?_
  exact RA.to2 hall hf hb (ro7_3 B go7_8_1) rfl rfl (by kernel_rfl)
  refine RO.alloc (ds := [.r (.v (.slice none 0 0)), .r (.v (.slice none 0 0))]) rfl rfl rfl rfl rfl rfl fun bo7_12_1 => ?_
  exact RA.to2 hall hf hb (ro7_4 B bo7_12_1) rfl rfl (by kernel_rfl)
 have ro7_0 : ∀ B, RA f E B all 8 (bt 15 254) ⟨42, [(29, .r (sl 3 Entry.c (((ents w.applied).drop i).take 1))), (31, I ((i + 1 : Nat) : Int))] ++ b0⟩ K := by
  intro B
  refine RA.of2 hall hf hb (RA.stepH (L := [0, 12]) (Tell.of rfl) (by kernel_rfl) (by simp) (RA.each ?_ (RA.each ?_ (RA.each0))))
  refine RO.v rfl rfl (V.loadAgg rfl rfl rfl rfl rfl (Nat.le_of_ble_eq_true rfl)) rfl ?_
  exact RA.to2 hall hf hb (ro7_1 B) rfl rfl (by kernel_rfl)
  refine RO.alloc (ds := [.r (.v (.slice none 0 0)), .r (.v (.slice none 0 0))]) rfl rfl rfl rfl rfl rfl fun bo7_12_1 => ?_
  exact RA.to2 hall hf hb (ro7_2 B bo7_12_1) rfl rfl (by kernel_rfl)
 refine RA.start (by kernel_rfl) (by kernel_rfl) (m := 15) (ls' := (bt 15 0)) ?_
 refine RA.fr XK 42 12 [1,2,3] (bt 15 14) rfl rfl (by kernel_rfl) (Tell.of rfl) ?_
 (conv=>whnf);refine ⟨rfl,fun B=>?_⟩
 refine RA.first (i := 4) (ls' := (bt 15 30)) (Tell.of rfl) (by kernel_rfl) rfl rfl rfl (VF.p (V.inc rfl rfl rfl hii hel9)) ?_
 refine RA.first (i := 5) (ls' := (bt 15 62)) (Tell.of rfl) (by kernel_rfl) rfl rfl rfl (VF.p (V.midS (m := i) (q := 1) rfl rfl rfl rfl rfl rfl rfl rfl rfl Entry.len (by omega))) ?_
 refine RA.fr XK 42 9 [6] (bt 15 126) rfl rfl (by kernel_rfl) (Tell.of rfl) ?_
 (conv=>whnf);refine ⟨rfl,fun B=>?_⟩
 refine RA.first (i := 7) (ls' := (bt 15 254)) (Tell.of rfl) (by kernel_rfl) rfl rfl rfl (VF.p (V.inc rfl rfl rfl hii hel9)) ?_
 exact RA.to2 hall hf hb (ro7_0 B) rfl rfl (by kernel_rfl)
 rintro ⟨bo7_12_1, go7_8_1⟩
 refine CW.g XK 42 [.o 3] rfl rfl rfl ?_
 refine RW.call rfl (impl_versionsOk_fn k ((foldR ((i + 1 : Nat) : Int) (((ents w.applied).drop i).take 1) 0 k).1) (ents w.applied) hP.ok.okTo (foldR_ok _ _ _ _ hP.ok).okTo hEl) rfl (.cons (.agg (.cons (.r .r) (.cons (.r .r) (.nil)))) (.cons (.agg (.cons (.r .r) (.cons (.r .r) (.nil)))) (.cons (.one (.r .r)) (.nil)))) fun g8 => ?_
 refine RW.g XK 42 [.o 1,.p,.e [3,5,7,19,20,39]] rfl rfl rfl ?_
 refine CW.cond rfl (fun h9 => ?_) (fun h9 => ?_)
 have hbad := nT h9
 refine CW.g XK 42 [.n 1,.e [2]] rfl rfl rfl ?_
 refine CW.ret ?_
 exact Post.one (RV.b rfl (by exfalso; exact vi_bad hP hei hEl hbad)) (AOs.a rfl AOs.e)
 refine CW.g XK 42 [.p,.e [3,5,7,19,20],.o 2,.p,.e [3,5,19,20],.p] rfl rfl rfl ?_
 refine RW.v rfl (V.inc rfl rfl rfl hii hel9) ?_
 refine RW.g XK 42 [.o 1,.p] rfl rfl rfl ?_
 exact ⟨(i + 1, ((foldR ((i + 1 : Nat) : Int) (((ents w.applied).drop i).take 1) 0 k).1)), by simp only []; omega, (vi_next hP hei hEl), rfl, Le.c rfl <| Le.c rfl <| Le.c rfl <| Le.c rfl <| Le.e⟩
 have hii : (ents w.applied).length ≤ i := by have := h6; simp at this; first | exact this | omega | (simp; done) | (simp; omega)
 have hdi : (ents w.applied).drop i = [] := List.drop_eq_nil_of_le hii
 refine CW.exit ?_
 refine CW.g XK 42 [.e [],.n 1,.e [2]] rfl rfl rfl ?_
 refine CW.ret ?_
 exact Post.one (RV.b rfl (by exact hyes.symm)) (AOs.a rfl AOs.e)
set_option maxHeartbeats 4000000 in
theorem laws_eqBoolS_fn (a : List Bool) (b : List Bool) : Eng.Fn E.P 39 [.one (.r (sl 1 cB a)), .one (.r (sl 1 cB b))] (.one (.one (.w (.v (.bool (eqS eqB a b)))))) [.one (.r (sl 1 cB a)), .one (.r (sl 1 cB b))] := by
 refine Eng.Fn.intro (E := E) (rvs := [.tmp 4]) Tryz.func39 rfl rfl rfl (by simp [outSlots, moved, rvSlot, sl]) ?_
 intro B g bo
 refine CW.bound (x := .tmp 0) (n := a.length) (AsT.r) (fun hl0 => ?_)
 refine CW.bound (x := .tmp 1) (n := b.length) (AsT.r) (fun hl1 => ?_)
 refine CW.g XK 26 [.e [0,1],.n 1,.e [0,1],.n 1,.e [0,1,10]] rfl rfl rfl ?_
 refine CW.cond rfl (fun h1 => ?_) (fun h1 => ?_)
 refine CW.g XK 26 [.n 1,.e [4]] rfl rfl rfl ?_
 refine CW.ret ?_
 exact Post.one (RV.b rfl q7) (AOs.r (AOs.r AOs.e))
 refine CW.g XK 26 [.p,.e [0,1],.n 1,.e [0,1,5],.p] rfl rfl rfl ?_
 refine CW.loopI 26 (fun (i : Nat) => [(0, .r (sl 1 cB a)), (1, .r (sl 1 cB b)), (5, I (i : Int))]) (fun (i : Nat) => i ≤ a.length ∧ eqS eqB (a.drop i) (b.drop i) = eqS eqB a b) (fun (i : Nat) => a.length - i) 0 rfl (Le.c rfl <| Le.c rfl <| Le.c rfl <| Le.e) ⟨by omega, by simp⟩ ?_
 rintro i ⟨hb, hr⟩
 have hlen : a.length = b.length := by simp at h1; omega
 refine CW.g XK 26 [.n 1,.e [0,1,5,14]] rfl rfl rfl ?_
 refine CW.cond rfl (fun h2 => ?_) (fun h2 => ?_)
 have hii : i < a.length := by have := h2; simp at this; first | exact this | omega | (simp; done) | (simp; omega)
 obtain ⟨ei, hei⟩ : ∃ e, a[i]? = some e := ⟨_, List.getElem?_eq_getElem hii⟩
 have hdi := drop_get hei
 have hib : i < b.length := by omega
 obtain ⟨eb, heb⟩ : ∃ e, b[i]? = some e := ⟨_, List.getElem?_eq_getElem hib⟩
 have hdb := drop_get heb
 refine CW.g XK 26 [.p,.e [0,1,5],.p,.p,.p] rfl rfl rfl ?_
 refine CW.drawn (by kernel_rfl) ?_
 refine RQ.k XK 26 2 rfl ?_
 (conv=>whnf);refine ⟨rfl,?_⟩
 refine RQ.v rfl (V.indexS rfl rfl rfl rfl rfl rfl cB.len hei) ?_
 refine RQ.k XK 26 3 rfl ?_
 (conv=>whnf);refine ⟨rfl,?_⟩
 refine RQ.v rfl (V.indexS rfl rfl rfl rfl rfl rfl cB.len heb) ?_
 refine RQ.k XK 26 1 rfl ?_
 (conv=>whnf);refine ⟨rfl,?_⟩
 refine RQ.v rfl (V.eqBool rfl rfl rfl (by kernel_rfl) (.inr ⟨rfl, rfl⟩)) ?_
 refine RQ.nil ?_
 refine CW.g XK 26 [.e [0,1,5,25]] rfl rfl rfl ?_
 refine CW.cond rfl (fun h3 => ?_) (fun h3 => ?_)
 refine CW.g XK 26 [.n 1,.e [4]] rfl rfl rfl ?_
 refine CW.ret ?_
 exact Post.one (RV.b rfl q7) (AOs.r (AOs.r AOs.e))
 refine CW.g XK 26 [.p,.e [0,1,5],.o 1] rfl rfl rfl ?_
 refine RW.v rfl (V.inc rfl rfl rfl hii hl0) ?_
 refine RW.g XK 26 [.o 1,.p] rfl rfl rfl ?_
 exact ⟨i + 1, by omega, ⟨by omega, by simp_all [eqS, eqI, eqStr, eqB]⟩, rfl, Le.c rfl <| Le.c rfl <| Le.c rfl <| Le.e⟩
 have hii : a.length ≤ i := by have := h2; simp at this; first | exact this | omega | (simp; done) | (simp; omega)
 have hdi : a.drop i = [] := List.drop_eq_nil_of_le hii
 refine CW.exit ?_
 refine CW.g XK 26 [.e [],.n 1,.e [4]] rfl rfl rfl ?_
 refine CW.ret ?_
 exact Post.one (RV.b rfl q12) (AOs.r (AOs.r AOs.e))
set_option maxHeartbeats 4000000 in
theorem laws_eqIntS_fn (a : List Int) (b : List Int) : Eng.Fn E.P 130 [.one (.r (sl 1 cI a)), .one (.r (sl 1 cI b))] (.one (.one (.w (.v (.bool (eqS eqI a b)))))) [.one (.r (sl 1 cI a)), .one (.r (sl 1 cI b))] := by
 refine Eng.Fn.intro (E := E) (rvs := [.tmp 4]) Tryz.func130 rfl rfl rfl (by simp [outSlots, moved, rvSlot, sl]) ?_
 intro B g bo
 refine CW.bound (x := .tmp 0) (n := a.length) (AsT.r) (fun hl0 => ?_)
 refine CW.bound (x := .tmp 1) (n := b.length) (AsT.r) (fun hl1 => ?_)
 refine CW.g XK 26 [.e [0,1],.n 1,.e [0,1],.n 1,.e [0,1,10]] rfl rfl rfl ?_
 refine CW.cond rfl (fun h1 => ?_) (fun h1 => ?_)
 refine CW.g XK 26 [.n 1,.e [4]] rfl rfl rfl ?_
 refine CW.ret ?_
 exact Post.one (RV.b rfl q7) (AOs.r (AOs.r AOs.e))
 refine CW.g XK 26 [.p,.e [0,1],.n 1,.e [0,1,5],.p] rfl rfl rfl ?_
 refine CW.loopI 26 (fun (i : Nat) => [(0, .r (sl 1 cI a)), (1, .r (sl 1 cI b)), (5, I (i : Int))]) (fun (i : Nat) => i ≤ a.length ∧ eqS eqI (a.drop i) (b.drop i) = eqS eqI a b) (fun (i : Nat) => a.length - i) 0 rfl (Le.c rfl <| Le.c rfl <| Le.c rfl <| Le.e) ⟨by omega, by simp⟩ ?_
 rintro i ⟨hb, hr⟩
 have hlen : a.length = b.length := by simp at h1; omega
 refine CW.g XK 26 [.n 1,.e [0,1,5,14]] rfl rfl rfl ?_
 refine CW.cond rfl (fun h2 => ?_) (fun h2 => ?_)
 have hii : i < a.length := by have := h2; simp at this; first | exact this | omega | (simp; done) | (simp; omega)
 obtain ⟨ei, hei⟩ : ∃ e, a[i]? = some e := ⟨_, List.getElem?_eq_getElem hii⟩
 have hdi := drop_get hei
 have hib : i < b.length := by omega
 obtain ⟨eb, heb⟩ : ∃ e, b[i]? = some e := ⟨_, List.getElem?_eq_getElem hib⟩
 have hdb := drop_get heb
 refine CW.g XK 26 [.p,.e [0,1,5],.p,.p,.p] rfl rfl rfl ?_
 refine CW.drawn (by kernel_rfl) ?_
 refine RQ.k XK 26 2 rfl ?_
 (conv=>whnf);refine ⟨rfl,?_⟩
 refine RQ.v rfl (V.indexS rfl rfl rfl rfl rfl rfl cI.len hei) ?_
 refine RQ.k XK 26 3 rfl ?_
 (conv=>whnf);refine ⟨rfl,?_⟩
 refine RQ.v rfl (V.indexS rfl rfl rfl rfl rfl rfl cI.len heb) ?_
 refine RQ.k XK 26 2 rfl ?_
 (conv=>whnf);refine ⟨rfl,?_⟩
 refine RQ.nil ?_
 refine CW.g XK 26 [.e [0,1,5,25]] rfl rfl rfl ?_
 refine CW.cond rfl (fun h3 => ?_) (fun h3 => ?_)
 refine CW.g XK 26 [.n 1,.e [4]] rfl rfl rfl ?_
 refine CW.ret ?_
 exact Post.one (RV.b rfl q7) (AOs.r (AOs.r AOs.e))
 refine CW.g XK 26 [.p,.e [0,1,5],.o 1] rfl rfl rfl ?_
 refine RW.v rfl (V.inc rfl rfl rfl hii hl0) ?_
 refine RW.g XK 26 [.o 1,.p] rfl rfl rfl ?_
 exact ⟨i + 1, by omega, ⟨by omega, by simp_all [eqS, eqI, eqStr, eqB]⟩, rfl, Le.c rfl <| Le.c rfl <| Le.c rfl <| Le.e⟩
 have hii : a.length ≤ i := by have := h2; simp at this; first | exact this | omega | (simp; done) | (simp; omega)
 have hdi : a.drop i = [] := List.drop_eq_nil_of_le hii
 refine CW.exit ?_
 refine CW.g XK 26 [.e [],.n 1,.e [4]] rfl rfl rfl ?_
 refine CW.ret ?_
 exact Post.one (RV.b rfl q12) (AOs.r (AOs.r AOs.e))
set_option maxHeartbeats 4000000 in
theorem laws_eqEntry_fn (a : Entry) (b : Entry) : Eng.Fn E.P 132 [.agg ((Entry.c a).map .r), .agg ((Entry.c b).map .r)] (.one (.one (.w (.v (.bool (eqEntry a b)))))) [.agg ((Entry.c a).map .r), .agg ((Entry.c b).map .r)] := by
 refine Eng.Fn.intro (E := E) (rvs := [.tmp 4]) Tryz.func132 rfl rfl rfl (by simp [outSlots, moved, rvSlot, sl]) ?_
 intro B g bo
 refine CW.h XK 20 [.e [0,1],.o 1] rfl ?_;(conv=>whnf);intro b1;(conv=>whnf);refine ⟨rfl,?_⟩
 refine RW.freezeB (ts := (Entry.c a)) 2 rfl (DRd.r (DRd.r (DRd.r DRd.e))) ?_
 refine RW.h XK 20 [.o 1] rfl ?_;(conv=>whnf);intro b2;(conv=>whnf);refine ⟨rfl,?_⟩
 refine RW.freezeB (ts := (Entry.c b)) 3 rfl (DRd.r (DRd.r (DRd.r DRd.e))) ?_
 refine RW.g XK 20 [.o 1,.p,.e [2,3],.n 1,.e [2,3,9]] rfl rfl rfl ?_
 refine CW.cond rfl (fun h3 => ?_) (fun h3 => ?_)
 refine CW.g XK 20 [.n 1,.e [4]] rfl rfl rfl ?_
 refine CW.ret ?_
 exact Post.one (RV.b rfl (by simp_all [eqEntry])) (AOs.a rfl (AOs.a rfl AOs.e))
 refine CW.g XK 20 [.p,.e [2,3],.n 1,.e [2,3,14]] rfl rfl rfl ?_
 refine CW.cond rfl (fun h4 => ?_) (fun h4 => ?_)
 refine CW.g XK 20 [.n 1,.e [4]] rfl rfl rfl ?_
 refine CW.ret ?_
 exact Post.one (RV.b rfl (by simp_all [eqEntry])) (AOs.a rfl (AOs.a rfl AOs.e))
 refine CW.g XK 20 [.p,.e [2,3],.n 1,.e [19]] rfl rfl rfl ?_
 refine CW.cond rfl (fun h5 => ?_) (fun h5 => ?_)
 refine CW.g XK 20 [.n 1,.e [4]] rfl rfl rfl ?_
 refine CW.ret ?_
 exact Post.one (RV.b rfl (by simp_all [eqEntry])) (AOs.a rfl (AOs.a rfl AOs.e))
 refine CW.g XK 20 [.p,.e [],.n 1,.e [4]] rfl rfl rfl ?_
 refine CW.ret ?_
 exact Post.one (RV.b rfl (by simp_all [eqEntry])) (AOs.a rfl (AOs.a rfl AOs.e))
set_option maxHeartbeats 4000000 in
theorem laws_eqEntryS_fn (a : List Entry) (b : List Entry) : Eng.Fn E.P 129 [.one (.r (sl 3 Entry.c a)), .one (.r (sl 3 Entry.c b))] (.one (.one (.w (.v (.bool (eqS eqEntry a b)))))) [.one (.r (sl 3 Entry.c a)), .one (.r (sl 3 Entry.c b))] := by
 refine Eng.Fn.intro (E := E) (rvs := [.tmp 4]) Tryz.func129 rfl rfl rfl (by simp [outSlots, moved, rvSlot, sl]) ?_
 intro B g bo
 refine CW.bound (x := .tmp 0) (n := a.length) (AsT.r) (fun hl0 => ?_)
 refine CW.bound (x := .tmp 1) (n := b.length) (AsT.r) (fun hl1 => ?_)
 refine CW.g XK 27 [.e [0,1],.n 1,.e [0,1],.n 1,.e [0,1,10]] rfl rfl rfl ?_
 refine CW.cond rfl (fun h1 => ?_) (fun h1 => ?_)
 refine CW.g XK 27 [.n 1,.e [4]] rfl rfl rfl ?_
 refine CW.ret ?_
 exact Post.one (RV.b rfl q7) (AOs.r (AOs.r AOs.e))
 refine CW.g XK 27 [.p,.e [0,1],.n 1,.e [0,1,5],.p] rfl rfl rfl ?_
 refine CW.loopI 27 (fun (i : Nat) => [(0, .r (sl 3 Entry.c a)), (1, .r (sl 3 Entry.c b)), (5, I (i : Int))]) (fun (i : Nat) => i ≤ a.length ∧ eqS eqEntry (a.drop i) (b.drop i) = eqS eqEntry a b) (fun (i : Nat) => a.length - i) 0 rfl (Le.c rfl <| Le.c rfl <| Le.c rfl <| Le.e) ⟨by omega, by simp⟩ ?_
 rintro i ⟨hb, hr⟩
 have hlen : a.length = b.length := by simp at h1; omega
 refine CW.g XK 27 [.n 1,.e [0,1,5,14]] rfl rfl rfl ?_
 refine CW.cond rfl (fun h2 => ?_) (fun h2 => ?_)
 have hii : i < a.length := by have := h2; simp at this; first | exact this | omega | (simp; done) | (simp; omega)
 obtain ⟨ei, hei⟩ : ∃ e, a[i]? = some e := ⟨_, List.getElem?_eq_getElem hii⟩
 have hdi := drop_get hei
 have hib : i < b.length := by omega
 obtain ⟨eb, heb⟩ : ∃ e, b[i]? = some e := ⟨_, List.getElem?_eq_getElem hib⟩
 have hdb := drop_get heb
 refine CW.g XK 27 [.p,.e [0,1,5],.p,.p,.p] rfl rfl rfl ?_
 refine CW.drawn (by kernel_rfl) ?_
 refine RQ.k XK 27 2 rfl ?_
 (conv=>whnf);refine ⟨rfl,?_⟩
 refine RQ.v rfl (V.indexS rfl rfl rfl rfl rfl rfl Entry.len hei) ?_
 refine RQ.k XK 27 3 rfl ?_
 (conv=>whnf);refine ⟨rfl,?_⟩
 refine RQ.v rfl (V.indexS rfl rfl rfl rfl rfl rfl Entry.len heb) ?_
 refine RQ.k XK 27 1 rfl ?_
 (conv=>whnf);refine ⟨rfl,?_⟩
 refine RQ.cons rfl (QOK.call (laws_eqEntry_fn ei eb) rfl (.cons (.agg (.cons (.r .r) (.cons (.r .r) (.cons (.r .r) (.nil))))) (.cons (.agg (.cons (.r .r) (.cons (.r .r) (.cons (.r .r) (.nil))))) (.nil))) ?_)
 refine RQ.k XK 27 1 rfl ?_
 (conv=>whnf);refine ⟨rfl,?_⟩
 refine RQ.nil ?_
 refine CW.g XK 27 [.e [0,1,5,26]] rfl rfl rfl ?_
 refine CW.cond rfl (fun h3 => ?_) (fun h3 => ?_)
 refine CW.g XK 27 [.n 1,.e [4]] rfl rfl rfl ?_
 refine CW.ret ?_
 exact Post.one (RV.b rfl q7) (AOs.r (AOs.r AOs.e))
 refine CW.g XK 27 [.p,.e [0,1,5],.o 1] rfl rfl rfl ?_
 refine RW.v rfl (V.inc rfl rfl rfl hii hl0) ?_
 refine RW.g XK 27 [.o 1,.p] rfl rfl rfl ?_
 exact ⟨i + 1, by omega, ⟨by omega, by simp_all [eqS, eqI, eqStr, eqB]⟩, rfl, Le.c rfl <| Le.c rfl <| Le.c rfl <| Le.e⟩
 have hii : a.length ≤ i := by have := h2; simp at this; first | exact this | omega | (simp; done) | (simp; omega)
 have hdi : a.drop i = [] := List.drop_eq_nil_of_le hii
 refine CW.exit ?_
 refine CW.g XK 27 [.e [],.n 1,.e [4]] rfl rfl rfl ?_
 refine CW.ret ?_
 exact Post.one (RV.b rfl q12) (AOs.r (AOs.r AOs.e))
set_option maxHeartbeats 4000000 in
theorem laws_eqLog_fn (a : Log) (b : Log) : Eng.Fn E.P 131 [.agg ((Log.c a).map .r), .agg ((Log.c b).map .r)] (.one (.one (.w (.v (.bool (eqLog a b)))))) [.agg ((Log.c a).map .r), .agg ((Log.c b).map .r)] := by
 refine Eng.Fn.intro (E := E) (rvs := [.tmp 4]) Tryz.func131 rfl rfl rfl (by simp [outSlots, moved, rvSlot, sl]) ?_
 intro B g bo
 refine CW.h XK 21 [.e [0,1],.o 1] rfl ?_;(conv=>whnf);intro b1;(conv=>whnf);refine ⟨rfl,?_⟩
 refine RW.freezeB (ts := (Log.c a)) 2 rfl (DRd.r (DRd.r (DRd.r DRd.e))) ?_
 refine RW.h XK 21 [.o 1] rfl ?_;(conv=>whnf);intro b2;(conv=>whnf);refine ⟨rfl,?_⟩
 refine RW.freezeB (ts := (Log.c b)) 3 rfl (DRd.r (DRd.r (DRd.r DRd.e))) ?_
 refine RW.g XK 21 [.o 1,.p,.e [2,3],.n 1,.e [2,3,9]] rfl rfl rfl ?_
 refine CW.cond rfl (fun h3 => ?_) (fun h3 => ?_)
 refine CW.g XK 21 [.n 1,.e [4]] rfl rfl rfl ?_
 refine CW.ret ?_
 exact Post.one (RV.b rfl (by simp_all [eqLog])) (AOs.a rfl (AOs.a rfl AOs.e))
 refine CW.g XK 21 [.p,.e [2,3],.n 1,.e [2,3,14]] rfl rfl rfl ?_
 refine CW.cond rfl (fun h4 => ?_) (fun h4 => ?_)
 refine CW.g XK 21 [.n 1,.e [4]] rfl rfl rfl ?_
 refine CW.ret ?_
 exact Post.one (RV.b rfl (by simp_all [eqLog])) (AOs.a rfl (AOs.a rfl AOs.e))
 refine CW.g XK 21 [.p,.e [2,3],.o 4] rfl rfl rfl ?_
 refine RW.call rfl (laws_eqEntryS_fn a.entries b.entries) rfl (.cons (.one (.r .r)) (.cons (.one (.r .r)) (.nil))) fun g5 => ?_
 refine RW.g XK 21 [.o 1,.p,.e [20]] rfl rfl rfl ?_
 refine CW.cond rfl (fun h6 => ?_) (fun h6 => ?_)
 refine CW.g XK 21 [.n 1,.e [4]] rfl rfl rfl ?_
 refine CW.ret ?_
 exact Post.one (RV.b rfl (by simp_all [eqLog])) (AOs.a rfl (AOs.a rfl AOs.e))
 refine CW.g XK 21 [.p,.e [],.n 1,.e [4]] rfl rfl rfl ?_
 refine CW.ret ?_
 exact Post.one (RV.b rfl (by simp_all [eqLog])) (AOs.a rfl (AOs.a rfl AOs.e))
set_option maxHeartbeats 4000000 in
theorem laws_eqPeer_fn (a : Peer) (b : Peer) : Eng.Fn E.P 163 [.agg ((Peer.c a).map .r), .agg ((Peer.c b).map .r)] (.one (.one (.w (.v (.bool (eqPeer a b)))))) [.agg ((Peer.c a).map .r), .agg ((Peer.c b).map .r)] := by
 refine Eng.Fn.intro (E := E) (rvs := [.tmp 4]) Tryz.func163 rfl rfl rfl (by simp [outSlots, moved, rvSlot, sl]) ?_
 intro B g bo
 refine CW.h XK 25 [.e [0,1],.o 1] rfl ?_;(conv=>whnf);intro b1;(conv=>whnf);refine ⟨rfl,?_⟩
 refine RW.freezeB (ts := (Peer.c a)) 2 rfl (DRd.r (DRd.r (DRd.r (DRd.r DRd.e)))) ?_
 refine RW.h XK 25 [.o 1] rfl ?_;(conv=>whnf);intro b2;(conv=>whnf);refine ⟨rfl,?_⟩
 refine RW.freezeB (ts := (Peer.c b)) 3 rfl (DRd.r (DRd.r (DRd.r (DRd.r DRd.e)))) ?_
 refine RW.g XK 25 [.o 1,.p,.e [2,3],.n 1,.e [2,3,9]] rfl rfl rfl ?_
 refine CW.cond rfl (fun h3 => ?_) (fun h3 => ?_)
 refine CW.g XK 25 [.n 1,.e [4]] rfl rfl rfl ?_
 refine CW.ret ?_
 exact Post.one (RV.b rfl (by simp_all [eqPeer])) (AOs.a rfl (AOs.a rfl AOs.e))
 refine CW.g XK 25 [.p,.e [2,3],.n 1,.e [2,3,14]] rfl rfl rfl ?_
 refine CW.cond rfl (fun h4 => ?_) (fun h4 => ?_)
 refine CW.g XK 25 [.n 1,.e [4]] rfl rfl rfl ?_
 refine CW.ret ?_
 exact Post.one (RV.b rfl (by simp_all [eqPeer])) (AOs.a rfl (AOs.a rfl AOs.e))
 refine CW.g XK 25 [.p,.e [2,3],.n 1,.e [2,3,19]] rfl rfl rfl ?_
 refine CW.cond rfl (fun h5 => ?_) (fun h5 => ?_)
 refine CW.g XK 25 [.n 1,.e [4]] rfl rfl rfl ?_
 refine CW.ret ?_
 exact Post.one (RV.b rfl (by simp_all [eqPeer])) (AOs.a rfl (AOs.a rfl AOs.e))
 refine CW.g XK 25 [.p,.e [2,3],.n 1,.e [24]] rfl rfl rfl ?_
 refine CW.cond rfl (fun h6 => ?_) (fun h6 => ?_)
 refine CW.g XK 25 [.n 1,.e [4]] rfl rfl rfl ?_
 refine CW.ret ?_
 exact Post.one (RV.b rfl (by simp_all [eqPeer])) (AOs.a rfl (AOs.a rfl AOs.e))
 refine CW.g XK 25 [.p,.e [],.n 1,.e [4]] rfl rfl rfl ?_
 refine CW.ret ?_
 exact Post.one (RV.b rfl (by simp_all [eqPeer])) (AOs.a rfl (AOs.a rfl AOs.e))
set_option maxHeartbeats 4000000 in
theorem laws_eqPeerS_fn (a : List Peer) (b : List Peer) : Eng.Fn E.P 151 [.one (.r (sl 4 Peer.c a)), .one (.r (sl 4 Peer.c b))] (.one (.one (.w (.v (.bool (eqS eqPeer a b)))))) [.one (.r (sl 4 Peer.c a)), .one (.r (sl 4 Peer.c b))] := by
 refine Eng.Fn.intro (E := E) (rvs := [.tmp 4]) Tryz.func151 rfl rfl rfl (by simp [outSlots, moved, rvSlot, sl]) ?_
 intro B g bo
 refine CW.bound (x := .tmp 0) (n := a.length) (AsT.r) (fun hl0 => ?_)
 refine CW.bound (x := .tmp 1) (n := b.length) (AsT.r) (fun hl1 => ?_)
 refine CW.g XK 27 [.e [0,1],.n 1,.e [0,1],.n 1,.e [0,1,10]] rfl rfl rfl ?_
 refine CW.cond rfl (fun h1 => ?_) (fun h1 => ?_)
 refine CW.g XK 27 [.n 1,.e [4]] rfl rfl rfl ?_
 refine CW.ret ?_
 exact Post.one (RV.b rfl q7) (AOs.r (AOs.r AOs.e))
 refine CW.g XK 27 [.p,.e [0,1],.n 1,.e [0,1,5],.p] rfl rfl rfl ?_
 refine CW.loopI 27 (fun (i : Nat) => [(0, .r (sl 4 Peer.c a)), (1, .r (sl 4 Peer.c b)), (5, I (i : Int))]) (fun (i : Nat) => i ≤ a.length ∧ eqS eqPeer (a.drop i) (b.drop i) = eqS eqPeer a b) (fun (i : Nat) => a.length - i) 0 rfl (Le.c rfl <| Le.c rfl <| Le.c rfl <| Le.e) ⟨by omega, by simp⟩ ?_
 rintro i ⟨hb, hr⟩
 have hlen : a.length = b.length := by simp at h1; omega
 refine CW.g XK 27 [.n 1,.e [0,1,5,14]] rfl rfl rfl ?_
 refine CW.cond rfl (fun h2 => ?_) (fun h2 => ?_)
 have hii : i < a.length := by have := h2; simp at this; first | exact this | omega | (simp; done) | (simp; omega)
 obtain ⟨ei, hei⟩ : ∃ e, a[i]? = some e := ⟨_, List.getElem?_eq_getElem hii⟩
 have hdi := drop_get hei
 have hib : i < b.length := by omega
 obtain ⟨eb, heb⟩ : ∃ e, b[i]? = some e := ⟨_, List.getElem?_eq_getElem hib⟩
 have hdb := drop_get heb
 refine CW.g XK 27 [.p,.e [0,1,5],.p,.p,.p] rfl rfl rfl ?_
 refine CW.drawn (by kernel_rfl) ?_
 refine RQ.k XK 27 2 rfl ?_
 (conv=>whnf);refine ⟨rfl,?_⟩
 refine RQ.v rfl (V.indexS rfl rfl rfl rfl rfl rfl Peer.len hei) ?_
 refine RQ.k XK 27 3 rfl ?_
 (conv=>whnf);refine ⟨rfl,?_⟩
 refine RQ.v rfl (V.indexS rfl rfl rfl rfl rfl rfl Peer.len heb) ?_
 refine RQ.k XK 27 1 rfl ?_
 (conv=>whnf);refine ⟨rfl,?_⟩
 refine RQ.cons rfl (QOK.call (laws_eqPeer_fn ei eb) rfl (.cons (.agg (.cons (.r .r) (.cons (.r .r) (.cons (.r .r) (.cons (.r .r) (.nil)))))) (.cons (.agg (.cons (.r .r) (.cons (.r .r) (.cons (.r .r) (.cons (.r .r) (.nil)))))) (.nil))) ?_)
 refine RQ.k XK 27 1 rfl ?_
 (conv=>whnf);refine ⟨rfl,?_⟩
 refine RQ.nil ?_
 refine CW.g XK 27 [.e [0,1,5,26]] rfl rfl rfl ?_
 refine CW.cond rfl (fun h3 => ?_) (fun h3 => ?_)
 refine CW.g XK 27 [.n 1,.e [4]] rfl rfl rfl ?_
 refine CW.ret ?_
 exact Post.one (RV.b rfl q7) (AOs.r (AOs.r AOs.e))
 refine CW.g XK 27 [.p,.e [0,1,5],.o 1] rfl rfl rfl ?_
 refine RW.v rfl (V.inc rfl rfl rfl hii hl0) ?_
 refine RW.g XK 27 [.o 1,.p] rfl rfl rfl ?_
 exact ⟨i + 1, by omega, ⟨by omega, by simp_all [eqS, eqI, eqStr, eqB]⟩, rfl, Le.c rfl <| Le.c rfl <| Le.c rfl <| Le.e⟩
 have hii : a.length ≤ i := by have := h2; simp at this; first | exact this | omega | (simp; done) | (simp; omega)
 have hdi : a.drop i = [] := List.drop_eq_nil_of_le hii
 refine CW.exit ?_
 refine CW.g XK 27 [.e [],.n 1,.e [4]] rfl rfl rfl ?_
 refine CW.ret ?_
 exact Post.one (RV.b rfl q12) (AOs.r (AOs.r AOs.e))
set_option maxHeartbeats 4000000 in
theorem laws_eqNode_fn (a : Node) (b : Node) : Eng.Fn E.P 125 [.agg ((Node.c a).map .r), .agg ((Node.c b).map .r)] (.one (.one (.w (.v (.bool (eqNode a b)))))) [.agg ((Node.c a).map .r), .agg ((Node.c b).map .r)] := by
 refine Eng.Fn.intro (E := E) (rvs := [.tmp 4]) Tryz.func125 rfl rfl rfl (by simp [outSlots, moved, rvSlot, sl]) ?_
 intro B g bo
 refine CW.h XK 69 [.e [0,1],.o 1] rfl ?_;(conv=>whnf);intro b1;(conv=>whnf);refine ⟨rfl,?_⟩
 refine RW.freezeB (ts := (Node.c a)) 2 rfl (DRd.r (DRd.r (DRd.r (DRd.r (DRd.r (DRd.r (DRd.r (DRd.r (DRd.r (DRd.r (DRd.r (DRd.r (DRd.r (DRd.r DRd.e)))))))))))))) ?_
 refine RW.h XK 69 [.o 1] rfl ?_;(conv=>whnf);intro b2;(conv=>whnf);refine ⟨rfl,?_⟩
 refine RW.freezeB (ts := (Node.c b)) 3 rfl (DRd.r (DRd.r (DRd.r (DRd.r (DRd.r (DRd.r (DRd.r (DRd.r (DRd.r (DRd.r (DRd.r (DRd.r (DRd.r (DRd.r DRd.e)))))))))))))) ?_
 refine RW.g XK 69 [.o 1,.p,.e [2,3],.n 1,.e [2,3,9]] rfl rfl rfl ?_
 refine CW.cond rfl (fun h3 => ?_) (fun h3 => ?_)
 refine CW.g XK 69 [.n 1,.e [4]] rfl rfl rfl ?_
 refine CW.ret ?_
 exact Post.one (RV.b rfl (by simp_all [eqNode])) (AOs.a rfl (AOs.a rfl AOs.e))
 refine CW.g XK 69 [.p,.e [2,3],.n 1,.e [2,3,14]] rfl rfl rfl ?_
 refine CW.cond rfl (fun h4 => ?_) (fun h4 => ?_)
 refine CW.g XK 69 [.n 1,.e [4]] rfl rfl rfl ?_
 refine CW.ret ?_
 exact Post.one (RV.b rfl (by simp_all [eqNode])) (AOs.a rfl (AOs.a rfl AOs.e))
 refine CW.g XK 69 [.p,.e [2,3],.n 1,.e [2,3,19]] rfl rfl rfl ?_
 refine CW.cond rfl (fun h5 => ?_) (fun h5 => ?_)
 refine CW.g XK 69 [.n 1,.e [4]] rfl rfl rfl ?_
 refine CW.ret ?_
 exact Post.one (RV.b rfl (by simp_all [eqNode])) (AOs.a rfl (AOs.a rfl AOs.e))
 refine CW.g XK 69 [.p,.e [2,3],.n 1,.e [2,3,24]] rfl rfl rfl ?_
 refine CW.cond rfl (fun h6 => ?_) (fun h6 => ?_)
 refine CW.g XK 69 [.n 1,.e [4]] rfl rfl rfl ?_
 refine CW.ret ?_
 exact Post.one (RV.b rfl (by simp_all [eqNode])) (AOs.a rfl (AOs.a rfl AOs.e))
 refine CW.g XK 69 [.p,.e [2,3],.n 1,.e [2,3,29]] rfl rfl rfl ?_
 refine CW.cond rfl (fun h7 => ?_) (fun h7 => ?_)
 refine CW.g XK 69 [.n 1,.e [4]] rfl rfl rfl ?_
 refine CW.ret ?_
 exact Post.one (RV.b rfl (by simp_all [eqNode])) (AOs.a rfl (AOs.a rfl AOs.e))
 refine CW.g XK 69 [.p,.e [2,3],.o 4] rfl rfl rfl ?_
 refine RW.call rfl (laws_eqIntS_fn a.conf b.conf) rfl (.cons (.one (.r .r)) (.cons (.one (.r .r)) (.nil))) fun g8 => ?_
 refine RW.g XK 69 [.o 1,.p,.e [2,3,35]] rfl rfl rfl ?_
 refine CW.cond rfl (fun h9 => ?_) (fun h9 => ?_)
 refine CW.g XK 69 [.n 1,.e [4]] rfl rfl rfl ?_
 refine CW.ret ?_
 exact Post.one (RV.b rfl (by simp_all [eqNode])) (AOs.a rfl (AOs.a rfl AOs.e))
 refine CW.g XK 69 [.p,.e [2,3],.o 4] rfl rfl rfl ?_
 refine RW.call rfl (laws_eqLog_fn a.log b.log) rfl (.cons (.agg (.cons (.r .r) (.cons (.r .r) (.cons (.r .r) (.nil))))) (.cons (.agg (.cons (.r .r) (.cons (.r .r) (.cons (.r .r) (.nil))))) (.nil))) fun g10 => ?_
 refine RW.g XK 69 [.o 1,.p,.e [2,3,41]] rfl rfl rfl ?_
 refine CW.cond rfl (fun h11 => ?_) (fun h11 => ?_)
 refine CW.g XK 69 [.n 1,.e [4]] rfl rfl rfl ?_
 refine CW.ret ?_
 exact Post.one (RV.b rfl (by simp_all [eqNode])) (AOs.a rfl (AOs.a rfl AOs.e))
 refine CW.g XK 69 [.p,.e [2,3],.n 1,.e [2,3,46]] rfl rfl rfl ?_
 refine CW.cond rfl (fun h12 => ?_) (fun h12 => ?_)
 refine CW.g XK 69 [.n 1,.e [4]] rfl rfl rfl ?_
 refine CW.ret ?_
 exact Post.one (RV.b rfl (by simp_all [eqNode])) (AOs.a rfl (AOs.a rfl AOs.e))
 refine CW.g XK 69 [.p,.e [2,3],.n 1,.e [2,3,51]] rfl rfl rfl ?_
 refine CW.cond rfl (fun h13 => ?_) (fun h13 => ?_)
 refine CW.g XK 69 [.n 1,.e [4]] rfl rfl rfl ?_
 refine CW.ret ?_
 exact Post.one (RV.b rfl (by simp_all [eqNode])) (AOs.a rfl (AOs.a rfl AOs.e))
 refine CW.g XK 69 [.p,.e [2,3],.n 1,.e [2,3,56]] rfl rfl rfl ?_
 refine CW.cond rfl (fun h14 => ?_) (fun h14 => ?_)
 refine CW.g XK 69 [.n 1,.e [4]] rfl rfl rfl ?_
 refine CW.ret ?_
 exact Post.one (RV.b rfl (by simp_all [eqNode])) (AOs.a rfl (AOs.a rfl AOs.e))
 refine CW.g XK 69 [.p,.e [2,3],.o 4] rfl rfl rfl ?_
 refine RW.call rfl (laws_eqIntS_fn a.votes b.votes) rfl (.cons (.one (.r .r)) (.cons (.one (.r .r)) (.nil))) fun g15 => ?_
 refine RW.g XK 69 [.o 1,.p,.e [2,3,62]] rfl rfl rfl ?_
 refine CW.cond rfl (fun h16 => ?_) (fun h16 => ?_)
 refine CW.g XK 69 [.n 1,.e [4]] rfl rfl rfl ?_
 refine CW.ret ?_
 exact Post.one (RV.b rfl (by simp_all [eqNode])) (AOs.a rfl (AOs.a rfl AOs.e))
 refine CW.g XK 69 [.p,.e [2,3],.o 4] rfl rfl rfl ?_
 refine RW.call rfl (laws_eqPeerS_fn a.peers b.peers) rfl (.cons (.one (.r .r)) (.cons (.one (.r .r)) (.nil))) fun g17 => ?_
 refine RW.g XK 69 [.o 1,.p,.e [68]] rfl rfl rfl ?_
 refine CW.cond rfl (fun h18 => ?_) (fun h18 => ?_)
 refine CW.g XK 69 [.n 1,.e [4]] rfl rfl rfl ?_
 refine CW.ret ?_
 exact Post.one (RV.b rfl (by simp_all [eqNode])) (AOs.a rfl (AOs.a rfl AOs.e))
 refine CW.g XK 69 [.p,.e [],.n 1,.e [4]] rfl rfl rfl ?_
 refine CW.ret ?_
 exact Post.one (RV.b rfl (by simp_all [eqNode])) (AOs.a rfl (AOs.a rfl AOs.e))
set_option maxHeartbeats 4000000 in
theorem laws_eqFile_fn (a : File) (b : File) : Eng.Fn E.P 164 [.agg ((File.c a).map .r), .agg ((File.c b).map .r)] (.one (.one (.w (.v (.bool (eqFile a b)))))) [.agg ((File.c a).map .r), .agg ((File.c b).map .r)] := by
 refine Eng.Fn.intro (E := E) (rvs := [.tmp 4]) Tryz.func164 rfl rfl rfl (by simp [outSlots, moved, rvSlot, sl]) ?_
 intro B g bo
 refine CW.h XK 20 [.e [0,1],.o 1] rfl ?_;(conv=>whnf);intro b1;(conv=>whnf);refine ⟨rfl,?_⟩
 refine RW.freezeB (ts := (File.c a)) 2 rfl (DRd.r (DRd.r (DRd.r DRd.e))) ?_
 refine RW.h XK 20 [.o 1] rfl ?_;(conv=>whnf);intro b2;(conv=>whnf);refine ⟨rfl,?_⟩
 refine RW.freezeB (ts := (File.c b)) 3 rfl (DRd.r (DRd.r (DRd.r DRd.e))) ?_
 refine RW.g XK 20 [.o 1,.p,.e [2,3],.n 1,.e [2,3,9]] rfl rfl rfl ?_
 refine CW.cond rfl (fun h3 => ?_) (fun h3 => ?_)
 refine CW.g XK 20 [.n 1,.e [4]] rfl rfl rfl ?_
 refine CW.ret ?_
 exact Post.one (RV.b rfl (by simp_all [eqFile])) (AOs.a rfl (AOs.a rfl AOs.e))
 refine CW.g XK 20 [.p,.e [2,3],.n 1,.e [2,3,14]] rfl rfl rfl ?_
 refine CW.cond rfl (fun h4 => ?_) (fun h4 => ?_)
 refine CW.g XK 20 [.n 1,.e [4]] rfl rfl rfl ?_
 refine CW.ret ?_
 exact Post.one (RV.b rfl (by simp_all [eqFile])) (AOs.a rfl (AOs.a rfl AOs.e))
 refine CW.g XK 20 [.p,.e [2,3],.n 1,.e [19]] rfl rfl rfl ?_
 refine CW.cond rfl (fun h5 => ?_) (fun h5 => ?_)
 refine CW.g XK 20 [.n 1,.e [4]] rfl rfl rfl ?_
 refine CW.ret ?_
 exact Post.one (RV.b rfl (by simp_all [eqFile])) (AOs.a rfl (AOs.a rfl AOs.e))
 refine CW.g XK 20 [.p,.e [],.n 1,.e [4]] rfl rfl rfl ?_
 refine CW.ret ?_
 exact Post.one (RV.b rfl (by simp_all [eqFile])) (AOs.a rfl (AOs.a rfl AOs.e))
set_option maxHeartbeats 4000000 in
theorem laws_eqFileS_fn (a : List File) (b : List File) : Eng.Fn E.P 152 [.one (.r (sl 3 File.c a)), .one (.r (sl 3 File.c b))] (.one (.one (.w (.v (.bool (eqS eqFile a b)))))) [.one (.r (sl 3 File.c a)), .one (.r (sl 3 File.c b))] := by
 refine Eng.Fn.intro (E := E) (rvs := [.tmp 4]) Tryz.func152 rfl rfl rfl (by simp [outSlots, moved, rvSlot, sl]) ?_
 intro B g bo
 refine CW.bound (x := .tmp 0) (n := a.length) (AsT.r) (fun hl0 => ?_)
 refine CW.bound (x := .tmp 1) (n := b.length) (AsT.r) (fun hl1 => ?_)
 refine CW.g XK 27 [.e [0,1],.n 1,.e [0,1],.n 1,.e [0,1,10]] rfl rfl rfl ?_
 refine CW.cond rfl (fun h1 => ?_) (fun h1 => ?_)
 refine CW.g XK 27 [.n 1,.e [4]] rfl rfl rfl ?_
 refine CW.ret ?_
 exact Post.one (RV.b rfl q7) (AOs.r (AOs.r AOs.e))
 refine CW.g XK 27 [.p,.e [0,1],.n 1,.e [0,1,5],.p] rfl rfl rfl ?_
 refine CW.loopI 27 (fun (i : Nat) => [(0, .r (sl 3 File.c a)), (1, .r (sl 3 File.c b)), (5, I (i : Int))]) (fun (i : Nat) => i ≤ a.length ∧ eqS eqFile (a.drop i) (b.drop i) = eqS eqFile a b) (fun (i : Nat) => a.length - i) 0 rfl (Le.c rfl <| Le.c rfl <| Le.c rfl <| Le.e) ⟨by omega, by simp⟩ ?_
 rintro i ⟨hb, hr⟩
 have hlen : a.length = b.length := by simp at h1; omega
 refine CW.g XK 27 [.n 1,.e [0,1,5,14]] rfl rfl rfl ?_
 refine CW.cond rfl (fun h2 => ?_) (fun h2 => ?_)
 have hii : i < a.length := by have := h2; simp at this; first | exact this | omega | (simp; done) | (simp; omega)
 obtain ⟨ei, hei⟩ : ∃ e, a[i]? = some e := ⟨_, List.getElem?_eq_getElem hii⟩
 have hdi := drop_get hei
 have hib : i < b.length := by omega
 obtain ⟨eb, heb⟩ : ∃ e, b[i]? = some e := ⟨_, List.getElem?_eq_getElem hib⟩
 have hdb := drop_get heb
 refine CW.g XK 27 [.p,.e [0,1,5],.p,.p,.p] rfl rfl rfl ?_
 refine CW.drawn (by kernel_rfl) ?_
 refine RQ.k XK 27 2 rfl ?_
 (conv=>whnf);refine ⟨rfl,?_⟩
 refine RQ.v rfl (V.indexS rfl rfl rfl rfl rfl rfl File.len hei) ?_
 refine RQ.k XK 27 3 rfl ?_
 (conv=>whnf);refine ⟨rfl,?_⟩
 refine RQ.v rfl (V.indexS rfl rfl rfl rfl rfl rfl File.len heb) ?_
 refine RQ.k XK 27 1 rfl ?_
 (conv=>whnf);refine ⟨rfl,?_⟩
 refine RQ.cons rfl (QOK.call (laws_eqFile_fn ei eb) rfl (.cons (.agg (.cons (.r .r) (.cons (.r .r) (.cons (.r .r) (.nil))))) (.cons (.agg (.cons (.r .r) (.cons (.r .r) (.cons (.r .r) (.nil))))) (.nil))) ?_)
 refine RQ.k XK 27 1 rfl ?_
 (conv=>whnf);refine ⟨rfl,?_⟩
 refine RQ.nil ?_
 refine CW.g XK 27 [.e [0,1,5,26]] rfl rfl rfl ?_
 refine CW.cond rfl (fun h3 => ?_) (fun h3 => ?_)
 refine CW.g XK 27 [.n 1,.e [4]] rfl rfl rfl ?_
 refine CW.ret ?_
 exact Post.one (RV.b rfl q7) (AOs.r (AOs.r AOs.e))
 refine CW.g XK 27 [.p,.e [0,1,5],.o 1] rfl rfl rfl ?_
 refine RW.v rfl (V.inc rfl rfl rfl hii hl0) ?_
 refine RW.g XK 27 [.o 1,.p] rfl rfl rfl ?_
 exact ⟨i + 1, by omega, ⟨by omega, by simp_all [eqS, eqI, eqStr, eqB]⟩, rfl, Le.c rfl <| Le.c rfl <| Le.c rfl <| Le.e⟩
 have hii : a.length ≤ i := by have := h2; simp at this; first | exact this | omega | (simp; done) | (simp; omega)
 have hdi : a.drop i = [] := List.drop_eq_nil_of_le hii
 refine CW.exit ?_
 refine CW.g XK 27 [.e [],.n 1,.e [4]] rfl rfl rfl ?_
 refine CW.ret ?_
 exact Post.one (RV.b rfl q12) (AOs.r (AOs.r AOs.e))
end Go.Proofs.YtdipdkfbaehglaaGreatDoor.Y
