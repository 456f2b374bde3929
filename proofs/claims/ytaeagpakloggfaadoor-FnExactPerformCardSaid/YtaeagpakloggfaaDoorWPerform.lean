import Derived.Test.YtaeagpakloggfaaDoorWPerformE
namespace Go.Proofs.YtaeagpakloggfaaDoor.Y
open Go Go.RowKit Go.Eng Go.Proofs
set_option maxRecDepth 10000
set_option maxHeartbeats 4000000 in
theorem laws_FnExactPerform_fn (a : Keep) (n : Int) (x : Command) (hok : okKeep a) (hoc : okCommand x) : Eng.Fn E.P 7 [.agg ((Keep.c a).map .r), .one (.r (.v (.int .i64 n))), .agg ((Command.c x).map .r)] (.one (.one (.w (.v (.bool true))))) [.agg ((Keep.c a).map .r), .one (.r (.v (.int .i64 n))), .agg ((Command.c x).map .r)] := by
 refine Eng.Fn.intro (E := E) (rvs := [.tmp 6]) Tryd.func7 rfl rfl rfl (by simp [outSlots, moved, rvSlot, sl]) ?_
 intro B g bo
 refine CW.keep 135 [0,1,2] rfl ?_;(conv=>whnf);refine ⟨?_⟩
 refine CW.seq ?_
 refine CW.region ?_
 refine RW.k XK 135 1 rfl ?_
 (conv=>whnf);intro b1;(conv=>whnf);refine ⟨rfl,?_⟩
 refine RW.freezeB (ts := (Keep.c a)) 3 rfl (DRd.r (DRd.r DRd.e)) ?_
 refine RW.k XK 135 1 rfl ?_
 (conv=>whnf);intro b2;(conv=>whnf);refine ⟨rfl,?_⟩
 refine RW.freezeB (ts := (Command.c x)) 5 rfl (DRd.r (DRd.r (DRd.r (DRd.r (DRd.r (DRd.r DRd.e)))))) ?_
 refine RW.k XK 135 1 rfl ?_
 (conv=>whnf);refine ⟨rfl,?_⟩
 refine RW.nil ?_
 refine CW.keep 135 [1,3,5] rfl ?_;(conv=>whnf);refine ⟨?_⟩
 refine CW.k XK 135 1 [1,3,5,7] rfl ?_
 (conv=>whnf);refine ⟨rfl,?_⟩
 refine CW.seq ?_
 refine CW.region ?_
 refine RW.k XK 135 2 rfl ?_
 (conv=>whnf);refine ⟨rfl,?_⟩
 refine RW.call rfl (laws_szKeep_fn a 1048576) rfl (.cons (.agg (.cons (.r .r) (.cons (.r .r) (.nil)))) (.cons (.one (.r .r)) (.nil))) fun g3 => ?_
 refine RW.k XK 135 1 rfl ?_
 (conv=>whnf);refine ⟨rfl,?_⟩
 refine RW.nil ?_
 refine CW.keep 135 [1,3,5,7] rfl ?_;(conv=>whnf);refine ⟨?_⟩
 refine CW.seq ?_
 refine CW.k XK 135 1 [1,3,5,7,25] rfl ?_
 (conv=>whnf);refine ⟨rfl,?_⟩
 refine CW.cond rfl (fun h4 => ?_) (fun h4 => ?_)
 ·skip
  refine CW.k XK 135 1 [6] rfl ?_
  (conv=>whnf);refine ⟨rfl,?_⟩
  refine CW.ret ?_
  exact Post.one (RV.b rfl (by first | rfl | (exfalso; have p0 := mkVKeep_facts hP.1.1 hP.2.1; have p1 := mkVKeep_facts (perf_len a n x).1 (perf_len a n x).2; simp_all [eqKeep_refl]; done) | (exfalso; have p0 := mkVKeep_facts hP.1.1 hP.2.1; have p1 := mkVKeep_facts (perf_len a n x).1 (perf_len a n x).2; simp_all [eqKeep_refl]; omega))) (AOs.a rfl (AOs.r (AOs.a rfl AOs.e)))
 ·skip
  have hq := szKeep_ok a 1048576 hok (by omega) (by omega) (by simpa using h4)
  have hP : okToKeep a := hq.1
  refine CW.skip ?_
  refine CW.keep 135 [1,3,5,7] rfl ?_;(conv=>whnf);refine ⟨?_⟩
  refine CW.seq ?_
  refine CW.region ?_
  refine RW.k XK 135 2 rfl ?_
  (conv=>whnf);refine ⟨rfl,?_⟩
  refine RW.call rfl (laws_szCommand_fn x (szKeep a 1048576)) rfl (.cons (.agg (.cons (.r .r) (.cons (.r .r) (.cons (.r .r) (.cons (.r .r) (.cons (.r .r) (.cons (.r .r) (.nil)))))))) (.cons (.one (.r .r)) (.nil))) fun g5 => ?_
  refine RW.k XK 135 1 rfl ?_
  (conv=>whnf);refine ⟨rfl,?_⟩
  refine RW.nil ?_
  refine CW.keep 135 [1,3,5,7] rfl ?_;(conv=>whnf);refine ⟨?_⟩
  refine CW.seq ?_
  refine CW.k XK 135 1 [1,3,5,30] rfl ?_
  (conv=>whnf);refine ⟨rfl,?_⟩
  refine CW.cond rfl (fun h6 => ?_) (fun h6 => ?_)
  ·skip
   refine CW.k XK 135 1 [6] rfl ?_
   (conv=>whnf);refine ⟨rfl,?_⟩
   refine CW.ret ?_
   exact Post.one (RV.b rfl (by first | rfl | (exfalso; have p0 := mkVKeep_facts hP.1.1 hP.2.1; have p1 := mkVKeep_facts (perf_len a n x).1 (perf_len a n x).2; simp_all [eqKeep_refl]; done) | (exfalso; have p0 := mkVKeep_facts hP.1.1 hP.2.1; have p1 := mkVKeep_facts (perf_len a n x).1 (perf_len a n x).2; simp_all [eqKeep_refl]; omega))) (AOs.a rfl (AOs.r (AOs.a rfl AOs.e)))
  ·skip
   have hS : okToCommand x := (szCommand_ok x (szKeep a 1048576) hoc (by simpa using h4) hq.2 (by simpa using h6)).1
   refine CW.skip ?_
   refine CW.keep 135 [1,3,5] rfl ?_;(conv=>whnf);refine ⟨?_⟩
   refine CW.anyJ2 (fc := []) (L0 := [(1, I n), (3, .rp (Keep.c a)), (5, .rp (Command.c x))]) 135 (fun (zz : Nat × (Nat → Nat → Value) × (Nat → Nat → Value) × (Nat → Nat → Value)) => match zz with | (bo7_10_1, go7_1_1, go7_4_1, go7_5_1) => [(8, .obj bo7_10_1 [.w (sl 3 Session.c (((perfK a n x).1).sessions)) (go7_5_1 0 0), .w (sl 3 Item.c (((perfK a n x).1).items)) (go7_5_1 0 1)]), (9, S ((perfK a n x).2.1)), (10, Bo ((perfK a n x).2.2))]) (fun all hall f hf b0 hb K hK => ?_) ?_
   ·skip
    have ro7_27 : ∀ B, ∀ (bo7_10_1 : Nat), ∀ (go7_1_1 : Nat → Nat → Value), ∀ (go7_4_1 : Nat → Nat → Value), ∀ (go7_5_1 : Nat → Nat → Value), RA f E B all 0 (bt 14 16383) ⟨135, [(8, .obj bo7_10_1 [.w (sl 3 Session.c (((perfK a n x).1).sessions)) (go7_5_1 0 0), .w (sl 3 Item.c (((perfK a n x).1).items)) (go7_5_1 0 1)]), (9, S ((perfK a n x).2.1)), (10, Bo ((perfK a n x).2.2))] ++ b0⟩ K := by
     intro B bo7_10_1 go7_1_1 go7_4_1 go7_5_1
     exact RA.of2 hall hf hb (RA.finH (Tell.of rfl) (by kernel_rfl) (hK (bo7_10_1, go7_1_1, go7_4_1, go7_5_1) _ rfl (Le.of rfl)))
    have ro7_26 : ∀ B, ∀ (bo7_10_1 : Nat), ∀ (go7_1_1 : Nat → Nat → Value), ∀ (go7_4_1 : Nat → Nat → Value), ∀ (go7_5_1 : Nat → Nat → Value), RA f E B all 2 (bt 14 7679) ⟨135, [(8, .obj bo7_10_1 [.w (sl 3 Session.c (((perfK a n x).1).sessions)) (go7_5_1 0 0), .w (sl 3 Item.c (((perfK a n x).1).items)) (go7_5_1 0 1)]), (9, S ((perfK a n x).2.1)), (31, .tup [.u, .u, Bo ((perfK a n x).2.2)])] ++ b0⟩ K := by
     intro B bo7_10_1 go7_1_1 go7_4_1 go7_5_1
     refine RA.of2 hall hf hb (RA.stepH (L := [9]) (Tell.of rfl) (by kernel_rfl) (by simp) (RA.each ?_ (RA.each0)))
     ·skip
      refine RO.extract (d := Bo ((perfK a n x).2.2)) rfl rfl rfl rfl rfl (by decide) (Nat.le_of_ble_eq_true rfl) rfl rfl ?_
      refine RA.fr XK 135 0 [13] (bt 14 16383) rfl rfl (by kernel_rfl) (Tell.of rfl) ?_
      (conv=>whnf);refine ⟨rfl,fun B=>?_⟩
      exact RA.to2 hall hf hb (ro7_27 B bo7_10_1 go7_1_1 go7_4_1 go7_5_1) rfl rfl (by kernel_rfl)
    have ro7_25 : ∀ B, ∀ (bo7_10_1 : Nat), ∀ (go7_1_1 : Nat → Nat → Value), ∀ (go7_4_1 : Nat → Nat → Value), ∀ (go7_5_1 : Nat → Nat → Value), RA f E B all 3 (bt 14 3839) ⟨135, [(8, .obj bo7_10_1 [.w (sl 3 Session.c (((perfK a n x).1).sessions)) (go7_5_1 0 0), .w (sl 3 Item.c (((perfK a n x).1).items)) (go7_5_1 0 1)]), (31, .tup [.u, S ((perfK a n x).2.1), .u]), (40, Bo ((perfK a n x).2.2))] ++ b0⟩ K := by
     intro B bo7_10_1 go7_1_1 go7_4_1 go7_5_1
     refine RA.of2 hall hf hb (RA.stepH (L := [8]) (Tell.of rfl) (by kernel_rfl) (by simp) (RA.each ?_ (RA.each0)))
     ·skip
      refine RO.extract (d := S ((perfK a n x).2.1)) rfl rfl rfl rfl rfl (by decide) (Nat.le_of_ble_eq_true rfl) rfl rfl ?_
      refine RA.fr XK 135 0 [12,13] (bt 14 16383) rfl rfl (by kernel_rfl) (Tell.of rfl) ?_
      (conv=>whnf);refine ⟨rfl,fun B=>?_⟩
      exact RA.to2 hall hf hb (ro7_27 B bo7_10_1 go7_1_1 go7_4_1 go7_5_1) rfl rfl (by kernel_rfl)
    have ro7_24 : ∀ B, ∀ (bo7_10_1 : Nat), ∀ (go7_1_1 : Nat → Nat → Value), ∀ (go7_4_1 : Nat → Nat → Value), ∀ (go7_5_1 : Nat → Nat → Value), RA f E B all 3 (bt 14 2047) ⟨135, [(8, .obj bo7_10_1 [.r (.v (.slice none 0 0)), .r (.v (.slice none 0 0))]), (38, .agg [.w (sl 3 Session.c (((perfK a n x).1).sessions)) (go7_5_1 0 0), .w (sl 3 Item.c (((perfK a n x).1).items)) (go7_5_1 0 1)]), (39, S ((perfK a n x).2.1)), (40, Bo ((perfK a n x).2.2))] ++ b0⟩ K := by
     intro B bo7_10_1 go7_1_1 go7_4_1 go7_5_1
     refine RA.of2 hall hf hb (RA.stepH (L := [11]) (Tell.of rfl) (by kernel_rfl) (by simp) (RA.each ?_ (RA.each0)))
     ·skip
      refine RO.storeAgg (es := [.al 38 (some 0) 3 ((((perfK a n x).1).sessions).length) (go7_5_1 0 0) 0, .al 38 (some 1) 3 ((((perfK a n x).1).items).length) (go7_5_1 0 1) 0]) rfl rfl rfl rfl rfl rfl rfl rfl rfl rfl (Nat.le_of_ble_eq_true rfl) rfl ?_
      refine RA.keep 135 [1,3,5,8,38,39,40] rfl ?_;(conv=>whnf);refine ⟨?_⟩
      refine RA.pullA (k := 8) (l := 38) (j := 0) 8 38 0 rfl rfl rfl (by decide) rfl rfl rfl rfl ?_
      refine RA.keep 135 [1,3,5,8,38,39,40] rfl ?_;(conv=>whnf);refine ⟨?_⟩
      refine RA.pullA (k := 8) (l := 38) (j := 1) 8 38 1 rfl rfl rfl (by decide) rfl rfl rfl rfl ?_
      refine RA.keep 135 [1,3,5,8,39,40] rfl ?_;(conv=>whnf);refine ⟨?_⟩
      refine RA.fr XK 135 0 [12,13] (bt 14 16383) rfl rfl (by kernel_rfl) (Tell.of rfl) ?_
      (conv=>whnf);refine ⟨rfl,fun B=>?_⟩
      exact RA.to2 hall hf hb (ro7_27 B bo7_10_1 go7_1_1 go7_4_1 go7_5_1) rfl rfl (by kernel_rfl)
    have ro7_23 : ∀ B, ∀ (bo7_10_1 : Nat), ∀ (go7_1_1 : Nat → Nat → Value), ∀ (go7_4_1 : Nat → Nat → Value), ∀ (go7_5_1 : Nat → Nat → Value), RA f E B all 4 (bt 14 1919) ⟨135, [(8, .obj bo7_10_1 [.r (.v (.slice none 0 0)), .r (.v (.slice none 0 0))]), (31, .tup [.agg [.w (sl 3 Session.c (((perfK a n x).1).sessions)) (go7_5_1 0 0), .w (sl 3 Item.c (((perfK a n x).1).items)) (go7_5_1 0 1)], .u, .u]), (39, S ((perfK a n x).2.1)), (40, Bo ((perfK a n x).2.2))] ++ b0⟩ K := by
     intro B bo7_10_1 go7_1_1 go7_4_1 go7_5_1
     refine RA.of2 hall hf hb (RA.stepH (L := [7]) (Tell.of rfl) (by kernel_rfl) (by simp) (RA.each ?_ (RA.each0)))
     ·skip
      refine RO.extract (d := .agg [.w (sl 3 Session.c (((perfK a n x).1).sessions)) (go7_5_1 0 0), .w (sl 3 Item.c (((perfK a n x).1).items)) (go7_5_1 0 1)]) rfl rfl rfl rfl rfl (by decide) (Nat.le_of_ble_eq_true rfl) rfl rfl ?_
      exact RA.to2 hall hf hb (ro7_24 B bo7_10_1 go7_1_1 go7_4_1 go7_5_1) rfl rfl (by kernel_rfl)
    have ro7_22 : ∀ B, ∀ (bo7_10_1 : Nat), ∀ (go7_1_1 : Nat → Nat → Value), ∀ (go7_4_1 : Nat → Nat → Value), ∀ (go7_5_1 : Nat → Nat → Value), RA f E B all 4 (bt 14 3327) ⟨135, [(8, .obj bo7_10_1 [.w (sl 3 Session.c (((perfK a n x).1).sessions)) (go7_5_1 0 0), .w (sl 3 Item.c (((perfK a n x).1).items)) (go7_5_1 0 1)]), (31, .tup [.u, S ((perfK a n x).2.1), Bo ((perfK a n x).2.2)])] ++ b0⟩ K := by
     intro B bo7_10_1 go7_1_1 go7_4_1 go7_5_1
     refine RA.of2 hall hf hb (RA.stepH (L := [8, 9]) (Tell.of rfl) (by kernel_rfl) (by simp) (RA.each ?_ (RA.each ?_ (RA.each0))))
     ·skip
      refine RO.extract (d := S ((perfK a n x).2.1)) rfl rfl rfl rfl rfl (by decide) (Nat.le_of_ble_eq_true rfl) rfl rfl ?_
      refine RA.fr XK 135 2 [12] (bt 14 7679) rfl rfl (by kernel_rfl) (Tell.of rfl) ?_
      (conv=>whnf);refine ⟨rfl,fun B=>?_⟩
      exact RA.to2 hall hf hb (ro7_26 B bo7_10_1 go7_1_1 go7_4_1 go7_5_1) rfl rfl (by kernel_rfl)
     ·skip
      refine RO.extract (d := Bo ((perfK a n x).2.2)) rfl rfl rfl rfl rfl (by decide) (Nat.le_of_ble_eq_true rfl) rfl rfl ?_
      exact RA.to2 hall hf hb (ro7_25 B bo7_10_1 go7_1_1 go7_4_1 go7_5_1) rfl rfl (by kernel_rfl)
    have ro7_21 : ∀ B, ∀ (bo7_10_1 : Nat), ∀ (go7_1_1 : Nat → Nat → Value), ∀ (go7_4_1 : Nat → Nat → Value), ∀ (go7_5_1 : Nat → Nat → Value), RA f E B all 4 (bt 14 1791) ⟨135, [(8, .obj bo7_10_1 [.r (.v (.slice none 0 0)), .r (.v (.slice none 0 0))]), (31, .tup [.u, S ((perfK a n x).2.1), .u]), (38, .agg [.w (sl 3 Session.c (((perfK a n x).1).sessions)) (go7_5_1 0 0), .w (sl 3 Item.c (((perfK a n x).1).items)) (go7_5_1 0 1)]), (40, Bo ((perfK a n x).2.2))] ++ b0⟩ K := by
     intro B bo7_10_1 go7_1_1 go7_4_1 go7_5_1
     refine RA.of2 hall hf hb (RA.stepH (L := [8, 11]) (Tell.of rfl) (by kernel_rfl) (by simp) (RA.each ?_ (RA.each ?_ (RA.each0))))
     ·skip
      refine RO.extract (d := S ((perfK a n x).2.1)) rfl rfl rfl rfl rfl (by decide) (Nat.le_of_ble_eq_true rfl) rfl rfl ?_
      exact RA.to2 hall hf hb (ro7_24 B bo7_10_1 go7_1_1 go7_4_1 go7_5_1) rfl rfl (by kernel_rfl)
     ·skip
      refine RO.storeAgg (es := [.al 38 (some 0) 3 ((((perfK a n x).1).sessions).length) (go7_5_1 0 0) 0, .al 38 (some 1) 3 ((((perfK a n x).1).items).length) (go7_5_1 0 1) 0]) rfl rfl rfl rfl rfl rfl rfl rfl rfl rfl (Nat.le_of_ble_eq_true rfl) rfl ?_
      refine RA.keep 135 [1,3,5,8,31,38,40] rfl ?_;(conv=>whnf);refine ⟨?_⟩
      refine RA.pullA (k := 8) (l := 38) (j := 0) 8 38 0 rfl rfl rfl (by decide) rfl rfl rfl rfl ?_
      refine RA.keep 135 [1,3,5,8,31,38,40] rfl ?_;(conv=>whnf);refine ⟨?_⟩
      refine RA.pullA (k := 8) (l := 38) (j := 1) 8 38 1 rfl rfl rfl (by decide) rfl rfl rfl rfl ?_
      refine RA.keep 135 [1,3,5,8,31,40] rfl ?_;(conv=>whnf);refine ⟨?_⟩
      exact RA.to2 hall hf hb (ro7_25 B bo7_10_1 go7_1_1 go7_4_1 go7_5_1) rfl rfl (by kernel_rfl)
    have ro7_20 : ∀ B, ∀ (bo7_10_1 : Nat), ∀ (go7_1_1 : Nat → Nat → Value), ∀ (go7_4_1 : Nat → Nat → Value), ∀ (go7_5_1 : Nat → Nat → Value), RA f E B all 4 (bt 14 1535) ⟨135, [(8, .obj bo7_10_1 [.r (.v (.slice none 0 0)), .r (.v (.slice none 0 0))]), (31, .tup [.u, .u, Bo ((perfK a n x).2.2)]), (38, .agg [.w (sl 3 Session.c (((perfK a n x).1).sessions)) (go7_5_1 0 0), .w (sl 3 Item.c (((perfK a n x).1).items)) (go7_5_1 0 1)]), (39, S ((perfK a n x).2.1))] ++ b0⟩ K := by
     intro B bo7_10_1 go7_1_1 go7_4_1 go7_5_1
     refine RA.of2 hall hf hb (RA.stepH (L := [9, 11]) (Tell.of rfl) (by kernel_rfl) (by simp) (RA.each ?_ (RA.each ?_ (RA.each0))))
     ·skip
      refine RO.extract (d := Bo ((perfK a n x).2.2)) rfl rfl rfl rfl rfl (by decide) (Nat.le_of_ble_eq_true rfl) rfl rfl ?_
      exact RA.to2 hall hf hb (ro7_24 B bo7_10_1 go7_1_1 go7_4_1 go7_5_1) rfl rfl (by kernel_rfl)
     ·skip
      refine RO.storeAgg (es := [.al 38 (some 0) 3 ((((perfK a n x).1).sessions).length) (go7_5_1 0 0) 0, .al 38 (some 1) 3 ((((perfK a n x).1).items).length) (go7_5_1 0 1) 0]) rfl rfl rfl rfl rfl rfl rfl rfl rfl rfl (Nat.le_of_ble_eq_true rfl) rfl ?_
      refine RA.keep 135 [1,3,5,8,31,38,39] rfl ?_;(conv=>whnf);refine ⟨?_⟩
      refine RA.pullA (k := 8) (l := 38) (j := 0) 8 38 0 rfl rfl rfl (by decide) rfl rfl rfl rfl ?_
      refine RA.keep 135 [1,3,5,8,31,38,39] rfl ?_;(conv=>whnf);refine ⟨?_⟩
      refine RA.pullA (k := 8) (l := 38) (j := 1) 8 38 1 rfl rfl rfl (by decide) rfl rfl rfl rfl ?_
      refine RA.keep 135 [1,3,5,8,31,39] rfl ?_;(conv=>whnf);refine ⟨?_⟩
      refine RA.fr XK 135 2 [12] (bt 14 7679) rfl rfl (by kernel_rfl) (Tell.of rfl) ?_
      (conv=>whnf);refine ⟨rfl,fun B=>?_⟩
      exact RA.to2 hall hf hb (ro7_26 B bo7_10_1 go7_1_1 go7_4_1 go7_5_1) rfl rfl (by kernel_rfl)
    have ro7_19 : ∀ B, ∀ (go7_1_1 : Nat → Nat → Value), ∀ (go7_4_1 : Nat → Nat → Value), ∀ (go7_5_1 : Nat → Nat → Value), RA f E B all 4 (bt 14 1023) ⟨135, [(38, .agg [.w (sl 3 Session.c (((perfK a n x).1).sessions)) (go7_5_1 0 0), .w (sl 3 Item.c (((perfK a n x).1).items)) (go7_5_1 0 1)]), (39, S ((perfK a n x).2.1)), (40, Bo ((perfK a n x).2.2))] ++ b0⟩ K := by
     intro B go7_1_1 go7_4_1 go7_5_1
     refine RA.of2 hall hf hb (RA.stepH (L := [10]) (Tell.of rfl) (by kernel_rfl) (by simp) (RA.each ?_ (RA.each0)))
     ·skip
      refine RO.alloc (ds := [.r (.v (.slice none 0 0)), .r (.v (.slice none 0 0))]) rfl rfl rfl rfl rfl rfl fun bo7_10_1 => ?_
      exact RA.to2 hall hf hb (ro7_24 B bo7_10_1 go7_1_1 go7_4_1 go7_5_1) rfl rfl (by kernel_rfl)
    have ro7_18 : ∀ B, ∀ (bo7_10_1 : Nat), ∀ (go7_1_1 : Nat → Nat → Value), ∀ (go7_4_1 : Nat → Nat → Value), ∀ (go7_5_1 : Nat → Nat → Value), RA f E B all 5 (bt 14 1663) ⟨135, [(8, .obj bo7_10_1 [.r (.v (.slice none 0 0)), .r (.v (.slice none 0 0))]), (31, .tup [.agg [.w (sl 3 Session.c (((perfK a n x).1).sessions)) (go7_5_1 0 0), .w (sl 3 Item.c (((perfK a n x).1).items)) (go7_5_1 0 1)], S ((perfK a n x).2.1), .u]), (40, Bo ((perfK a n x).2.2))] ++ b0⟩ K := by
     intro B bo7_10_1 go7_1_1 go7_4_1 go7_5_1
     refine RA.of2 hall hf hb (RA.stepH (L := [7, 8]) (Tell.of rfl) (by kernel_rfl) (by simp) (RA.each ?_ (RA.each ?_ (RA.each0))))
     ·skip
      refine RO.extract (d := .agg [.w (sl 3 Session.c (((perfK a n x).1).sessions)) (go7_5_1 0 0), .w (sl 3 Item.c (((perfK a n x).1).items)) (go7_5_1 0 1)]) rfl rfl rfl rfl rfl (by decide) (Nat.le_of_ble_eq_true rfl) rfl rfl ?_
      exact RA.to2 hall hf hb (ro7_21 B bo7_10_1 go7_1_1 go7_4_1 go7_5_1) rfl rfl (by kernel_rfl)
     ·skip
      refine RO.extract (d := S ((perfK a n x).2.1)) rfl rfl rfl rfl rfl (by decide) (Nat.le_of_ble_eq_true rfl) rfl rfl ?_
      exact RA.to2 hall hf hb (ro7_23 B bo7_10_1 go7_1_1 go7_4_1 go7_5_1) rfl rfl (by kernel_rfl)
    have ro7_17 : ∀ B, ∀ (bo7_10_1 : Nat), ∀ (go7_1_1 : Nat → Nat → Value), ∀ (go7_4_1 : Nat → Nat → Value), ∀ (go7_5_1 : Nat → Nat → Value), RA f E B all 5 (bt 14 1407) ⟨135, [(8, .obj bo7_10_1 [.r (.v (.slice none 0 0)), .r (.v (.slice none 0 0))]), (31, .tup [.agg [.w (sl 3 Session.c (((perfK a n x).1).sessions)) (go7_5_1 0 0), .w (sl 3 Item.c (((perfK a n x).1).items)) (go7_5_1 0 1)], .u, Bo ((perfK a n x).2.2)]), (39, S ((perfK a n x).2.1))] ++ b0⟩ K := by
     intro B bo7_10_1 go7_1_1 go7_4_1 go7_5_1
     refine RA.of2 hall hf hb (RA.stepH (L := [7, 9]) (Tell.of rfl) (by kernel_rfl) (by simp) (RA.each ?_ (RA.each ?_ (RA.each0))))
     ·skip
      refine RO.extract (d := .agg [.w (sl 3 Session.c (((perfK a n x).1).sessions)) (go7_5_1 0 0), .w (sl 3 Item.c (((perfK a n x).1).items)) (go7_5_1 0 1)]) rfl rfl rfl rfl rfl (by decide) (Nat.le_of_ble_eq_true rfl) rfl rfl ?_
      exact RA.to2 hall hf hb (ro7_20 B bo7_10_1 go7_1_1 go7_4_1 go7_5_1) rfl rfl (by kernel_rfl)
     ·skip
      refine RO.extract (d := Bo ((perfK a n x).2.2)) rfl rfl rfl rfl rfl (by decide) (Nat.le_of_ble_eq_true rfl) rfl rfl ?_
      exact RA.to2 hall hf hb (ro7_23 B bo7_10_1 go7_1_1 go7_4_1 go7_5_1) rfl rfl (by kernel_rfl)
    have ro7_16 : ∀ B, ∀ (go7_1_1 : Nat → Nat → Value), ∀ (go7_4_1 : Nat → Nat → Value), ∀ (go7_5_1 : Nat → Nat → Value), RA f E B all 5 (bt 14 895) ⟨135, [(31, .tup [.agg [.w (sl 3 Session.c (((perfK a n x).1).sessions)) (go7_5_1 0 0), .w (sl 3 Item.c (((perfK a n x).1).items)) (go7_5_1 0 1)], .u, .u]), (39, S ((perfK a n x).2.1)), (40, Bo ((perfK a n x).2.2))] ++ b0⟩ K := by
     intro B go7_1_1 go7_4_1 go7_5_1
     refine RA.of2 hall hf hb (RA.stepH (L := [7, 10]) (Tell.of rfl) (by kernel_rfl) (by simp) (RA.each ?_ (RA.each ?_ (RA.each0))))
     ·skip
      refine RO.extract (d := .agg [.w (sl 3 Session.c (((perfK a n x).1).sessions)) (go7_5_1 0 0), .w (sl 3 Item.c (((perfK a n x).1).items)) (go7_5_1 0 1)]) rfl rfl rfl rfl rfl (by decide) (Nat.le_of_ble_eq_true rfl) rfl rfl ?_
      exact RA.to2 hall hf hb (ro7_19 B go7_1_1 go7_4_1 go7_5_1) rfl rfl (by kernel_rfl)
     ·skip
      refine RO.alloc (ds := [.r (.v (.slice none 0 0)), .r (.v (.slice none 0 0))]) rfl rfl rfl rfl rfl rfl fun bo7_10_1 => ?_
      exact RA.to2 hall hf hb (ro7_23 B bo7_10_1 go7_1_1 go7_4_1 go7_5_1) rfl rfl (by kernel_rfl)
    have ro7_15 : ∀ B, ∀ (bo7_10_1 : Nat), ∀ (go7_1_1 : Nat → Nat → Value), ∀ (go7_4_1 : Nat → Nat → Value), ∀ (go7_5_1 : Nat → Nat → Value), RA f E B all 5 (bt 14 1279) ⟨135, [(8, .obj bo7_10_1 [.r (.v (.slice none 0 0)), .r (.v (.slice none 0 0))]), (31, .tup [.u, S ((perfK a n x).2.1), Bo ((perfK a n x).2.2)]), (38, .agg [.w (sl 3 Session.c (((perfK a n x).1).sessions)) (go7_5_1 0 0), .w (sl 3 Item.c (((perfK a n x).1).items)) (go7_5_1 0 1)])] ++ b0⟩ K := by
     intro B bo7_10_1 go7_1_1 go7_4_1 go7_5_1
     refine RA.of2 hall hf hb (RA.stepH (L := [8, 9, 11]) (Tell.of rfl) (by kernel_rfl) (by simp) (RA.each ?_ (RA.each ?_ (RA.each ?_ (RA.each0)))))
     ·skip
      refine RO.extract (d := S ((perfK a n x).2.1)) rfl rfl rfl rfl rfl (by decide) (Nat.le_of_ble_eq_true rfl) rfl rfl ?_
      exact RA.to2 hall hf hb (ro7_20 B bo7_10_1 go7_1_1 go7_4_1 go7_5_1) rfl rfl (by kernel_rfl)
     ·skip
      refine RO.extract (d := Bo ((perfK a n x).2.2)) rfl rfl rfl rfl rfl (by decide) (Nat.le_of_ble_eq_true rfl) rfl rfl ?_
      exact RA.to2 hall hf hb (ro7_21 B bo7_10_1 go7_1_1 go7_4_1 go7_5_1) rfl rfl (by kernel_rfl)
     ·skip
      refine RO.storeAgg (es := [.al 38 (some 0) 3 ((((perfK a n x).1).sessions).length) (go7_5_1 0 0) 0, .al 38 (some 1) 3 ((((perfK a n x).1).items).length) (go7_5_1 0 1) 0]) rfl rfl rfl rfl rfl rfl rfl rfl rfl rfl (Nat.le_of_ble_eq_true rfl) rfl ?_
      refine RA.keep 135 [1,3,5,8,31,38] rfl ?_;(conv=>whnf);refine ⟨?_⟩
      refine RA.pullA (k := 8) (l := 38) (j := 0) 8 38 0 rfl rfl rfl (by decide) rfl rfl rfl rfl ?_
      refine RA.keep 135 [1,3,5,8,31,38] rfl ?_;(conv=>whnf);refine ⟨?_⟩
      refine RA.pullA (k := 8) (l := 38) (j := 1) 8 38 1 rfl rfl rfl (by decide) rfl rfl rfl rfl ?_
      refine RA.keep 135 [1,3,5,8,31] rfl ?_;(conv=>whnf);refine ⟨?_⟩
      exact RA.to2 hall hf hb (ro7_22 B bo7_10_1 go7_1_1 go7_4_1 go7_5_1) rfl rfl (by kernel_rfl)
    have ro7_14 : ∀ B, ∀ (go7_1_1 : Nat → Nat → Value), ∀ (go7_4_1 : Nat → Nat → Value), ∀ (go7_5_1 : Nat → Nat → Value), RA f E B all 5 (bt 14 767) ⟨135, [(31, .tup [.u, S ((perfK a n x).2.1), .u]), (38, .agg [.w (sl 3 Session.c (((perfK a n x).1).sessions)) (go7_5_1 0 0), .w (sl 3 Item.c (((perfK a n x).1).items)) (go7_5_1 0 1)]), (40, Bo ((perfK a n x).2.2))] ++ b0⟩ K := by
     intro B go7_1_1 go7_4_1 go7_5_1
     refine RA.of2 hall hf hb (RA.stepH (L := [8, 10]) (Tell.of rfl) (by kernel_rfl) (by simp) (RA.each ?_ (RA.each ?_ (RA.each0))))
     ·skip
      refine RO.extract (d := S ((perfK a n x).2.1)) rfl rfl rfl rfl rfl (by decide) (Nat.le_of_ble_eq_true rfl) rfl rfl ?_
      exact RA.to2 hall hf hb (ro7_19 B go7_1_1 go7_4_1 go7_5_1) rfl rfl (by kernel_rfl)
     ·skip
      refine RO.alloc (ds := [.r (.v (.slice none 0 0)), .r (.v (.slice none 0 0))]) rfl rfl rfl rfl rfl rfl fun bo7_10_1 => ?_
      exact RA.to2 hall hf hb (ro7_21 B bo7_10_1 go7_1_1 go7_4_1 go7_5_1) rfl rfl (by kernel_rfl)
    have ro7_13 : ∀ B, ∀ (go7_1_1 : Nat → Nat → Value), ∀ (go7_4_1 : Nat → Nat → Value), ∀ (go7_5_1 : Nat → Nat → Value), RA f E B all 5 (bt 14 511) ⟨135, [(31, .tup [.u, .u, Bo ((perfK a n x).2.2)]), (38, .agg [.w (sl 3 Session.c (((perfK a n x).1).sessions)) (go7_5_1 0 0), .w (sl 3 Item.c (((perfK a n x).1).items)) (go7_5_1 0 1)]), (39, S ((perfK a n x).2.1))] ++ b0⟩ K := by
     intro B go7_1_1 go7_4_1 go7_5_1
     refine RA.of2 hall hf hb (RA.stepH (L := [9, 10]) (Tell.of rfl) (by kernel_rfl) (by simp) (RA.each ?_ (RA.each ?_ (RA.each0))))
     ·skip
      refine RO.extract (d := Bo ((perfK a n x).2.2)) rfl rfl rfl rfl rfl (by decide) (Nat.le_of_ble_eq_true rfl) rfl rfl ?_
      exact RA.to2 hall hf hb (ro7_19 B go7_1_1 go7_4_1 go7_5_1) rfl rfl (by kernel_rfl)
     ·skip
      refine RO.alloc (ds := [.r (.v (.slice none 0 0)), .r (.v (.slice none 0 0))]) rfl rfl rfl rfl rfl rfl fun bo7_10_1 => ?_
      exact RA.to2 hall hf hb (ro7_20 B bo7_10_1 go7_1_1 go7_4_1 go7_5_1) rfl rfl (by kernel_rfl)
    have ro7_12 : ∀ B, ∀ (bo7_10_1 : Nat), ∀ (go7_1_1 : Nat → Nat → Value), ∀ (go7_4_1 : Nat → Nat → Value), ∀ (go7_5_1 : Nat → Nat → Value), RA f E B all 6 (bt 14 1151) ⟨135, [(8, .obj bo7_10_1 [.r (.v (.slice none 0 0)), .r (.v (.slice none 0 0))]), (31, .tup [.agg [.w (sl 3 Session.c (((perfK a n x).1).sessions)) (go7_5_1 0 0), .w (sl 3 Item.c (((perfK a n x).1).items)) (go7_5_1 0 1)], S ((perfK a n x).2.1), Bo ((perfK a n x).2.2)])] ++ b0⟩ K := by
     intro B bo7_10_1 go7_1_1 go7_4_1 go7_5_1
     refine RA.of2 hall hf hb (RA.stepH (L := [7, 8, 9]) (Tell.of rfl) (by kernel_rfl) (by simp) (RA.each ?_ (RA.each ?_ (RA.each ?_ (RA.each0)))))
     ·skip
      refine RO.extract (d := .agg [.w (sl 3 Session.c (((perfK a n x).1).sessions)) (go7_5_1 0 0), .w (sl 3 Item.c (((perfK a n x).1).items)) (go7_5_1 0 1)]) rfl rfl rfl rfl rfl (by decide) (Nat.le_of_ble_eq_true rfl) rfl rfl ?_
      exact RA.to2 hall hf hb (ro7_15 B bo7_10_1 go7_1_1 go7_4_1 go7_5_1) rfl rfl (by kernel_rfl)
     ·skip
      refine RO.extract (d := S ((perfK a n x).2.1)) rfl rfl rfl rfl rfl (by decide) (Nat.le_of_ble_eq_true rfl) rfl rfl ?_
      exact RA.to2 hall hf hb (ro7_17 B bo7_10_1 go7_1_1 go7_4_1 go7_5_1) rfl rfl (by kernel_rfl)
     ·skip
      refine RO.extract (d := Bo ((perfK a n x).2.2)) rfl rfl rfl rfl rfl (by decide) (Nat.le_of_ble_eq_true rfl) rfl rfl ?_
      exact RA.to2 hall hf hb (ro7_18 B bo7_10_1 go7_1_1 go7_4_1 go7_5_1) rfl rfl (by kernel_rfl)
    have ro7_11 : ∀ B, ∀ (go7_1_1 : Nat → Nat → Value), ∀ (go7_4_1 : Nat → Nat → Value), ∀ (go7_5_1 : Nat → Nat → Value), RA f E B all 6 (bt 14 639) ⟨135, [(31, .tup [.agg [.w (sl 3 Session.c (((perfK a n x).1).sessions)) (go7_5_1 0 0), .w (sl 3 Item.c (((perfK a n x).1).items)) (go7_5_1 0 1)], S ((perfK a n x).2.1), .u]), (40, Bo ((perfK a n x).2.2))] ++ b0⟩ K := by
     intro B go7_1_1 go7_4_1 go7_5_1
     refine RA.of2 hall hf hb (RA.stepH (L := [7, 8, 10]) (Tell.of rfl) (by kernel_rfl) (by simp) (RA.each ?_ (RA.each ?_ (RA.each ?_ (RA.each0)))))
     ·skip
      refine RO.extract (d := .agg [.w (sl 3 Session.c (((perfK a n x).1).sessions)) (go7_5_1 0 0), .w (sl 3 Item.c (((perfK a n x).1).items)) (go7_5_1 0 1)]) rfl rfl rfl rfl rfl (by decide) (Nat.le_of_ble_eq_true rfl) rfl rfl ?_
      exact RA.to2 hall hf hb (ro7_14 B go7_1_1 go7_4_1 go7_5_1) rfl rfl (by kernel_rfl)
     ·skip
      refine RO.extract (d := S ((perfK a n x).2.1)) rfl rfl rfl rfl rfl (by decide) (Nat.le_of_ble_eq_true rfl) rfl rfl ?_
      exact RA.to2 hall hf hb (ro7_16 B go7_1_1 go7_4_1 go7_5_1) rfl rfl (by kernel_rfl)
     ·skip
      refine RO.alloc (ds := [.r (.v (.slice none 0 0)), .r (.v (.slice none 0 0))]) rfl rfl rfl rfl rfl rfl fun bo7_10_1 => ?_
      exact RA.to2 hall hf hb (ro7_18 B bo7_10_1 go7_1_1 go7_4_1 go7_5_1) rfl rfl (by kernel_rfl)
    have ro7_10 : ∀ B, ∀ (go7_1_1 : Nat → Nat → Value), ∀ (go7_4_1 : Nat → Nat → Value), ∀ (go7_5_1 : Nat → Nat → Value), RA f E B all 6 (bt 14 383) ⟨135, [(31, .tup [.agg [.w (sl 3 Session.c (((perfK a n x).1).sessions)) (go7_5_1 0 0), .w (sl 3 Item.c (((perfK a n x).1).items)) (go7_5_1 0 1)], .u, Bo ((perfK a n x).2.2)]), (39, S ((perfK a n x).2.1))] ++ b0⟩ K := by
     intro B go7_1_1 go7_4_1 go7_5_1
     refine RA.of2 hall hf hb (RA.stepH (L := [7, 9, 10]) (Tell.of rfl) (by kernel_rfl) (by simp) (RA.each ?_ (RA.each ?_ (RA.each ?_ (RA.each0)))))
     ·skip
      refine RO.extract (d := .agg [.w (sl 3 Session.c (((perfK a n x).1).sessions)) (go7_5_1 0 0), .w (sl 3 Item.c (((perfK a n x).1).items)) (go7_5_1 0 1)]) rfl rfl rfl rfl rfl (by decide) (Nat.le_of_ble_eq_true rfl) rfl rfl ?_
      exact RA.to2 hall hf hb (ro7_13 B go7_1_1 go7_4_1 go7_5_1) rfl rfl (by kernel_rfl)
     ·skip
      refine RO.extract (d := Bo ((perfK a n x).2.2)) rfl rfl rfl rfl rfl (by decide) (Nat.le_of_ble_eq_true rfl) rfl rfl ?_
      exact RA.to2 hall hf hb (ro7_16 B go7_1_1 go7_4_1 go7_5_1) rfl rfl (by kernel_rfl)
     ·skip
      refine RO.alloc (ds := [.r (.v (.slice none 0 0)), .r (.v (.slice none 0 0))]) rfl rfl rfl rfl rfl rfl fun bo7_10_1 => ?_
      exact RA.to2 hall hf hb (ro7_17 B bo7_10_1 go7_1_1 go7_4_1 go7_5_1) rfl rfl (by kernel_rfl)
    have ro7_9 : ∀ B, ∀ (go7_1_1 : Nat → Nat → Value), ∀ (go7_4_1 : Nat → Nat → Value), ∀ (go7_5_1 : Nat → Nat → Value), RA f E B all 6 (bt 14 255) ⟨135, [(31, .tup [.u, S ((perfK a n x).2.1), Bo ((perfK a n x).2.2)]), (38, .agg [.w (sl 3 Session.c (((perfK a n x).1).sessions)) (go7_5_1 0 0), .w (sl 3 Item.c (((perfK a n x).1).items)) (go7_5_1 0 1)])] ++ b0⟩ K := by
     intro B go7_1_1 go7_4_1 go7_5_1
     refine RA.of2 hall hf hb (RA.stepH (L := [8, 9, 10]) (Tell.of rfl) (by kernel_rfl) (by simp) (RA.each ?_ (RA.each ?_ (RA.each ?_ (RA.each0)))))
     ·skip
      refine RO.extract (d := S ((perfK a n x).2.1)) rfl rfl rfl rfl rfl (by decide) (Nat.le_of_ble_eq_true rfl) rfl rfl ?_
      exact RA.to2 hall hf hb (ro7_13 B go7_1_1 go7_4_1 go7_5_1) rfl rfl (by kernel_rfl)
     ·skip
      refine RO.extract (d := Bo ((perfK a n x).2.2)) rfl rfl rfl rfl rfl (by decide) (Nat.le_of_ble_eq_true rfl) rfl rfl ?_
      exact RA.to2 hall hf hb (ro7_14 B go7_1_1 go7_4_1 go7_5_1) rfl rfl (by kernel_rfl)
     ·skip
      refine RO.alloc (ds := [.r (.v (.slice none 0 0)), .r (.v (.slice none 0 0))]) rfl rfl rfl rfl rfl rfl fun bo7_10_1 => ?_
      exact RA.to2 hall hf hb (ro7_15 B bo7_10_1 go7_1_1 go7_4_1 go7_5_1) rfl rfl (by kernel_rfl)
    have ro7_8 : ∀ B, ∀ (bo7_10_1 : Nat), ∀ (go7_1_1 : Nat → Nat → Value), ∀ (go7_4_1 : Nat → Nat → Value), ∀ (go7_5_1 : Nat → Nat → Value), RA f E B all 7 (bt 14 1087) ⟨135, [(8, .obj bo7_10_1 [.r (.v (.slice none 0 0)), .r (.v (.slice none 0 0))]), (37, .tup [.agg [.w (sl 3 Session.c (((perfK a n x).1).sessions)) (go7_5_1 0 0), .w (sl 3 Item.c (((perfK a n x).1).items)) (go7_5_1 0 1)], S ((perfK a n x).2.1), Bo ((perfK a n x).2.2)])] ++ b0⟩ K := by
     intro B bo7_10_1 go7_1_1 go7_4_1 go7_5_1
     refine RA.of2 hall hf hb (RA.stepH (L := [6]) (Tell.of rfl) (by kernel_rfl) (by simp) (RA.each ?_ (RA.each0)))
     ·skip
      refine RO.moveMove rfl rfl rfl rfl rfl (by decide) (Nat.le_of_ble_eq_true rfl) (Nat.le_of_ble_eq_true rfl) ?_
      exact RA.to2 hall hf hb (ro7_12 B bo7_10_1 go7_1_1 go7_4_1 go7_5_1) rfl rfl (by kernel_rfl)
    have ro7_7 : ∀ B, ∀ (go7_1_1 : Nat → Nat → Value), ∀ (go7_4_1 : Nat → Nat → Value), ∀ (go7_5_1 : Nat → Nat → Value), RA f E B all 7 (bt 14 127) ⟨135, [(31, .tup [.agg [.w (sl 3 Session.c (((perfK a n x).1).sessions)) (go7_5_1 0 0), .w (sl 3 Item.c (((perfK a n x).1).items)) (go7_5_1 0 1)], S ((perfK a n x).2.1), Bo ((perfK a n x).2.2)])] ++ b0⟩ K := by
     intro B go7_1_1 go7_4_1 go7_5_1
     refine RA.of2 hall hf hb (RA.stepH (L := [7, 8, 9, 10]) (Tell.of rfl) (by kernel_rfl) (by simp) (RA.each ?_ (RA.each ?_ (RA.each ?_ (RA.each ?_ (RA.each0))))))
     ·skip
      refine RO.extract (d := .agg [.w (sl 3 Session.c (((perfK a n x).1).sessions)) (go7_5_1 0 0), .w (sl 3 Item.c (((perfK a n x).1).items)) (go7_5_1 0 1)]) rfl rfl rfl rfl rfl (by decide) (Nat.le_of_ble_eq_true rfl) rfl rfl ?_
      exact RA.to2 hall hf hb (ro7_9 B go7_1_1 go7_4_1 go7_5_1) rfl rfl (by kernel_rfl)
     ·skip
      refine RO.extract (d := S ((perfK a n x).2.1)) rfl rfl rfl rfl rfl (by decide) (Nat.le_of_ble_eq_true rfl) rfl rfl ?_
      exact RA.to2 hall hf hb (ro7_10 B go7_1_1 go7_4_1 go7_5_1) rfl rfl (by kernel_rfl)
     ·skip
      refine RO.extract (d := Bo ((perfK a n x).2.2)) rfl rfl rfl rfl rfl (by decide) (Nat.le_of_ble_eq_true rfl) rfl rfl ?_
      exact RA.to2 hall hf hb (ro7_11 B go7_1_1 go7_4_1 go7_5_1) rfl rfl (by kernel_rfl)
     ·skip
      refine RO.alloc (ds := [.r (.v (.slice none 0 0)), .r (.v (.slice none 0 0))]) rfl rfl rfl rfl rfl rfl fun bo7_10_1 => ?_
      exact RA.to2 hall hf hb (ro7_12 B bo7_10_1 go7_1_1 go7_4_1 go7_5_1) rfl rfl (by kernel_rfl)
    have ro7_6 : ∀ B, ∀ (bo7_10_1 : Nat), ∀ (go7_1_1 : Nat → Nat → Value), ∀ (go7_4_1 : Nat → Nat → Value), RA f E B all 8 (bt 14 1055) ⟨135, [(8, .obj bo7_10_1 [.r (.v (.slice none 0 0)), .r (.v (.slice none 0 0))]), (33, .agg [.w (sl 3 Session.c a.sessions) (go7_1_1 0 0), .w (sl 3 Item.c a.items) (go7_1_1 0 1)]), (34, I n), (36, .agg ((Command.c x).map .r))] ++ b0⟩ K := by
     intro B bo7_10_1 go7_1_1 go7_4_1
     refine RA.of2 hall hf hb (RA.stepH (L := [5]) (Tell.of rfl) (by kernel_rfl) (by simp) (RA.each ?_ (RA.each0)))
     ·skip
      refine RO.callOwn rfl rfl (spec_Perform_fn a n x hP) rfl (.cons (.agg (.cons (.r (.ala (k := none) (i := 33) (j := 0) (sz := 3) (V := (go7_1_1 0 0)) rfl rfl rfl nofun)) (.cons (.r (.ala (k := none) (i := 33) (j := 1) (sz := 3) (V := (go7_1_1 0 1)) rfl rfl rfl nofun)) (.nil)))) (.cons (.one (.r .r)) (.cons (.agg (.cons (.r .r) (.cons (.r .r) (.cons (.r .r) (.cons (.r .r) (.cons (.r .r) (.cons (.r .r) (.nil)))))))) (.nil)))) rfl rfl fun go7_5_1 => ?_
      exact RA.to2 hall hf hb (ro7_8 B bo7_10_1 go7_1_1 go7_4_1 go7_5_1) rfl rfl (by kernel_rfl)
    have ro7_5 : ∀ B, ∀ (go7_1_1 : Nat → Nat → Value), ∀ (go7_4_1 : Nat → Nat → Value), ∀ (go7_5_1 : Nat → Nat → Value), RA f E B all 8 (bt 14 63) ⟨135, [(37, .tup [.agg [.w (sl 3 Session.c (((perfK a n x).1).sessions)) (go7_5_1 0 0), .w (sl 3 Item.c (((perfK a n x).1).items)) (go7_5_1 0 1)], S ((perfK a n x).2.1), Bo ((perfK a n x).2.2)])] ++ b0⟩ K := by
     intro B go7_1_1 go7_4_1 go7_5_1
     refine RA.of2 hall hf hb (RA.stepH (L := [6, 10]) (Tell.of rfl) (by kernel_rfl) (by simp) (RA.each ?_ (RA.each ?_ (RA.each0))))
     ·skip
      refine RO.moveMove rfl rfl rfl rfl rfl (by decide) (Nat.le_of_ble_eq_true rfl) (Nat.le_of_ble_eq_true rfl) ?_
      exact RA.to2 hall hf hb (ro7_7 B go7_1_1 go7_4_1 go7_5_1) rfl rfl (by kernel_rfl)
     ·skip
      refine RO.alloc (ds := [.r (.v (.slice none 0 0)), .r (.v (.slice none 0 0))]) rfl rfl rfl rfl rfl rfl fun bo7_10_1 => ?_
      exact RA.to2 hall hf hb (ro7_8 B bo7_10_1 go7_1_1 go7_4_1 go7_5_1) rfl rfl (by kernel_rfl)
    have ro7_4 : ∀ B, ∀ (bo7_10_1 : Nat), ∀ (go7_1_1 : Nat → Nat → Value), RA f E B all 9 (bt 14 1039) ⟨135, [(8, .obj bo7_10_1 [.r (.v (.slice none 0 0)), .r (.v (.slice none 0 0))]), (33, .agg [.w (sl 3 Session.c a.sessions) (go7_1_1 0 0), .w (sl 3 Item.c a.items) (go7_1_1 0 1)]), (34, I n), (35, .agg ((Command.c x).map .r))] ++ b0⟩ K := by
     intro B bo7_10_1 go7_1_1
     refine RA.of2 hall hf hb (RA.stepH (L := [4]) (Tell.of rfl) (by kernel_rfl) (by simp) (RA.each ?_ (RA.each0)))
     ·skip
      refine RO.call rfl rfl (laws_toCommand_fn x hS) rfl (.cons (.agg (.cons (.r .r) (.cons (.r .r) (.cons (.r .r) (.cons (.r .r) (.cons (.r .r) (.cons (.r .r) (.nil)))))))) (.nil)) rfl fun go7_4_1 => ?_
      exact RA.to2 hall hf hb (ro7_6 B bo7_10_1 go7_1_1 go7_4_1) rfl rfl (by kernel_rfl)
    have ro7_3 : ∀ B, ∀ (go7_1_1 : Nat → Nat → Value), ∀ (go7_4_1 : Nat → Nat → Value), RA f E B all 9 (bt 14 31) ⟨135, [(33, .agg [.w (sl 3 Session.c a.sessions) (go7_1_1 0 0), .w (sl 3 Item.c a.items) (go7_1_1 0 1)]), (34, I n), (36, .agg ((Command.c x).map .r))] ++ b0⟩ K := by
     intro B go7_1_1 go7_4_1
     refine RA.of2 hall hf hb (RA.stepH (L := [5, 10]) (Tell.of rfl) (by kernel_rfl) (by simp) (RA.each ?_ (RA.each ?_ (RA.each0))))
     ·skip
      refine RO.callOwn rfl rfl (spec_Perform_fn a n x hP) rfl (.cons (.agg (.cons (.r (.ala (k := none) (i := 33) (j := 0) (sz := 3) (V := (go7_1_1 0 0)) rfl rfl rfl nofun)) (.cons (.r (.ala (k := none) (i := 33) (j := 1) (sz := 3) (V := (go7_1_1 0 1)) rfl rfl rfl nofun)) (.nil)))) (.cons (.one (.r .r)) (.cons (.agg (.cons (.r .r) (.cons (.r .r) (.cons (.r .r) (.cons (.r .r) (.cons (.r .r) (.cons (.r .r) (.nil)))))))) (.nil)))) rfl rfl fun go7_5_1 => ?_
      exact RA.to2 hall hf hb (ro7_5 B go7_1_1 go7_4_1 go7_5_1) rfl rfl (by kernel_rfl)
     ·skip
      refine RO.alloc (ds := [.r (.v (.slice none 0 0)), .r (.v (.slice none 0 0))]) rfl rfl rfl rfl rfl rfl fun bo7_10_1 => ?_
      exact RA.to2 hall hf hb (ro7_6 B bo7_10_1 go7_1_1 go7_4_1) rfl rfl (by kernel_rfl)
    have ro7_2 : ∀ B, ∀ (bo7_10_1 : Nat), RA f E B all 10 (bt 14 1037) ⟨135, [(8, .obj bo7_10_1 [.r (.v (.slice none 0 0)), .r (.v (.slice none 0 0))]), (32, .agg ((Keep.c a).map .r)), (34, I n), (35, .agg ((Command.c x).map .r))] ++ b0⟩ K := by
     intro B bo7_10_1
     refine RA.of2 hall hf hb (RA.stepH (L := [1]) (Tell.of rfl) (by kernel_rfl) (by simp) (RA.each ?_ (RA.each0)))
     ·skip
      refine RO.call rfl rfl (laws_toKeep_fn a hP) rfl (.cons (.agg (.cons (.r .r) (.cons (.r .r) (.nil)))) (.nil)) rfl fun go7_1_1 => ?_
      exact RA.to2 hall hf hb (ro7_4 B bo7_10_1 go7_1_1) rfl rfl (by kernel_rfl)
    have ro7_1 : ∀ B, ∀ (go7_1_1 : Nat → Nat → Value), RA f E B all 10 (bt 14 15) ⟨135, [(33, .agg [.w (sl 3 Session.c a.sessions) (go7_1_1 0 0), .w (sl 3 Item.c a.items) (go7_1_1 0 1)]), (34, I n), (35, .agg ((Command.c x).map .r))] ++ b0⟩ K := by
     intro B go7_1_1
     refine RA.of2 hall hf hb (RA.stepH (L := [4, 10]) (Tell.of rfl) (by kernel_rfl) (by simp) (RA.each ?_ (RA.each ?_ (RA.each0))))
     ·skip
      refine RO.call rfl rfl (laws_toCommand_fn x hS) rfl (.cons (.agg (.cons (.r .r) (.cons (.r .r) (.cons (.r .r) (.cons (.r .r) (.cons (.r .r) (.cons (.r .r) (.nil)))))))) (.nil)) rfl fun go7_4_1 => ?_
      exact RA.to2 hall hf hb (ro7_3 B go7_1_1 go7_4_1) rfl rfl (by kernel_rfl)
     ·skip
      refine RO.alloc (ds := [.r (.v (.slice none 0 0)), .r (.v (.slice none 0 0))]) rfl rfl rfl rfl rfl rfl fun bo7_10_1 => ?_
      exact RA.to2 hall hf hb (ro7_4 B bo7_10_1 go7_1_1) rfl rfl (by kernel_rfl)
    have ro7_0 : ∀ B, RA f E B all 11 (bt 14 13) ⟨135, [(32, .agg ((Keep.c a).map .r)), (34, I n), (35, .agg ((Command.c x).map .r))] ++ b0⟩ K := by
     intro B
     refine RA.of2 hall hf hb (RA.stepH (L := [1, 10]) (Tell.of rfl) (by kernel_rfl) (by simp) (RA.each ?_ (RA.each ?_ (RA.each0))))
     ·skip
      refine RO.call rfl rfl (laws_toKeep_fn a hP) rfl (.cons (.agg (.cons (.r .r) (.cons (.r .r) (.nil)))) (.nil)) rfl fun go7_1_1 => ?_
      exact RA.to2 hall hf hb (ro7_1 B go7_1_1) rfl rfl (by kernel_rfl)
     ·skip
      refine RO.alloc (ds := [.r (.v (.slice none 0 0)), .r (.v (.slice none 0 0))]) rfl rfl rfl rfl rfl rfl fun bo7_10_1 => ?_
      exact RA.to2 hall hf hb (ro7_2 B bo7_10_1) rfl rfl (by kernel_rfl)
    refine RA.start (by kernel_rfl) (by kernel_rfl) (m := 14) (ls' := (bt 14 0)) ?_
    refine RA.fr XK 135 11 [0,2,3] (bt 14 13) rfl rfl (by kernel_rfl) (Tell.of rfl) ?_
    (conv=>whnf);refine ⟨rfl,fun B=>?_⟩
    exact RA.to2 hall hf hb (ro7_0 B) rfl rfl (by kernel_rfl)
   ·rintro ⟨bo7_10_1, go7_1_1, go7_4_1, go7_5_1⟩
    refine CW.seq ?_
    refine CW.region ?_
    refine RW.k XK 135 1 rfl ?_
    (conv=>whnf);refine ⟨rfl,?_⟩
    refine RW.call rfl (laws_toKeep_fn a hP) rfl (.cons (.agg (.cons (.r .r) (.cons (.r .r) (.nil)))) (.nil)) fun g8 => ?_
    refine RW.k XK 135 2 rfl ?_
    (conv=>whnf);intro b9;(conv=>whnf);refine ⟨rfl,?_⟩
    refine RW.keep 135 [1,3,5,8,9,10,11,42] rfl ?_;(conv=>whnf);refine ⟨?_⟩
    refine RW.pullA (k := 11) (l := 42) (j := 0) 11 42 0 rfl rfl rfl (by decide) rfl rfl rfl rfl ?_
    refine RW.keep 135 [1,3,5,8,9,10,11,42] rfl ?_;(conv=>whnf);refine ⟨?_⟩
    refine RW.pullA (k := 11) (l := 42) (j := 1) 11 42 1 rfl rfl rfl (by decide) rfl rfl rfl rfl ?_
    refine RW.keep 135 [1,3,5,8,9,10,11] rfl ?_;(conv=>whnf);refine ⟨?_⟩
    refine RW.nil ?_
    refine CW.keep 135 [1,3,5,8,9,10,11] rfl ?_;(conv=>whnf);refine ⟨?_⟩
    refine CW.anyJ2 (fc := [(8, bo7_10_1, [(go7_5_1 0 0), (go7_5_1 0 1)]), (11, b9, [(g8 0 0), (g8 0 1)])]) (L0 := [(1, I n), (3, .rp (Keep.c a)), (5, .rp (Command.c x)), (8, .obj bo7_10_1 [.w (sl 3 Session.c (((perfK a n x).1).sessions)) (go7_5_1 0 0), .w (sl 3 Item.c (((perfK a n x).1).items)) (go7_5_1 0 1)]), (9, S ((perfK a n x).2.1)), (10, Bo ((perfK a n x).2.2)), (11, .obj b9 [.w (sl 3 Session.c a.sessions) (g8 0 0), .w (sl 3 Item.c a.items) (g8 0 1)])]) 135 (fun (zz : Nat × (Nat → Nat → Value) × (Nat → Nat → Value)) => match zz with | (bo10_9_1, go10_3_1, go10_4_1) => [(12, .obj bo10_9_1 [.w (sl 3 Session.c (((perfK a n x).1).sessions)) (go10_4_1 0 0), .w (sl 3 Item.c (((perfK a n x).1).items)) (go10_4_1 0 1)]), (13, S ((perfK a n x).2.1)), (14, Bo ((perfK a n x).2.2))]) (fun all hall f hf b0 hb K hK => ?_) ?_
    ·skip
     have ro10_25 : ∀ B, ∀ (bo10_9_1 : Nat), ∀ (go10_3_1 : Nat → Nat → Value), ∀ (go10_4_1 : Nat → Nat → Value), RA f E B all 0 (bt 13 8191) ⟨135, [(12, .obj bo10_9_1 [.w (sl 3 Session.c (((perfK a n x).1).sessions)) (go10_4_1 0 0), .w (sl 3 Item.c (((perfK a n x).1).items)) (go10_4_1 0 1)]), (13, S ((perfK a n x).2.1)), (14, Bo ((perfK a n x).2.2))] ++ b0⟩ K := by
      intro B bo10_9_1 go10_3_1 go10_4_1
      exact RA.of2 hall hf hb (RA.finH (Tell.of rfl) (by kernel_rfl) (hK (bo10_9_1, go10_3_1, go10_4_1) _ rfl (Le.of rfl)))
     have ro10_24 : ∀ B, ∀ (bo10_9_1 : Nat), ∀ (go10_3_1 : Nat → Nat → Value), ∀ (go10_4_1 : Nat → Nat → Value), RA f E B all 2 (bt 13 3839) ⟨135, [(12, .obj bo10_9_1 [.w (sl 3 Session.c (((perfK a n x).1).sessions)) (go10_4_1 0 0), .w (sl 3 Item.c (((perfK a n x).1).items)) (go10_4_1 0 1)]), (13, S ((perfK a n x).2.1)), (43, .tup [.u, .u, Bo ((perfK a n x).2.2)])] ++ b0⟩ K := by
      intro B bo10_9_1 go10_3_1 go10_4_1
      refine RA.of2 hall hf hb (RA.stepH (L := [8]) (Tell.of rfl) (by kernel_rfl) (by simp) (RA.each ?_ (RA.each0)))
      ·skip
       refine RO.extract (d := Bo ((perfK a n x).2.2)) rfl rfl rfl rfl rfl (by decide) (Nat.le_of_ble_eq_true rfl) rfl rfl ?_
       refine RA.fr XK 135 0 [12] (bt 13 8191) rfl rfl (by kernel_rfl) (Tell.of rfl) ?_
       (conv=>whnf);refine ⟨rfl,fun B=>?_⟩
       exact RA.to2 hall hf hb (ro10_25 B bo10_9_1 go10_3_1 go10_4_1) rfl rfl (by kernel_rfl)
     have ro10_23 : ∀ B, ∀ (bo10_9_1 : Nat), ∀ (go10_3_1 : Nat → Nat → Value), ∀ (go10_4_1 : Nat → Nat → Value), RA f E B all 3 (bt 13 1919) ⟨135, [(12, .obj bo10_9_1 [.w (sl 3 Session.c (((perfK a n x).1).sessions)) (go10_4_1 0 0), .w (sl 3 Item.c (((perfK a n x).1).items)) (go10_4_1 0 1)]), (43, .tup [.u, S ((perfK a n x).2.1), .u]), (51, Bo ((perfK a n x).2.2))] ++ b0⟩ K := by
      intro B bo10_9_1 go10_3_1 go10_4_1
      refine RA.of2 hall hf hb (RA.stepH (L := [7]) (Tell.of rfl) (by kernel_rfl) (by simp) (RA.each ?_ (RA.each0)))
      ·skip
       refine RO.extract (d := S ((perfK a n x).2.1)) rfl rfl rfl rfl rfl (by decide) (Nat.le_of_ble_eq_true rfl) rfl rfl ?_
       refine RA.fr XK 135 0 [11,12] (bt 13 8191) rfl rfl (by kernel_rfl) (Tell.of rfl) ?_
       (conv=>whnf);refine ⟨rfl,fun B=>?_⟩
       exact RA.to2 hall hf hb (ro10_25 B bo10_9_1 go10_3_1 go10_4_1) rfl rfl (by kernel_rfl)
     have ro10_22 : ∀ B, ∀ (bo10_9_1 : Nat), ∀ (go10_3_1 : Nat → Nat → Value), ∀ (go10_4_1 : Nat → Nat → Value), RA f E B all 3 (bt 13 1023) ⟨135, [(12, .obj bo10_9_1 [.r (.v (.slice none 0 0)), .r (.v (.slice none 0 0))]), (49, .agg [.w (sl 3 Session.c (((perfK a n x).1).sessions)) (go10_4_1 0 0), .w (sl 3 Item.c (((perfK a n x).1).items)) (go10_4_1 0 1)]), (50, S ((perfK a n x).2.1)), (51, Bo ((perfK a n x).2.2))] ++ b0⟩ K := by
      intro B bo10_9_1 go10_3_1 go10_4_1
      refine RA.of2 hall hf hb (RA.stepH (L := [10]) (Tell.of rfl) (by kernel_rfl) (by simp) (RA.each ?_ (RA.each0)))
      ·skip
       refine RO.storeAgg (es := [.al 49 (some 0) 3 ((((perfK a n x).1).sessions).length) (go10_4_1 0 0) 0, .al 49 (some 1) 3 ((((perfK a n x).1).items).length) (go10_4_1 0 1) 0]) rfl rfl rfl rfl rfl rfl rfl rfl rfl rfl (Nat.le_of_ble_eq_true rfl) rfl ?_
       refine RA.keep 135 [1,3,5,8,9,10,11,12,49,50,51] rfl ?_;(conv=>whnf);refine ⟨?_⟩
       refine RA.pullA (k := 12) (l := 49) (j := 0) 12 49 0 rfl rfl rfl (by decide) rfl rfl rfl rfl ?_
       refine RA.keep 135 [1,3,5,8,9,10,11,12,49,50,51] rfl ?_;(conv=>whnf);refine ⟨?_⟩
       refine RA.pullA (k := 12) (l := 49) (j := 1) 12 49 1 rfl rfl rfl (by decide) rfl rfl rfl rfl ?_
       refine RA.keep 135 [1,3,5,8,9,10,11,12,50,51] rfl ?_;(conv=>whnf);refine ⟨?_⟩
       refine RA.fr XK 135 0 [11,12] (bt 13 8191) rfl rfl (by kernel_rfl) (Tell.of rfl) ?_
       (conv=>whnf);refine ⟨rfl,fun B=>?_⟩
       exact RA.to2 hall hf hb (ro10_25 B bo10_9_1 go10_3_1 go10_4_1) rfl rfl (by kernel_rfl)
     have ro10_21 : ∀ B, ∀ (bo10_9_1 : Nat), ∀ (go10_3_1 : Nat → Nat → Value), ∀ (go10_4_1 : Nat → Nat → Value), RA f E B all 4 (bt 13 959) ⟨135, [(12, .obj bo10_9_1 [.r (.v (.slice none 0 0)), .r (.v (.slice none 0 0))]), (43, .tup [.agg [.w (sl 3 Session.c (((perfK a n x).1).sessions)) (go10_4_1 0 0), .w (sl 3 Item.c (((perfK a n x).1).items)) (go10_4_1 0 1)], .u, .u]), (50, S ((perfK a n x).2.1)), (51, Bo ((perfK a n x).2.2))] ++ b0⟩ K := by
      intro B bo10_9_1 go10_3_1 go10_4_1
      refine RA.of2 hall hf hb (RA.stepH (L := [6]) (Tell.of rfl) (by kernel_rfl) (by simp) (RA.each ?_ (RA.each0)))
      ·skip
       refine RO.extract (d := .agg [.w (sl 3 Session.c (((perfK a n x).1).sessions)) (go10_4_1 0 0), .w (sl 3 Item.c (((perfK a n x).1).items)) (go10_4_1 0 1)]) rfl rfl rfl rfl rfl (by decide) (Nat.le_of_ble_eq_true rfl) rfl rfl ?_
       exact RA.to2 hall hf hb (ro10_22 B bo10_9_1 go10_3_1 go10_4_1) rfl rfl (by kernel_rfl)
     have ro10_20 : ∀ B, ∀ (bo10_9_1 : Nat), ∀ (go10_3_1 : Nat → Nat → Value), ∀ (go10_4_1 : Nat → Nat → Value), RA f E B all 4 (bt 13 1663) ⟨135, [(12, .obj bo10_9_1 [.w (sl 3 Session.c (((perfK a n x).1).sessions)) (go10_4_1 0 0), .w (sl 3 Item.c (((perfK a n x).1).items)) (go10_4_1 0 1)]), (43, .tup [.u, S ((perfK a n x).2.1), Bo ((perfK a n x).2.2)])] ++ b0⟩ K := by
      intro B bo10_9_1 go10_3_1 go10_4_1
      refine RA.of2 hall hf hb (RA.stepH (L := [7, 8]) (Tell.of rfl) (by kernel_rfl) (by simp) (RA.each ?_ (RA.each ?_ (RA.each0))))
      ·skip
       refine RO.extract (d := S ((perfK a n x).2.1)) rfl rfl rfl rfl rfl (by decide) (Nat.le_of_ble_eq_true rfl) rfl rfl ?_
       refine RA.fr XK 135 2 [11] (bt 13 3839) rfl rfl (by kernel_rfl) (Tell.of rfl) ?_
       (conv=>whnf);refine ⟨rfl,fun B=>?_⟩
       exact RA.to2 hall hf hb (ro10_24 B bo10_9_1 go10_3_1 go10_4_1) rfl rfl (by kernel_rfl)
      ·skip
       refine RO.extract (d := Bo ((perfK a n x).2.2)) rfl rfl rfl rfl rfl (by decide) (Nat.le_of_ble_eq_true rfl) rfl rfl ?_
       exact RA.to2 hall hf hb (ro10_23 B bo10_9_1 go10_3_1 go10_4_1) rfl rfl (by kernel_rfl)
     have ro10_19 : ∀ B, ∀ (bo10_9_1 : Nat), ∀ (go10_3_1 : Nat → Nat → Value), ∀ (go10_4_1 : Nat → Nat → Value), RA f E B all 4 (bt 13 895) ⟨135, [(12, .obj bo10_9_1 [.r (.v (.slice none 0 0)), .r (.v (.slice none 0 0))]), (43, .tup [.u, S ((perfK a n x).2.1), .u]), (49, .agg [.w (sl 3 Session.c (((perfK a n x).1).sessions)) (go10_4_1 0 0), .w (sl 3 Item.c (((perfK a n x).1).items)) (go10_4_1 0 1)]), (51, Bo ((perfK a n x).2.2))] ++ b0⟩ K := by
      intro B bo10_9_1 go10_3_1 go10_4_1
      refine RA.of2 hall hf hb (RA.stepH (L := [7, 10]) (Tell.of rfl) (by kernel_rfl) (by simp) (RA.each ?_ (RA.each ?_ (RA.each0))))
      ·skip
       refine RO.extract (d := S ((perfK a n x).2.1)) rfl rfl rfl rfl rfl (by decide) (Nat.le_of_ble_eq_true rfl) rfl rfl ?_
       exact RA.to2 hall hf hb (ro10_22 B bo10_9_1 go10_3_1 go10_4_1) rfl rfl (by kernel_rfl)
      ·skip
       refine RO.storeAgg (es := [.al 49 (some 0) 3 ((((perfK a n x).1).sessions).length) (go10_4_1 0 0) 0, .al 49 (some 1) 3 ((((perfK a n x).1).items).length) (go10_4_1 0 1) 0]) rfl rfl rfl rfl rfl rfl rfl rfl rfl rfl (Nat.le_of_ble_eq_true rfl) rfl ?_
       refine RA.keep 135 [1,3,5,8,9,10,11,12,43,49,51] rfl ?_;(conv=>whnf);refine ⟨?_⟩
       refine RA.pullA (k := 12) (l := 49) (j := 0) 12 49 0 rfl rfl rfl (by decide) rfl rfl rfl rfl ?_
       refine RA.keep 135 [1,3,5,8,9,10,11,12,43,49,51] rfl ?_;(conv=>whnf);refine ⟨?_⟩
       refine RA.pullA (k := 12) (l := 49) (j := 1) 12 49 1 rfl rfl rfl (by decide) rfl rfl rfl rfl ?_
       refine RA.keep 135 [1,3,5,8,9,10,11,12,43,51] rfl ?_;(conv=>whnf);refine ⟨?_⟩
       exact RA.to2 hall hf hb (ro10_23 B bo10_9_1 go10_3_1 go10_4_1) rfl rfl (by kernel_rfl)
     have ro10_18 : ∀ B, ∀ (bo10_9_1 : Nat), ∀ (go10_3_1 : Nat → Nat → Value), ∀ (go10_4_1 : Nat → Nat → Value), RA f E B all 4 (bt 13 767) ⟨135, [(12, .obj bo10_9_1 [.r (.v (.slice none 0 0)), .r (.v (.slice none 0 0))]), (43, .tup [.u, .u, Bo ((perfK a n x).2.2)]), (49, .agg [.w (sl 3 Session.c (((perfK a n x).1).sessions)) (go10_4_1 0 0), .w (sl 3 Item.c (((perfK a n x).1).items)) (go10_4_1 0 1)]), (50, S ((perfK a n x).2.1))] ++ b0⟩ K := by
      intro B bo10_9_1 go10_3_1 go10_4_1
      refine RA.of2 hall hf hb (RA.stepH (L := [8, 10]) (Tell.of rfl) (by kernel_rfl) (by simp) (RA.each ?_ (RA.each ?_ (RA.each0))))
      ·skip
       refine RO.extract (d := Bo ((perfK a n x).2.2)) rfl rfl rfl rfl rfl (by decide) (Nat.le_of_ble_eq_true rfl) rfl rfl ?_
       exact RA.to2 hall hf hb (ro10_22 B bo10_9_1 go10_3_1 go10_4_1) rfl rfl (by kernel_rfl)
      ·skip
       refine RO.storeAgg (es := [.al 49 (some 0) 3 ((((perfK a n x).1).sessions).length) (go10_4_1 0 0) 0, .al 49 (some 1) 3 ((((perfK a n x).1).items).length) (go10_4_1 0 1) 0]) rfl rfl rfl rfl rfl rfl rfl rfl rfl rfl (Nat.le_of_ble_eq_true rfl) rfl ?_
       refine RA.keep 135 [1,3,5,8,9,10,11,12,43,49,50] rfl ?_;(conv=>whnf);refine ⟨?_⟩
       refine RA.pullA (k := 12) (l := 49) (j := 0) 12 49 0 rfl rfl rfl (by decide) rfl rfl rfl rfl ?_
       refine RA.keep 135 [1,3,5,8,9,10,11,12,43,49,50] rfl ?_;(conv=>whnf);refine ⟨?_⟩
       refine RA.pullA (k := 12) (l := 49) (j := 1) 12 49 1 rfl rfl rfl (by decide) rfl rfl rfl rfl ?_
       refine RA.keep 135 [1,3,5,8,9,10,11,12,43,50] rfl ?_;(conv=>whnf);refine ⟨?_⟩
       refine RA.fr XK 135 2 [11] (bt 13 3839) rfl rfl (by kernel_rfl) (Tell.of rfl) ?_
       (conv=>whnf);refine ⟨rfl,fun B=>?_⟩
       exact RA.to2 hall hf hb (ro10_24 B bo10_9_1 go10_3_1 go10_4_1) rfl rfl (by kernel_rfl)
     have ro10_17 : ∀ B, ∀ (go10_3_1 : Nat → Nat → Value), ∀ (go10_4_1 : Nat → Nat → Value), RA f E B all 4 (bt 13 511) ⟨135, [(49, .agg [.w (sl 3 Session.c (((perfK a n x).1).sessions)) (go10_4_1 0 0), .w (sl 3 Item.c (((perfK a n x).1).items)) (go10_4_1 0 1)]), (50, S ((perfK a n x).2.1)), (51, Bo ((perfK a n x).2.2))] ++ b0⟩ K := by
      intro B go10_3_1 go10_4_1
      refine RA.of2 hall hf hb (RA.stepH (L := [9]) (Tell.of rfl) (by kernel_rfl) (by simp) (RA.each ?_ (RA.each0)))
      ·skip
       refine RO.alloc (ds := [.r (.v (.slice none 0 0)), .r (.v (.slice none 0 0))]) rfl rfl rfl rfl rfl rfl fun bo10_9_1 => ?_
       exact RA.to2 hall hf hb (ro10_22 B bo10_9_1 go10_3_1 go10_4_1) rfl rfl (by kernel_rfl)
     have ro10_16 : ∀ B, ∀ (bo10_9_1 : Nat), ∀ (go10_3_1 : Nat → Nat → Value), ∀ (go10_4_1 : Nat → Nat → Value), RA f E B all 5 (bt 13 831) ⟨135, [(12, .obj bo10_9_1 [.r (.v (.slice none 0 0)), .r (.v (.slice none 0 0))]), (43, .tup [.agg [.w (sl 3 Session.c (((perfK a n x).1).sessions)) (go10_4_1 0 0), .w (sl 3 Item.c (((perfK a n x).1).items)) (go10_4_1 0 1)], S ((perfK a n x).2.1), .u]), (51, Bo ((perfK a n x).2.2))] ++ b0⟩ K := by
      intro B bo10_9_1 go10_3_1 go10_4_1
      refine RA.of2 hall hf hb (RA.stepH (L := [6, 7]) (Tell.of rfl) (by kernel_rfl) (by simp) (RA.each ?_ (RA.each ?_ (RA.each0))))
      ·skip
       refine RO.extract (d := .agg [.w (sl 3 Session.c (((perfK a n x).1).sessions)) (go10_4_1 0 0), .w (sl 3 Item.c (((perfK a n x).1).items)) (go10_4_1 0 1)]) rfl rfl rfl rfl rfl (by decide) (Nat.le_of_ble_eq_true rfl) rfl rfl ?_
       exact RA.to2 hall hf hb (ro10_19 B bo10_9_1 go10_3_1 go10_4_1) rfl rfl (by kernel_rfl)
      ·skip
       refine RO.extract (d := S ((perfK a n x).2.1)) rfl rfl rfl rfl rfl (by decide) (Nat.le_of_ble_eq_true rfl) rfl rfl ?_
       exact RA.to2 hall hf hb (ro10_21 B bo10_9_1 go10_3_1 go10_4_1) rfl rfl (by kernel_rfl)
     have ro10_15 : ∀ B, ∀ (bo10_9_1 : Nat), ∀ (go10_3_1 : Nat → Nat → Value), ∀ (go10_4_1 : Nat → Nat → Value), RA f E B all 5 (bt 13 703) ⟨135, [(12, .obj bo10_9_1 [.r (.v (.slice none 0 0)), .r (.v (.slice none 0 0))]), (43, .tup [.agg [.w (sl 3 Session.c (((perfK a n x).1).sessions)) (go10_4_1 0 0), .w (sl 3 Item.c (((perfK a n x).1).items)) (go10_4_1 0 1)], .u, Bo ((perfK a n x).2.2)]), (50, S ((perfK a n x).2.1))] ++ b0⟩ K := by
      intro B bo10_9_1 go10_3_1 go10_4_1
      refine RA.of2 hall hf hb (RA.stepH (L := [6, 8]) (Tell.of rfl) (by kernel_rfl) (by simp) (RA.each ?_ (RA.each ?_ (RA.each0))))
      ·skip
       refine RO.extract (d := .agg [.w (sl 3 Session.c (((perfK a n x).1).sessions)) (go10_4_1 0 0), .w (sl 3 Item.c (((perfK a n x).1).items)) (go10_4_1 0 1)]) rfl rfl rfl rfl rfl (by decide) (Nat.le_of_ble_eq_true rfl) rfl rfl ?_
       exact RA.to2 hall hf hb (ro10_18 B bo10_9_1 go10_3_1 go10_4_1) rfl rfl (by kernel_rfl)
      ·skip
       refine RO.extract (d := Bo ((perfK a n x).2.2)) rfl rfl rfl rfl rfl (by decide) (Nat.le_of_ble_eq_true rfl) rfl rfl ?_
       exact RA.to2 hall hf hb (ro10_21 B bo10_9_1 go10_3_1 go10_4_1) rfl rfl (by kernel_rfl)
     have ro10_14 : ∀ B, ∀ (go10_3_1 : Nat → Nat → Value), ∀ (go10_4_1 : Nat → Nat → Value), RA f E B all 5 (bt 13 447) ⟨135, [(43, .tup [.agg [.w (sl 3 Session.c (((perfK a n x).1).sessions)) (go10_4_1 0 0), .w (sl 3 Item.c (((perfK a n x).1).items)) (go10_4_1 0 1)], .u, .u]), (50, S ((perfK a n x).2.1)), (51, Bo ((perfK a n x).2.2))] ++ b0⟩ K := by
      intro B go10_3_1 go10_4_1
      refine RA.of2 hall hf hb (RA.stepH (L := [6, 9]) (Tell.of rfl) (by kernel_rfl) (by simp) (RA.each ?_ (RA.each ?_ (RA.each0))))
      ·skip
       refine RO.extract (d := .agg [.w (sl 3 Session.c (((perfK a n x).1).sessions)) (go10_4_1 0 0), .w (sl 3 Item.c (((perfK a n x).1).items)) (go10_4_1 0 1)]) rfl rfl rfl rfl rfl (by decide) (Nat.le_of_ble_eq_true rfl) rfl rfl ?_
       exact RA.to2 hall hf hb (ro10_17 B go10_3_1 go10_4_1) rfl rfl (by kernel_rfl)
      ·skip
       refine RO.alloc (ds := [.r (.v (.slice none 0 0)), .r (.v (.slice none 0 0))]) rfl rfl rfl rfl rfl rfl fun bo10_9_1 => ?_
       exact RA.to2 hall hf hb (ro10_21 B bo10_9_1 go10_3_1 go10_4_1) rfl rfl (by kernel_rfl)
     have ro10_13 : ∀ B, ∀ (bo10_9_1 : Nat), ∀ (go10_3_1 : Nat → Nat → Value), ∀ (go10_4_1 : Nat → Nat → Value), RA f E B all 5 (bt 13 639) ⟨135, [(12, .obj bo10_9_1 [.r (.v (.slice none 0 0)), .r (.v (.slice none 0 0))]), (43, .tup [.u, S ((perfK a n x).2.1), Bo ((perfK a n x).2.2)]), (49, .agg [.w (sl 3 Session.c (((perfK a n x).1).sessions)) (go10_4_1 0 0), .w (sl 3 Item.c (((perfK a n x).1).items)) (go10_4_1 0 1)])] ++ b0⟩ K := by
      intro B bo10_9_1 go10_3_1 go10_4_1
      refine RA.of2 hall hf hb (RA.stepH (L := [7, 8, 10]) (Tell.of rfl) (by kernel_rfl) (by simp) (RA.each ?_ (RA.each ?_ (RA.each ?_ (RA.each0)))))
      ·skip
       refine RO.extract (d := S ((perfK a n x).2.1)) rfl rfl rfl rfl rfl (by decide) (Nat.le_of_ble_eq_true rfl) rfl rfl ?_
       exact RA.to2 hall hf hb (ro10_18 B bo10_9_1 go10_3_1 go10_4_1) rfl rfl (by kernel_rfl)
      ·skip
       refine RO.extract (d := Bo ((perfK a n x).2.2)) rfl rfl rfl rfl rfl (by decide) (Nat.le_of_ble_eq_true rfl) rfl rfl ?_
       exact RA.to2 hall hf hb (ro10_19 B bo10_9_1 go10_3_1 go10_4_1) rfl rfl (by kernel_rfl)
      ·skip
       refine RO.storeAgg (es := [.al 49 (some 0) 3 ((((perfK a n x).1).sessions).length) (go10_4_1 0 0) 0, .al 49 (some 1) 3 ((((perfK a n x).1).items).length) (go10_4_1 0 1) 0]) rfl rfl rfl rfl rfl rfl rfl rfl rfl rfl (Nat.le_of_ble_eq_true rfl) rfl ?_
       refine RA.keep 135 [1,3,5,8,9,10,11,12,43,49] rfl ?_;(conv=>whnf);refine ⟨?_⟩
       refine RA.pullA (k := 12) (l := 49) (j := 0) 12 49 0 rfl rfl rfl (by decide) rfl rfl rfl rfl ?_
       refine RA.keep 135 [1,3,5,8,9,10,11,12,43,49] rfl ?_;(conv=>whnf);refine ⟨?_⟩
       refine RA.pullA (k := 12) (l := 49) (j := 1) 12 49 1 rfl rfl rfl (by decide) rfl rfl rfl rfl ?_
       refine RA.keep 135 [1,3,5,8,9,10,11,12,43] rfl ?_;(conv=>whnf);refine ⟨?_⟩
       exact RA.to2 hall hf hb (ro10_20 B bo10_9_1 go10_3_1 go10_4_1) rfl rfl (by kernel_rfl)
     have ro10_12 : ∀ B, ∀ (go10_3_1 : Nat → Nat → Value), ∀ (go10_4_1 : Nat → Nat → Value), RA f E B all 5 (bt 13 383) ⟨135, [(43, .tup [.u, S ((perfK a n x).2.1), .u]), (49, .agg [.w (sl 3 Session.c (((perfK a n x).1).sessions)) (go10_4_1 0 0), .w (sl 3 Item.c (((perfK a n x).1).items)) (go10_4_1 0 1)]), (51, Bo ((perfK a n x).2.2))] ++ b0⟩ K := by
      intro B go10_3_1 go10_4_1
      refine RA.of2 hall hf hb (RA.stepH (L := [7, 9]) (Tell.of rfl) (by kernel_rfl) (by simp) (RA.each ?_ (RA.each ?_ (RA.each0))))
      ·skip
       refine RO.extract (d := S ((perfK a n x).2.1)) rfl rfl rfl rfl rfl (by decide) (Nat.le_of_ble_eq_true rfl) rfl rfl ?_
       exact RA.to2 hall hf hb (ro10_17 B go10_3_1 go10_4_1) rfl rfl (by kernel_rfl)
      ·skip
       refine RO.alloc (ds := [.r (.v (.slice none 0 0)), .r (.v (.slice none 0 0))]) rfl rfl rfl rfl rfl rfl fun bo10_9_1 => ?_
       exact RA.to2 hall hf hb (ro10_19 B bo10_9_1 go10_3_1 go10_4_1) rfl rfl (by kernel_rfl)
     have ro10_11 : ∀ B, ∀ (go10_3_1 : Nat → Nat → Value), ∀ (go10_4_1 : Nat → Nat → Value), RA f E B all 5 (bt 13 255) ⟨135, [(43, .tup [.u, .u, Bo ((perfK a n x).2.2)]), (49, .agg [.w (sl 3 Session.c (((perfK a n x).1).sessions)) (go10_4_1 0 0), .w (sl 3 Item.c (((perfK a n x).1).items)) (go10_4_1 0 1)]), (50, S ((perfK a n x).2.1))] ++ b0⟩ K := by
      intro B go10_3_1 go10_4_1
      refine RA.of2 hall hf hb (RA.stepH (L := [8, 9]) (Tell.of rfl) (by kernel_rfl) (by simp) (RA.each ?_ (RA.each ?_ (RA.each0))))
      ·skip
       refine RO.extract (d := Bo ((perfK a n x).2.2)) rfl rfl rfl rfl rfl (by decide) (Nat.le_of_ble_eq_true rfl) rfl rfl ?_
       exact RA.to2 hall hf hb (ro10_17 B go10_3_1 go10_4_1) rfl rfl (by kernel_rfl)
      ·skip
       refine RO.alloc (ds := [.r (.v (.slice none 0 0)), .r (.v (.slice none 0 0))]) rfl rfl rfl rfl rfl rfl fun bo10_9_1 => ?_
       exact RA.to2 hall hf hb (ro10_18 B bo10_9_1 go10_3_1 go10_4_1) rfl rfl (by kernel_rfl)
     have ro10_10 : ∀ B, ∀ (bo10_9_1 : Nat), ∀ (go10_3_1 : Nat → Nat → Value), ∀ (go10_4_1 : Nat → Nat → Value), RA f E B all 6 (bt 13 575) ⟨135, [(12, .obj bo10_9_1 [.r (.v (.slice none 0 0)), .r (.v (.slice none 0 0))]), (43, .tup [.agg [.w (sl 3 Session.c (((perfK a n x).1).sessions)) (go10_4_1 0 0), .w (sl 3 Item.c (((perfK a n x).1).items)) (go10_4_1 0 1)], S ((perfK a n x).2.1), Bo ((perfK a n x).2.2)])] ++ b0⟩ K := by
      intro B bo10_9_1 go10_3_1 go10_4_1
      refine RA.of2 hall hf hb (RA.stepH (L := [6, 7, 8]) (Tell.of rfl) (by kernel_rfl) (by simp) (RA.each ?_ (RA.each ?_ (RA.each ?_ (RA.each0)))))
      ·skip
       refine RO.extract (d := .agg [.w (sl 3 Session.c (((perfK a n x).1).sessions)) (go10_4_1 0 0), .w (sl 3 Item.c (((perfK a n x).1).items)) (go10_4_1 0 1)]) rfl rfl rfl rfl rfl (by decide) (Nat.le_of_ble_eq_true rfl) rfl rfl ?_
       exact RA.to2 hall hf hb (ro10_13 B bo10_9_1 go10_3_1 go10_4_1) rfl rfl (by kernel_rfl)
      ·skip
       refine RO.extract (d := S ((perfK a n x).2.1)) rfl rfl rfl rfl rfl (by decide) (Nat.le_of_ble_eq_true rfl) rfl rfl ?_
       exact RA.to2 hall hf hb (ro10_15 B bo10_9_1 go10_3_1 go10_4_1) rfl rfl (by kernel_rfl)
      ·skip
       refine RO.extract (d := Bo ((perfK a n x).2.2)) rfl rfl rfl rfl rfl (by decide) (Nat.le_of_ble_eq_true rfl) rfl rfl ?_
       exact RA.to2 hall hf hb (ro10_16 B bo10_9_1 go10_3_1 go10_4_1) rfl rfl (by kernel_rfl)
     have ro10_9 : ∀ B, ∀ (go10_3_1 : Nat → Nat → Value), ∀ (go10_4_1 : Nat → Nat → Value), RA f E B all 6 (bt 13 319) ⟨135, [(43, .tup [.agg [.w (sl 3 Session.c (((perfK a n x).1).sessions)) (go10_4_1 0 0), .w (sl 3 Item.c (((perfK a n x).1).items)) (go10_4_1 0 1)], S ((perfK a n x).2.1), .u]), (51, Bo ((perfK a n x).2.2))] ++ b0⟩ K := by
      intro B go10_3_1 go10_4_1
      refine RA.of2 hall hf hb (RA.stepH (L := [6, 7, 9]) (Tell.of rfl) (by kernel_rfl) (by simp) (RA.each ?_ (RA.each ?_ (RA.each ?_ (RA.each0)))))
      ·skip
       refine RO.extract (d := .agg [.w (sl 3 Session.c (((perfK a n x).1).sessions)) (go10_4_1 0 0), .w (sl 3 Item.c (((perfK a n x).1).items)) (go10_4_1 0 1)]) rfl rfl rfl rfl rfl (by decide) (Nat.le_of_ble_eq_true rfl) rfl rfl ?_
       exact RA.to2 hall hf hb (ro10_12 B go10_3_1 go10_4_1) rfl rfl (by kernel_rfl)
      ·skip
       refine RO.extract (d := S ((perfK a n x).2.1)) rfl rfl rfl rfl rfl (by decide) (Nat.le_of_ble_eq_true rfl) rfl rfl ?_
       exact RA.to2 hall hf hb (ro10_14 B go10_3_1 go10_4_1) rfl rfl (by kernel_rfl)
      ·skip
       refine RO.alloc (ds := [.r (.v (.slice none 0 0)), .r (.v (.slice none 0 0))]) rfl rfl rfl rfl rfl rfl fun bo10_9_1 => ?_
       exact RA.to2 hall hf hb (ro10_16 B bo10_9_1 go10_3_1 go10_4_1) rfl rfl (by kernel_rfl)
     have ro10_8 : ∀ B, ∀ (go10_3_1 : Nat → Nat → Value), ∀ (go10_4_1 : Nat → Nat → Value), RA f E B all 6 (bt 13 191) ⟨135, [(43, .tup [.agg [.w (sl 3 Session.c (((perfK a n x).1).sessions)) (go10_4_1 0 0), .w (sl 3 Item.c (((perfK a n x).1).items)) (go10_4_1 0 1)], .u, Bo ((perfK a n x).2.2)]), (50, S ((perfK a n x).2.1))] ++ b0⟩ K := by
      intro B go10_3_1 go10_4_1
      refine RA.of2 hall hf hb (RA.stepH (L := [6, 8, 9]) (Tell.of rfl) (by kernel_rfl) (by simp) (RA.each ?_ (RA.each ?_ (RA.each ?_ (RA.each0)))))
      ·skip
       refine RO.extract (d := .agg [.w (sl 3 Session.c (((perfK a n x).1).sessions)) (go10_4_1 0 0), .w (sl 3 Item.c (((perfK a n x).1).items)) (go10_4_1 0 1)]) rfl rfl rfl rfl rfl (by decide) (Nat.le_of_ble_eq_true rfl) rfl rfl ?_
       exact RA.to2 hall hf hb (ro10_11 B go10_3_1 go10_4_1) rfl rfl (by kernel_rfl)
      ·skip
       refine RO.extract (d := Bo ((perfK a n x).2.2)) rfl rfl rfl rfl rfl (by decide) (Nat.le_of_ble_eq_true rfl) rfl rfl ?_
       exact RA.to2 hall hf hb (ro10_14 B go10_3_1 go10_4_1) rfl rfl (by kernel_rfl)
      ·skip
       refine RO.alloc (ds := [.r (.v (.slice none 0 0)), .r (.v (.slice none 0 0))]) rfl rfl rfl rfl rfl rfl fun bo10_9_1 => ?_
       exact RA.to2 hall hf hb (ro10_15 B bo10_9_1 go10_3_1 go10_4_1) rfl rfl (by kernel_rfl)
     have ro10_7 : ∀ B, ∀ (go10_3_1 : Nat → Nat → Value), ∀ (go10_4_1 : Nat → Nat → Value), RA f E B all 6 (bt 13 127) ⟨135, [(43, .tup [.u, S ((perfK a n x).2.1), Bo ((perfK a n x).2.2)]), (49, .agg [.w (sl 3 Session.c (((perfK a n x).1).sessions)) (go10_4_1 0 0), .w (sl 3 Item.c (((perfK a n x).1).items)) (go10_4_1 0 1)])] ++ b0⟩ K := by
      intro B go10_3_1 go10_4_1
      refine RA.of2 hall hf hb (RA.stepH (L := [7, 8, 9]) (Tell.of rfl) (by kernel_rfl) (by simp) (RA.each ?_ (RA.each ?_ (RA.each ?_ (RA.each0)))))
      ·skip
       refine RO.extract (d := S ((perfK a n x).2.1)) rfl rfl rfl rfl rfl (by decide) (Nat.le_of_ble_eq_true rfl) rfl rfl ?_
       exact RA.to2 hall hf hb (ro10_11 B go10_3_1 go10_4_1) rfl rfl (by kernel_rfl)
      ·skip
       refine RO.extract (d := Bo ((perfK a n x).2.2)) rfl rfl rfl rfl rfl (by decide) (Nat.le_of_ble_eq_true rfl) rfl rfl ?_
       exact RA.to2 hall hf hb (ro10_12 B go10_3_1 go10_4_1) rfl rfl (by kernel_rfl)
      ·skip
       refine RO.alloc (ds := [.r (.v (.slice none 0 0)), .r (.v (.slice none 0 0))]) rfl rfl rfl rfl rfl rfl fun bo10_9_1 => ?_
       exact RA.to2 hall hf hb (ro10_13 B bo10_9_1 go10_3_1 go10_4_1) rfl rfl (by kernel_rfl)
     have ro10_6 : ∀ B, ∀ (bo10_9_1 : Nat), ∀ (go10_3_1 : Nat → Nat → Value), ∀ (go10_4_1 : Nat → Nat → Value), RA f E B all 7 (bt 13 543) ⟨135, [(12, .obj bo10_9_1 [.r (.v (.slice none 0 0)), .r (.v (.slice none 0 0))]), (48, .tup [.agg [.w (sl 3 Session.c (((perfK a n x).1).sessions)) (go10_4_1 0 0), .w (sl 3 Item.c (((perfK a n x).1).items)) (go10_4_1 0 1)], S ((perfK a n x).2.1), Bo ((perfK a n x).2.2)])] ++ b0⟩ K := by
      intro B bo10_9_1 go10_3_1 go10_4_1
      refine RA.of2 hall hf hb (RA.stepH (L := [5]) (Tell.of rfl) (by kernel_rfl) (by simp) (RA.each ?_ (RA.each0)))
      ·skip
       refine RO.moveMove rfl rfl rfl rfl rfl (by decide) (Nat.le_of_ble_eq_true rfl) (Nat.le_of_ble_eq_true rfl) ?_
       exact RA.to2 hall hf hb (ro10_10 B bo10_9_1 go10_3_1 go10_4_1) rfl rfl (by kernel_rfl)
     have ro10_5 : ∀ B, ∀ (go10_3_1 : Nat → Nat → Value), ∀ (go10_4_1 : Nat → Nat → Value), RA f E B all 7 (bt 13 63) ⟨135, [(43, .tup [.agg [.w (sl 3 Session.c (((perfK a n x).1).sessions)) (go10_4_1 0 0), .w (sl 3 Item.c (((perfK a n x).1).items)) (go10_4_1 0 1)], S ((perfK a n x).2.1), Bo ((perfK a n x).2.2)])] ++ b0⟩ K := by
      intro B go10_3_1 go10_4_1
      refine RA.of2 hall hf hb (RA.stepH (L := [6, 7, 8, 9]) (Tell.of rfl) (by kernel_rfl) (by simp) (RA.each ?_ (RA.each ?_ (RA.each ?_ (RA.each ?_ (RA.each0))))))
      ·skip
       refine RO.extract (d := .agg [.w (sl 3 Session.c (((perfK a n x).1).sessions)) (go10_4_1 0 0), .w (sl 3 Item.c (((perfK a n x).1).items)) (go10_4_1 0 1)]) rfl rfl rfl rfl rfl (by decide) (Nat.le_of_ble_eq_true rfl) rfl rfl ?_
       exact RA.to2 hall hf hb (ro10_7 B go10_3_1 go10_4_1) rfl rfl (by kernel_rfl)
      ·skip
       refine RO.extract (d := S ((perfK a n x).2.1)) rfl rfl rfl rfl rfl (by decide) (Nat.le_of_ble_eq_true rfl) rfl rfl ?_
       exact RA.to2 hall hf hb (ro10_8 B go10_3_1 go10_4_1) rfl rfl (by kernel_rfl)
      ·skip
       refine RO.extract (d := Bo ((perfK a n x).2.2)) rfl rfl rfl rfl rfl (by decide) (Nat.le_of_ble_eq_true rfl) rfl rfl ?_
       exact RA.to2 hall hf hb (ro10_9 B go10_3_1 go10_4_1) rfl rfl (by kernel_rfl)
      ·skip
       refine RO.alloc (ds := [.r (.v (.slice none 0 0)), .r (.v (.slice none 0 0))]) rfl rfl rfl rfl rfl rfl fun bo10_9_1 => ?_
       exact RA.to2 hall hf hb (ro10_10 B bo10_9_1 go10_3_1 go10_4_1) rfl rfl (by kernel_rfl)
     have ro10_4 : ∀ B, ∀ (bo10_9_1 : Nat), ∀ (go10_3_1 : Nat → Nat → Value), RA f E B all 8 (bt 13 527) ⟨135, [(12, .obj bo10_9_1 [.r (.v (.slice none 0 0)), .r (.v (.slice none 0 0))]), (44, .agg [.al 11 (some 0) 3 a.sessions.length (g8 0 0) 0, .al 11 (some 1) 3 a.items.length (g8 0 1) 0]), (45, I n), (47, .agg ((Command.c x).map .r))] ++ b0⟩ K := by
      intro B bo10_9_1 go10_3_1
      refine RA.of2 hall hf hb (RA.stepH (L := [4]) (Tell.of rfl) (by kernel_rfl) (by simp) (RA.each ?_ (RA.each0)))
      ·skip
       refine RO.callOwn rfl rfl (impl_Perform_fn a n x hP) rfl (.cons (.agg (.cons (.r (.alo (k := none) (i := 11) (j := 0) (sz := 3) (V := (g8 0 0)) rfl rfl rfl nofun)) (.cons (.r (.alo (k := none) (i := 11) (j := 1) (sz := 3) (V := (g8 0 1)) rfl rfl rfl nofun)) (.nil)))) (.cons (.one (.r .r)) (.cons (.agg (.cons (.r .r) (.cons (.r .r) (.cons (.r .r) (.cons (.r .r) (.cons (.r .r) (.cons (.r .r) (.nil)))))))) (.nil)))) rfl rfl fun go10_4_1 => ?_
       exact RA.to2 hall hf hb (ro10_6 B bo10_9_1 go10_3_1 go10_4_1) rfl rfl (by kernel_rfl)
     have ro10_3 : ∀ B, ∀ (go10_3_1 : Nat → Nat → Value), ∀ (go10_4_1 : Nat → Nat → Value), RA f E B all 8 (bt 13 31) ⟨135, [(48, .tup [.agg [.w (sl 3 Session.c (((perfK a n x).1).sessions)) (go10_4_1 0 0), .w (sl 3 Item.c (((perfK a n x).1).items)) (go10_4_1 0 1)], S ((perfK a n x).2.1), Bo ((perfK a n x).2.2)])] ++ b0⟩ K := by
      intro B go10_3_1 go10_4_1
      refine RA.of2 hall hf hb (RA.stepH (L := [5, 9]) (Tell.of rfl) (by kernel_rfl) (by simp) (RA.each ?_ (RA.each ?_ (RA.each0))))
      ·skip
       refine RO.moveMove rfl rfl rfl rfl rfl (by decide) (Nat.le_of_ble_eq_true rfl) (Nat.le_of_ble_eq_true rfl) ?_
       exact RA.to2 hall hf hb (ro10_5 B go10_3_1 go10_4_1) rfl rfl (by kernel_rfl)
      ·skip
       refine RO.alloc (ds := [.r (.v (.slice none 0 0)), .r (.v (.slice none 0 0))]) rfl rfl rfl rfl rfl rfl fun bo10_9_1 => ?_
       exact RA.to2 hall hf hb (ro10_6 B bo10_9_1 go10_3_1 go10_4_1) rfl rfl (by kernel_rfl)
     have ro10_2 : ∀ B, ∀ (bo10_9_1 : Nat), RA f E B all 9 (bt 13 519) ⟨135, [(12, .obj bo10_9_1 [.r (.v (.slice none 0 0)), .r (.v (.slice none 0 0))]), (44, .agg [.al 11 (some 0) 3 a.sessions.length (g8 0 0) 0, .al 11 (some 1) 3 a.items.length (g8 0 1) 0]), (45, I n), (46, .agg ((Command.c x).map .r))] ++ b0⟩ K := by
      intro B bo10_9_1
      refine RA.of2 hall hf hb (RA.stepH (L := [3]) (Tell.of rfl) (by kernel_rfl) (by simp) (RA.each ?_ (RA.each0)))
      ·skip
       refine RO.call rfl rfl (laws_toCommand_fn x hS) rfl (.cons (.agg (.cons (.r .r) (.cons (.r .r) (.cons (.r .r) (.cons (.r .r) (.cons (.r .r) (.cons (.r .r) (.nil)))))))) (.nil)) rfl fun go10_3_1 => ?_
       exact RA.to2 hall hf hb (ro10_4 B bo10_9_1 go10_3_1) rfl rfl (by kernel_rfl)
     have ro10_1 : ∀ B, ∀ (go10_3_1 : Nat → Nat → Value), RA f E B all 9 (bt 13 15) ⟨135, [(44, .agg [.al 11 (some 0) 3 a.sessions.length (g8 0 0) 0, .al 11 (some 1) 3 a.items.length (g8 0 1) 0]), (45, I n), (47, .agg ((Command.c x).map .r))] ++ b0⟩ K := by
      intro B go10_3_1
      refine RA.of2 hall hf hb (RA.stepH (L := [4, 9]) (Tell.of rfl) (by kernel_rfl) (by simp) (RA.each ?_ (RA.each ?_ (RA.each0))))
      ·skip
       refine RO.callOwn rfl rfl (impl_Perform_fn a n x hP) rfl (.cons (.agg (.cons (.r (.alo (k := none) (i := 11) (j := 0) (sz := 3) (V := (g8 0 0)) rfl rfl rfl nofun)) (.cons (.r (.alo (k := none) (i := 11) (j := 1) (sz := 3) (V := (g8 0 1)) rfl rfl rfl nofun)) (.nil)))) (.cons (.one (.r .r)) (.cons (.agg (.cons (.r .r) (.cons (.r .r) (.cons (.r .r) (.cons (.r .r) (.cons (.r .r) (.cons (.r .r) (.nil)))))))) (.nil)))) rfl rfl fun go10_4_1 => ?_
       exact RA.to2 hall hf hb (ro10_3 B go10_3_1 go10_4_1) rfl rfl (by kernel_rfl)
      ·skip
       refine RO.alloc (ds := [.r (.v (.slice none 0 0)), .r (.v (.slice none 0 0))]) rfl rfl rfl rfl rfl rfl fun bo10_9_1 => ?_
       exact RA.to2 hall hf hb (ro10_4 B bo10_9_1 go10_3_1) rfl rfl (by kernel_rfl)
     have ro10_0 : ∀ B, RA f E B all 10 (bt 13 7) ⟨135, [(44, .agg [.al 11 (some 0) 3 a.sessions.length (g8 0 0) 0, .al 11 (some 1) 3 a.items.length (g8 0 1) 0]), (45, I n), (46, .agg ((Command.c x).map .r))] ++ b0⟩ K := by
      intro B
      refine RA.of2 hall hf hb (RA.stepH (L := [3, 9]) (Tell.of rfl) (by kernel_rfl) (by simp) (RA.each ?_ (RA.each ?_ (RA.each0))))
      ·skip
       refine RO.call rfl rfl (laws_toCommand_fn x hS) rfl (.cons (.agg (.cons (.r .r) (.cons (.r .r) (.cons (.r .r) (.cons (.r .r) (.cons (.r .r) (.cons (.r .r) (.nil)))))))) (.nil)) rfl fun go10_3_1 => ?_
       exact RA.to2 hall hf hb (ro10_1 B go10_3_1) rfl rfl (by kernel_rfl)
      ·skip
       refine RO.alloc (ds := [.r (.v (.slice none 0 0)), .r (.v (.slice none 0 0))]) rfl rfl rfl rfl rfl rfl fun bo10_9_1 => ?_
       exact RA.to2 hall hf hb (ro10_2 B bo10_9_1) rfl rfl (by kernel_rfl)
     refine RA.start (by kernel_rfl) (by kernel_rfl) (m := 13) (ls' := (bt 13 0)) ?_
     refine RA.fr XK 135 10 [0,1,2] (bt 13 7) rfl rfl (by kernel_rfl) (Tell.of rfl) ?_
     (conv=>whnf);refine ⟨rfl,fun B=>?_⟩
     exact RA.to2 hall hf hb (ro10_0 B) rfl rfl (by kernel_rfl)
    ·rintro ⟨bo10_9_1, go10_3_1, go10_4_1⟩
     refine CW.seq ?_
     refine CW.seqJ 135 (fun (v11 : Bool) => [(1, I n), (3, .rp (Keep.c a)), (5, .rp (Command.c x)), (8, .obj bo7_10_1 [.w (sl 3 Session.c (((perfK a n x).1).sessions)) (go7_5_1 0 0), .w (sl 3 Item.c (((perfK a n x).1).items)) (go7_5_1 0 1)]), (9, S ((perfK a n x).2.1)), (10, Bo ((perfK a n x).2.2)), (11, .obj b9 [.w (sl 3 Session.c a.sessions) (g8 0 0), .w (sl 3 Item.c a.items) (g8 0 1)]), (12, .obj bo10_9_1 [.w (sl 3 Session.c (((perfK a n x).1).sessions)) (go10_4_1 0 0), .w (sl 3 Item.c (((perfK a n x).1).items)) (go10_4_1 0 1)]), (13, S ((perfK a n x).2.1)), (14, Bo ((perfK a n x).2.2)), (65, Bo v11)]) (fun v11 => v11 = (((!(eqKeep ((perfK a n x).1) ((perfK a n x).1))) || (!(((perfK a n x).2.1).toList == ((perfK a n x).2.1).toList))) || (!(((perfK a n x).2.2) == ((perfK a n x).2.2))))) ?_ ?_
     ·refine CW.region ?_
      refine RW.k XK 135 2 rfl ?_
      (conv=>whnf);refine ⟨rfl,?_⟩
      refine RW.callOwn rfl (laws_eqKeep_fn ((perfK a n x).1) ((perfK a n x).1)) rfl (.cons (.agg (.cons (.r (.alo (k := none) (i := 12) (j := 0) (sz := 3) (V := (go10_4_1 0 0)) rfl rfl rfl nofun)) (.cons (.r (.alo (k := none) (i := 12) (j := 1) (sz := 3) (V := (go10_4_1 0 1)) rfl rfl rfl nofun)) (.nil)))) (.cons (.agg (.cons (.r (.alo (k := none) (i := 8) (j := 0) (sz := 3) (V := (go7_5_1 0 0)) rfl rfl rfl nofun)) (.cons (.r (.alo (k := none) (i := 8) (j := 1) (sz := 3) (V := (go7_5_1 0 1)) rfl rfl rfl nofun)) (.nil)))) (.nil))) rfl fun g12 => ?_
      refine RW.k XK 135 2 rfl ?_
      (conv=>whnf);refine ⟨rfl,?_⟩
      refine RW.gv rfl rfl rfl rfl (fun h13 => V.mv (d := S ((perfK a n x).2.1)) rfl rfl) (fun h13 => ?_) (fun h13 => ?_)
      ·skip
       refine RW.k XK 135 4 rfl ?_
       (conv=>whnf);refine ⟨rfl,?_⟩
       refine RW.gv rfl rfl rfl rfl (fun h14 => V.mv (d := Bo ((perfK a n x).2.2)) rfl rfl) (fun h14 => ?_) (fun h14 => ?_)
       ·skip
        refine RW.k XK 135 1 rfl ?_
        (conv=>whnf);refine ⟨rfl,?_⟩
        refine RW.gt rfl rfl rfl rfl (V.eqBool rfl rfl rfl (by kernel_rfl) (.inr ⟨rfl, rfl⟩)) ?_
        refine RW.k XK 135 1 rfl ?_
        (conv=>whnf);refine ⟨rfl,?_⟩
        refine RW.nil ?_
        exact ⟨_, by first | rfl | (simp_all; done) | (simp_all; omega) | grind, rfl, Le.of rfl⟩
       ·skip
        refine RW.k XK 135 3 rfl ?_
        (conv=>whnf);refine ⟨rfl,?_⟩
        refine RW.nil ?_
        exact ⟨_, by first | rfl | (simp_all; done) | (simp_all; omega) | grind, rfl, Le.of rfl⟩
      ·skip
       refine RW.k XK 135 8 rfl ?_
       (conv=>whnf);refine ⟨rfl,?_⟩
       refine RW.nil ?_
       exact ⟨_, by first | rfl | (simp_all; done) | (simp_all; omega) | grind, rfl, Le.of rfl⟩
     ·intro v11 hv15
      refine CW.cond rfl (fun h16 => ?_) (fun h16 => ?_)
      ·skip
       refine CW.k XK 135 1 [6] rfl ?_
       (conv=>whnf);refine ⟨rfl,?_⟩
       refine CW.ret ?_
       exact Post.one (RV.b rfl (by first | rfl | (exfalso; have p0 := mkVKeep_facts hP.1.1 hP.2.1; have p1 := mkVKeep_facts (perf_len a n x).1 (perf_len a n x).2; simp_all [eqKeep_refl]; done) | (exfalso; have p0 := mkVKeep_facts hP.1.1 hP.2.1; have p1 := mkVKeep_facts (perf_len a n x).1 (perf_len a n x).2; simp_all [eqKeep_refl]; omega))) (AOs.a rfl (AOs.r (AOs.a rfl AOs.e)))
      ·skip
       refine CW.skip ?_
       refine CW.keep 135 [1,3,5,8,9,10,11,12,13,14] rfl ?_;(conv=>whnf);refine ⟨?_⟩
       refine CW.seq ?_
       refine CW.anyJ2 (fc := [(8, bo7_10_1, [(go7_5_1 0 0), (go7_5_1 0 1)]), (11, b9, [(g8 0 0), (g8 0 1)]), (12, bo10_9_1, [(go10_4_1 0 0), (go10_4_1 0 1)])]) (L0 := [(1, I n), (3, .rp (Keep.c a)), (5, .rp (Command.c x)), (8, .obj bo7_10_1 [.w (sl 3 Session.c (((perfK a n x).1).sessions)) (go7_5_1 0 0), .w (sl 3 Item.c (((perfK a n x).1).items)) (go7_5_1 0 1)]), (9, S ((perfK a n x).2.1)), (10, Bo ((perfK a n x).2.2)), (11, .obj b9 [.w (sl 3 Session.c a.sessions) (g8 0 0), .w (sl 3 Item.c a.items) (g8 0 1)]), (12, .obj bo10_9_1 [.w (sl 3 Session.c (((perfK a n x).1).sessions)) (go10_4_1 0 0), .w (sl 3 Item.c (((perfK a n x).1).items)) (go10_4_1 0 1)]), (13, S ((perfK a n x).2.1)), (14, Bo ((perfK a n x).2.2))]) 135 (fun (zz : (Nat → Nat → Value) × (Nat → Nat → Value)) => match zz with | (go17_2_1, go17_3_1) => [(70, Bo (!(eqKeep a a)))]) (fun all hall f hf b0 hb K hK => ?_) ?_
       ·skip
        have ro17_2 : ∀ B, ∀ (go17_2_1 : Nat → Nat → Value), ∀ (go17_3_1 : Nat → Nat → Value), RA f E B all 0 (bt 5 31) ⟨135, [(70, Bo (!(eqKeep a a)))] ++ b0⟩ K := by
         intro B go17_2_1 go17_3_1
         exact RA.of2 hall hf hb (RA.finH (Tell.of rfl) (by kernel_rfl) (hK (go17_2_1, go17_3_1) _ rfl (Le.of rfl)))
        have ro17_1 : ∀ B, ∀ (go17_2_1 : Nat → Nat → Value), RA f E B all 2 (bt 5 7) ⟨135, [(66, .agg [.al 11 (some 0) 3 a.sessions.length (g8 0 0) 0, .al 11 (some 1) 3 a.items.length (g8 0 1) 0]), (68, .agg [.w (sl 3 Session.c a.sessions) (go17_2_1 0 0), .w (sl 3 Item.c a.items) (go17_2_1 0 1)])] ++ b0⟩ K := by
         intro B go17_2_1
         refine RA.of2 hall hf hb (RA.stepH (L := [3]) (Tell.of rfl) (by kernel_rfl) (by simp) (RA.each ?_ (RA.each0)))
         ·skip
          refine RO.callOwn rfl rfl (laws_eqKeep_fn a a) rfl (.cons (.agg (.cons (.r (.alo (k := none) (i := 11) (j := 0) (sz := 3) (V := (g8 0 0)) rfl rfl rfl nofun)) (.cons (.r (.alo (k := none) (i := 11) (j := 1) (sz := 3) (V := (g8 0 1)) rfl rfl rfl nofun)) (.nil)))) (.cons (.agg (.cons (.r (.ala (k := none) (i := 68) (j := 0) (sz := 3) (V := (go17_2_1 0 0)) rfl rfl rfl nofun)) (.cons (.r (.ala (k := none) (i := 68) (j := 1) (sz := 3) (V := (go17_2_1 0 1)) rfl rfl rfl nofun)) (.nil)))) (.nil))) rfl rfl fun go17_3_1 => ?_
          refine RA.fr XK 135 0 [4] (bt 5 31) rfl rfl (by kernel_rfl) (Tell.of rfl) ?_
          (conv=>whnf);refine ⟨rfl,fun B=>?_⟩
          exact RA.to2 hall hf hb (ro17_2 B go17_2_1 go17_3_1) rfl rfl (by kernel_rfl)
        have ro17_0 : ∀ B, RA f E B all 3 (bt 5 3) ⟨135, [(66, .agg [.al 11 (some 0) 3 a.sessions.length (g8 0 0) 0, .al 11 (some 1) 3 a.items.length (g8 0 1) 0]), (67, .agg ((Keep.c a).map .r))] ++ b0⟩ K := by
         intro B
         refine RA.of2 hall hf hb (RA.stepH (L := [2]) (Tell.of rfl) (by kernel_rfl) (by simp) (RA.each ?_ (RA.each0)))
         ·skip
          refine RO.call rfl rfl (laws_toKeep_fn a hP) rfl (.cons (.agg (.cons (.r .r) (.cons (.r .r) (.nil)))) (.nil)) rfl fun go17_2_1 => ?_
          exact RA.to2 hall hf hb (ro17_1 B go17_2_1) rfl rfl (by kernel_rfl)
        refine RA.start (by kernel_rfl) (by kernel_rfl) (m := 5) (ls' := (bt 5 0)) ?_
        refine RA.fr XK 135 3 [0,1] (bt 5 3) rfl rfl (by kernel_rfl) (Tell.of rfl) ?_
        (conv=>whnf);refine ⟨rfl,fun B=>?_⟩
        exact RA.to2 hall hf hb (ro17_0 B) rfl rfl (by kernel_rfl)
       ·rintro ⟨go17_2_1, go17_3_1⟩
        refine CW.cond rfl (fun h18 => ?_) (fun h18 => ?_)
        ·skip
         refine CW.k XK 135 1 [6] rfl ?_
         (conv=>whnf);refine ⟨rfl,?_⟩
         refine CW.ret ?_
         exact Post.one (RV.b rfl (by first | rfl | (exfalso; have p0 := mkVKeep_facts hP.1.1 hP.2.1; have p1 := mkVKeep_facts (perf_len a n x).1 (perf_len a n x).2; simp_all [eqKeep_refl]; done) | (exfalso; have p0 := mkVKeep_facts hP.1.1 hP.2.1; have p1 := mkVKeep_facts (perf_len a n x).1 (perf_len a n x).2; simp_all [eqKeep_refl]; omega))) (AOs.a rfl (AOs.r (AOs.a rfl AOs.e)))
        ·skip
         refine CW.skip ?_
         refine CW.keep 135 [1,3,5,8,9,10,11,12,13,14] rfl ?_;(conv=>whnf);refine ⟨?_⟩
         refine CW.k XK 135 1 [1,3,5,8,9,10,11,12,13,14,15] rfl ?_
         (conv=>whnf);refine ⟨rfl,?_⟩
         refine CW.seq ?_
         refine CW.region ?_
         refine RW.k XK 135 2 rfl ?_
         (conv=>whnf);refine ⟨rfl,?_⟩
         refine RW.callW (k := 11) (laws_markKeep_fn a 1 (by decide)) rfl rfl (Nat.le_of_ble_eq_true rfl) (by decide) (.here (AsW.aggO (Hand.w (Hand.w Hand.e))) (.cons (.one (.r .r)) (.nil))) rfl fun g19 q20 => ?_
         refine RW.k XK 135 1 rfl ?_
         (conv=>whnf);refine ⟨rfl,?_⟩
         refine RW.nil ?_
         refine CW.keep 135 [1,3,5,8,9,10,12,13,14,15] rfl ?_;(conv=>whnf);refine ⟨?_⟩
         refine CW.seq ?_
         refine CW.seqJ 135 (fun (v21 : Bool) => [(1, I n), (3, .rp (Keep.c a)), (5, .rp (Command.c x)), (8, .obj bo7_10_1 [.w (sl 3 Session.c (((perfK a n x).1).sessions)) (go7_5_1 0 0), .w (sl 3 Item.c (((perfK a n x).1).items)) (go7_5_1 0 1)]), (9, S ((perfK a n x).2.1)), (10, Bo ((perfK a n x).2.2)), (12, .obj bo10_9_1 [.w (sl 3 Session.c (((perfK a n x).1).sessions)) (go10_4_1 0 0), .w (sl 3 Item.c (((perfK a n x).1).items)) (go10_4_1 0 1)]), (91, Bo v21)]) (fun v21 => v21 = (((decide (((mkVKeep a 1).2) < 0) || (!(eqKeep ((perfK a n x).1) ((perfK a n x).1)))) || (!(((perfK a n x).2.1).toList == ((perfK a n x).2.1).toList))) || (!(((perfK a n x).2.2) == ((perfK a n x).2.2))))) ?_ ?_
         ·refine CW.region ?_
          refine RW.k XK 135 3 rfl ?_
          (conv=>whnf);refine ⟨rfl,?_⟩
          refine RW.gv rfl rfl rfl rfl (fun h22 => V.loadAgg rfl rfl rfl rfl rfl (Nat.le_of_ble_eq_true rfl)) (fun h22 => ?_) (fun h22 => ?_)
          ·skip
           refine RW.k XK 135 1 rfl ?_
           (conv=>whnf);refine ⟨rfl,?_⟩
           refine RW.gcallOwn rfl rfl rfl rfl (laws_eqKeep_fn ((perfK a n x).1) ((perfK a n x).1)) rfl (.cons (.agg (.cons (.r (.alo (k := none) (i := 12) (j := 0) (sz := 3) (V := (go10_4_1 0 0)) rfl rfl rfl nofun)) (.cons (.r (.alo (k := none) (i := 12) (j := 1) (sz := 3) (V := (go10_4_1 0 1)) rfl rfl rfl nofun)) (.nil)))) (.cons (.agg (.cons (.r (.alo (k := none) (i := 8) (j := 0) (sz := 3) (V := (go7_5_1 0 0)) rfl rfl rfl nofun)) (.cons (.r (.alo (k := none) (i := 8) (j := 1) (sz := 3) (V := (go7_5_1 0 1)) rfl rfl rfl nofun)) (.nil)))) (.nil))) rfl fun g23 => ?_
           refine RW.k XK 135 3 rfl ?_
           (conv=>whnf);refine ⟨rfl,?_⟩
           refine RW.gv rfl rfl rfl rfl (fun h24 => V.mv (d := S ((perfK a n x).2.1)) rfl rfl) (fun h24 => ?_) (fun h24 => ?_)
           ·skip
            refine RW.k XK 135 4 rfl ?_
            (conv=>whnf);refine ⟨rfl,?_⟩
            refine RW.gv rfl rfl rfl rfl (fun h25 => V.mv (d := Bo ((perfK a n x).2.2)) rfl rfl) (fun h25 => ?_) (fun h25 => ?_)
            ·skip
             refine RW.k XK 135 1 rfl ?_
             (conv=>whnf);refine ⟨rfl,?_⟩
             refine RW.gt rfl rfl rfl rfl (V.eqBool rfl rfl rfl (by kernel_rfl) (.inr ⟨rfl, rfl⟩)) ?_
             refine RW.k XK 135 1 rfl ?_
             (conv=>whnf);refine ⟨rfl,?_⟩
             refine RW.nil ?_
             exact ⟨_, by first | rfl | (simp_all; done) | (simp_all; omega) | grind, rfl, Le.of rfl⟩
            ·skip
             refine RW.k XK 135 3 rfl ?_
             (conv=>whnf);refine ⟨rfl,?_⟩
             refine RW.nil ?_
             exact ⟨_, by first | rfl | (simp_all; done) | (simp_all; omega) | grind, rfl, Le.of rfl⟩
           ·skip
            refine RW.k XK 135 8 rfl ?_
            (conv=>whnf);refine ⟨rfl,?_⟩
            refine RW.nil ?_
            exact ⟨_, by first | rfl | (simp_all; done) | (simp_all; omega) | grind, rfl, Le.of rfl⟩
          ·skip
           refine RW.k XK 135 14 rfl ?_
           (conv=>whnf);refine ⟨rfl,?_⟩
           refine RW.nil ?_
           exact ⟨_, by first | rfl | (simp_all; done) | (simp_all; omega) | grind, rfl, Le.of rfl⟩
         ·intro v21 hv26
          refine CW.cond rfl (fun h27 => ?_) (fun h27 => ?_)
          ·skip
           refine CW.k XK 135 1 [6] rfl ?_
           (conv=>whnf);refine ⟨rfl,?_⟩
           refine CW.ret ?_
           exact Post.one (RV.b rfl (by first | rfl | (exfalso; have p0 := mkVKeep_facts hP.1.1 hP.2.1; have p1 := mkVKeep_facts (perf_len a n x).1 (perf_len a n x).2; simp_all [eqKeep_refl]; done) | (exfalso; have p0 := mkVKeep_facts hP.1.1 hP.2.1; have p1 := mkVKeep_facts (perf_len a n x).1 (perf_len a n x).2; simp_all [eqKeep_refl]; omega))) (AOs.a rfl (AOs.r (AOs.a rfl AOs.e)))
          ·skip
           refine CW.skip ?_
           refine CW.keep 135 [1,3,5,8,9,10,12] rfl ?_;(conv=>whnf);refine ⟨?_⟩
           refine CW.k XK 135 1 [1,3,5,8,9,10,12,16] rfl ?_
           (conv=>whnf);refine ⟨rfl,?_⟩
           refine CW.seq ?_
           refine CW.region ?_
           refine RW.k XK 135 2 rfl ?_
           (conv=>whnf);refine ⟨rfl,?_⟩
           refine RW.callW (k := 12) (laws_markKeep_fn ((perfK a n x).1) 1 (by decide)) rfl rfl (Nat.le_of_ble_eq_true rfl) (by decide) (.here (AsW.aggO (Hand.w (Hand.w Hand.e))) (.cons (.one (.r .r)) (.nil))) rfl fun g28 q29 => ?_
           refine RW.k XK 135 1 rfl ?_
           (conv=>whnf);refine ⟨rfl,?_⟩
           refine RW.nil ?_
           refine CW.keep 135 [1,3,5,8,9,10,12,16] rfl ?_;(conv=>whnf);refine ⟨?_⟩
           refine CW.k XK 135 1 [1,3,5,8,9,10,12,16,17] rfl ?_
           (conv=>whnf);refine ⟨rfl,?_⟩
           refine CW.seq ?_
           refine CW.region ?_
           refine RW.k XK 135 2 rfl ?_
           (conv=>whnf);refine ⟨rfl,?_⟩
           refine RW.callOwn rfl (laws_heldKeep_fn ((mkVKeep ((perfK a n x).1) 1).1) 1 (by decide)) rfl (.cons (.agg (.cons (.r (.alo (k := none) (i := 12) (j := 0) (sz := 3) (V := (go10_4_1 0 0)) rfl rfl rfl nofun)) (.cons (.r (.alo (k := none) (i := 12) (j := 1) (sz := 3) (V := (go10_4_1 0 1)) rfl rfl rfl nofun)) (.nil)))) (.cons (.one (.r .r)) (.nil))) rfl fun g30 => ?_
           refine RW.k XK 135 1 rfl ?_
           (conv=>whnf);refine ⟨rfl,?_⟩
           refine RW.nil ?_
           refine CW.keep 135 [1,3,5,8,9,10,12,16,17] rfl ?_;(conv=>whnf);refine ⟨?_⟩
           refine CW.seq ?_
           refine CW.k XK 135 1 [1,3,5,8,9,10,12,16,17,99] rfl ?_
           (conv=>whnf);refine ⟨rfl,?_⟩
           refine CW.cond rfl (fun h31 => ?_) (fun h31 => ?_)
           ·skip
            refine CW.k XK 135 1 [6] rfl ?_
            (conv=>whnf);refine ⟨rfl,?_⟩
            refine CW.ret ?_
            exact Post.one (RV.b rfl (by first | rfl | (exfalso; have p0 := mkVKeep_facts hP.1.1 hP.2.1; have p1 := mkVKeep_facts (perf_len a n x).1 (perf_len a n x).2; simp_all [eqKeep_refl]; done) | (exfalso; have p0 := mkVKeep_facts hP.1.1 hP.2.1; have p1 := mkVKeep_facts (perf_len a n x).1 (perf_len a n x).2; simp_all [eqKeep_refl]; omega))) (AOs.a rfl (AOs.r (AOs.a rfl AOs.e)))
           ·skip
            refine CW.skip ?_
            refine CW.keep 135 [1,3,5,8,9,10,12,16,17] rfl ?_;(conv=>whnf);refine ⟨?_⟩
            refine CW.seq ?_
            refine CW.k XK 135 1 [1,3,5,8,9,10,12,16,102] rfl ?_
            (conv=>whnf);refine ⟨rfl,?_⟩
            refine CW.cond rfl (fun h32 => ?_) (fun h32 => ?_)
            ·skip
             refine CW.k XK 135 1 [6] rfl ?_
             (conv=>whnf);refine ⟨rfl,?_⟩
             refine CW.ret ?_
             exact Post.one (RV.b rfl (by first | rfl | (exfalso; have p0 := mkVKeep_facts hP.1.1 hP.2.1; have p1 := mkVKeep_facts (perf_len a n x).1 (perf_len a n x).2; simp_all [eqKeep_refl]; done) | (exfalso; have p0 := mkVKeep_facts hP.1.1 hP.2.1; have p1 := mkVKeep_facts (perf_len a n x).1 (perf_len a n x).2; simp_all [eqKeep_refl]; omega))) (AOs.a rfl (AOs.r (AOs.a rfl AOs.e)))
            ·skip
             refine CW.skip ?_
             refine CW.keep 135 [1,3,5,8,9,10,12,16] rfl ?_;(conv=>whnf);refine ⟨?_⟩
             refine CW.anyJ2 (fc := [(8, bo7_10_1, [(go7_5_1 0 0), (go7_5_1 0 1)]), (12, bo10_9_1, [(go10_4_1 0 0), (go10_4_1 0 1)])]) (L0 := [(8, .obj bo7_10_1 [.w (sl 3 Session.c (((perfK a n x).1).sessions)) (go7_5_1 0 0), .w (sl 3 Item.c (((perfK a n x).1).items)) (go7_5_1 0 1)]), (9, S ((perfK a n x).2.1)), (10, Bo ((perfK a n x).2.2)), (12, .obj bo10_9_1 [.w (sl 3 Session.c (((mkVKeep ((perfK a n x).1) 1).1).sessions)) (go10_4_1 0 0), .w (sl 3 Item.c (((mkVKeep ((perfK a n x).1) 1).1).items)) (go10_4_1 0 1)]), (16, I ((mkVKeep ((perfK a n x).1) 1).2))]) 135 (fun (zz : Nat × (Nat → Nat → Value) × (Nat → Nat → Value) × (Nat → Nat → Value)) => match zz with | (bo33_10_1, go33_1_1, go33_4_1, go33_5_1) => [(18, .obj bo33_10_1 [.w (sl 3 Session.c (((perfK a n x).1).sessions)) (go33_5_1 0 0), .w (sl 3 Item.c (((perfK a n x).1).items)) (go33_5_1 0 1)]), (19, S ((perfK a n x).2.1)), (20, Bo ((perfK a n x).2.2))]) (fun all hall f hf b0 hb K hK => ?_) ?_
             ·skip
              have ro33_27 : ∀ B, ∀ (bo33_10_1 : Nat), ∀ (go33_1_1 : Nat → Nat → Value), ∀ (go33_4_1 : Nat → Nat → Value), ∀ (go33_5_1 : Nat → Nat → Value), RA f E B all 0 (bt 14 16383) ⟨135, [(18, .obj bo33_10_1 [.w (sl 3 Session.c (((perfK a n x).1).sessions)) (go33_5_1 0 0), .w (sl 3 Item.c (((perfK a n x).1).items)) (go33_5_1 0 1)]), (19, S ((perfK a n x).2.1)), (20, Bo ((perfK a n x).2.2))] ++ b0⟩ K := by
               intro B bo33_10_1 go33_1_1 go33_4_1 go33_5_1
               exact RA.of2 hall hf hb (RA.finH (Tell.of rfl) (by kernel_rfl) (hK (bo33_10_1, go33_1_1, go33_4_1, go33_5_1) _ rfl (Le.of rfl)))
              have ro33_26 : ∀ B, ∀ (bo33_10_1 : Nat), ∀ (go33_1_1 : Nat → Nat → Value), ∀ (go33_4_1 : Nat → Nat → Value), ∀ (go33_5_1 : Nat → Nat → Value), RA f E B all 2 (bt 14 7679) ⟨135, [(18, .obj bo33_10_1 [.w (sl 3 Session.c (((perfK a n x).1).sessions)) (go33_5_1 0 0), .w (sl 3 Item.c (((perfK a n x).1).items)) (go33_5_1 0 1)]), (19, S ((perfK a n x).2.1)), (103, .tup [.u, .u, Bo ((perfK a n x).2.2)])] ++ b0⟩ K := by
               intro B bo33_10_1 go33_1_1 go33_4_1 go33_5_1
               refine RA.of2 hall hf hb (RA.stepH (L := [9]) (Tell.of rfl) (by kernel_rfl) (by simp) (RA.each ?_ (RA.each0)))
               ·skip
                refine RO.extract (d := Bo ((perfK a n x).2.2)) rfl rfl rfl rfl rfl (by decide) (Nat.le_of_ble_eq_true rfl) rfl rfl ?_
                refine RA.fr XK 135 0 [13] (bt 14 16383) rfl rfl (by kernel_rfl) (Tell.of rfl) ?_
                (conv=>whnf);refine ⟨rfl,fun B=>?_⟩
                exact RA.to2 hall hf hb (ro33_27 B bo33_10_1 go33_1_1 go33_4_1 go33_5_1) rfl rfl (by kernel_rfl)
              have ro33_25 : ∀ B, ∀ (bo33_10_1 : Nat), ∀ (go33_1_1 : Nat → Nat → Value), ∀ (go33_4_1 : Nat → Nat → Value), ∀ (go33_5_1 : Nat → Nat → Value), RA f E B all 3 (bt 14 3839) ⟨135, [(18, .obj bo33_10_1 [.w (sl 3 Session.c (((perfK a n x).1).sessions)) (go33_5_1 0 0), .w (sl 3 Item.c (((perfK a n x).1).items)) (go33_5_1 0 1)]), (103, .tup [.u, S ((perfK a n x).2.1), .u]), (112, Bo ((perfK a n x).2.2))] ++ b0⟩ K := by
               intro B bo33_10_1 go33_1_1 go33_4_1 go33_5_1
               refine RA.of2 hall hf hb (RA.stepH (L := [8]) (Tell.of rfl) (by kernel_rfl) (by simp) (RA.each ?_ (RA.each0)))
               ·skip
                refine RO.extract (d := S ((perfK a n x).2.1)) rfl rfl rfl rfl rfl (by decide) (Nat.le_of_ble_eq_true rfl) rfl rfl ?_
                refine RA.fr XK 135 0 [12,13] (bt 14 16383) rfl rfl (by kernel_rfl) (Tell.of rfl) ?_
                (conv=>whnf);refine ⟨rfl,fun B=>?_⟩
                exact RA.to2 hall hf hb (ro33_27 B bo33_10_1 go33_1_1 go33_4_1 go33_5_1) rfl rfl (by kernel_rfl)
              have ro33_24 : ∀ B, ∀ (bo33_10_1 : Nat), ∀ (go33_1_1 : Nat → Nat → Value), ∀ (go33_4_1 : Nat → Nat → Value), ∀ (go33_5_1 : Nat → Nat → Value), RA f E B all 3 (bt 14 2047) ⟨135, [(18, .obj bo33_10_1 [.r (.v (.slice none 0 0)), .r (.v (.slice none 0 0))]), (110, .agg [.w (sl 3 Session.c (((perfK a n x).1).sessions)) (go33_5_1 0 0), .w (sl 3 Item.c (((perfK a n x).1).items)) (go33_5_1 0 1)]), (111, S ((perfK a n x).2.1)), (112, Bo ((perfK a n x).2.2))] ++ b0⟩ K := by
               intro B bo33_10_1 go33_1_1 go33_4_1 go33_5_1
               refine RA.of2 hall hf hb (RA.stepH (L := [11]) (Tell.of rfl) (by kernel_rfl) (by simp) (RA.each ?_ (RA.each0)))
               ·skip
                refine RO.storeAgg (es := [.al 110 (some 0) 3 ((((perfK a n x).1).sessions).length) (go33_5_1 0 0) 0, .al 110 (some 1) 3 ((((perfK a n x).1).items).length) (go33_5_1 0 1) 0]) rfl rfl rfl rfl rfl rfl rfl rfl rfl rfl (Nat.le_of_ble_eq_true rfl) rfl ?_
                refine RA.keep 135 [8,9,10,12,16,18,110,111,112] rfl ?_;(conv=>whnf);refine ⟨?_⟩
                refine RA.pullA (k := 18) (l := 110) (j := 0) 18 110 0 rfl rfl rfl (by decide) rfl rfl rfl rfl ?_
                refine RA.keep 135 [8,9,10,12,16,18,110,111,112] rfl ?_;(conv=>whnf);refine ⟨?_⟩
                refine RA.pullA (k := 18) (l := 110) (j := 1) 18 110 1 rfl rfl rfl (by decide) rfl rfl rfl rfl ?_
                refine RA.keep 135 [8,9,10,12,16,18,111,112] rfl ?_;(conv=>whnf);refine ⟨?_⟩
                refine RA.fr XK 135 0 [12,13] (bt 14 16383) rfl rfl (by kernel_rfl) (Tell.of rfl) ?_
                (conv=>whnf);refine ⟨rfl,fun B=>?_⟩
                exact RA.to2 hall hf hb (ro33_27 B bo33_10_1 go33_1_1 go33_4_1 go33_5_1) rfl rfl (by kernel_rfl)
              have ro33_23 : ∀ B, ∀ (bo33_10_1 : Nat), ∀ (go33_1_1 : Nat → Nat → Value), ∀ (go33_4_1 : Nat → Nat → Value), ∀ (go33_5_1 : Nat → Nat → Value), RA f E B all 4 (bt 14 1919) ⟨135, [(18, .obj bo33_10_1 [.r (.v (.slice none 0 0)), .r (.v (.slice none 0 0))]), (103, .tup [.agg [.w (sl 3 Session.c (((perfK a n x).1).sessions)) (go33_5_1 0 0), .w (sl 3 Item.c (((perfK a n x).1).items)) (go33_5_1 0 1)], .u, .u]), (111, S ((perfK a n x).2.1)), (112, Bo ((perfK a n x).2.2))] ++ b0⟩ K := by
               intro B bo33_10_1 go33_1_1 go33_4_1 go33_5_1
               refine RA.of2 hall hf hb (RA.stepH (L := [7]) (Tell.of rfl) (by kernel_rfl) (by simp) (RA.each ?_ (RA.each0)))
               ·skip
                refine RO.extract (d := .agg [.w (sl 3 Session.c (((perfK a n x).1).sessions)) (go33_5_1 0 0), .w (sl 3 Item.c (((perfK a n x).1).items)) (go33_5_1 0 1)]) rfl rfl rfl rfl rfl (by decide) (Nat.le_of_ble_eq_true rfl) rfl rfl ?_
                exact RA.to2 hall hf hb (ro33_24 B bo33_10_1 go33_1_1 go33_4_1 go33_5_1) rfl rfl (by kernel_rfl)
              have ro33_22 : ∀ B, ∀ (bo33_10_1 : Nat), ∀ (go33_1_1 : Nat → Nat → Value), ∀ (go33_4_1 : Nat → Nat → Value), ∀ (go33_5_1 : Nat → Nat → Value), RA f E B all 4 (bt 14 3327) ⟨135, [(18, .obj bo33_10_1 [.w (sl 3 Session.c (((perfK a n x).1).sessions)) (go33_5_1 0 0), .w (sl 3 Item.c (((perfK a n x).1).items)) (go33_5_1 0 1)]), (103, .tup [.u, S ((perfK a n x).2.1), Bo ((perfK a n x).2.2)])] ++ b0⟩ K := by
               intro B bo33_10_1 go33_1_1 go33_4_1 go33_5_1
               refine RA.of2 hall hf hb (RA.stepH (L := [8, 9]) (Tell.of rfl) (by kernel_rfl) (by simp) (RA.each ?_ (RA.each ?_ (RA.each0))))
               ·skip
                refine RO.extract (d := S ((perfK a n x).2.1)) rfl rfl rfl rfl rfl (by decide) (Nat.le_of_ble_eq_true rfl) rfl rfl ?_
                refine RA.fr XK 135 2 [12] (bt 14 7679) rfl rfl (by kernel_rfl) (Tell.of rfl) ?_
                (conv=>whnf);refine ⟨rfl,fun B=>?_⟩
                exact RA.to2 hall hf hb (ro33_26 B bo33_10_1 go33_1_1 go33_4_1 go33_5_1) rfl rfl (by kernel_rfl)
               ·skip
                refine RO.extract (d := Bo ((perfK a n x).2.2)) rfl rfl rfl rfl rfl (by decide) (Nat.le_of_ble_eq_true rfl) rfl rfl ?_
                exact RA.to2 hall hf hb (ro33_25 B bo33_10_1 go33_1_1 go33_4_1 go33_5_1) rfl rfl (by kernel_rfl)
              have ro33_21 : ∀ B, ∀ (bo33_10_1 : Nat), ∀ (go33_1_1 : Nat → Nat → Value), ∀ (go33_4_1 : Nat → Nat → Value), ∀ (go33_5_1 : Nat → Nat → Value), RA f E B all 4 (bt 14 1791) ⟨135, [(18, .obj bo33_10_1 [.r (.v (.slice none 0 0)), .r (.v (.slice none 0 0))]), (103, .tup [.u, S ((perfK a n x).2.1), .u]), (110, .agg [.w (sl 3 Session.c (((perfK a n x).1).sessions)) (go33_5_1 0 0), .w (sl 3 Item.c (((perfK a n x).1).items)) (go33_5_1 0 1)]), (112, Bo ((perfK a n x).2.2))] ++ b0⟩ K := by
               intro B bo33_10_1 go33_1_1 go33_4_1 go33_5_1
               refine RA.of2 hall hf hb (RA.stepH (L := [8, 11]) (Tell.of rfl) (by kernel_rfl) (by simp) (RA.each ?_ (RA.each ?_ (RA.each0))))
               ·skip
                refine RO.extract (d := S ((perfK a n x).2.1)) rfl rfl rfl rfl rfl (by decide) (Nat.le_of_ble_eq_true rfl) rfl rfl ?_
                exact RA.to2 hall hf hb (ro33_24 B bo33_10_1 go33_1_1 go33_4_1 go33_5_1) rfl rfl (by kernel_rfl)
               ·skip
                refine RO.storeAgg (es := [.al 110 (some 0) 3 ((((perfK a n x).1).sessions).length) (go33_5_1 0 0) 0, .al 110 (some 1) 3 ((((perfK a n x).1).items).length) (go33_5_1 0 1) 0]) rfl rfl rfl rfl rfl rfl rfl rfl rfl rfl (Nat.le_of_ble_eq_true rfl) rfl ?_
                refine RA.keep 135 [8,9,10,12,16,18,103,110,112] rfl ?_;(conv=>whnf);refine ⟨?_⟩
                refine RA.pullA (k := 18) (l := 110) (j := 0) 18 110 0 rfl rfl rfl (by decide) rfl rfl rfl rfl ?_
                refine RA.keep 135 [8,9,10,12,16,18,103,110,112] rfl ?_;(conv=>whnf);refine ⟨?_⟩
                refine RA.pullA (k := 18) (l := 110) (j := 1) 18 110 1 rfl rfl rfl (by decide) rfl rfl rfl rfl ?_
                refine RA.keep 135 [8,9,10,12,16,18,103,112] rfl ?_;(conv=>whnf);refine ⟨?_⟩
                exact RA.to2 hall hf hb (ro33_25 B bo33_10_1 go33_1_1 go33_4_1 go33_5_1) rfl rfl (by kernel_rfl)
              have ro33_20 : ∀ B, ∀ (bo33_10_1 : Nat), ∀ (go33_1_1 : Nat → Nat → Value), ∀ (go33_4_1 : Nat → Nat → Value), ∀ (go33_5_1 : Nat → Nat → Value), RA f E B all 4 (bt 14 1535) ⟨135, [(18, .obj bo33_10_1 [.r (.v (.slice none 0 0)), .r (.v (.slice none 0 0))]), (103, .tup [.u, .u, Bo ((perfK a n x).2.2)]), (110, .agg [.w (sl 3 Session.c (((perfK a n x).1).sessions)) (go33_5_1 0 0), .w (sl 3 Item.c (((perfK a n x).1).items)) (go33_5_1 0 1)]), (111, S ((perfK a n x).2.1))] ++ b0⟩ K := by
               intro B bo33_10_1 go33_1_1 go33_4_1 go33_5_1
               refine RA.of2 hall hf hb (RA.stepH (L := [9, 11]) (Tell.of rfl) (by kernel_rfl) (by simp) (RA.each ?_ (RA.each ?_ (RA.each0))))
               ·skip
                refine RO.extract (d := Bo ((perfK a n x).2.2)) rfl rfl rfl rfl rfl (by decide) (Nat.le_of_ble_eq_true rfl) rfl rfl ?_
                exact RA.to2 hall hf hb (ro33_24 B bo33_10_1 go33_1_1 go33_4_1 go33_5_1) rfl rfl (by kernel_rfl)
               ·skip
                refine RO.storeAgg (es := [.al 110 (some 0) 3 ((((perfK a n x).1).sessions).length) (go33_5_1 0 0) 0, .al 110 (some 1) 3 ((((perfK a n x).1).items).length) (go33_5_1 0 1) 0]) rfl rfl rfl rfl rfl rfl rfl rfl rfl rfl (Nat.le_of_ble_eq_true rfl) rfl ?_
                refine RA.keep 135 [8,9,10,12,16,18,103,110,111] rfl ?_;(conv=>whnf);refine ⟨?_⟩
                refine RA.pullA (k := 18) (l := 110) (j := 0) 18 110 0 rfl rfl rfl (by decide) rfl rfl rfl rfl ?_
                refine RA.keep 135 [8,9,10,12,16,18,103,110,111] rfl ?_;(conv=>whnf);refine ⟨?_⟩
                refine RA.pullA (k := 18) (l := 110) (j := 1) 18 110 1 rfl rfl rfl (by decide) rfl rfl rfl rfl ?_
                refine RA.keep 135 [8,9,10,12,16,18,103,111] rfl ?_;(conv=>whnf);refine ⟨?_⟩
                refine RA.fr XK 135 2 [12] (bt 14 7679) rfl rfl (by kernel_rfl) (Tell.of rfl) ?_
                (conv=>whnf);refine ⟨rfl,fun B=>?_⟩
                exact RA.to2 hall hf hb (ro33_26 B bo33_10_1 go33_1_1 go33_4_1 go33_5_1) rfl rfl (by kernel_rfl)
              have ro33_19 : ∀ B, ∀ (go33_1_1 : Nat → Nat → Value), ∀ (go33_4_1 : Nat → Nat → Value), ∀ (go33_5_1 : Nat → Nat → Value), RA f E B all 4 (bt 14 1023) ⟨135, [(110, .agg [.w (sl 3 Session.c (((perfK a n x).1).sessions)) (go33_5_1 0 0), .w (sl 3 Item.c (((perfK a n x).1).items)) (go33_5_1 0 1)]), (111, S ((perfK a n x).2.1)), (112, Bo ((perfK a n x).2.2))] ++ b0⟩ K := by
               intro B go33_1_1 go33_4_1 go33_5_1
               refine RA.of2 hall hf hb (RA.stepH (L := [10]) (Tell.of rfl) (by kernel_rfl) (by simp) (RA.each ?_ (RA.each0)))
               ·skip
                refine RO.alloc (ds := [.r (.v (.slice none 0 0)), .r (.v (.slice none 0 0))]) rfl rfl rfl rfl rfl rfl fun bo33_10_1 => ?_
                exact RA.to2 hall hf hb (ro33_24 B bo33_10_1 go33_1_1 go33_4_1 go33_5_1) rfl rfl (by kernel_rfl)
              have ro33_18 : ∀ B, ∀ (bo33_10_1 : Nat), ∀ (go33_1_1 : Nat → Nat → Value), ∀ (go33_4_1 : Nat → Nat → Value), ∀ (go33_5_1 : Nat → Nat → Value), RA f E B all 5 (bt 14 1663) ⟨135, [(18, .obj bo33_10_1 [.r (.v (.slice none 0 0)), .r (.v (.slice none 0 0))]), (103, .tup [.agg [.w (sl 3 Session.c (((perfK a n x).1).sessions)) (go33_5_1 0 0), .w (sl 3 Item.c (((perfK a n x).1).items)) (go33_5_1 0 1)], S ((perfK a n x).2.1), .u]), (112, Bo ((perfK a n x).2.2))] ++ b0⟩ K := by
               intro B bo33_10_1 go33_1_1 go33_4_1 go33_5_1
               refine RA.of2 hall hf hb (RA.stepH (L := [7, 8]) (Tell.of rfl) (by kernel_rfl) (by simp) (RA.each ?_ (RA.each ?_ (RA.each0))))
               ·skip
                refine RO.extract (d := .agg [.w (sl 3 Session.c (((perfK a n x).1).sessions)) (go33_5_1 0 0), .w (sl 3 Item.c (((perfK a n x).1).items)) (go33_5_1 0 1)]) rfl rfl rfl rfl rfl (by decide) (Nat.le_of_ble_eq_true rfl) rfl rfl ?_
                exact RA.to2 hall hf hb (ro33_21 B bo33_10_1 go33_1_1 go33_4_1 go33_5_1) rfl rfl (by kernel_rfl)
               ·skip
                refine RO.extract (d := S ((perfK a n x).2.1)) rfl rfl rfl rfl rfl (by decide) (Nat.le_of_ble_eq_true rfl) rfl rfl ?_
                exact RA.to2 hall hf hb (ro33_23 B bo33_10_1 go33_1_1 go33_4_1 go33_5_1) rfl rfl (by kernel_rfl)
              have ro33_17 : ∀ B, ∀ (bo33_10_1 : Nat), ∀ (go33_1_1 : Nat → Nat → Value), ∀ (go33_4_1 : Nat → Nat → Value), ∀ (go33_5_1 : Nat → Nat → Value), RA f E B all 5 (bt 14 1407) ⟨135, [(18, .obj bo33_10_1 [.r (.v (.slice none 0 0)), .r (.v (.slice none 0 0))]), (103, .tup [.agg [.w (sl 3 Session.c (((perfK a n x).1).sessions)) (go33_5_1 0 0), .w (sl 3 Item.c (((perfK a n x).1).items)) (go33_5_1 0 1)], .u, Bo ((perfK a n x).2.2)]), (111, S ((perfK a n x).2.1))] ++ b0⟩ K := by
               intro B bo33_10_1 go33_1_1 go33_4_1 go33_5_1
               refine RA.of2 hall hf hb (RA.stepH (L := [7, 9]) (Tell.of rfl) (by kernel_rfl) (by simp) (RA.each ?_ (RA.each ?_ (RA.each0))))
               ·skip
                refine RO.extract (d := .agg [.w (sl 3 Session.c (((perfK a n x).1).sessions)) (go33_5_1 0 0), .w (sl 3 Item.c (((perfK a n x).1).items)) (go33_5_1 0 1)]) rfl rfl rfl rfl rfl (by decide) (Nat.le_of_ble_eq_true rfl) rfl rfl ?_
                exact RA.to2 hall hf hb (ro33_20 B bo33_10_1 go33_1_1 go33_4_1 go33_5_1) rfl rfl (by kernel_rfl)
               ·skip
                refine RO.extract (d := Bo ((perfK a n x).2.2)) rfl rfl rfl rfl rfl (by decide) (Nat.le_of_ble_eq_true rfl) rfl rfl ?_
                exact RA.to2 hall hf hb (ro33_23 B bo33_10_1 go33_1_1 go33_4_1 go33_5_1) rfl rfl (by kernel_rfl)
              have ro33_16 : ∀ B, ∀ (go33_1_1 : Nat → Nat → Value), ∀ (go33_4_1 : Nat → Nat → Value), ∀ (go33_5_1 : Nat → Nat → Value), RA f E B all 5 (bt 14 895) ⟨135, [(103, .tup [.agg [.w (sl 3 Session.c (((perfK a n x).1).sessions)) (go33_5_1 0 0), .w (sl 3 Item.c (((perfK a n x).1).items)) (go33_5_1 0 1)], .u, .u]), (111, S ((perfK a n x).2.1)), (112, Bo ((perfK a n x).2.2))] ++ b0⟩ K := by
               intro B go33_1_1 go33_4_1 go33_5_1
               refine RA.of2 hall hf hb (RA.stepH (L := [7, 10]) (Tell.of rfl) (by kernel_rfl) (by simp) (RA.each ?_ (RA.each ?_ (RA.each0))))
               ·skip
                refine RO.extract (d := .agg [.w (sl 3 Session.c (((perfK a n x).1).sessions)) (go33_5_1 0 0), .w (sl 3 Item.c (((perfK a n x).1).items)) (go33_5_1 0 1)]) rfl rfl rfl rfl rfl (by decide) (Nat.le_of_ble_eq_true rfl) rfl rfl ?_
                exact RA.to2 hall hf hb (ro33_19 B go33_1_1 go33_4_1 go33_5_1) rfl rfl (by kernel_rfl)
               ·skip
                refine RO.alloc (ds := [.r (.v (.slice none 0 0)), .r (.v (.slice none 0 0))]) rfl rfl rfl rfl rfl rfl fun bo33_10_1 => ?_
                exact RA.to2 hall hf hb (ro33_23 B bo33_10_1 go33_1_1 go33_4_1 go33_5_1) rfl rfl (by kernel_rfl)
              have ro33_15 : ∀ B, ∀ (bo33_10_1 : Nat), ∀ (go33_1_1 : Nat → Nat → Value), ∀ (go33_4_1 : Nat → Nat → Value), ∀ (go33_5_1 : Nat → Nat → Value), RA f E B all 5 (bt 14 1279) ⟨135, [(18, .obj bo33_10_1 [.r (.v (.slice none 0 0)), .r (.v (.slice none 0 0))]), (103, .tup [.u, S ((perfK a n x).2.1), Bo ((perfK a n x).2.2)]), (110, .agg [.w (sl 3 Session.c (((perfK a n x).1).sessions)) (go33_5_1 0 0), .w (sl 3 Item.c (((perfK a n x).1).items)) (go33_5_1 0 1)])] ++ b0⟩ K := by
               intro B bo33_10_1 go33_1_1 go33_4_1 go33_5_1
               refine RA.of2 hall hf hb (RA.stepH (L := [8, 9, 11]) (Tell.of rfl) (by kernel_rfl) (by simp) (RA.each ?_ (RA.each ?_ (RA.each ?_ (RA.each0)))))
               ·skip
                refine RO.extract (d := S ((perfK a n x).2.1)) rfl rfl rfl rfl rfl (by decide) (Nat.le_of_ble_eq_true rfl) rfl rfl ?_
                exact RA.to2 hall hf hb (ro33_20 B bo33_10_1 go33_1_1 go33_4_1 go33_5_1) rfl rfl (by kernel_rfl)
               ·skip
                refine RO.extract (d := Bo ((perfK a n x).2.2)) rfl rfl rfl rfl rfl (by decide) (Nat.le_of_ble_eq_true rfl) rfl rfl ?_
                exact RA.to2 hall hf hb (ro33_21 B bo33_10_1 go33_1_1 go33_4_1 go33_5_1) rfl rfl (by kernel_rfl)
               ·skip
                refine RO.storeAgg (es := [.al 110 (some 0) 3 ((((perfK a n x).1).sessions).length) (go33_5_1 0 0) 0, .al 110 (some 1) 3 ((((perfK a n x).1).items).length) (go33_5_1 0 1) 0]) rfl rfl rfl rfl rfl rfl rfl rfl rfl rfl (Nat.le_of_ble_eq_true rfl) rfl ?_
                refine RA.keep 135 [8,9,10,12,16,18,103,110] rfl ?_;(conv=>whnf);refine ⟨?_⟩
                refine RA.pullA (k := 18) (l := 110) (j := 0) 18 110 0 rfl rfl rfl (by decide) rfl rfl rfl rfl ?_
                refine RA.keep 135 [8,9,10,12,16,18,103,110] rfl ?_;(conv=>whnf);refine ⟨?_⟩
                refine RA.pullA (k := 18) (l := 110) (j := 1) 18 110 1 rfl rfl rfl (by decide) rfl rfl rfl rfl ?_
                refine RA.keep 135 [8,9,10,12,16,18,103] rfl ?_;(conv=>whnf);refine ⟨?_⟩
                exact RA.to2 hall hf hb (ro33_22 B bo33_10_1 go33_1_1 go33_4_1 go33_5_1) rfl rfl (by kernel_rfl)
              have ro33_14 : ∀ B, ∀ (go33_1_1 : Nat → Nat → Value), ∀ (go33_4_1 : Nat → Nat → Value), ∀ (go33_5_1 : Nat → Nat → Value), RA f E B all 5 (bt 14 767) ⟨135, [(103, .tup [.u, S ((perfK a n x).2.1), .u]), (110, .agg [.w (sl 3 Session.c (((perfK a n x).1).sessions)) (go33_5_1 0 0), .w (sl 3 Item.c (((perfK a n x).1).items)) (go33_5_1 0 1)]), (112, Bo ((perfK a n x).2.2))] ++ b0⟩ K := by
               intro B go33_1_1 go33_4_1 go33_5_1
               refine RA.of2 hall hf hb (RA.stepH (L := [8, 10]) (Tell.of rfl) (by kernel_rfl) (by simp) (RA.each ?_ (RA.each ?_ (RA.each0))))
               ·skip
                refine RO.extract (d := S ((perfK a n x).2.1)) rfl rfl rfl rfl rfl (by decide) (Nat.le_of_ble_eq_true rfl) rfl rfl ?_
                exact RA.to2 hall hf hb (ro33_19 B go33_1_1 go33_4_1 go33_5_1) rfl rfl (by kernel_rfl)
               ·skip
                refine RO.alloc (ds := [.r (.v (.slice none 0 0)), .r (.v (.slice none 0 0))]) rfl rfl rfl rfl rfl rfl fun bo33_10_1 => ?_
                exact RA.to2 hall hf hb (ro33_21 B bo33_10_1 go33_1_1 go33_4_1 go33_5_1) rfl rfl (by kernel_rfl)
              have ro33_13 : ∀ B, ∀ (go33_1_1 : Nat → Nat → Value), ∀ (go33_4_1 : Nat → Nat → Value), ∀ (go33_5_1 : Nat → Nat → Value), RA f E B all 5 (bt 14 511) ⟨135, [(103, .tup [.u, .u, Bo ((perfK a n x).2.2)]), (110, .agg [.w (sl 3 Session.c (((perfK a n x).1).sessions)) (go33_5_1 0 0), .w (sl 3 Item.c (((perfK a n x).1).items)) (go33_5_1 0 1)]), (111, S ((perfK a n x).2.1))] ++ b0⟩ K := by
               intro B go33_1_1 go33_4_1 go33_5_1
               refine RA.of2 hall hf hb (RA.stepH (L := [9, 10]) (Tell.of rfl) (by kernel_rfl) (by simp) (RA.each ?_ (RA.each ?_ (RA.each0))))
               ·skip
                refine RO.extract (d := Bo ((perfK a n x).2.2)) rfl rfl rfl rfl rfl (by decide) (Nat.le_of_ble_eq_true rfl) rfl rfl ?_
                exact RA.to2 hall hf hb (ro33_19 B go33_1_1 go33_4_1 go33_5_1) rfl rfl (by kernel_rfl)
               ·skip
                refine RO.alloc (ds := [.r (.v (.slice none 0 0)), .r (.v (.slice none 0 0))]) rfl rfl rfl rfl rfl rfl fun bo33_10_1 => ?_
                exact RA.to2 hall hf hb (ro33_20 B bo33_10_1 go33_1_1 go33_4_1 go33_5_1) rfl rfl (by kernel_rfl)
              have ro33_12 : ∀ B, ∀ (bo33_10_1 : Nat), ∀ (go33_1_1 : Nat → Nat → Value), ∀ (go33_4_1 : Nat → Nat → Value), ∀ (go33_5_1 : Nat → Nat → Value), RA f E B all 6 (bt 14 1151) ⟨135, [(18, .obj bo33_10_1 [.r (.v (.slice none 0 0)), .r (.v (.slice none 0 0))]), (103, .tup [.agg [.w (sl 3 Session.c (((perfK a n x).1).sessions)) (go33_5_1 0 0), .w (sl 3 Item.c (((perfK a n x).1).items)) (go33_5_1 0 1)], S ((perfK a n x).2.1), Bo ((perfK a n x).2.2)])] ++ b0⟩ K := by
               intro B bo33_10_1 go33_1_1 go33_4_1 go33_5_1
               refine RA.of2 hall hf hb (RA.stepH (L := [7, 8, 9]) (Tell.of rfl) (by kernel_rfl) (by simp) (RA.each ?_ (RA.each ?_ (RA.each ?_ (RA.each0)))))
               ·skip
                refine RO.extract (d := .agg [.w (sl 3 Session.c (((perfK a n x).1).sessions)) (go33_5_1 0 0), .w (sl 3 Item.c (((perfK a n x).1).items)) (go33_5_1 0 1)]) rfl rfl rfl rfl rfl (by decide) (Nat.le_of_ble_eq_true rfl) rfl rfl ?_
                exact RA.to2 hall hf hb (ro33_15 B bo33_10_1 go33_1_1 go33_4_1 go33_5_1) rfl rfl (by kernel_rfl)
               ·skip
                refine RO.extract (d := S ((perfK a n x).2.1)) rfl rfl rfl rfl rfl (by decide) (Nat.le_of_ble_eq_true rfl) rfl rfl ?_
                exact RA.to2 hall hf hb (ro33_17 B bo33_10_1 go33_1_1 go33_4_1 go33_5_1) rfl rfl (by kernel_rfl)
               ·skip
                refine RO.extract (d := Bo ((perfK a n x).2.2)) rfl rfl rfl rfl rfl (by decide) (Nat.le_of_ble_eq_true rfl) rfl rfl ?_
                exact RA.to2 hall hf hb (ro33_18 B bo33_10_1 go33_1_1 go33_4_1 go33_5_1) rfl rfl (by kernel_rfl)
              have ro33_11 : ∀ B, ∀ (go33_1_1 : Nat → Nat → Value), ∀ (go33_4_1 : Nat → Nat → Value), ∀ (go33_5_1 : Nat → Nat → Value), RA f E B all 6 (bt 14 639) ⟨135, [(103, .tup [.agg [.w (sl 3 Session.c (((perfK a n x).1).sessions)) (go33_5_1 0 0), .w (sl 3 Item.c (((perfK a n x).1).items)) (go33_5_1 0 1)], S ((perfK a n x).2.1), .u]), (112, Bo ((perfK a n x).2.2))] ++ b0⟩ K := by
               intro B go33_1_1 go33_4_1 go33_5_1
               refine RA.of2 hall hf hb (RA.stepH (L := [7, 8, 10]) (Tell.of rfl) (by kernel_rfl) (by simp) (RA.each ?_ (RA.each ?_ (RA.each ?_ (RA.each0)))))
               ·skip
                refine RO.extract (d := .agg [.w (sl 3 Session.c (((perfK a n x).1).sessions)) (go33_5_1 0 0), .w (sl 3 Item.c (((perfK a n x).1).items)) (go33_5_1 0 1)]) rfl rfl rfl rfl rfl (by decide) (Nat.le_of_ble_eq_true rfl) rfl rfl ?_
                exact RA.to2 hall hf hb (ro33_14 B go33_1_1 go33_4_1 go33_5_1) rfl rfl (by kernel_rfl)
               ·skip
                refine RO.extract (d := S ((perfK a n x).2.1)) rfl rfl rfl rfl rfl (by decide) (Nat.le_of_ble_eq_true rfl) rfl rfl ?_
                exact RA.to2 hall hf hb (ro33_16 B go33_1_1 go33_4_1 go33_5_1) rfl rfl (by kernel_rfl)
               ·skip
                refine RO.alloc (ds := [.r (.v (.slice none 0 0)), .r (.v (.slice none 0 0))]) rfl rfl rfl rfl rfl rfl fun bo33_10_1 => ?_
                exact RA.to2 hall hf hb (ro33_18 B bo33_10_1 go33_1_1 go33_4_1 go33_5_1) rfl rfl (by kernel_rfl)
              have ro33_10 : ∀ B, ∀ (go33_1_1 : Nat → Nat → Value), ∀ (go33_4_1 : Nat → Nat → Value), ∀ (go33_5_1 : Nat → Nat → Value), RA f E B all 6 (bt 14 383) ⟨135, [(103, .tup [.agg [.w (sl 3 Session.c (((perfK a n x).1).sessions)) (go33_5_1 0 0), .w (sl 3 Item.c (((perfK a n x).1).items)) (go33_5_1 0 1)], .u, Bo ((perfK a n x).2.2)]), (111, S ((perfK a n x).2.1))] ++ b0⟩ K := by
               intro B go33_1_1 go33_4_1 go33_5_1
               refine RA.of2 hall hf hb (RA.stepH (L := [7, 9, 10]) (Tell.of rfl) (by kernel_rfl) (by simp) (RA.each ?_ (RA.each ?_ (RA.each ?_ (RA.each0)))))
               ·skip
                refine RO.extract (d := .agg [.w (sl 3 Session.c (((perfK a n x).1).sessions)) (go33_5_1 0 0), .w (sl 3 Item.c (((perfK a n x).1).items)) (go33_5_1 0 1)]) rfl rfl rfl rfl rfl (by decide) (Nat.le_of_ble_eq_true rfl) rfl rfl ?_
                exact RA.to2 hall hf hb (ro33_13 B go33_1_1 go33_4_1 go33_5_1) rfl rfl (by kernel_rfl)
               ·skip
                refine RO.extract (d := Bo ((perfK a n x).2.2)) rfl rfl rfl rfl rfl (by decide) (Nat.le_of_ble_eq_true rfl) rfl rfl ?_
                exact RA.to2 hall hf hb (ro33_16 B go33_1_1 go33_4_1 go33_5_1) rfl rfl (by kernel_rfl)
               ·skip
                refine RO.alloc (ds := [.r (.v (.slice none 0 0)), .r (.v (.slice none 0 0))]) rfl rfl rfl rfl rfl rfl fun bo33_10_1 => ?_
                exact RA.to2 hall hf hb (ro33_17 B bo33_10_1 go33_1_1 go33_4_1 go33_5_1) rfl rfl (by kernel_rfl)
              have ro33_9 : ∀ B, ∀ (go33_1_1 : Nat → Nat → Value), ∀ (go33_4_1 : Nat → Nat → Value), ∀ (go33_5_1 : Nat → Nat → Value), RA f E B all 6 (bt 14 255) ⟨135, [(103, .tup [.u, S ((perfK a n x).2.1), Bo ((perfK a n x).2.2)]), (110, .agg [.w (sl 3 Session.c (((perfK a n x).1).sessions)) (go33_5_1 0 0), .w (sl 3 Item.c (((perfK a n x).1).items)) (go33_5_1 0 1)])] ++ b0⟩ K := by
               intro B go33_1_1 go33_4_1 go33_5_1
               refine RA.of2 hall hf hb (RA.stepH (L := [8, 9, 10]) (Tell.of rfl) (by kernel_rfl) (by simp) (RA.each ?_ (RA.each ?_ (RA.each ?_ (RA.each0)))))
               ·skip
                refine RO.extract (d := S ((perfK a n x).2.1)) rfl rfl rfl rfl rfl (by decide) (Nat.le_of_ble_eq_true rfl) rfl rfl ?_
                exact RA.to2 hall hf hb (ro33_13 B go33_1_1 go33_4_1 go33_5_1) rfl rfl (by kernel_rfl)
               ·skip
                refine RO.extract (d := Bo ((perfK a n x).2.2)) rfl rfl rfl rfl rfl (by decide) (Nat.le_of_ble_eq_true rfl) rfl rfl ?_
                exact RA.to2 hall hf hb (ro33_14 B go33_1_1 go33_4_1 go33_5_1) rfl rfl (by kernel_rfl)
               ·skip
                refine RO.alloc (ds := [.r (.v (.slice none 0 0)), .r (.v (.slice none 0 0))]) rfl rfl rfl rfl rfl rfl fun bo33_10_1 => ?_
                exact RA.to2 hall hf hb (ro33_15 B bo33_10_1 go33_1_1 go33_4_1 go33_5_1) rfl rfl (by kernel_rfl)
              have ro33_8 : ∀ B, ∀ (bo33_10_1 : Nat), ∀ (go33_1_1 : Nat → Nat → Value), ∀ (go33_4_1 : Nat → Nat → Value), ∀ (go33_5_1 : Nat → Nat → Value), RA f E B all 7 (bt 14 1087) ⟨135, [(18, .obj bo33_10_1 [.r (.v (.slice none 0 0)), .r (.v (.slice none 0 0))]), (109, .tup [.agg [.w (sl 3 Session.c (((perfK a n x).1).sessions)) (go33_5_1 0 0), .w (sl 3 Item.c (((perfK a n x).1).items)) (go33_5_1 0 1)], S ((perfK a n x).2.1), Bo ((perfK a n x).2.2)])] ++ b0⟩ K := by
               intro B bo33_10_1 go33_1_1 go33_4_1 go33_5_1
               refine RA.of2 hall hf hb (RA.stepH (L := [6]) (Tell.of rfl) (by kernel_rfl) (by simp) (RA.each ?_ (RA.each0)))
               ·skip
                refine RO.moveMove rfl rfl rfl rfl rfl (by decide) (Nat.le_of_ble_eq_true rfl) (Nat.le_of_ble_eq_true rfl) ?_
                exact RA.to2 hall hf hb (ro33_12 B bo33_10_1 go33_1_1 go33_4_1 go33_5_1) rfl rfl (by kernel_rfl)
              have ro33_7 : ∀ B, ∀ (go33_1_1 : Nat → Nat → Value), ∀ (go33_4_1 : Nat → Nat → Value), ∀ (go33_5_1 : Nat → Nat → Value), RA f E B all 7 (bt 14 127) ⟨135, [(103, .tup [.agg [.w (sl 3 Session.c (((perfK a n x).1).sessions)) (go33_5_1 0 0), .w (sl 3 Item.c (((perfK a n x).1).items)) (go33_5_1 0 1)], S ((perfK a n x).2.1), Bo ((perfK a n x).2.2)])] ++ b0⟩ K := by
               intro B go33_1_1 go33_4_1 go33_5_1
               refine RA.of2 hall hf hb (RA.stepH (L := [7, 8, 9, 10]) (Tell.of rfl) (by kernel_rfl) (by simp) (RA.each ?_ (RA.each ?_ (RA.each ?_ (RA.each ?_ (RA.each0))))))
               ·skip
                refine RO.extract (d := .agg [.w (sl 3 Session.c (((perfK a n x).1).sessions)) (go33_5_1 0 0), .w (sl 3 Item.c (((perfK a n x).1).items)) (go33_5_1 0 1)]) rfl rfl rfl rfl rfl (by decide) (Nat.le_of_ble_eq_true rfl) rfl rfl ?_
                exact RA.to2 hall hf hb (ro33_9 B go33_1_1 go33_4_1 go33_5_1) rfl rfl (by kernel_rfl)
               ·skip
                refine RO.extract (d := S ((perfK a n x).2.1)) rfl rfl rfl rfl rfl (by decide) (Nat.le_of_ble_eq_true rfl) rfl rfl ?_
                exact RA.to2 hall hf hb (ro33_10 B go33_1_1 go33_4_1 go33_5_1) rfl rfl (by kernel_rfl)
               ·skip
                refine RO.extract (d := Bo ((perfK a n x).2.2)) rfl rfl rfl rfl rfl (by decide) (Nat.le_of_ble_eq_true rfl) rfl rfl ?_
                exact RA.to2 hall hf hb (ro33_11 B go33_1_1 go33_4_1 go33_5_1) rfl rfl (by kernel_rfl)
               ·skip
                refine RO.alloc (ds := [.r (.v (.slice none 0 0)), .r (.v (.slice none 0 0))]) rfl rfl rfl rfl rfl rfl fun bo33_10_1 => ?_
                exact RA.to2 hall hf hb (ro33_12 B bo33_10_1 go33_1_1 go33_4_1 go33_5_1) rfl rfl (by kernel_rfl)
              have ro33_6 : ∀ B, ∀ (bo33_10_1 : Nat), ∀ (go33_1_1 : Nat → Nat → Value), ∀ (go33_4_1 : Nat → Nat → Value), RA f E B all 8 (bt 14 1055) ⟨135, [(18, .obj bo33_10_1 [.r (.v (.slice none 0 0)), .r (.v (.slice none 0 0))]), (105, .agg [.w (sl 3 Session.c a.sessions) (go33_1_1 0 0), .w (sl 3 Item.c a.items) (go33_1_1 0 1)]), (106, I n), (108, .agg ((Command.c x).map .r))] ++ b0⟩ K := by
               intro B bo33_10_1 go33_1_1 go33_4_1
               refine RA.of2 hall hf hb (RA.stepH (L := [5]) (Tell.of rfl) (by kernel_rfl) (by simp) (RA.each ?_ (RA.each0)))
               ·skip
                refine RO.callOwn rfl rfl (impl_Perform_fn a n x hP) rfl (.cons (.agg (.cons (.r (.ala (k := none) (i := 105) (j := 0) (sz := 3) (V := (go33_1_1 0 0)) rfl rfl rfl nofun)) (.cons (.r (.ala (k := none) (i := 105) (j := 1) (sz := 3) (V := (go33_1_1 0 1)) rfl rfl rfl nofun)) (.nil)))) (.cons (.one (.r .r)) (.cons (.agg (.cons (.r .r) (.cons (.r .r) (.cons (.r .r) (.cons (.r .r) (.cons (.r .r) (.cons (.r .r) (.nil)))))))) (.nil)))) rfl rfl fun go33_5_1 => ?_
                exact RA.to2 hall hf hb (ro33_8 B bo33_10_1 go33_1_1 go33_4_1 go33_5_1) rfl rfl (by kernel_rfl)
              have ro33_5 : ∀ B, ∀ (go33_1_1 : Nat → Nat → Value), ∀ (go33_4_1 : Nat → Nat → Value), ∀ (go33_5_1 : Nat → Nat → Value), RA f E B all 8 (bt 14 63) ⟨135, [(109, .tup [.agg [.w (sl 3 Session.c (((perfK a n x).1).sessions)) (go33_5_1 0 0), .w (sl 3 Item.c (((perfK a n x).1).items)) (go33_5_1 0 1)], S ((perfK a n x).2.1), Bo ((perfK a n x).2.2)])] ++ b0⟩ K := by
               intro B go33_1_1 go33_4_1 go33_5_1
               refine RA.of2 hall hf hb (RA.stepH (L := [6, 10]) (Tell.of rfl) (by kernel_rfl) (by simp) (RA.each ?_ (RA.each ?_ (RA.each0))))
               ·skip
                refine RO.moveMove rfl rfl rfl rfl rfl (by decide) (Nat.le_of_ble_eq_true rfl) (Nat.le_of_ble_eq_true rfl) ?_
                exact RA.to2 hall hf hb (ro33_7 B go33_1_1 go33_4_1 go33_5_1) rfl rfl (by kernel_rfl)
               ·skip
                refine RO.alloc (ds := [.r (.v (.slice none 0 0)), .r (.v (.slice none 0 0))]) rfl rfl rfl rfl rfl rfl fun bo33_10_1 => ?_
                exact RA.to2 hall hf hb (ro33_8 B bo33_10_1 go33_1_1 go33_4_1 go33_5_1) rfl rfl (by kernel_rfl)
              have ro33_4 : ∀ B, ∀ (bo33_10_1 : Nat), ∀ (go33_1_1 : Nat → Nat → Value), RA f E B all 9 (bt 14 1039) ⟨135, [(18, .obj bo33_10_1 [.r (.v (.slice none 0 0)), .r (.v (.slice none 0 0))]), (105, .agg [.w (sl 3 Session.c a.sessions) (go33_1_1 0 0), .w (sl 3 Item.c a.items) (go33_1_1 0 1)]), (106, I n), (107, .agg ((Command.c x).map .r))] ++ b0⟩ K := by
               intro B bo33_10_1 go33_1_1
               refine RA.of2 hall hf hb (RA.stepH (L := [4]) (Tell.of rfl) (by kernel_rfl) (by simp) (RA.each ?_ (RA.each0)))
               ·skip
                refine RO.call rfl rfl (laws_toCommand_fn x hS) rfl (.cons (.agg (.cons (.r .r) (.cons (.r .r) (.cons (.r .r) (.cons (.r .r) (.cons (.r .r) (.cons (.r .r) (.nil)))))))) (.nil)) rfl fun go33_4_1 => ?_
                exact RA.to2 hall hf hb (ro33_6 B bo33_10_1 go33_1_1 go33_4_1) rfl rfl (by kernel_rfl)
              have ro33_3 : ∀ B, ∀ (go33_1_1 : Nat → Nat → Value), ∀ (go33_4_1 : Nat → Nat → Value), RA f E B all 9 (bt 14 31) ⟨135, [(105, .agg [.w (sl 3 Session.c a.sessions) (go33_1_1 0 0), .w (sl 3 Item.c a.items) (go33_1_1 0 1)]), (106, I n), (108, .agg ((Command.c x).map .r))] ++ b0⟩ K := by
               intro B go33_1_1 go33_4_1
               refine RA.of2 hall hf hb (RA.stepH (L := [5, 10]) (Tell.of rfl) (by kernel_rfl) (by simp) (RA.each ?_ (RA.each ?_ (RA.each0))))
               ·skip
                refine RO.callOwn rfl rfl (impl_Perform_fn a n x hP) rfl (.cons (.agg (.cons (.r (.ala (k := none) (i := 105) (j := 0) (sz := 3) (V := (go33_1_1 0 0)) rfl rfl rfl nofun)) (.cons (.r (.ala (k := none) (i := 105) (j := 1) (sz := 3) (V := (go33_1_1 0 1)) rfl rfl rfl nofun)) (.nil)))) (.cons (.one (.r .r)) (.cons (.agg (.cons (.r .r) (.cons (.r .r) (.cons (.r .r) (.cons (.r .r) (.cons (.r .r) (.cons (.r .r) (.nil)))))))) (.nil)))) rfl rfl fun go33_5_1 => ?_
                exact RA.to2 hall hf hb (ro33_5 B go33_1_1 go33_4_1 go33_5_1) rfl rfl (by kernel_rfl)
               ·skip
                refine RO.alloc (ds := [.r (.v (.slice none 0 0)), .r (.v (.slice none 0 0))]) rfl rfl rfl rfl rfl rfl fun bo33_10_1 => ?_
                exact RA.to2 hall hf hb (ro33_6 B bo33_10_1 go33_1_1 go33_4_1) rfl rfl (by kernel_rfl)
              have ro33_2 : ∀ B, ∀ (bo33_10_1 : Nat), RA f E B all 10 (bt 14 1037) ⟨135, [(18, .obj bo33_10_1 [.r (.v (.slice none 0 0)), .r (.v (.slice none 0 0))]), (104, .agg ((Keep.c a).map .r)), (106, I n), (107, .agg ((Command.c x).map .r))] ++ b0⟩ K := by
               intro B bo33_10_1
               refine RA.of2 hall hf hb (RA.stepH (L := [1]) (Tell.of rfl) (by kernel_rfl) (by simp) (RA.each ?_ (RA.each0)))
               ·skip
                refine RO.call rfl rfl (laws_toKeep_fn a hP) rfl (.cons (.agg (.cons (.r .r) (.cons (.r .r) (.nil)))) (.nil)) rfl fun go33_1_1 => ?_
                exact RA.to2 hall hf hb (ro33_4 B bo33_10_1 go33_1_1) rfl rfl (by kernel_rfl)
              have ro33_1 : ∀ B, ∀ (go33_1_1 : Nat → Nat → Value), RA f E B all 10 (bt 14 15) ⟨135, [(105, .agg [.w (sl 3 Session.c a.sessions) (go33_1_1 0 0), .w (sl 3 Item.c a.items) (go33_1_1 0 1)]), (106, I n), (107, .agg ((Command.c x).map .r))] ++ b0⟩ K := by
               intro B go33_1_1
               refine RA.of2 hall hf hb (RA.stepH (L := [4, 10]) (Tell.of rfl) (by kernel_rfl) (by simp) (RA.each ?_ (RA.each ?_ (RA.each0))))
               ·skip
                refine RO.call rfl rfl (laws_toCommand_fn x hS) rfl (.cons (.agg (.cons (.r .r) (.cons (.r .r) (.cons (.r .r) (.cons (.r .r) (.cons (.r .r) (.cons (.r .r) (.nil)))))))) (.nil)) rfl fun go33_4_1 => ?_
                exact RA.to2 hall hf hb (ro33_3 B go33_1_1 go33_4_1) rfl rfl (by kernel_rfl)
               ·skip
                refine RO.alloc (ds := [.r (.v (.slice none 0 0)), .r (.v (.slice none 0 0))]) rfl rfl rfl rfl rfl rfl fun bo33_10_1 => ?_
                exact RA.to2 hall hf hb (ro33_4 B bo33_10_1 go33_1_1) rfl rfl (by kernel_rfl)
              have ro33_0 : ∀ B, RA f E B all 11 (bt 14 13) ⟨135, [(104, .agg ((Keep.c a).map .r)), (106, I n), (107, .agg ((Command.c x).map .r))] ++ b0⟩ K := by
               intro B
               refine RA.of2 hall hf hb (RA.stepH (L := [1, 10]) (Tell.of rfl) (by kernel_rfl) (by simp) (RA.each ?_ (RA.each ?_ (RA.each0))))
               ·skip
                refine RO.call rfl rfl (laws_toKeep_fn a hP) rfl (.cons (.agg (.cons (.r .r) (.cons (.r .r) (.nil)))) (.nil)) rfl fun go33_1_1 => ?_
                exact RA.to2 hall hf hb (ro33_1 B go33_1_1) rfl rfl (by kernel_rfl)
               ·skip
                refine RO.alloc (ds := [.r (.v (.slice none 0 0)), .r (.v (.slice none 0 0))]) rfl rfl rfl rfl rfl rfl fun bo33_10_1 => ?_
                exact RA.to2 hall hf hb (ro33_2 B bo33_10_1) rfl rfl (by kernel_rfl)
              refine RA.start (by kernel_rfl) (by kernel_rfl) (m := 14) (ls' := (bt 14 0)) ?_
              refine RA.fr XK 135 11 [0,2,3] (bt 14 13) rfl rfl (by kernel_rfl) (Tell.of rfl) ?_
              (conv=>whnf);refine ⟨rfl,fun B=>?_⟩
              exact RA.to2 hall hf hb (ro33_0 B) rfl rfl (by kernel_rfl)
             ·rintro ⟨bo33_10_1, go33_1_1, go33_4_1, go33_5_1⟩
              refine CW.seq ?_
              refine CW.seqJ 135 (fun (v34 : Bool) => [(12, .obj bo10_9_1 [.w (sl 3 Session.c (((mkVKeep ((perfK a n x).1) 1).1).sessions)) (go10_4_1 0 0), .w (sl 3 Item.c (((mkVKeep ((perfK a n x).1) 1).1).items)) (go10_4_1 0 1)]), (16, I ((mkVKeep ((perfK a n x).1) 1).2)), (126, Bo v34)]) (fun v34 => v34 = (((!(eqKeep ((perfK a n x).1) ((perfK a n x).1))) || (!(((perfK a n x).2.1).toList == ((perfK a n x).2.1).toList))) || (!(((perfK a n x).2.2) == ((perfK a n x).2.2))))) ?_ ?_
              ·refine CW.region ?_
               refine RW.k XK 135 2 rfl ?_
               (conv=>whnf);refine ⟨rfl,?_⟩
               refine RW.callOwn rfl (laws_eqKeep_fn ((perfK a n x).1) ((perfK a n x).1)) rfl (.cons (.agg (.cons (.r (.alo (k := none) (i := 18) (j := 0) (sz := 3) (V := (go33_5_1 0 0)) rfl rfl rfl nofun)) (.cons (.r (.alo (k := none) (i := 18) (j := 1) (sz := 3) (V := (go33_5_1 0 1)) rfl rfl rfl nofun)) (.nil)))) (.cons (.agg (.cons (.r (.alo (k := none) (i := 8) (j := 0) (sz := 3) (V := (go7_5_1 0 0)) rfl rfl rfl nofun)) (.cons (.r (.alo (k := none) (i := 8) (j := 1) (sz := 3) (V := (go7_5_1 0 1)) rfl rfl rfl nofun)) (.nil)))) (.nil))) rfl fun g35 => ?_
               refine RW.k XK 135 2 rfl ?_
               (conv=>whnf);refine ⟨rfl,?_⟩
               refine RW.gv rfl rfl rfl rfl (fun h36 => V.mv (d := S ((perfK a n x).2.1)) rfl rfl) (fun h36 => ?_) (fun h36 => ?_)
               ·skip
                refine RW.k XK 135 4 rfl ?_
                (conv=>whnf);refine ⟨rfl,?_⟩
                refine RW.gv rfl rfl rfl rfl (fun h37 => V.mv (d := Bo ((perfK a n x).2.2)) rfl rfl) (fun h37 => ?_) (fun h37 => ?_)
                ·skip
                 refine RW.k XK 135 1 rfl ?_
                 (conv=>whnf);refine ⟨rfl,?_⟩
                 refine RW.gt rfl rfl rfl rfl (V.eqBool rfl rfl rfl (by kernel_rfl) (.inr ⟨rfl, rfl⟩)) ?_
                 refine RW.k XK 135 1 rfl ?_
                 (conv=>whnf);refine ⟨rfl,?_⟩
                 refine RW.nil ?_
                 exact ⟨_, by first | rfl | (simp_all; done) | (simp_all; omega) | grind, rfl, Le.of rfl⟩
                ·skip
                 refine RW.k XK 135 3 rfl ?_
                 (conv=>whnf);refine ⟨rfl,?_⟩
                 refine RW.nil ?_
                 exact ⟨_, by first | rfl | (simp_all; done) | (simp_all; omega) | grind, rfl, Le.of rfl⟩
               ·skip
                refine RW.k XK 135 8 rfl ?_
                (conv=>whnf);refine ⟨rfl,?_⟩
                refine RW.nil ?_
                exact ⟨_, by first | rfl | (simp_all; done) | (simp_all; omega) | grind, rfl, Le.of rfl⟩
              ·intro v34 hv38
               refine CW.cond rfl (fun h39 => ?_) (fun h39 => ?_)
               ·skip
                refine CW.k XK 135 1 [6] rfl ?_
                (conv=>whnf);refine ⟨rfl,?_⟩
                refine CW.ret ?_
                exact Post.one (RV.b rfl (by first | rfl | (exfalso; have p0 := mkVKeep_facts hP.1.1 hP.2.1; have p1 := mkVKeep_facts (perf_len a n x).1 (perf_len a n x).2; simp_all [eqKeep_refl]; done) | (exfalso; have p0 := mkVKeep_facts hP.1.1 hP.2.1; have p1 := mkVKeep_facts (perf_len a n x).1 (perf_len a n x).2; simp_all [eqKeep_refl]; omega))) (AOs.a rfl (AOs.r (AOs.a rfl AOs.e)))
               ·skip
                refine CW.skip ?_
                refine CW.keep 135 [12,16] rfl ?_;(conv=>whnf);refine ⟨?_⟩
                refine CW.k XK 135 1 [12,16,17] rfl ?_
                (conv=>whnf);refine ⟨rfl,?_⟩
                refine CW.seq ?_
                refine CW.region ?_
                refine RW.k XK 135 2 rfl ?_
                (conv=>whnf);refine ⟨rfl,?_⟩
                refine RW.callOwn rfl (laws_heldKeep_fn ((mkVKeep ((perfK a n x).1) 1).1) 1 (by decide)) rfl (.cons (.agg (.cons (.r (.alo (k := none) (i := 12) (j := 0) (sz := 3) (V := (go10_4_1 0 0)) rfl rfl rfl nofun)) (.cons (.r (.alo (k := none) (i := 12) (j := 1) (sz := 3) (V := (go10_4_1 0 1)) rfl rfl rfl nofun)) (.nil)))) (.cons (.one (.r .r)) (.nil))) rfl fun g40 => ?_
                refine RW.k XK 135 1 rfl ?_
                (conv=>whnf);refine ⟨rfl,?_⟩
                refine RW.nil ?_
                refine CW.keep 135 [16,17] rfl ?_;(conv=>whnf);refine ⟨?_⟩
                refine CW.seq ?_
                refine CW.k XK 135 1 [16,17,131] rfl ?_
                (conv=>whnf);refine ⟨rfl,?_⟩
                refine CW.cond rfl (fun h41 => ?_) (fun h41 => ?_)
                ·skip
                 refine CW.k XK 135 1 [6] rfl ?_
                 (conv=>whnf);refine ⟨rfl,?_⟩
                 refine CW.ret ?_
                 exact Post.one (RV.b rfl (by first | rfl | (exfalso; have p0 := mkVKeep_facts hP.1.1 hP.2.1; have p1 := mkVKeep_facts (perf_len a n x).1 (perf_len a n x).2; simp_all [eqKeep_refl]; done) | (exfalso; have p0 := mkVKeep_facts hP.1.1 hP.2.1; have p1 := mkVKeep_facts (perf_len a n x).1 (perf_len a n x).2; simp_all [eqKeep_refl]; omega))) (AOs.a rfl (AOs.r (AOs.a rfl AOs.e)))
                ·skip
                 refine CW.skip ?_
                 refine CW.keep 135 [16,17] rfl ?_;(conv=>whnf);refine ⟨?_⟩
                 refine CW.seq ?_
                 refine CW.k XK 135 1 [134] rfl ?_
                 (conv=>whnf);refine ⟨rfl,?_⟩
                 refine CW.cond rfl (fun h42 => ?_) (fun h42 => ?_)
                 ·skip
                  refine CW.k XK 135 1 [6] rfl ?_
                  (conv=>whnf);refine ⟨rfl,?_⟩
                  refine CW.ret ?_
                  exact Post.one (RV.b rfl (by first | rfl | (exfalso; have p0 := mkVKeep_facts hP.1.1 hP.2.1; have p1 := mkVKeep_facts (perf_len a n x).1 (perf_len a n x).2; simp_all [eqKeep_refl]; done) | (exfalso; have p0 := mkVKeep_facts hP.1.1 hP.2.1; have p1 := mkVKeep_facts (perf_len a n x).1 (perf_len a n x).2; simp_all [eqKeep_refl]; omega))) (AOs.a rfl (AOs.r (AOs.a rfl AOs.e)))
                 ·skip
                  refine CW.skip ?_
                  refine CW.keep 135 [] rfl ?_;(conv=>whnf);refine ⟨?_⟩
                  refine CW.k XK 135 1 [6] rfl ?_
                  (conv=>whnf);refine ⟨rfl,?_⟩
                  refine CW.ret ?_
                  exact Post.one (RV.b rfl (by first | rfl | (exfalso; have p0 := mkVKeep_facts hP.1.1 hP.2.1; have p1 := mkVKeep_facts (perf_len a n x).1 (perf_len a n x).2; simp_all [eqKeep_refl]; done) | (exfalso; have p0 := mkVKeep_facts hP.1.1 hP.2.1; have p1 := mkVKeep_facts (perf_len a n x).1 (perf_len a n x).2; simp_all [eqKeep_refl]; omega))) (AOs.a rfl (AOs.r (AOs.a rfl AOs.e)))
end Go.Proofs.YtaeagpakloggfaaDoor.Y
